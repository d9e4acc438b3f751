/-
  The document's product: contract of the walk, at two right matrices of one size.
-/
import Derived.Test.YtfcmkhjimgpppaaBest
namespace Go.Proofs.Ytfcmkhjimgpppaa
open Go.RowKit
set_option linter.unusedVariables false
set_option linter.unusedSimpArgs false

set_option maxHeartbeats 1000000 in
theorem refprod_walk (va vb : Value) (a b : List (List Int)) (n ba oa ca bb ob cb : Nat) (A1 A2 A3 B1 B2 B3 : Nat → Nat) (w : World) (h0 : n ≠ 0) (h24 : n ≤ 24) (hal : a.length = n) 
    (ha : SqR w va a n ba oa ca A1 A2 A3) (hb : SqR w vb b n bb ob cb B1 B2 B3) (ha2 : ∀ i j, i < n → j < n → 0 ≤ G a i j ∧ G a i j ≤ 2) (hb2 : ∀ i j, i < n → j < n → 0 ≤ G b i j ∧ G b i j ≤ 2) :
    Calls Try.prog 20 #[va, vb] w (MadeMat w (prod a b)) := by
  have hav := ha.val
  have hbv := hb.val
  subst hav
  subst hbv
  have HAL : Hid (a.length = n) := hal
  clear hal
  have la : ba < w.heap.size := lt_of_cell (ha.row 0 (by omega))
  have lb : bb < w.heap.size := lt_of_cell (hb.row 0 (by omega))
  have lA : ∀ i, i < n → A1 i < w.heap.size := fun i hi => lt_of_cell (ha.cell i 0 hi (by omega))
  have lB : ∀ i, i < n → B1 i < w.heap.size := fun i hi => lt_of_cell (hb.cell i 0 hi (by omega))
  have hkeepA : ∀ w', Below w.heap.size w w' → SqR w' (.slice (some ⟨ba, oa, none⟩) n ca) a n ba oa ca A1 A2 A3 := fun w' hbl => ha.keep (fun _ => hbl.block _ la) fun i hi => hbl.block _ (lA i hi)
  have hkeepB : ∀ w', Below w.heap.size w w' → SqR w' (.slice (some ⟨bb, ob, none⟩) n cb) b n bb ob cb B1 B2 B3 := fun w' hbl => hb.keep (fun _ => hbl.block _ lb) fun i hi => hbl.block _ (lB i hi)
  have HKA := Lib.hid hkeepA
  have HKB := Lib.hid hkeepB
  clear hkeepA hkeepB ha hb
  obtain ⟨i29, hi29, hy1, hy2, hy3⟩ := info_parts info29
  obtain ⟨i3, hi3, hx1, hx2, hx3⟩ := info_parts info3
  go_enter Try.func20, Try.ntmps20
  go_wp2_with fail
  go_loopw [5, 6] (fun v i wr => ∃ k : Nat, i = .int .i64 k ∧ k ≤ n ∧ Made w.heap.size wr 29 RowR v ((List.range k).map (prow a b)) ∧ Below w.heap.size w wr) (fun _ i _ => n - (intOf i).toNat)
  case atStart => exact ⟨0, rfl, Nat.zero_le _, Made.empty w _ 29 RowR (Nat.le_refl _), (Below.refl _ _).alloc (Nat.le_refl _) _⟩
  case round =>
    obtain ⟨k, rfl, hk, hrows, hbel⟩ := hrel
    obtain ⟨w2, rfl⟩ : ∃ w2 : World, w2 = wr := ⟨_, rfl⟩
    by_cases hlt : k < n
    · go_wp2_with fail
      have hs1 := hbel.size
      go_loopw [7, 8] (fun v i wr => ∃ j : Nat, i = .int .i64 j ∧ j ≤ n ∧ Made w2.heap.size wr 3 IntV v ((List.range j).map fun j' => pc a b k j' n) ∧ Below w2.heap.size w2 wr) (fun _ i _ => n - (intOf i).toNat)
      case atStart => exact ⟨0, rfl, Nat.zero_le _, Made.empty w2 _ 3 IntV (Nat.le_refl _), (Below.refl _ _).alloc (Nat.le_refl _) _⟩
      case round =>
        obtain ⟨j, rfl, hj, hrow, hb2'⟩ := hrel
        have hbw : Below w.heap.size w wr := hbel.trans (hb2'.mono hs1)
        by_cases hjl : j < n
        · have hA := HKA.out wr hbw
          have hB := HKB.out wr hbw
          have hrow2 := hrow.below keeps_int ((Below.refl wr.heap.size wr).alloc (Nat.le_refl _) (.cells #[.int .i64 (pc a b k j n)] 3))
          have hblk := hrow.block
          obtain ⟨vals, hvo, hvr⟩ := hrow2
          have hvl : vals.length = ((List.range j).map fun j' => pc a b k j' n).length := by have := hvo.1; omega
          have hk2 : ((List.range j).map fun j' => pc a b k j' n).length = j := by simp
          have HVR := Lib.hid hvr
          have HVL := Lib.hid hvl
          have HK2 := Lib.hid hk2
          clear hvr hvl hrow
          rw [hk2] at hvo
          clear hk2
          go_wp2_with fail
          refine (best_w _ _ a b n ba oa ca bb ob cb A1 A2 A3 B1 B2 B3 wr k j hlt hjl h24 hA hB ha2 hb2).mono ?_
          rintro e w' ⟨rfl, rfl⟩
          clear hA hB
          go_wp2_with (at_builtin; refine wpList_app rfl _ _ 29 rfl w2.heap.size 3 i3 (.int .i64 0) 1 8 Try.underlying29 hi3 hx1 hx2 hx3 rfl (by decide) u7 j vals rfl hvo ⟨wr.heap.size, 0, none⟩ 1 1 [.int .i64 (pc a b k j n)] rfl rfl ?c1 ?c2 ?c3 ?c4 ?c5 ?_)
          case c1 => exact cell_one_new _ _ _
          case c2 => intro u hu; simp at hu; subst hu; rfl
          case c3 => unfold maxLen; omega
          case c4 => omega
          case c5 => have := hb2'.size; simp only [World.size_alloc]; omega
          intro v' w3 happ
          have hM : Made w2.heap.size w3 3 IntV v' ((List.range (j + 1)).map fun j' => pc a b k j' n) := by
            rw [List.range_succ, List.map_append]
            exact Made.app keeps_int HVR.out HVL.out (by rw [HK2.out]; exact happ) rfl rfl
          have hB3 := (hb2'.alloc hb2'.size (.cells #[.int .i64 (pc a b k j n)] 3)).trans (happ.below (B := w2.heap.size) (by have := hb2'.size; simp only [World.size_alloc]; omega) (fun q hq => (hblk q hq).1))
          clear happ HVR HVL hvo hb2' hbw
          go_wp2_with fail
          go_roundw
          case rel => exact ⟨j + 1, by go_num, by omega, hM, hB3⟩
          case measure => simp [intOf]; omega
        · have hjj : j = n := by omega
          subst hjj
          have hpr : ((List.range j).map fun j' => pc a b k j' j) = prow a b k := by unfold prow; rw [HAL.out]
          rw [hpr] at hrow
          have hblkr := hrow.block
          have hblk := hrows.block
          have hMd : Made w.heap.size (wr.alloc (.cells #[u7] 29)) 29 RowR u5 ((List.range k).map (prow a b)) := hrows.below keeps_row (hb2'.alloc hb2'.size _)
          have hbelW : Below w.heap.size w (wr.alloc (.cells #[u7] 29)) := hbw.alloc (by have := hb2'.size; omega) _
          have hrow3 : RowR (fun b => u5.ownBlock ≠ some b ∧ b < (wr.alloc (.cells #[u7] 29)).heap.size) (wr.alloc (.cells #[u7] 29)) u7 (prow a b k) :=
            (hrow.below keeps_int ((Below.refl wr.heap.size wr).alloc (Nat.le_refl _) (.cells #[u7] 29))).row _ fun q hq hq1 hq2 => ⟨fun e => by have := (hblk _ e).2; omega, hq2⟩
          obtain ⟨ao, cp, hu7, -⟩ : ∃ ao cp, u7 = .slice ao (prow a b k).length cp ∧ True := by obtain ⟨ao, cp, h, _⟩ := hrow3; exact ⟨ao, cp, h, trivial⟩
          subst hu7
          obtain ⟨vals, hvo, hvr⟩ := hMd
          have hvl : vals.length = ((List.range k).map (prow a b)).length := by have := hvo.1; omega
          have hk2 : ((List.range k).map (prow a b)).length = k := by simp
          have HVR := Lib.hid hvr
          have HVL := Lib.hid hvl
          have HK2 := Lib.hid hk2
          have HPR := Lib.hid hpr
          clear hvr hvl hrows hrow hbel hpr
          rw [hk2] at hvo
          clear hk2
          go_wp2_with (at_builtin; refine wpList_app rfl _ _ 22 rfl w.heap.size 29 i29 (.slice none 0 0) 1 24 Try.underlying22 hi29 hy1 hy2 hy3 rfl (by decide) u5 k vals rfl hvo ⟨wr.heap.size, 0, none⟩ 1 1 [.slice ao (prow a b k).length cp] rfl rfl ?d1 ?d2 ?d3 ?d4 ?d5 ?_)
          case d1 => exact cell_one_new _ _ _
          case d2 => intro u hu; simp at hu; subst hu; rfl
          case d3 => unfold maxLen; omega
          case d4 => omega
          case d5 => have := hbelW.size; simpa using this
          intro v' w3 happ
          have hM : Made w.heap.size w3 29 RowR v' ((List.range (k + 1)).map (prow a b)) := by
            rw [List.range_succ, List.map_append]
            exact Made.app keeps_row HVR.out HVL.out (by rw [HK2.out]; exact happ) rfl hrow3
          have hB3 := hbelW.trans (happ.below hbelW.size (fun q hq => (hblk q hq).1))
          clear happ HVR HVL hrow3 hbelW hvo hb2' hbw
          go_wp2_with fail
          go_roundw
          case rel => exact ⟨k + 1, by go_num, by omega, hM, hB3⟩
          case measure => simp [intOf]; omega
    · have hkn : k = n := by omega
      subst hkn
      go_wp2_with fail
      go_ret
      exact ⟨_, rfl, by have := hrows.mat; rwa [show (List.range k).map (prow a b) = prod a b from by unfold prod; rw [HAL.out]] at this, hbel⟩
end Go.Proofs.Ytfcmkhjimgpppaa
