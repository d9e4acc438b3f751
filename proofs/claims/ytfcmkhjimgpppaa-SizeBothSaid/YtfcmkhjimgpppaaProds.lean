/-
  The product: contract of the walk, at two right matrices of one size.
-/
import Derived.Test.YtfcmkhjimgpppaaReads
import Derived.StillTailTactics
import Derived.Deep.OwnRows
namespace Go.Proofs.Ytfcmkhjimgpppaa
open Go.RowKit
set_option linter.unusedVariables false
set_option linter.unusedSimpArgs false

theorem info29 : (Try.prog.info? 29).map (fun i => (i.zero, i.size, i.bytes)) = some (some (.slice none 0 0), 1, 24) := by kernel_rfl
theorem info3 : (Try.prog.info? 3).map (fun i => (i.zero, i.size, i.bytes)) = some (some (.int .i64 0), 1, 8) := by kernel_rfl

/-- a matrix was made in new memory -/
def MadeMat (w : World) (m : List (List Int)) (e : Ending) (w' : World) : Prop := ∃ v, e = .returned v ∧ MatR (· < w'.heap.size) w' v m ∧ Below w.heap.size w w'

theorem maxIte (x y : Int) : (if x < y then y else x) = max x y := by split <;> omega
theorem Only.drew {g : Nat} {w w' : World} (h : Only g w w') : Only g w w'.drew := ⟨h.os, h.tape, h.output, h.size, h.block⟩
theorem OwnInts.drew {w : World} {g t : Nat} {l : List Int} (h : OwnInts w g t l) : OwnInts w.drew g t l := h
theorem made_zero (w : World) (n : Nat) : OwnInts (w.alloc (.cells (madeCells #[.int .i64 0] n) 3)) w.heap.size 3 (List.replicate n 0) := by
  show (w.heap.push _)[w.heap.size]? = _
  have : madeCells #[.int .i64 0] n = ((List.replicate n 0).map (Value.int .i64)).toArray := by
    apply Array.ext (by simp [size_madeCells])
    intro i h1 h2
    simp [madeCells, Nat.mod_one]
  rw [this]; simp

/-- inside: row g is in the making -/
def InRow (w1 : World) (a b : List (List Int)) (n g i j k : Nat) (w : World) : Prop := OwnInts w g 3 (st a b n i j k) ∧ Only g w1 w

set_option maxHeartbeats 1000000 in
theorem prod_walk {P : Nat → Prop} (va vb : Value) (a b : List (List Int)) (n ba oa ca bb ob cb : Nat) (A1 A2 A3 B1 B2 B3 : Nat → Nat) (w : World) (h0 : n ≠ 0) (h24 : n ≤ 24) (hal : a.length = n) 
    (ha : SqR w va a n ba oa ca A1 A2 A3) (hb : SqR w vb b n bb ob cb B1 B2 B3) (ha2 : ∀ i j, i < n → j < n → 0 ≤ G a i j ∧ G a i j ≤ 2) (hb2 : ∀ i j, i < n → j < n → 0 ≤ G b i j ∧ G b i j ≤ 2) :
    Calls Try.prog 40 #[va, vb] w (MadeMat w (prod a b)) := by
  obtain rfl := ha.val
  obtain rfl := hb.val
  have HAL : Hid (a.length = n) := hal
  clear hal
  have la : ba < w.heap.size := lt_of_cell (ha.row 0 (by omega))
  have lb : bb < w.heap.size := lt_of_cell (hb.row 0 (by omega))
  have lA : ∀ i, i < n → A1 i < w.heap.size := fun i hi => lt_of_cell (ha.cell i 0 hi (by omega))
  have lB : ∀ i, i < n → B1 i < w.heap.size := fun i hi => lt_of_cell (hb.cell i 0 hi (by omega))
  obtain ⟨i29, hi29, hy1, hy2, hy3⟩ := info_parts info29
  go_enter Try.func40, Try.ntmps40
  go_wp2_with fail
  go_loopw [5, 12] (fun v i wr => ∃ k : Nat, i = .int .i64 k ∧ k ≤ n ∧ Made w.heap.size wr 29 RowR v ((List.range k).map (prow a b)) ∧ Below w.heap.size w wr) (fun _ i _ => n - (intOf i).toNat)
  case atStart => exact ⟨0, rfl, Nat.zero_le _, Made.nil _ _ _ _, Below.refl _ _⟩
  case round =>
    obtain ⟨k, rfl, hk, hrows, hbel⟩ := hrel
    by_cases hlt : k < n
    · have hmk := run_make_row' (P := Try.prog) 29 3 (.int .i64 0) 8 Try.underlying29 info3 rfl .i64 .i64 n (by omega) (by omega)
      go_wp2_with fail
      have hin : InRow (wr.alloc (.cells (madeCells #[.int .i64 0] n) 3)) a b n wr.heap.size k 0 0 (wr.alloc (.cells (madeCells #[.int .i64 0] n) 3)) := ⟨by rw [st_zero]; exact made_zero wr n, Only.refl _ _⟩
      have hb1 : Below w.heap.size w (wr.alloc (.cells (madeCells #[.int .i64 0] n) 3)) := hbel.alloc hbel.size _
      have hs1 : w.heap.size ≤ wr.heap.size := hbel.size
      have ho1 : ∀ b, b < wr.heap.size → (wr.alloc (.cells (madeCells #[.int .i64 0] n) 3)).heap[b]? = wr.heap[b]? := fun b hb => Below.heap_alloc _ _ _ hb
      have hz1 : (wr.alloc (.cells (madeCells #[.int .i64 0] n) 3)).heap.size = wr.heap.size + 1 := by simp
      have q1 : (wr.alloc (.cells (madeCells #[.int .i64 0] n) 3)).os = wr.os := rfl
      have q2 : (wr.alloc (.cells (madeCells #[.int .i64 0] n) 3)).tape = wr.tape := rfl
      have q3 : (wr.alloc (.cells (madeCells #[.int .i64 0] n) 3)).output = wr.output := rfl
      generalize wr.alloc (.cells (madeCells #[.int .i64 0] n) 3) = w1 at hin hb1 ho1 hz1 q1 q2 q3 ⊢
      generalize hg : wr.heap.size = g at hin hs1 ho1 hz1 ⊢
      have HG : Hid (wr.heap.size = g) := hg
      clear hg hmk
      obtain ⟨w2, rfl⟩ : ∃ w2 : World, w2 = wr := ⟨_, rfl⟩
      go_loopw [20] (fun i wm => ∃ j : Nat, i = .int .i64 j ∧ j ≤ n ∧ InRow w1 a b n g k j 0 wm) (fun i _ => n - (intOf i).toNat)
      case atStart => exact ⟨0, rfl, Nat.zero_le _, hin⟩
      case round =>
        obtain ⟨j, rfl, hj, hin2⟩ := hrel
        obtain ⟨wm, rfl⟩ : ∃ wm : World, wm = wr := ⟨_, rfl⟩
        clear hin
        by_cases hjl : j < n
        · go_wp2_with fail
          go_loopw [25] (fun i wm => ∃ l : Nat, i = .int .i64 l ∧ l ≤ n ∧ InRow w1 a b n g k j l wm) (fun i _ => n - (intOf i).toNat)
          case atStart => exact ⟨0, rfl, Nat.zero_le _, hin2⟩
          case round =>
            obtain ⟨l, rfl, hl, hin3⟩ := hrel
            clear hin2
            obtain ⟨hown, honly⟩ := hin3
            by_cases hll : l < n
            · have hA := SqR.keep ha (w' := wr) (fun _ => ((honly.block ba (by omega)).trans ((ho1 ba (by omega)).trans (hbel.block ba la)))) (fun i hi => ((honly.block _ (by have := lA i hi; omega)).trans ((ho1 _ (by have := lA i hi; omega)).trans (hbel.block _ (lA i hi)))))
              have hB := SqR.keep hb (w' := wr) (fun _ => ((honly.block bb (by omega)).trans ((ho1 bb (by omega)).trans (hbel.block bb lb)))) (fun i hi => ((honly.block _ (by have := lB i hi; omega)).trans ((ho1 _ (by have := lB i hi; omega)).trans (hbel.block _ (lB i hi)))))
              have c1 := hA.row k hlt
              have c2 := hA.cell k l hlt hll
              have c3 := hB.row l hll
              have c4 := hB.cell l j hll hjl
              have c5 := hown.cell j (by rw [st_len]; exact hjl)
              rw [st_at _ _ _ _ _ _ hjl] at c5
              have c6 := hown.frozen j
              have r1 := ha2 k l hlt hll
              have r2 := hb2 l j hll hjl
              clear hA hB
              go_wp2_with fail
              go_still_tail 23, (by kernel_rfl)
              still_call ((times_w _ _ _ r1 r2).mono fun _ _ h => ⟨h.1, h.2.symm⟩)
              repeat still_step
              refine wpStill_nil ?_
              change wpList _ _ _ _ _ wr.drew
              go_wp2_with fail
              go_roundw
              case rel => exact ⟨l + 1, by go_num, by omega, by rw [← st_step _ _ _ _ _ _ hjl, ← maxIte]; exact (hown.set j _).drew, (honly.trans (only_set _ _ _ _)).drew⟩
              case measure => simp [intOf]; omega
            · have hll' : l = n := by omega
              subst hll'
              go_wp2_with fail
              go_roundw
              case rel => exact ⟨j + 1, by go_num, by omega, by rw [st_next] at hown; exact hown, honly⟩
              case measure => simp [intOf]; omega
        · have hjj : j = n := by omega
          subst hjj
          obtain ⟨hown, honly⟩ := hin2
          have hMd : Made w.heap.size (wm.alloc (.cells #[.slice (some ⟨g, 0, none⟩) j j] 29)) 29 RowR u5 ((List.range k).map (prow a b)) := by
            refine hrows.below keeps_row ?_
            rw [HG.out]
            refine Below.alloc (w := wm) ?_ (by rw [honly.size]; omega) _
            exact ⟨honly.os.trans q1, honly.tape.trans q2, honly.output.trans q3, by rw [honly.size, HG.out]; omega, fun b hb => (honly.block b (by omega)).trans (ho1 b hb)⟩
          have hblk := hrows.block
          have hbelW : Below w.heap.size w (wm.alloc (.cells #[.slice (some ⟨g, 0, none⟩) j j] 29)) := (hb1.trans (honly.below hs1)).alloc (by rw [honly.size]; omega) _
          have hrow : RowR (fun b => u5.ownBlock ≠ some b ∧ b < (wm.alloc (.cells #[.slice (some ⟨g, 0, none⟩) j j] 29)).heap.size) (wm.alloc (.cells #[.slice (some ⟨g, 0, none⟩) j j] 29)) (.slice (some ⟨g, 0, none⟩) j j) (prow a b k) := by
            rw [st_done _ _ _ _ _ HAL.out] at hown
            have := (hown.keep (w' := wm.alloc (.cells #[.slice (some ⟨g, 0, none⟩) j j] 29)) (Below.heap_alloc _ _ _ hown.lt)).row (fun b => u5.ownBlock ≠ some b ∧ b < (wm.alloc (.cells #[.slice (some ⟨g, 0, none⟩) j j] 29)).heap.size)
              ⟨fun e => by have := (hblk _ e).2; rw [HG.out] at this; omega, by have := hown.lt; simp only [World.size_alloc]; omega⟩ (by rw [prow_len, HAL.out]; unfold maxLen; omega)
            rw [prow_len, HAL.out] at this
            exact this
          obtain ⟨vals, hvo, hvr⟩ := hMd
          have hvl : vals.length = ((List.range k).map (prow a b)).length := by have := hvo.1; omega
          have hk2 : ((List.range k).map (prow a b)).length = k := by simp
          have HVR := Lib.hid hvr
          have HVL := Lib.hid hvl
          have HK2 := Lib.hid hk2
          clear hvr hvl hrows hown honly hbel
          rw [hk2] at hvo
          clear hk2
          go_wp2_with (at_builtin; refine wpList_app rfl _ _ 22 rfl w.heap.size 29 i29 (.slice none 0 0) 1 24 Try.underlying22 hi29 hy1 hy2 hy3 rfl (by decide) u5 k vals rfl hvo ⟨wm.heap.size, 0, none⟩ 1 1 [.slice (some ⟨g, 0, none⟩) j j] rfl rfl ?c1 ?c2 ?c3 ?c4 ?c5 ?_)
          case c1 => exact cell_one_new _ _ _
          case c2 => intro u hu; simp at hu; subst hu; rfl
          case c3 => unfold maxLen; omega
          case c4 => omega
          case c5 => have := hbelW.size; simpa using this
          intro v' w3 happ
          have hM : Made w.heap.size w3 29 RowR v' ((List.range (k + 1)).map (prow a b)) := by
            rw [List.range_succ, List.map_append]
            exact Made.app keeps_row HVR.out HVL.out (by rw [HK2.out]; exact happ) rfl hrow
          have hB3 := hbelW.trans (happ.below hbelW.size (fun q hq => (hblk q hq).1))
          clear happ HVR HVL hrow hbelW hvo
          go_wp2_with fail
          go_roundw
          case rel => exact ⟨k + 1, by go_num, by omega, hM, hB3⟩
          case measure => simp [intOf]; omega
    · have hkn : k = n := by omega
      subst hkn
      go_wp2_with fail
      go_ret
      exact ⟨_, rfl, by have := hrows.mat; rwa [show (List.range k).map (prow a b) = prod a b from by unfold prod; rw [HAL.out]] at this, hbel⟩
end Go.Proofs.Ytfcmkhjimgpppaa
