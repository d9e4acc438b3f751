/-
  lowered: a contract: a matrix of the same size, no number greater, in new memory.
-/
import Derived.Test.YtfcmkhjimgpppaaProd
import Derived.Test.YtfcmkhjimgpppaaAlg
import Derived.Deep.DeepCutAuto
import Derived.Deep.LoopGhost
namespace Go.Proofs.Ytfcmkhjimgpppaa
open Go.RowKit
set_option linter.unusedVariables false
set_option linter.unusedSimpArgs false

/-- a row that is no greater than row i of m -/
def lowRow (m : List (List Int)) (n i : Nat) (r : List Int) (k : Nat) : Prop := r.length = k ∧ ∀ j (h : j < r.length), 0 ≤ r[j] ∧ r[j] ≤ G m i j
def lowMat (m m' : List (List Int)) (n k : Nat) : Prop := m'.length = k ∧ ∀ i (h : i < m'.length), lowRow m n i m'[i] n
def MadeLow (w : World) (m : List (List Int)) (n : Nat) (e : Ending) (w' : World) : Prop := ∃ v m', e = .returned v ∧ lowMat m m' n n ∧ MatR (· < w'.heap.size) w' v m' ∧ Below w.heap.size w w'

theorem lowRow_snoc {m : List (List Int)} {n i k : Nat} {r : List Int} (h : lowRow m n i r k) (y : Int) (hy : 0 ≤ y ∧ y ≤ G m i k) : lowRow m n i (r ++ [y]) (k + 1) := by
  obtain ⟨h1, h2⟩ := h
  refine ⟨by simp [h1], fun j hj => ?_⟩
  by_cases hjk : j < r.length
  · rw [List.getElem_append_left hjk]; exact h2 j hjk
  · have : j = k := by simp at hj; omega
    subst this
    rw [List.getElem_append_right (by omega)]
    simpa [h1] using hy
theorem lowMat_snoc {m m' : List (List Int)} {n k : Nat} (h : lowMat m m' n k) (r : List Int) (hr : lowRow m n k r n) : lowMat m (m' ++ [r]) n (k + 1) := by
  obtain ⟨h1, h2⟩ := h
  refine ⟨by simp [h1], fun i hi => ?_⟩
  by_cases hik : i < m'.length
  · rw [List.getElem_append_left hik]; exact h2 i hik
  · have : i = k := by simp at hi; omega
    subst this
    rw [List.getElem_append_right (by omega)]
    simpa [h1] using hr

set_option maxHeartbeats 4000000 in
theorem low_walk (va : Value) (m : List (List Int)) (n b off cap : Nat) (B O C : Nat → Nat) (wh : Int) (w : World) (hwh : 0 ≤ wh ∧ wh ≤ 65535) (h0 : n ≠ 0) (h24 : n ≤ 24)
    (hs : SqR w va m n b off cap B O C) (hv : ∀ i j, i < n → j < n → 0 ≤ G m i j ∧ G m i j ≤ 2) :
    Calls Try.prog 21 #[va, .int .u16 wh] w (MadeLow w m n) := by
  have hav := hs.val
  subst hav
  have hbw : b < w.heap.size := lt_of_cell (hs.row 0 (by omega))
  have hBw : ∀ i, i < n → B i < w.heap.size := fun i hi => lt_of_cell (hs.cell i 0 hi (by omega))
  have hkeep : ∀ w', Below w.heap.size w w' → SqR w' (.slice (some ⟨b, off, none⟩) n cap) m n b off cap B O C := fun w' hbl => hs.keep (fun _ => hbl.block _ hbw) fun i hi => hbl.block _ (hBw i hi)
  have HK := Lib.hid hkeep
  clear hkeep hs
  obtain ⟨i29, hi29, hy1, hy2, hy3⟩ := info_parts info29
  obtain ⟨i3, hi3, hx1, hx2, hx3⟩ := info_parts info3
  go_enter Try.func21, Try.ntmps21
  go_wp2_with fail
  go_loopg [5, 6, 7] n (fun g v c i wr => ∃ (k cc : Nat) (rows : List (List Int)), i = .int .i64 k ∧ k + g = n ∧ c = .int .i64 cc ∧ cc = k * n ∧ lowMat m rows n k ∧ Made w.heap.size wr 29 RowR v rows ∧ Below w.heap.size w wr)
  case atStart => exact ⟨0, 0, [], rfl, Nat.zero_add _, rfl, by simp, ⟨rfl, fun i h => absurd h (Nat.not_lt_zero _)⟩, Made.empty w _ 29 RowR (Nat.le_refl _), (Below.refl _ _).alloc (Nat.le_refl _) _⟩
  case round =>
    obtain ⟨k, cc, rows, rfl, hkg, rfl, hcc, hlow, hrows, hbel⟩ := hrel
    have hk : k ≤ n := by omega
    obtain ⟨gO, rfl⟩ : ∃ gO, gO = gk := ⟨_, rfl⟩
    have HKG := Lib.hid hkg
    have HCC := Lib.hid hcc
    have hc1 : cc ≤ 600 := by rw [hcc]; have := Nat.mul_le_mul hk (Nat.le_refl n); have := Nat.mul_le_mul h24 h24; omega
    clear hkg hcc
    obtain ⟨w2, rfl⟩ : ∃ w2 : World, w2 = wr := ⟨_, rfl⟩
    have hs1 := hbel.size
    by_cases hlt : k < n
    · go_wp2_with fail
      go_loopg [6, 8, 9] n (fun g c v i wr => ∃ (j : Nat) (r : List Int), i = .int .i64 j ∧ j + g = n ∧ c = .int .i64 (cc + j : Nat) ∧ lowRow m n k r j ∧ Made w2.heap.size wr 3 IntV v r ∧ Below w2.heap.size w2 wr)
      case atStart => exact ⟨0, [], rfl, Nat.zero_add _, rfl, ⟨rfl, fun i h => absurd h (Nat.not_lt_zero _)⟩, Made.empty w2 _ 3 IntV (Nat.le_refl _), (Below.refl _ _).alloc (Nat.le_refl _) _⟩
      case round =>
        obtain ⟨j, r, rfl, hjg, rfl, hlr, hrow, hb2'⟩ := hrel
        have HJG := Lib.hid hjg
        have hj : j ≤ n := by omega
        clear hjg
        obtain ⟨cj, hcj⟩ : ∃ cj, cj = cc + j := ⟨_, rfl⟩
        rw [← hcj]
        have HCJ := Lib.hid hcj
        have hcj1 : cj ≤ 630 := by omega
        clear hcj
        have hbw : Below w.heap.size w wr := hbel.trans (hb2'.mono hs1)
        by_cases hjl : j < n
        · have hA := HK.out wr hbw
          have c1 := hA.row k hlt
          have c2 := hA.cell k j hlt hjl
          have r1 := hv k j hlt hjl
          obtain ⟨x, hx⟩ : ∃ x, x = G m k j := ⟨_, rfl⟩
          rw [← hx] at c2 r1
          have HX := Lib.hid hx
          clear hx hA
          go_upto_region 11 with fail
          go_cut [41] (fun s wx => (∃ t : Bool, s = .bool t ∧ (t = true → 0 < x)) ∧ wx = wr)
          case first =>
            by_cases hx0 : 0 < x
            · go_wp2_with fail
              go_meet
              exact ⟨⟨_, rfl, fun _ => hx0⟩, rfl⟩
            · go_wp2_with fail
              go_meet
              exact ⟨⟨false, rfl, fun h => by cases h⟩, rfl⟩
          case rest =>
            obtain ⟨⟨t, rfl, ht⟩, rfl⟩ := hcut
            have HTT := Lib.hid ht
            clear ht
            go_upto_if 41 with fail
            go_cut [10] (fun s wx => (∃ y : Int, s = .int .i64 y ∧ 0 ≤ y ∧ y ≤ x) ∧ wx = wc)
            case first =>
              cases t
              · go_wp2_with fail
                go_meet
                exact ⟨⟨x, rfl, r1.1, Int.le_refl _⟩, rfl⟩
              · have hx0 := HTT.out rfl
                go_wp2_with fail
                go_meet
                exact ⟨⟨x - 1, rfl, by omega, by omega⟩, rfl⟩
            case rest =>
              obtain ⟨⟨y, rfl, y0, yx⟩, rfl⟩ := hcut
              have hrow2 := hrow.below keeps_int ((Below.refl wc.heap.size wc).alloc (Nat.le_refl _) (.cells #[.int .i64 y] 3))
              have hblk := hrow.block
              obtain ⟨vals, hvo, hvr⟩ := hrow2
              have hvl : vals.length = r.length := by have := hvo.1; omega
              have HVR := Lib.hid hvr
              have HVL := Lib.hid hvl
              have HLR := Lib.hid hlr.1
              clear hvr hvl hrow c1 c2
              rw [hlr.1] at hvo
              go_wp2_with (at_builtin; refine wpList_app rfl _ _ 29 rfl w2.heap.size 3 i3 (.int .i64 0) 1 8 Try.underlying29 hi3 hx1 hx2 hx3 rfl (by decide) u8 j vals rfl hvo ⟨wc.heap.size, 0, none⟩ 1 1 [.int .i64 y] rfl rfl ?c1 ?c2 ?c3 ?c4 ?c5 ?_)
              case c1 => exact cell_one_new _ _ _
              case c2 => intro u hu; simp at hu; subst hu; rfl
              case c3 => unfold maxLen; omega
              case c4 => omega
              case c5 => have := hb2'.size; simp only [World.size_alloc]; omega
              intro v' w3 happ
              have hM : Made w2.heap.size w3 3 IntV v' (r ++ [y]) := Made.app keeps_int HVR.out HVL.out (by rw [HLR.out]; exact happ) rfl rfl
              have hB3 := (hb2'.alloc hb2'.size (.cells #[.int .i64 y] 3)).trans (happ.below (B := w2.heap.size) (by have := hb2'.size; simp only [World.size_alloc]; omega) (fun q hq => (hblk q hq).1))
              clear happ HVR HVL hvo hb2' hbw
              go_wp2_with fail
              go_roundg (gk - 1)
              case measure => have := HJG.out; omega
              case rel => exact ⟨j + 1, r ++ [y], by go_num, by have := HJG.out; omega, by rw [HCJ.out]; go_num, lowRow_snoc hlr y ⟨y0, by rw [← HX.out]; exact yx⟩, hM, hB3⟩
        · have hjj : j = n := by omega
          have HJ := Lib.hid hjj
          have hblkr := hrow.block
          have hblk := hrows.block
          have hMd : Made w.heap.size (wr.alloc (.cells #[u8] 29)) 29 RowR u5 rows := hrows.below keeps_row (hb2'.alloc hb2'.size _)
          have hbelW : Below w.heap.size w (wr.alloc (.cells #[u8] 29)) := hbw.alloc (by have := hb2'.size; omega) _
          have hrow3 : RowR (fun b => u5.ownBlock ≠ some b ∧ b < (wr.alloc (.cells #[u8] 29)).heap.size) (wr.alloc (.cells #[u8] 29)) u8 r :=
            (hrow.below keeps_int ((Below.refl wr.heap.size wr).alloc (Nat.le_refl _) (.cells #[u8] 29))).row _ fun q hq hq1 hq2 => ⟨fun e => by have := (hblk _ e).2; omega, hq2⟩
          obtain ⟨ao, cp, hu8, -⟩ : ∃ ao cp, u8 = .slice ao r.length cp ∧ True := by obtain ⟨ao, cp, h, _⟩ := hrow3; exact ⟨ao, cp, h, trivial⟩
          subst hu8
          obtain ⟨vals, hvo, hvr⟩ := hMd
          have hvl : vals.length = rows.length := by have := hvo.1; omega
          have HVR := Lib.hid hvr
          have HVL := Lib.hid hvl
          have HLW := Lib.hid hlow.1
          have hcjn : cj = cc + n := by rw [HCJ.out, HJ.out]
          have HCN := Lib.hid hcjn
          clear hvr hvl hrows hrow hbel hjj hcjn
          rw [hlow.1] at hvo
          go_wp2_with (at_builtin; refine wpList_app rfl _ _ 22 rfl w.heap.size 29 i29 (.slice none 0 0) 1 24 Try.underlying22 hi29 hy1 hy2 hy3 rfl (by decide) u5 k vals rfl hvo ⟨wr.heap.size, 0, none⟩ 1 1 [.slice ao r.length cp] rfl rfl ?d1 ?d2 ?d3 ?d4 ?d5 ?_)
          case d1 => exact cell_one_new _ _ _
          case d2 => intro u hu; simp at hu; subst hu; rfl
          case d3 => unfold maxLen; omega
          case d4 => omega
          case d5 => have := hbelW.size; simpa using this
          intro v' w3 happ
          have hM : Made w.heap.size w3 29 RowR v' (rows ++ [r]) := Made.app keeps_row HVR.out HVL.out (by rw [HLW.out]; exact happ) rfl hrow3
          have hB3 := hbelW.trans (happ.below hbelW.size (fun q hq => (hblk q hq).1))
          clear happ HVR HVL hrow3 hbelW hvo hb2' hbw
          go_wp2_with fail
          go_roundg (gO - 1)
          case measure => have := HKG.out; omega
          case rel => exact ⟨k + 1, cc + n, rows ++ [r], by go_num, by have := HKG.out; omega, by rw [HCN.out], by rw [HCC.out, Nat.succ_mul], lowMat_snoc hlow r (by have := hlr; rwa [HJ.out] at this), hM, hB3⟩
    · have hkn : k = n := by omega
      subst hkn
      go_wp2_with fail
      go_ret
      exact ⟨_, rows, rfl, hlow, hrows.mat, hbel⟩

theorem low_empty (ao : Option Addr) (cap : Nat) (wh : Int) (m : List (List Int)) (w : World) : Calls Try.prog 21 #[.slice ao 0 cap, .int .u16 wh] w (MadeLow w m 0) := by
  go_enter Try.func21, Try.ntmps21
  go_wp2_with fail
  refine wp_loop_rounds 1 ?_
  rw [rounds_succ]
  go_wp2_with fail
  go_ret
  exact ⟨_, [], rfl, ⟨rfl, fun i h => absurd h (Nat.not_lt_zero _)⟩, (Made.empty w w.heap.size 29 RowR (Nat.le_refl _)).mat, (Below.refl _ _).alloc (Nat.le_refl _) _⟩

theorem low_w {P : Nat → Prop} (va : Value) (m : List (List Int)) (wh : Int) (w : World) (hwh : 0 ≤ wh ∧ wh ≤ 65535) (h : MatR P w va m) (hr : right m = true) :
    Calls Try.prog 21 #[va, .int .u16 wh] w (MadeLow w m m.length) := by
  obtain ⟨r1, r2, r3⟩ := right_sq hr
  by_cases h0 : m.length = 0
  · obtain ⟨ao, ca, rfl⟩ := h.shape
    rw [h0]
    exact low_empty ao ca wh m w
  · obtain ⟨b, off, cap, B, O, C, hS, -, -⟩ := h.sq rfl h0 r2
    exact low_walk va m m.length b off cap B O C wh w hwh h0 r1 hS r3

theorem lowMat_G {m m' : List (List Int)} {n : Nat} (h : lowMat m m' n n) (i j : Nat) (hi : i < n) (hj : j < n) : 0 ≤ G m' i j ∧ G m' i j ≤ G m i j := by
  obtain ⟨h1, h2⟩ := h
  have q := h2 i (by omega)
  have e : m'.getD i [] = m'[i] := by rw [List.getD_eq_getElem?_getD, List.getElem?_eq_getElem (by omega)]; rfl
  have := q.2 j (by have := q.1; omega)
  unfold G
  rw [e, List.getD_eq_getElem?_getD, List.getElem?_eq_getElem (by have := q.1; omega)]
  exact this
theorem lowMat_right {m m' : List (List Int)} (h : lowMat m m' m.length m.length) (hr : right m = true) : right m' = true := by
  obtain ⟨r1, r2, r3⟩ := right_sq hr
  obtain ⟨h1, h2⟩ := h
  refine right_iff.2 ⟨by omega, fun i hi => rowOk_iff.2 ⟨by rw [h1]; exact (h2 i hi).1, fun j hj => ?_⟩⟩
  have q := h2 i hi
  have := q.2 j hj
  have := r3 i j (by omega) (by have := q.1; omega)
  omega
end Go.Proofs.Ytfcmkhjimgpppaa
