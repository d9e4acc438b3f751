/-
  The law package's awake: it answers true and writes nothing that was there.
-/
import Derived.Test.YtfcmkhjimgpppaaFalls
namespace Go.Proofs.Ytfcmkhjimgpppaa
open Go.RowKit
set_option linter.unusedVariables false
set_option linter.unusedSimpArgs false

def m0 : List (List Int) := [[2, 0], [0, 1]]
theorem m0_right : right m0 = true := by decide
theorem m0_same : eachB cSame (prod m0 m0) m0 = true := by decide
theorem m0_falls : fallsB m0 m0.length = true := by decide
theorem m0_text : strOfNums (txt m0 m0.length) = ⟨#[60, 63, 47, 63, 61]⟩ := rfl

def aw (w : World) : World := ((w.alloc (.cells #[.int .i64 2, .int .i64 0] 3)).alloc (.cells #[.int .i64 0, .int .i64 1] 3)).alloc (.cells #[.slice (some ⟨w.heap.size, 0, none⟩) 2 2, .slice (some ⟨w.heap.size + 1, 0, none⟩) 2 2] 29)
theorem heap_new (w : World) (o : Obj) (k : Nat) (h : k = w.heap.size) : (w.alloc o).heap[k]? = some o := by
  subst h
  show (w.heap.push _)[w.heap.size]? = _
  simp
theorem aw_size (w : World) : (aw w).heap.size = w.heap.size + 3 := by simp [aw]
theorem aw_mat (w : World) : MatR (· < (aw w).heap.size) (aw w) (.slice (some ⟨w.heap.size + 2, 0, none⟩) 2 2) m0 := by
  have hb : (aw w).heap[w.heap.size + 2]? = some (.cells #[.slice (some ⟨w.heap.size, 0, none⟩) 2 2, .slice (some ⟨w.heap.size + 1, 0, none⟩) 2 2] 29 (0, 0)) := heap_new _ _ _ (by simp)
  have h0 : (aw w).heap[w.heap.size]? = some (.cells #[.int .i64 2, .int .i64 0] 3 (0, 0)) :=
    (Below.heap_alloc _ _ _ (by simp; omega)).trans ((Below.heap_alloc _ _ _ (by simp)).trans (heap_new _ _ _ rfl))
  have h1 : (aw w).heap[w.heap.size + 1]? = some (.cells #[.int .i64 0, .int .i64 1] 3 (0, 0)) :=
    (Below.heap_alloc _ _ _ (by simp)).trans (heap_new _ _ _ (by simp))
  have r0 : RowR (· < (aw w).heap.size) (aw w) (.slice (some ⟨w.heap.size, 0, none⟩) 2 2) [2, 0] :=
    OwnInts.row (l := [2, 0]) h0 _ (by rw [aw_size]; omega) (by simp [maxLen])
  have r1 : RowR (· < (aw w).heap.size) (aw w) (.slice (some ⟨w.heap.size + 1, 0, none⟩) 2 2) [0, 1] :=
    OwnInts.row (l := [0, 1]) h1 _ (by rw [aw_size]; omega) (by simp [maxLen])
  refine ⟨_, 2, rfl, Nat.le_refl _, by simp [maxLen], fun i hi => ⟨_, 0, rfl, by rw [aw_size]; omega, ?_⟩⟩
  match i, hi with
  | 0, _ => exact ⟨_, by simp [World.cell?, hb], r0⟩
  | 1, _ => exact ⟨_, by simp [World.cell?, hb], r1⟩
theorem aw_below (w : World) : Below w.heap.size w (aw w) := (((Below.refl _ _).alloc (Nat.le_refl _) _).alloc (by simp) _).alloc (by simp; omega) _

theorem awake_w (w : World) : Calls Try.prog 13 #[] w fun e w' => e = .returned (.bool true) ∧ Below w.heap.size w w' := by
  have hm := aw_mat w
  have hb := aw_below w
  have hp := Product_yes _ _ m0 m0 (aw w) hm hm m0_right m0_right rfl
  have HM := Lib.hid hm
  have HB := Lib.hid hb
  have HP := Lib.hid hp
  clear hm hb hp
  unfold aw at HP
  go_enter Try.func13, Try.ntmps13
  go_wp2_with fail
  refine HP.out.mono ?_
  rintro e w1 ⟨v, rfl, h1, h2⟩
  change Below (aw w).heap.size (aw w) w1 at h2
  have hm1 : MatR (· < w1.heap.size) w1 (.slice (some ⟨w.heap.size + 2, 0, none⟩) 2 2) m0 := MatR.keep HM.out (fun b hb => Nat.lt_of_lt_of_le hb h2.size) fun b hb => h2.block b hb
  have hb1 : Below w.heap.size w w1 := HB.out.trans (h2.mono HB.out.size)
  have hs := Same_w v _ _ m0 w1 h1 hm1
  rw [m0_same] at hs
  obtain ⟨vo, vc, hv⟩ := h1.shape
  have HS := Lib.hid hs
  have HM1 := Lib.hid hm1
  have HB1 := Lib.hid hb1
  have HV := Lib.hid hv
  clear hs hm1 hb1 hv h1 h2 HM HB HP
  go_wp2_with fail
  refine HS.out.mono ?_
  rintro e w2 ⟨rfl, n, rfl⟩
  have hm2 : MatR (· < (w1.drewN n).heap.size) (w1.drewN n) (.slice (some ⟨w.heap.size + 2, 0, none⟩) 2 2) m0 := HM1.out
  have hb2 : Below w.heap.size w (w1.drewN n) := below_drewN HB1.out n
  have hf := Falls_w _ m0 (w1.drewN n) hm2 m0_right
  have ht := Text_w _ m0 (w1.drewN n) hm2 m0_right
  rw [m0_falls] at hf
  rw [m0_text] at ht
  have HF := Lib.hid hf
  have HT := Lib.hid ht
  have HB2 := Lib.hid hb2
  clear hf ht hm2 hb2 HS HM1 HB1 HV
  go_wp2_with fail
  refine HF.out.mono ?_
  rintro e w' ⟨rfl, rfl⟩
  go_wp2_with fail
  refine HT.out.mono ?_
  rintro e w3 ⟨rfl, hb3⟩
  have hb4 := HB2.out.trans (hb3.mono HB2.out.size)
  clear HF HT HB2 hb3
  go_wp2_with fail
  go_ret
  exact ⟨rfl, hb4⟩
end Go.Proofs.Ytfcmkhjimgpppaa
