/-
  lift.Up, the law package's same and awake: contracts of the walk.
-/
import Derived.Test.YthjlfjaciigfiaaLift
namespace Go.Proofs.Ythjlfjaciigfiaa
open Go.RowKit
set_option linter.unusedVariables false
set_option linter.unusedSimpArgs false

/-- a term that is answered out of a call, laid into the result's variable, block r -/
theorem Rd.laid {w w1 w2 : World} {r : Nat} {v : Value} {t : Tm} {a b c : Value} (h : Rd (Fr w1 w2) w2 v t) (hw : w.heap.size ≤ w1.heap.size) (hr : r < w1.heap.size) :
    Rd (Fr w (((w2.setCell ⟨r, 0, none⟩ a).setCell ⟨r, 1, none⟩ b).setCell ⟨r, 2, none⟩ c)) (((w2.setCell ⟨r, 0, none⟩ a).setCell ⟨r, 1, none⟩ b).setCell ⟨r, 2, none⟩ c) v t :=
  h.keep (fun q hq => ⟨by have := hq.1; omega, by have := hq.2; simp [World.setCell]; omega⟩) fun q hq => by
    have h3 := hq.1
    rw [Below.heap_setCell _ _ _ _ (by show q ≠ r; omega), Below.heap_setCell _ _ _ _ (by show q ≠ r; omega), Below.heap_setCell _ _ _ _ (by show q ≠ r; omega)]

set_option maxRecDepth 100000 in
set_option maxHeartbeats 4000000 in
theorem Up_w (d : Nat) (v : Value) (t : Tm) (k : Int) (w : World) (hr : RdN (· < w.heap.size) w d v t) :
    Calls Try.prog 25 #[v, .int .i64 k] w (AnsTE w (liftR t k 0).1 (liftR t k 0).2) := by
  obtain ⟨rt, rc, hres⟩ : ∃ rt rc, liftR t k 0 = (rt, rc) := ⟨_, _, rfl⟩
  rw [hres]
  have hr0 := hr
  obtain ⟨ao, cap, hv, -, -⟩ := hr.shape
  clear hr
  subst hv
  obtain ⟨W, hW⟩ : ∃ W, W = (w.alloc (.cells #[.int .i64 t.kind, .int .i64 t.num, .slice ao t.sub.length cap] 24)).alloc (.cells #[.int .i64 0, .int .i64 0, .slice none 0 0] 24) := ⟨_, rfl⟩
  have hb0 : Below w.heap.size w W := by rw [hW]; exact ((Below.refl _ _).alloc (Nat.le_refl _) _).alloc (by simp) _
  have hsW : W.heap.size = w.heap.size + 2 := by rw [hW]; simp
  have b3 : W.heap[w.heap.size + 1]? = some (.cells #[.int .i64 0, .int .i64 0, .slice none 0 0] 24) := by
    rw [hW]; exact heap_new _ _ _ (by simp)
  have hcon := Lift_w d _ t k 0 W (RdN.on hr0 hb0)
  rw [hres] at hcon
  have HB0 := Lib.hid hb0
  have HSW := Lib.hid hsW
  have B3 := Lib.hid b3
  have HCON := Lib.hid hcon
  have HW := Lib.hid hW
  clear hb0 hsW b3 hcon hW hr0 hres
  go_enter Try.func25, Try.ntmps25
  go_wp2_with fail
  rw [← HW.out]
  refine HCON.out.mono ?_
  rintro e w1 ⟨k3, n3, ao3, m3, c3, rfl, hb, hr3⟩
  have hsW := HSW.out
  obtain ⟨z0, z1, z2, zf, hz⟩ := three ((hb.block _ (by omega)).trans B3.out)
  have hb1 := HB0.out.trans (hb.mono HB0.out.size)
  have hl := fun a b c => Rd.laid (w := w) (r := w.heap.size + 1) (a := a) (b := b) (c := c) hr3 (by omega) (by omega)
  have HB1 := Lib.hid hb1
  have HL := Lib.hid hl
  clear hb hb1 hsW hr3 hl
  go_wp2_with fail
  exact bodyPost_ret (v := .tuple #[.agg #[.int .i64 k3, .int .i64 n3, .slice ao3 m3 c3], .int .i64 rc]) (by simp [results, Try.results25, go_sem, z0, z1, z2]) rfl
    ⟨_, _, _, _, _, rfl, ((HB1.out.setCell (by simp) _).setCell (by simp) _).setCell (by simp) _, HL.out _ _ _⟩

/-- is a term, with its error, the other? -/
def sameR (t : Tm) (e : Int) (t' : Tm) (f : Int) : Bool := decide (e = f) && eqT t t'
theorem sameR_refl (t : Tm) (e : Int) : sameR t e t e = true := by unfold sameR; rw [eqT_refl]; simp

set_option maxRecDepth 100000 in
set_option maxHeartbeats 4000000 in
theorem same26_w (d : Nat) (v v' : Value) (t t' : Tm) (e f : Int) (w : World) (hr : RdN (· < w.heap.size) w d v t) (hr' : RdN (· < w.heap.size) w d v' t') :
    Calls Try.prog 26 #[v, .int .i64 e, v', .int .i64 f] w (Ans w (.bool (sameR t e t' f))) := by
  have hr0 := hr
  have hr0' := hr'
  obtain ⟨ao, cap, hv, -, -⟩ := hr.shape
  obtain ⟨ao', cap', hv', -, -⟩ := hr'.shape
  clear hr hr'
  subst hv; subst hv'
  obtain ⟨W, hW⟩ : ∃ W, W = (w.alloc (.cells #[.int .i64 t.kind, .int .i64 t.num, .slice ao t.sub.length cap] 24)).alloc (.cells #[.int .i64 t'.kind, .int .i64 t'.num, .slice ao' t'.sub.length cap'] 24) := ⟨_, rfl⟩
  have hb0 : Below w.heap.size w W := by rw [hW]; exact ((Below.refl _ _).alloc (Nat.le_refl _) _).alloc (by simp) _
  have hcon := Equal_w d _ _ t t' W (RdN.on hr0 hb0) (RdN.on hr0' hb0)
  obtain ⟨y, hy⟩ : ∃ y, y = eqT t t' := ⟨_, rfl⟩
  rw [← hy] at hcon
  have HB0 := Lib.hid hb0
  have HCON := Lib.hid hcon
  have HW := Lib.hid hW
  unfold sameR
  rw [← hy]
  clear hb0 hcon hW hr0 hr0' hy
  by_cases h : e = f
  · have e1 : (e == f) = true := by simp [h]
    rw [decide_eq_true h, Bool.true_and]
    clear h
    go_enter Try.func26, Try.ntmps26
    go_wp2_with fail
    rw [← HW.out]
    refine HCON.out.mono ?_
    rintro e w1 ⟨rfl, hb⟩
    go_wp2_with fail
    go_ret
    exact ⟨rfl, HB0.out.trans (hb.mono HB0.out.size)⟩
  · have e1 : (e == f) = false := by simp [h]
    rw [decide_eq_false h, Bool.false_and]
    clear h
    go_enter Try.func26, Try.ntmps26
    go_wp2_with fail
    rw [← HW.out]
    go_ret
    exact ⟨rfl, HB0.out⟩

theorem lift_awake : liftR (.node 1 1 []) 2 0 = (.node 1 3 [], 0) := by rfl
set_option maxRecDepth 100000 in
set_option maxHeartbeats 4000000 in
theorem awake27_w (w : World) : Calls Try.prog 27 #[] w (Ans w (.bool true)) := by
  have hcon := Up_w 1 (.agg #[.int .i64 1, .int .i64 1, .slice none 0 0]) (.node 1 1 []) 2 w ⟨_, rfl, by omega, by omega, SubR.nil _ _ _ _ _ (Nat.zero_le _)⟩
  rw [lift_awake] at hcon
  have HCON := Lib.hid hcon
  clear hcon
  go_enter Try.func27, Try.ntmps27
  go_wp2_with fail
  refine HCON.out.mono ?_
  rintro e w1 ⟨k3, n3, ao3, m3, c3, rfl, hb, hr3⟩
  obtain ⟨rfl, rfl, -⟩ := hr3.subs
  have HB := Lib.hid hb
  clear hb hr3
  go_wp2_with fail
  go_ret
  exact ⟨rfl, HB.out.alloc HB.out.size _⟩
end Go.Proofs.Ythjlfjaciigfiaa
