/-
  same of the law packages of layers 9 and 10: contracts of the walk.
-/
import Derived.Test.YthjlfjaciigfiaaQs
namespace Go.Proofs.Ythjlfjaciigfiaa
open Go.RowKit
set_option linter.unusedVariables false
set_option linter.unusedSimpArgs false

set_option maxRecDepth 100000 in
set_option maxHeartbeats 4000000 in
theorem same39_w (d : Nat) (v v' : Value) (t t' : Tm) (e f : Int) (w : World) (hr : RdN (· < w.heap.size) w d v t) (hr' : RdN (· < w.heap.size) w d v' t') :
    Calls Try.prog 39 #[v, .int .i64 e, v', .int .i64 f] w (Ans w (.bool (sameR t e t' f))) := by
  have hr0 := hr
  have hr0' := hr'
  obtain ⟨ao, cap, hv, -, -⟩ := hr.shape
  obtain ⟨ao', cap', hv', -, -⟩ := hr'.shape
  clear hr hr'
  subst hv; subst hv'
  obtain ⟨W, hW⟩ : ∃ W, W = (w.alloc (.cells #[.int .i64 t.kind, .int .i64 t.num, .slice ao t.sub.length cap] 24)).alloc (.cells #[.int .i64 t'.kind, .int .i64 t'.num, .slice ao' t'.sub.length cap'] 24) := ⟨_, rfl⟩
  have hb0 : Below w.heap.size w W := by rw [hW]; exact ((Below.refl _ _).alloc (Nat.le_refl _) _).alloc (by simp) _
  have hcon := Equal_w d _ _ t t' W (RdN.on hr0 hb0) (RdN.on hr0' hb0)
  obtain ⟨y, hy⟩ : ∃ y, y = eqT t t' := ⟨_, rfl⟩
  rw [← hy] at hcon
  have HB0 := Lib.hid hb0
  have HCON := Lib.hid hcon
  have HW := Lib.hid hW
  unfold sameR
  rw [← hy]
  clear hb0 hcon hW hr0 hr0' hy
  by_cases h : e = f
  · have e1 : (e == f) = true := by simp [h]
    rw [decide_eq_true h, Bool.true_and]
    clear h
    go_enter Try.func39, Try.ntmps39
    go_wp2_with fail
    rw [← HW.out]
    refine HCON.out.mono ?_
    rintro e w1 ⟨rfl, hb⟩
    go_wp2_with fail
    go_ret
    exact ⟨rfl, HB0.out.trans (hb.mono HB0.out.size)⟩
  · have e1 : (e == f) = false := by simp [h]
    rw [decide_eq_false h, Bool.false_and]
    clear h
    go_enter Try.func39, Try.ntmps39
    go_wp2_with fail
    rw [← HW.out]
    go_ret
    exact ⟨rfl, HB0.out⟩

set_option maxRecDepth 100000 in
set_option maxHeartbeats 4000000 in
theorem same52_w (d : Nat) (v v' : Value) (t t' : Tm) (e f : Int) (w : World) (hr : RdN (· < w.heap.size) w d v t) (hr' : RdN (· < w.heap.size) w d v' t') :
    Calls Try.prog 52 #[v, .int .i64 e, v', .int .i64 f] w (Ans w (.bool (sameR t e t' f))) := by
  have hr0 := hr
  have hr0' := hr'
  obtain ⟨ao, cap, hv, -, -⟩ := hr.shape
  obtain ⟨ao', cap', hv', -, -⟩ := hr'.shape
  clear hr hr'
  subst hv; subst hv'
  obtain ⟨W, hW⟩ : ∃ W, W = (w.alloc (.cells #[.int .i64 t.kind, .int .i64 t.num, .slice ao t.sub.length cap] 24)).alloc (.cells #[.int .i64 t'.kind, .int .i64 t'.num, .slice ao' t'.sub.length cap'] 24) := ⟨_, rfl⟩
  have hb0 : Below w.heap.size w W := by rw [hW]; exact ((Below.refl _ _).alloc (Nat.le_refl _) _).alloc (by simp) _
  have hcon := Equal_w d _ _ t t' W (RdN.on hr0 hb0) (RdN.on hr0' hb0)
  obtain ⟨y, hy⟩ : ∃ y, y = eqT t t' := ⟨_, rfl⟩
  rw [← hy] at hcon
  have HB0 := Lib.hid hb0
  have HCON := Lib.hid hcon
  have HW := Lib.hid hW
  unfold sameR
  rw [← hy]
  clear hb0 hcon hW hr0 hr0' hy
  by_cases h : e = f
  · have e1 : (e == f) = true := by simp [h]
    rw [decide_eq_true h, Bool.true_and]
    clear h
    go_enter Try.func52, Try.ntmps52
    go_wp2_with fail
    rw [← HW.out]
    refine HCON.out.mono ?_
    rintro e w1 ⟨rfl, hb⟩
    go_wp2_with fail
    go_ret
    exact ⟨rfl, HB0.out.trans (hb.mono HB0.out.size)⟩
  · have e1 : (e == f) = false := by simp [h]
    rw [decide_eq_false h, Bool.false_and]
    clear h
    go_enter Try.func52, Try.ntmps52
    go_wp2_with fail
    rw [← HW.out]
    go_ret
    exact ⟨rfl, HB0.out⟩

theorem same39_q {w : World} {v v' : Value} {t : Tm} (e : Int) (h : Rd (· < w.heap.size) w v t) (h' : Rd (· < w.heap.size) w v' t) : Calls Try.prog 39 #[v, .int .i64 e, v', .int .i64 e] w (Ans w (.bool true)) := by
  obtain ⟨d, h1, h2⟩ := h.both h'
  have := same39_w d v v' t t e e w h1 h2
  rwa [sameR_refl] at this
theorem same52_q {w : World} {v v' : Value} {t : Tm} (e : Int) (h : Rd (· < w.heap.size) w v t) (h' : Rd (· < w.heap.size) w v' t) : Calls Try.prog 52 #[v, .int .i64 e, v', .int .i64 e] w (Ans w (.bool true)) := by
  obtain ⟨d, h1, h2⟩ := h.both h'
  have := same52_w d v v' t t e e w h1 h2
  rwa [sameR_refl] at this
theorem boxedR {W w1 : World} {k n : Int} {ao : Option Addr} {m c : Nat} {t : Tm} (hb : Below W.heap.size W w1) (hr : Rd (· < w1.heap.size) w1 (.agg #[.int .i64 k, .int .i64 n, .slice ao m c]) t) :
    Below W.heap.size W (w1.alloc (.cells #[.int .i64 k, .int .i64 n, .slice ao m c] 24)) ∧ (w1.alloc (.cells #[.int .i64 k, .int .i64 n, .slice ao m c] 24)).heap[w1.heap.size]? = some (.cells #[.int .i64 k, .int .i64 n, .slice ao m c] 24) ∧
      Rd (· < (w1.alloc (.cells #[.int .i64 k, .int .i64 n, .slice ao m c] 24)).heap.size) (w1.alloc (.cells #[.int .i64 k, .int .i64 n, .slice ao m c] 24)) (.agg #[.int .i64 k, .int .i64 n, .slice ao m c]) t ∧ W.heap.size ≤ w1.heap.size := by
  have h1 : Below w1.heap.size w1 (w1.alloc (.cells #[.int .i64 k, .int .i64 n, .slice ao m c] 24)) := (Below.refl _ _).alloc (Nat.le_refl _) _
  exact ⟨hb.trans (h1.mono hb.size), heap_new _ _ _ rfl, hr.on h1, hb.size⟩
end Go.Proofs.Ythjlfjaciigfiaa
