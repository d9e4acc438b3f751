/-
  Helpers of the laws' walks: contracts over readings of whatever depth, facts carried on. Plain.
-/
import Derived.Test.YthjlfjaciigfiaaLifts
namespace Go.Proofs.Ythjlfjaciigfiaa
open Go.RowKit
set_option linter.unusedVariables false
set_option linter.unusedSimpArgs false

/-- an answered term, laid into a new variable -/
theorem boxed {W w1 : World} {k n : Int} {ao : Option Addr} {m c : Nat} {t : Tm} (hb : Below W.heap.size W w1) (hr : Rd (Fr W w1) w1 (.agg #[.int .i64 k, .int .i64 n, .slice ao m c]) t) :
    Below W.heap.size W (w1.alloc (.cells #[.int .i64 k, .int .i64 n, .slice ao m c] 24)) ∧ (w1.alloc (.cells #[.int .i64 k, .int .i64 n, .slice ao m c] 24)).heap[w1.heap.size]? = some (.cells #[.int .i64 k, .int .i64 n, .slice ao m c] 24) ∧
      Rd (· < (w1.alloc (.cells #[.int .i64 k, .int .i64 n, .slice ao m c] 24)).heap.size) (w1.alloc (.cells #[.int .i64 k, .int .i64 n, .slice ao m c] 24)) (.agg #[.int .i64 k, .int .i64 n, .slice ao m c]) t ∧ W.heap.size ≤ w1.heap.size := by
  have h1 : Below w1.heap.size w1 (w1.alloc (.cells #[.int .i64 k, .int .i64 n, .slice ao m c] 24)) := (Below.refl _ _).alloc (Nat.le_refl _) _
  exact ⟨hb.trans (h1.mono hb.size), heap_new _ _ _ rfl, hr.keep (fun b hb' => Nat.lt_of_lt_of_le hb'.2 h1.size) fun b hb' => h1.block b hb'.2, hb.size⟩
theorem blt {w : World} {B : Nat} {o : Obj} (h : w.heap[B]? = some o) : B < w.heap.size := (Array.getElem?_eq_some_iff.1 h).1
theorem Rd.shape {P : Nat → Prop} {w : World} {v : Value} {t : Tm} (h : Rd P w v t) : ∃ ao cap, v = .agg #[.int .i64 t.kind, .int .i64 t.num, .slice ao t.sub.length cap] := by
  obtain ⟨d, h⟩ := h
  obtain ⟨ao, cap, hv, -⟩ := h.shape
  exact ⟨ao, cap, hv⟩
theorem Rd.frm {w w1 w2 : World} {v : Value} {t : Tm} (h : Rd (Fr w1 w2) w2 v t) (hw : w.heap.size ≤ w1.heap.size) : Rd (Fr w w2) w2 v t := h.keep (fun b hb => ⟨by have := hb.1; omega, hb.2⟩) fun _ _ => rfl
theorem Rd.fron {w w2 w3 : World} {v : Value} {t : Tm} (h : Rd (Fr w w2) w2 v t) (hb : Below w2.heap.size w2 w3) : Rd (Fr w w3) w3 v t := h.keep (fun b hb' => ⟨hb'.1, Nat.lt_of_lt_of_le hb'.2 hb.size⟩) fun b hb' => hb.block b hb'.2
theorem alloc_bel (w : World) (o : Obj) : Below w.heap.size w (w.alloc o) := (Below.refl _ _).alloc (Nat.le_refl _) _

theorem Lift_r {w : World} {v : Value} {t : Tm} (k n : Int) (h : Rd (· < w.heap.size) w v t) : Calls Try.prog 23 #[v, .int .i64 k, .int .i64 n] w (AnsTE w (liftR t k n).1 (liftR t k n).2) := by
  obtain ⟨d, h⟩ := h; exact Lift_w d v t k n w h
theorem refLift_r {w : World} {v : Value} {t : Tm} (k n : Int) (h : Rd (· < w.heap.size) w v t) : Calls Try.prog 24 #[v, .int .i64 k, .int .i64 n] w (AnsTE w (liftR t k n).1 (liftR t k n).2) := by
  obtain ⟨d, h⟩ := h; exact refLift_w d v t k n w h
theorem Up_r {w : World} {v : Value} {t : Tm} (k : Int) (h : Rd (· < w.heap.size) w v t) : Calls Try.prog 25 #[v, .int .i64 k] w (AnsTE w (liftR t k 0).1 (liftR t k 0).2) := by
  obtain ⟨d, h⟩ := h; exact Up_w d v t k w h
theorem Rd.both {P : Nat → Prop} {w : World} {v v' : Value} {t t' : Tm} (h : Rd P w v t) (h' : Rd P w v' t') : ∃ d, RdN P w d v t ∧ RdN P w d v' t' := by
  obtain ⟨d, h⟩ := h
  obtain ⟨d', h'⟩ := h'
  exact ⟨max d d', RdN.up _ _ _ _ (by omega) h, RdN.up _ _ _ _ (by omega) h'⟩
theorem same26_r {w : World} {v v' : Value} {t t' : Tm} (e f : Int) (h : Rd (· < w.heap.size) w v t) (h' : Rd (· < w.heap.size) w v' t') : Calls Try.prog 26 #[v, .int .i64 e, v', .int .i64 f] w (Ans w (.bool (sameR t e t' f))) := by
  obtain ⟨d, h1, h2⟩ := h.both h'; exact same26_w d v v' t t' e f w h1 h2
theorem Equal_r {w : World} {v v' : Value} {t t' : Tm} (h : Rd (· < w.heap.size) w v t) (h' : Rd (· < w.heap.size) w v' t') : Calls Try.prog 46 #[v, v'] w (Ans w (.bool (eqT t t'))) := by
  obtain ⟨d, h1, h2⟩ := h.both h'; exact Equal_w d v v' t t' w h1 h2
theorem Shaped_r {w : World} {v : Value} {t : Tm} (h : Rd (· < w.heap.size) w v t) : Calls Try.prog 71 #[v] w (Ans w (.bool (Shp t))) := by
  obtain ⟨d, h⟩ := h; exact Shaped_w d v t w h
theorem refShaped_r {w : World} {v : Value} {t : Tm} (h : Rd (· < w.heap.size) w v t) : Calls Try.prog 28 #[v] w (Ans w (.bool (Shp t))) := by
  obtain ⟨d, h⟩ := h; exact refShaped_w d v t w h
theorem refSize_r {w : World} {v : Value} {t : Tm} (h : Rd (· < w.heap.size) w v t) : Calls Try.prog 29 #[v] w (Ans w (.int .i64 (min (nsz t) 8193 : Nat))) := by
  obtain ⟨d, h⟩ := h; exact refSize_w d v t w h
theorem refDepth_r {w : World} {v : Value} {t : Tm} (h : Rd (· < w.heap.size) w v t) : Calls Try.prog 30 #[v] w (Ans w (.int .i64 (depth t))) := by
  obtain ⟨d, h⟩ := h; exact refDepth_w d v t w h
end Go.Proofs.Ythjlfjaciigfiaa
