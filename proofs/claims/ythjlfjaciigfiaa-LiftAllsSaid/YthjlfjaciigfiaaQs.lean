/-
  Contracts at a known answer. Plain.
-/
import Derived.Test.YthjlfjaciigfiaaRs
import Derived.Test.YthjlfjaciigfiaaPure
namespace Go.Proofs.Ythjlfjaciigfiaa
open Go.RowKit
set_option linter.unusedVariables false
set_option linter.unusedSimpArgs false

theorem u8_wf {k : Int} (h : (Lit.int .u8 k).wf = true) : 0 ≤ k ∧ k ≤ 255 := by
  simp [Lit.wf, show IntKind.u8.min = 0 from rfl, show IntKind.u8.max = 255 from rfl] at h; exact h
theorem Lift_q {w : World} {v : Value} {t a : Tm} {k n c : Int} (hq : liftR t k n = (a, c)) (h : Rd (· < w.heap.size) w v t) : Calls Try.prog 23 #[v, .int .i64 k, .int .i64 n] w (AnsTE w a c) := by
  have := Lift_r k n h; rwa [hq] at this
theorem refLift_q {w : World} {v : Value} {t a : Tm} {k n c : Int} (hq : liftR t k n = (a, c)) (h : Rd (· < w.heap.size) w v t) : Calls Try.prog 24 #[v, .int .i64 k, .int .i64 n] w (AnsTE w a c) := by
  have := refLift_r k n h; rwa [hq] at this
theorem Up_q {w : World} {v : Value} {t a : Tm} {k c : Int} (hq : liftR t k 0 = (a, c)) (h : Rd (· < w.heap.size) w v t) : Calls Try.prog 25 #[v, .int .i64 k] w (AnsTE w a c) := by
  have := Up_r k h; rwa [hq] at this
end Go.Proofs.Ythjlfjaciigfiaa
