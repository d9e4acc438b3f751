/-
  Contracts of lowering and swapping at a known answer. Plain.
-/
import Derived.Test.YthjlfjaciigfiaaLower
import Derived.Test.YthjlfjaciigfiaaRefLower
import Derived.Test.YthjlfjaciigfiaaSwap
import Derived.Test.YthjlfjaciigfiaaPureBack
namespace Go.Proofs.Ythjlfjaciigfiaa
open Go.RowKit
set_option linter.unusedVariables false

theorem Lower_q {w : World} {v : Value} {t a : Tm} {k n c : Int} (hq : lowerR t k n = (a, c)) (h : Rd (· < w.heap.size) w v t) : Calls Try.prog 40 #[v, .int .i64 k, .int .i64 n] w (AnsTE w a c) := by
  have := Lower_w v t k n w h; rwa [hq] at this
theorem refLower_q {w : World} {v : Value} {t a : Tm} {k n c : Int} (hq : lowerR t k n = (a, c)) (h : Rd (· < w.heap.size) w v t) : Calls Try.prog 41 #[v, .int .i64 k, .int .i64 n] w (AnsTE w a c) := by
  have := refLower_w v t k n w h; rwa [hq] at this
theorem Swap_q {w : World} {v : Value} {t a : Tm} {n c : Int} (hq : swapR t n = (a, c)) (h : Rd (· < w.heap.size) w v t) : Calls Try.prog 42 #[v, .int .i64 n] w (AnsTE w a c) := by
  have := Swap_w v t n w h; rwa [hq] at this
theorem refSwap_q {w : World} {v : Value} {t a : Tm} {n c : Int} (hq : swapR t n = (a, c)) (h : Rd (· < w.heap.size) w v t) : Calls Try.prog 43 #[v, .int .i64 n] w (AnsTE w a c) := by
  have := refSwap_w v t n w h; rwa [hq] at this
theorem same26_q {w : World} {v v' : Value} {t : Tm} (e : Int) (h : Rd (· < w.heap.size) w v t) (h' : Rd (· < w.heap.size) w v' t) : Calls Try.prog 26 #[v, .int .i64 e, v', .int .i64 e] w (Ans w (.bool true)) := by
  have := same26_r e e h h'; rwa [sameR_refl] at this
end Go.Proofs.Ythjlfjaciigfiaa
