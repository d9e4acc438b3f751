/-
  Three facts of the whole program that every row asks, each shown once: they want much of the checker's memory. Closed; no condition.
-/
import Derived.Test.YthjlfjaciigfiaaRows
import Derived.JoinedOf
namespace Go.Proofs.Ythjlfjaciigfiaa
theorem p_mayEnter : Try.prog.mayEnter = true := by kernel_rfl
theorem p_lifts : Try.prog.liftsFinal = Rows.liftLiftsRow.lifted := by kernel_rfl
theorem p_make : Try.prog.make = some Rows.liftLiftsRow.make := by kernel_rfl
end Go.Proofs.Ythjlfjaciigfiaa
