/-
  MatrixKeeps: the walk over the arguments as they come. No condition.
-/
import Derived.Test.YtfcmkhjimgpppaaLawK
import Derived.Test.YtfcmkhjimgpppaaArgPair
namespace Go.Proofs.Ytfcmkhjimgpppaa
open Go.RowKit
theorem keeps_walk2 (va : Value) (a : List (List Int)) (vb : Value) (b : List (List Int)) (v : Value) (x : Int × Int) (w : World) (ha : MatR (· < w.heap.size) w va a) (hb : MatR (· < w.heap.size) w vb b)
    (hx : v = .agg #[.int .u16 x.1, .int .u16 x.2] ∧ (0 ≤ x.1 ∧ x.1 ≤ 65535) ∧ (0 ≤ x.2 ∧ x.2 ≤ 65535)) :
    Calls Try.prog 4 #[va, vb, v] w fun e w' => e = .returned (.bool true) ∧ Below w.heap.size w w' := by
  obtain ⟨rfl, h1, h2⟩ := hx
  exact keeps_walk va a vb b x.1 x.2 w ha hb h1 h2
end Go.Proofs.Ytfcmkhjimgpppaa
