/-
  An argument that is two uint16. Plain.
-/
import Derived.Test.YtfcmkhjimgpppaaArgs
import Derived.OpenShut
namespace Go.Proofs.Ytfcmkhjimgpppaa
open Go.RowKit Go.ChangeShapes Go.WideShapes Go.ChangeAt
set_option linter.unusedVariables false
variable {H : Type} {enc : TypeId × Value → H} {w : World} {sp : Nat → Bool}
theorem cells31 : Try.prog.cellsOf 31 = 1 := by kernel_rfl
theorem cells32 : Try.prog.cellsOf 32 = 2 := by kernel_rfl
theorem pair_arg {r : Reach} {base : Nat} {v : Value} {d : DataW H} {ps : List MemPlace} (ho : Value.okWide Try.prog w r base 32 v) (h : DataW.Trod enc Try.prog w 0 sp true 32 v d ps) :
    ∃ x : Int × Int, v = .agg #[.int .u16 x.1, .int .u16 x.2] ∧ (0 ≤ x.1 ∧ x.1 ≤ 65535) ∧ (0 ≤ x.2 ∧ x.2 ≤ 65535) := by
  simp only [Value.okWide, Try.underlying32] at ho
  obtain ⟨cs, rfl, hs, -⟩ := ho
  rw [cells32] at hs
  obtain ⟨fuel, hf⟩ := h
  obtain ⟨l⟩ := cs
  match l, hs with
  | [c0, c1], _ =>
    obtain ⟨xs, m, -, -, -, hxl, he⟩ := DataW.trod_array Try.underlying32 hf
    have e0 := he 0 (by omega)
    have e1 := he 1 (by omega)
    rw [cells31] at e0 e1
    simp only [Value.cells, Nat.zero_mul, List.drop_zero, List.take_succ_cons, List.take_zero, Nat.one_mul, List.drop_succ_cons] at e0 e1
    rw [List.getElem?_eq_getElem (by omega)] at e0 e1
    obtain ⟨n0, h0, -, w0⟩ := DataW.trod_int Try.underlying31 e0
    obtain ⟨n1, h1, -, w1⟩ := DataW.trod_int Try.underlying31 e1
    injection h0 with h0
    injection h1 with h1
    subst h0
    subst h1
    exact ⟨(n0, n1), rfl, bounds_u16 w0, bounds_u16 w1⟩
end Go.Proofs.Ytfcmkhjimgpppaa
