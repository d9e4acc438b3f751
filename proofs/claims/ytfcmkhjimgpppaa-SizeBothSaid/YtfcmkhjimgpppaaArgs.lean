/-
  The arguments of these laws: matrices, lists of matrices, lists of ints. Plain.
-/
import Derived.Test.YtfcmkhjimgpppaaBridge
namespace Go.Proofs.Ytfcmkhjimgpppaa
open Go.RowKit Go.ChangeShapes Go.WideShapes Go.ChangeAt
set_option linter.unusedVariables false
variable {H : Type} {enc : TypeId × Value → H} {w : World} {sp : Nat → Bool}

theorem row_trod {fuel : Nat} {v : Value} {x : DataW H × List MemPlace} (h : DataW.trod enc Try.prog w 0 sp true fuel 29 [v] = some x) : ∃ r, RowR (· < w.heap.size) w v r :=
  slR_of Try.underlying29 (by kernel_rfl) h (IntR w) fun n a u y hc hy => by
    obtain ⟨m, h1, h2, hw⟩ := DataW.trod_int Try.underlying3 hy
    injection h1 with h1
    subst h1
    exact ⟨m, hc⟩
theorem mat_trod {fuel : Nat} {v : Value} {x : DataW H × List MemPlace} (h : DataW.trod enc Try.prog w 0 sp true fuel 22 [v] = some x) : ∃ m, MatR (· < w.heap.size) w v m :=
  slR_of Try.underlying22 (by kernel_rfl) h (CellR w (RowR (· < w.heap.size) w)) fun n a u y hc hy => by
    obtain ⟨r, hr⟩ := row_trod hy
    exact ⟨r, u, hc, hr⟩
theorem mats_trod {fuel : Nat} {v : Value} {x : DataW H × List MemPlace} (h : DataW.trod enc Try.prog w 0 sp true fuel 39 [v] = some x) : ∃ l, MatsR (· < w.heap.size) w v l :=
  slR_of Try.underlying39 (by kernel_rfl) h (CellR w (MatR (· < w.heap.size) w)) fun n a u y hc hy => by
    obtain ⟨r, hr⟩ := mat_trod hy
    exact ⟨r, u, hc, hr⟩

theorem slice_cells {P : Program} {r : Reach} {base : Nat} {t e : TypeId} {v : Value} (ht : P.underlying t = some (.slice e)) (h : Value.okWide P w r base t v) : v.cells.toList = [v] := by
  obtain ⟨a, l, c, rfl⟩ := okWide_slice ht h
  rfl
theorem row_arg {r : Reach} {base : Nat} {v : Value} {d : DataW H} {ps : List MemPlace} (ho : Value.okWide Try.prog w r base 29 v) (h : DataW.Trod enc Try.prog w 0 sp true 29 v d ps) : ∃ x, RowR (· < w.heap.size) w v x := by
  obtain ⟨fuel, hf⟩ := h
  rw [slice_cells Try.underlying29 ho] at hf
  exact row_trod hf
theorem mat_arg {r : Reach} {base : Nat} {v : Value} {d : DataW H} {ps : List MemPlace} (ho : Value.okWide Try.prog w r base 22 v) (h : DataW.Trod enc Try.prog w 0 sp true 22 v d ps) : ∃ x, MatR (· < w.heap.size) w v x := by
  obtain ⟨fuel, hf⟩ := h
  rw [slice_cells Try.underlying22 ho] at hf
  exact mat_trod hf
theorem mats_arg {r : Reach} {base : Nat} {v : Value} {d : DataW H} {ps : List MemPlace} (ho : Value.okWide Try.prog w r base 39 v) (h : DataW.Trod enc Try.prog w 0 sp true 39 v d ps) : ∃ x, MatsR (· < w.heap.size) w v x := by
  obtain ⟨fuel, hf⟩ := h
  rw [slice_cells Try.underlying39 ho] at hf
  exact mats_trod hf
end Go.Proofs.Ytfcmkhjimgpppaa
