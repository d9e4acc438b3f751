/-
  MeterSpends: the walk, whatever the fuel and the slice. No condition but that the integers fit their kinds.
-/
import Derived.Test.YtkghgilpocbifaaSp
import Derived.Test.YtkghgilpocbifaaSq
namespace Go.Proofs.Ytkghgilpocbifaa
open Go.ChangeShapes Go.WideShapes Go.ChangeAt Go.RowKit
set_option linter.unusedVariables false

/-- a slice of integers that came in: nil, or a row of 'cap' cells. -/
def IsRow (k : IntKind) (w : World) (a : Option Addr) (len cap : Nat) (zs : List Int) : Prop :=
  (a = none ∧ len = 0 ∧ cap = 0 ∧ zs = []) ∨
  ∃ x, a = some x ∧ len ≤ cap ∧ cap ≤ maxLen ∧ zs.length = cap ∧ (∀ i, i < zs.length → w.cell? (x.add i) = some (.int k (zs.getD i 0))) ∧ ∀ n ∈ zs, (Lit.int k n).wf = true

theorem spends_walk (fuel : Int) (a : Option Addr) (len cap : Nat) (zs : List Int) (w : World) (wf : (Lit.int .i64 fuel).wf = true) (h : IsRow .i64 w a len cap zs) :
    Calls Try.prog 3 #[.int .i64 fuel, .slice a len cap] w fun e w' => e = .returned (.bool true) ∧ Below w.heap.size w w' := by
  by_cases hf : fuel < 0 ∨ 1048576 < fuel
  · exact spends_out fuel _ w hf
  · rcases h with ⟨rfl, rfl, rfl, rfl⟩ | ⟨x, rfl, hl, hm, hz, hcell, _⟩
    · exact spends_nil fuel w (by omega) (by omega)
    · obtain ⟨b, off, spot⟩ := x
      by_cases h0 : cap = 0
      · subst h0
        have hl0 : len = 0 := by omega
        subst hl0
        cases spot with
        | none => exact spends_row fuel b off 0 0 zs w (by omega) (by omega) (by omega) hm hz (fun i hi => by omega) (fun h => absurd rfl h)
        | some q => exact spends_bare fuel _ w (by omega) (by omega)
      · have hc := hcell 0 (by omega)
        have hspot : spot = none := by simpa [Addr.add] using World.cell?_spot hc
        subst hspot
        refine spends_row fuel b off len cap zs w (by omega) (by omega) hl hm hz (fun i hi => by have h := hcell i hi; rwa [Addr.add_lit] at h) (fun _ => ?_)
        have : w.cell? ⟨b, off, none⟩ = some (.int .i64 (zs.getD 0 0)) := by simpa [Addr.add] using hc
        unfold World.cell? at this
        apply Nat.lt_of_not_le
        intro hle
        rw [show w.heap[b]? = none from Array.getElem?_eq_none hle] at this
        simp at this
end Go.Proofs.Ytkghgilpocbifaa
