/-
  From what the form reads of an argument to the readings of the walks: slices, matrices, lists of matrices. Plain.
-/
import Derived.Test.YtfcmkhjimgpppaaRows
import Derived.Test.YtfcmkhjimgpppaaMem
namespace Go.Proofs.Ytfcmkhjimgpppaa
open Go.RowKit Go.ChangeShapes Go.WideShapes Go.ChangeAt
set_option linter.unusedVariables false
set_option linter.unusedSimpArgs false

theorem list_of {α : Type} (n : Nat) (Q : Nat → α → Prop) (h : ∀ i, i < n → ∃ x, Q i x) : ∃ l : List α, l.length = n ∧ ∀ i (hi : i < l.length), Q i l[i] := by
  induction n with
  | zero => exact ⟨[], rfl, fun i hi => absurd hi (Nat.not_lt_zero _)⟩
  | succ n ih =>
    obtain ⟨l, hl, hq⟩ := ih fun i hi => h i (by omega)
    obtain ⟨x, hx⟩ := h n (by omega)
    refine ⟨l ++ [x], by simp [hl], fun i hi => ?_⟩
    by_cases hil : i < l.length
    · rw [List.getElem_append_left hil]; exact hq i hil
    · have : i = n := by simp at hi; omega
      subst this
      rw [List.getElem_append_right (by omega)]
      simpa [hl] using hx

theorem cell_lt {w : World} {a : Addr} {v : Value} (h : w.cell? a = some v) : a.block < w.heap.size ∧ a.spot = none := by
  obtain ⟨e, n, h1, h2, h3⟩ := World.shape?_of_cell? h
  refine ⟨?_, h3⟩
  apply Nat.lt_of_not_le
  intro hle
  rw [World.cell?, show w.heap[a.block]? = none from Array.getElem?_eq_none hle] at h
  cases h

/-- a slice of one-cell elements that can be read, reads as a list -/
theorem slR_of {H : Type} {enc : TypeId × Value → H} {P : Program} {w : World} {sp : Nat → Bool} {α : Type} {t e : TypeId} {fuel : Nat} {v : Value} {x : DataW H × List MemPlace} (ht : P.underlying t = some (.slice e)) (hc : P.cellsOf e = 1)
    (h : DataW.trod enc P w 0 sp true fuel t [v] = some x) (R : Addr → α → Prop)
    (hel : ∀ n a u y, w.cell? a = some u → DataW.trod enc P w 0 sp true n e [u] = some y → ∃ z, R a z) : ∃ l, SlR (· < w.heap.size) R v l := by
  rcases DataW.trod_slice ht h with ⟨h1, _⟩ | ⟨a, len, cap, elems, rest, n, _, h1, _, hb, hl, hm, hlen, hels, _, _⟩
  · injection h1 with h1 _
    subst h1
    exact ⟨[], SlR.nil _ _⟩
  · injection h1 with h1 _
    subst h1
    have hq : ∀ i, i < len → ∃ z : α, ∃ b off, (some a : Option Addr) = some ⟨b, off, none⟩ ∧ b < w.heap.size ∧ R ⟨b, off + i, none⟩ z := by
      intro i hi
      have hy := hels i hi
      rw [List.getElem?_eq_getElem (by omega), hc, Nat.mul_one, Option.bind_eq_some_iff] at hy
      obtain ⟨cs, hcs, hy⟩ := hy
      obtain ⟨u, rfl⟩ : ∃ u, cs = [u] := by
        unfold World.cells? at hcs
        split at hcs
        · have := mapM_some_length hcs
          match cs, this with
          | [u], _ => exact ⟨u, rfl⟩
        · cases hcs
      have hcell := cell_of_cells?_one hcs
      obtain ⟨z, hz⟩ := hel n (a.add i) u _ hcell hy
      obtain ⟨hlt, hsp⟩ := cell_lt hcell
      obtain ⟨b, off, spot⟩ := a
      have hspot : spot = none := by
        by_cases h0 : i = 0
        · subst h0; simpa [Addr.add] using hsp
        · have hy0 := hels 0 (by omega)
          rw [List.getElem?_eq_getElem (by omega), hc, Nat.mul_one, Option.bind_eq_some_iff] at hy0
          obtain ⟨cs0, hcs0, _⟩ := hy0
          have hsp0 : (⟨b, off, spot⟩ : Addr).spot = none := by
            obtain ⟨u0, rfl⟩ : ∃ u, cs0 = [u] := by
              unfold World.cells? at hcs0
              split at hcs0
              · have := mapM_some_length hcs0
                match cs0, this with
                | [u], _ => exact ⟨u, rfl⟩
              · cases hcs0
            have := (cell_lt (cell_of_cells?_one hcs0)).2
            simpa [Addr.add] using this
          exact hsp0
      subst hspot
      rw [Addr.add_lit] at hz
      refine ⟨z, b, off, rfl, ?_, hz⟩
      have : ((⟨b, off, none⟩ : Addr).add i).block = b := by rw [Addr.add_lit]
      rw [this] at hlt
      exact hlt
    obtain ⟨l, hll, hlq⟩ := list_of len _ hq
    subst hll
    exact ⟨l, _, cap, rfl, hl, hm, fun i hi => hlq i hi⟩
end Go.Proofs.Ytfcmkhjimgpppaa
