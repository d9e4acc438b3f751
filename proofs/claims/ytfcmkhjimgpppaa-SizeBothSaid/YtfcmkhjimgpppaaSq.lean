/-
  A square matrix in memory, its rows by number. Plain.
-/
import Derived.Test.YtfcmkhjimgpppaaMem
import Derived.Test.YtfcmkhjimgpppaaPlain
namespace Go.Proofs.Ytfcmkhjimgpppaa
open Go.RowKit
set_option linter.unusedVariables false
set_option linter.unusedSimpArgs false

/-- what a walk reads of any matrix -/
theorem MatR.all {P : Nat → Prop} {w : World} {v : Value} {m : List (List Int)} (h : MatR P w v m) :
    ∃ ao cap, v = .slice ao m.length cap ∧ m.length ≤ 9223372036854775807 ∧ ∀ i (hi : i < m.length), ∃ b off ao2 cap2 r, Hid (r = m[i]) ∧ ao = some ⟨b, off, none⟩ ∧ w.cell? ⟨b, off + i, none⟩ = some (.slice ao2 r.length cap2) ∧
      r.length ≤ 9223372036854775807 ∧ ∀ j (hj : j < r.length), ∃ b2 off2 x, Hid (x = r[j]) ∧ ao2 = some ⟨b2, off2, none⟩ ∧ w.cell? ⟨b2, off2 + j, none⟩ = some (.int .i64 x) := by
  obtain ⟨ao, cap, rfl, hl, hc, he⟩ := h
  unfold maxLen at hc
  refine ⟨ao, cap, rfl, by omega, fun i hi => ?_⟩
  obtain ⟨b, off, rfl, -, u, hu, ao2, cap2, rfl, hl2, hc2, he2⟩ := he i hi
  unfold maxLen at hc2
  refine ⟨b, off, ao2, cap2, m[i], rfl, rfl, hu, by omega, fun j hj => ?_⟩
  obtain ⟨b2, off2, rfl, -, hx⟩ := he2 j hj
  exact ⟨b2, off2, _, rfl, rfl, hx⟩

/-- a square matrix of n rows, n not 0 -/
structure SqR (w : World) (v : Value) (m : List (List Int)) (n : Nat) (b off cap : Nat) (B O C : Nat → Nat) : Prop where
  val : v = .slice (some ⟨b, off, none⟩) n cap
  row : ∀ i, i < n → w.cell? ⟨b, off + i, none⟩ = some (.slice (some ⟨B i, O i, none⟩) n (C i))
  cell : ∀ i j, i < n → j < n → w.cell? ⟨B i, O i + j, none⟩ = some (.int .i64 (G m i j))

theorem MatR.sq {P : Nat → Prop} {w : World} {v : Value} {m : List (List Int)} (h : MatR P w v m) {n : Nat} (hn : m.length = n) (h0 : n ≠ 0) (hs : ∀ i, i < n → (m.getD i []).length = n) :
    ∃ b off cap B O C, SqR w v m n b off cap B O C ∧ P b ∧ ∀ i, i < n → P (B i) := by
  subst hn
  obtain ⟨ao, cap, rfl, hl, hc, he⟩ := h
  obtain ⟨b, off, rfl, hP, -⟩ := he 0 (by omega)
  have hrow : ∀ i, ∃ B O C, i < m.length → w.cell? ⟨b, off + i, none⟩ = some (.slice (some ⟨B, O, none⟩) m.length C) ∧ P B ∧ ∀ j, j < m.length → w.cell? ⟨B, O + j, none⟩ = some (.int .i64 (G m i j)) := by
    intro i
    by_cases hi : i < m.length
    · obtain ⟨b', off', hbo, -, u, hu, ao2, cap2, rfl, hl2, hc2, he2⟩ := he i hi
      injection hbo with hbo; injection hbo with q1 q2; subst q1; subst q2
      have hlen : m[i].length = m.length := by have := hs i hi; rw [List.getD_eq_getElem?_getD, List.getElem?_eq_getElem hi] at this; exact this
      obtain ⟨B, O, rfl, hPB, -⟩ := he2 0 (by omega)
      refine ⟨B, O, cap2, fun _ => ⟨by rw [hu, hlen], hPB, fun j hj => ?_⟩⟩
      obtain ⟨B', O', hBO, -, hx⟩ := he2 j (by omega)
      injection hBO with hBO; injection hBO with q1 q2; subst q1; subst q2
      rw [hx]
      unfold G
      rw [List.getD_eq_getElem?_getD (l := m), List.getElem?_eq_getElem hi, Option.getD_some, List.getD_eq_getElem?_getD, List.getElem?_eq_getElem (by omega)]
      rfl
    · exact ⟨0, 0, 0, fun h => absurd h hi⟩
  have ⟨B, hB⟩ := Classical.axiomOfChoice hrow
  have ⟨O, hO⟩ := Classical.axiomOfChoice hB
  have ⟨C, hC⟩ := Classical.axiomOfChoice hO
  exact ⟨b, off, cap, B, O, C, ⟨rfl, fun i hi => (hC i hi).1, fun i j hi hj => (hC i hi).2.2 j hj⟩, hP, fun i hi => (hC i hi).2.1⟩

theorem MatR.shape {P : Nat → Prop} {w : World} {v : Value} {m : List (List Int)} (h : MatR P w v m) : ∃ ao cap, v = .slice ao m.length cap := by
  obtain ⟨ao, cap, rfl, _⟩ := h; exact ⟨ao, cap, rfl⟩

theorem SqR.keep {w w' : World} {v : Value} {m : List (List Int)} {n b off cap : Nat} {B O C : Nat → Nat} (h : SqR w v m n b off cap B O C) (hb : 0 < n → w'.heap[b]? = w.heap[b]?) (hB : ∀ i, i < n → w'.heap[B i]? = w.heap[B i]?) :
    SqR w' v m n b off cap B O C :=
  ⟨h.val, fun i hi => (cell_keep (hb (by omega))).trans (h.row i hi), fun i j hi hj => (cell_keep (hB i hi)).trans (h.cell i j hi hj)⟩
end Go.Proofs.Ytfcmkhjimgpppaa
