/-
  Small functions: fits, Fits, node, Var, Leaf, Beneath: contracts.
-/
import Derived.Test.YthjlfjaciigfiaaOut
namespace Go.Proofs.Ythjlfjaciigfiaa
open Go.RowKit
set_option linter.unusedVariables false
set_option linter.unusedSimpArgs false

def fit (n : Int) : Bool := decide (0 ≤ n ∧ n ≤ 1048576)
theorem fit_iff (n : Int) : fit n = true ↔ (0 ≤ n ∧ n ≤ 1048576) := by unfold fit; rw [decide_eq_true_iff]
/-- how many binders more stand above a sub -/
def bn (k : Int) (i : Nat) : Int := if i = 1 ∧ k ≠ 5 then 1 else 0
theorem bn_le (k : Int) (i : Nat) : 0 ≤ bn k i ∧ bn k i ≤ 1 := by unfold bn; split <;> omega

theorem fits72_w (n : Int) (w : World) : Calls Try.prog 72 #[.int .i64 n] w fun e w' => e = .returned (.bool (fit n)) ∧ w = w' := by
  by_cases h0 : 0 ≤ n
  · by_cases h1 : n ≤ 1048576
    · have e : fit n = true := (fit_iff n).mpr ⟨h0, h1⟩
      rw [e]; clear e
      go_enter Try.func72, Try.ntmps72
      go_wp2
      go_ret
      exact ⟨rfl, rfl⟩
    · have e : fit n = false := by rw [Bool.eq_false_iff, Ne, fit_iff]; omega
      rw [e]; clear e
      go_enter Try.func72, Try.ntmps72
      go_wp2
      go_ret
      exact ⟨rfl, rfl⟩
  · have e : fit n = false := by rw [Bool.eq_false_iff, Ne, fit_iff]; omega
    rw [e]; clear e
    go_enter Try.func72, Try.ntmps72
    go_wp2
    go_ret
    exact ⟨rfl, rfl⟩
theorem fits75_w (n : Int) (w : World) : Calls Try.prog 75 #[.int .i64 n] w fun e w' => e = .returned (.bool (fit n)) ∧ w = w' := by
  by_cases h0 : 0 ≤ n
  · by_cases h1 : n ≤ 1048576
    · have e : fit n = true := (fit_iff n).mpr ⟨h0, h1⟩
      rw [e]; clear e
      go_enter Try.func75, Try.ntmps75
      go_wp2
      go_ret
      exact ⟨rfl, rfl⟩
    · have e : fit n = false := by rw [Bool.eq_false_iff, Ne, fit_iff]; omega
      rw [e]; clear e
      go_enter Try.func75, Try.ntmps75
      go_wp2
      go_ret
      exact ⟨rfl, rfl⟩
  · have e : fit n = false := by rw [Bool.eq_false_iff, Ne, fit_iff]; omega
    rw [e]; clear e
    go_enter Try.func75, Try.ntmps75
    go_wp2
    go_ret
    exact ⟨rfl, rfl⟩
theorem fits94_w (n : Int) (w : World) : Calls Try.prog 94 #[.int .i64 n] w fun e w' => e = .returned (.bool (fit n)) ∧ w = w' := by
  by_cases h0 : 0 ≤ n
  · by_cases h1 : n ≤ 1048576
    · have e : fit n = true := (fit_iff n).mpr ⟨h0, h1⟩
      rw [e]; clear e
      go_enter Try.func94, Try.ntmps94
      go_wp2
      go_ret
      exact ⟨rfl, rfl⟩
    · have e : fit n = false := by rw [Bool.eq_false_iff, Ne, fit_iff]; omega
      rw [e]; clear e
      go_enter Try.func94, Try.ntmps94
      go_wp2
      go_ret
      exact ⟨rfl, rfl⟩
  · have e : fit n = false := by rw [Bool.eq_false_iff, Ne, fit_iff]; omega
    rw [e]; clear e
    go_enter Try.func94, Try.ntmps94
    go_wp2
    go_ret
    exact ⟨rfl, rfl⟩

/-- a value is answered, new memory made -/
theorem node_w (k n : Int) (ao : Option Addr) (m c : Nat) (w : World) : Calls Try.prog 115 #[.int .i64 k, .int .i64 n, .slice ao m c] w (Ans w (.agg #[.int .i64 k, .int .i64 n, .slice ao m c])) := by
  go_enter Try.func115, Try.ntmps115
  go_wp2
  exact bodyPost_ret (v := .agg #[.int .i64 k, .int .i64 n, .slice ao m c]) (by simp [results, Try.results115, go_sem]) rfl ⟨rfl, (Below.refl _ _).alloc (Nat.le_refl _) _⟩
theorem Leaf_w (k n : Int) (w : World) : Calls Try.prog 113 #[.int .i64 k, .int .i64 n] w (Ans w (.agg #[.int .i64 k, .int .i64 n, .slice none 0 0])) := by
  go_enter Try.func113, Try.ntmps113
  go_wp2
  exact bodyPost_ret (v := .agg #[.int .i64 k, .int .i64 n, .slice none 0 0]) (by simp [results, Try.results113, go_sem]) rfl ⟨rfl, (Below.refl _ _).alloc (Nat.le_refl _) _⟩
theorem Var_w (n : Int) (w : World) : Calls Try.prog 91 #[.int .i64 n] w (Ans w (.agg #[.int .i64 1, .int .i64 n, .slice none 0 0])) := by
  go_enter Try.func91, Try.ntmps91
  go_wp2_with fail
  refine (node_w _ _ _ _ _ _).mono ?_
  rintro e w1 ⟨rfl, hb⟩
  have hw : w.heap.size < (w.alloc (.cells #[.int .i64 0, .int .i64 0, .slice none 0 0] 24)).heap.size := by rw [World.size_alloc]; omega
  obtain ⟨z0, z1, z2, zf, -⟩ := three ((hb.block _ hw).trans (heap_new w _ _ rfl))
  have hb2 : Below w.heap.size w w1 := ((Below.refl _ _).alloc (Nat.le_refl _) _).trans (hb.mono (Nat.le_of_lt hw))
  have HB := Lib.hid hb2
  clear hb hb2
  go_wp2_with fail
  exact bodyPost_ret (v := .agg #[.int .i64 1, .int .i64 n, .slice none 0 0]) (by simp [results, Try.results91, go_sem, z0, z1, z2]) rfl ⟨rfl, ((HB.out.setCell (Nat.le_refl _) _).setCell (Nat.le_refl _) _).setCell (Nat.le_refl _) _⟩

theorem Beneath_w (k n : Int) (s : Value) (ao : Option Addr) (m c : Nat) (hs : s = .slice ao m c) (i : Nat) (w : World) : Calls Try.prog 114 #[.agg #[.int .i64 k, .int .i64 n, s], .int .i64 i] w (Ans w (.int .i64 (bn k i))) := by
  subst hs
  by_cases h1 : i = 1
  · subst h1
    by_cases h5 : k = 5
    · have e : bn k 1 = 0 := by unfold bn; rw [if_neg (by omega)]
      have e2 : (k != 5) = false := by simp [h5]
      rw [e]; clear e
      go_enter Try.func114, Try.ntmps114
      go_wp2
      go_ret
      exact ⟨rfl, (Below.refl _ _).alloc (Nat.le_refl _) _⟩
    · have e : bn k 1 = 1 := by unfold bn; rw [if_pos ⟨rfl, h5⟩]
      have e2 : (k != 5) = true := by simp [h5]
      rw [e]; clear e
      go_enter Try.func114, Try.ntmps114
      go_wp2
      go_ret
      exact ⟨rfl, (Below.refl _ _).alloc (Nat.le_refl _) _⟩
  · have e : bn k i = 0 := by unfold bn; rw [if_neg (by omega)]
    have e2 : ((i : Int) == 1) = false := by simp; omega
    rw [e]; clear e
    go_enter Try.func114, Try.ntmps114
    go_wp2
    go_ret
    exact ⟨rfl, (Below.refl _ _).alloc (Nat.le_refl _) _⟩
end Go.Proofs.Ythjlfjaciigfiaa
