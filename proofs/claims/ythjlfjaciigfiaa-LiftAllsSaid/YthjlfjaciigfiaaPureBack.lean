/-
  Lifted and lowered likewise, lowered and lifted likewise: it is as it was. Plain; no program.
-/
import Derived.Test.YthjlfjaciigfiaaPureSw
namespace Go.Proofs.Ythjlfjaciigfiaa
open Go.RowKit
set_option linter.unusedVariables false
set_option linter.unusedSimpArgs false

theorem bt_bin (k : Int) (a b : Tm) (n m : Int) (h : k ≠ 1) : bt (.node k 0 [a, b]) n m = (bt a n m || bt b (n + bn k 1) (m + bn k 1)) := by
  simp only [bt, h, ↓reduceIte, btL, bn0, Int.add_zero, Bool.or_false, Nat.zero_add]
theorem bt_var (x n m : Int) : bt (.node 1 x []) n m = decide (n ≤ x ∧ x < m) := by simp only [bt, ↓reduceIte]
theorem back_1 (k : Int) (hk : 0 ≤ k) (t : Tm) (hg : gd t = true) : ∀ n, bt (mp (Fmv k) t n) n (n + k) = false ∧ mp (Fmv (-k)) (mp (Fmv k) t n) (n + k) = t := by
  refine gd_rec (C := fun t => ∀ n, bt (mp (Fmv k) t n) n (n + k) = false ∧ mp (Fmv (-k)) (mp (Fmv k) t n) (n + k) = t) ?_ ?_ ?_ t hg
  · intro q x hq _ n
    rw [mp_leaf]
    by_cases h : q = 1
    · subst h
      rw [Fmv_1]
      simp only [Option.getD_some]
      by_cases h2 : x < n
      · simp only [h2, ↓reduceIte]
        rw [bt_var, mp_leaf, Fmv_1]
        simp only [Option.getD_some, show x < n + k by omega, ↓reduceIte]
        exact ⟨by simp; omega, trivial⟩
      · simp only [h2, ↓reduceIte]
        rw [bt_var, mp_leaf, Fmv_1]
        simp only [Option.getD_some, show ¬ (x + k < n + k) by omega, ↓reduceIte]
        refine ⟨by simp, ?_⟩
        congr 1; omega
    · rw [Fmv_no _ _ _ _ h]
      simp only [Option.getD_none]
      rw [mp_leaf, Fmv_no _ _ _ _ h]
      exact ⟨by simp [bt, h, btL], rfl⟩
  · intro q a b hq _ _ ha hb n
    have h := show q ≠ 1 by omega
    rw [mp_bin _ _ _ _ _ (Fmv_no _ _ _ _ h), mp_bin _ _ _ _ _ (Fmv_no _ _ _ _ h), bt_bin _ _ _ _ _ h, (ha n).1, (ha n).2]
    have e : n + k + bn q 1 = n + bn q 1 + k := by omega
    rw [e, (hb (n + bn q 1)).1, (hb (n + bn q 1)).2]
    exact ⟨rfl, rfl⟩
  · intro x m _ _ n
    rw [mp_elim _ _ _ _ (Fmv_no _ _ _ _ (by omega)), Fmv_no _ _ _ _ (by omega)]
    simp only [Option.getD_none]
    rw [mp_elim _ _ _ _ (Fmv_no _ _ _ _ (by omega)), Fmv_no _ _ _ _ (by omega)]
    exact ⟨by simp [bt, btL], rfl⟩
theorem back_2 (k : Int) (hk : 0 ≤ k) (t : Tm) (hg : gd t = true) : ∀ n, 0 ≤ n → bt t n (n + k) = false → gd (mp (Fmv (-k)) t (n + k)) = true ∧ mp (Fmv k) (mp (Fmv (-k)) t (n + k)) n = t := by
  refine gd_rec (C := fun t => ∀ n, 0 ≤ n → bt t n (n + k) = false → gd (mp (Fmv (-k)) t (n + k)) = true ∧ mp (Fmv k) (mp (Fmv (-k)) t (n + k)) n = t) ?_ ?_ ?_ t hg
  · intro q x hq hg n hn hb
    rw [mp_leaf]
    by_cases h : q = 1
    · subst h
      rw [gd_leaf_iff 1 _ (by simp)] at hg
      rw [bt_var, decide_eq_false_iff_not] at hb
      rw [Fmv_1]
      simp only [Option.getD_some]
      by_cases h2 : x < n + k
      · simp only [h2, ↓reduceIte]
        rw [gd_leaf_iff 1 _ (by simp), mp_leaf, Fmv_1]
        simp only [Option.getD_some, show x < n by omega, ↓reduceIte]
        exact ⟨hg, trivial⟩
      · simp only [h2, ↓reduceIte]
        rw [gd_leaf_iff 1 _ (by simp), mp_leaf, Fmv_1]
        simp only [Option.getD_some, show ¬ (x + -k < n) by omega, ↓reduceIte]
        refine ⟨by omega, ?_⟩
        congr 1; omega
    · rw [Fmv_no _ _ _ _ h]
      simp only [Option.getD_none]
      rw [mp_leaf, Fmv_no _ _ _ _ h]
      exact ⟨hg, rfl⟩
  · intro q a b hq _ _ ha hb n hn hbt
    have h := show q ≠ 1 by omega
    rw [bt_bin _ _ _ _ _ h, Bool.or_eq_false_iff] at hbt
    have e : n + k + bn q 1 = n + bn q 1 + k := by omega
    obtain ⟨a1, a2⟩ := ha n hn hbt.1
    obtain ⟨b1, b2⟩ := hb (n + bn q 1) (by have := bn_le q 1; omega) (by rw [← e]; exact hbt.2)
    rw [mp_bin _ _ _ _ _ (Fmv_no _ _ _ _ h), mp_bin _ _ _ _ _ (Fmv_no _ _ _ _ h), gd_bin_iff _ _ _ hq, e, a2, b2]
    exact ⟨⟨a1, b1⟩, rfl⟩
  · intro x m hg _ n _ _
    rw [mp_elim _ _ _ _ (Fmv_no _ _ _ _ (by omega)), Fmv_no _ _ _ _ (by omega)]
    simp only [Option.getD_none]
    rw [mp_elim _ _ _ _ (Fmv_no _ _ _ _ (by omega)), Fmv_no _ _ _ _ (by omega)]
    exact ⟨hg, rfl⟩

/-- LiftBack -/
theorem lift_back {t a : Tm} {k n : Int} (h : liftR t k n = (a, 0)) : lowerR a k n = (t, 0) := by
  unfold liftR at h
  split at h
  · rename_i h1
    split at h
    · rename_i h2
      injection h with h3 h4
      subst h3
      have hg := ((Shp_iff t).mp h1.1).2.2
      obtain ⟨q1, q2⟩ := back_1 k ((fit_iff k).mp h1.2.1).1 t hg n
      unfold lowerR
      rw [if_pos ⟨h2, h1.2⟩, q1, q2, if_neg (by simp)]
    · injection h with h3 h4; cases h4
  · injection h with h3 h4; cases h4
theorem lower_back {t a : Tm} {k n : Int} (h : lowerR t k n = (a, 0)) : liftR a k n = (t, 0) := by
  unfold lowerR at h
  split at h
  · rename_i h1
    split at h
    · injection h with h3 h4; cases h4
    · rename_i h2
      injection h with h3 h4
      subst h3
      have hs := h1.1
      have hg := ((Shp_iff t).mp h1.1).2.2
      obtain ⟨q1, q2⟩ := back_2 k ((fit_iff k).mp h1.2.1).1 t hg n ((fit_iff n).mp h1.2.2).1 (by simpa using h2)
      have hsa : Shp (mp (Fmv (-k)) t (n + k)) = true := mv_shaped hs q1
      rw [liftR_of hsa h1.2.1 h1.2.2, q2, if_pos hg]
  · injection h with h3 h4; cases h4
theorem liftR_code (t : Tm) (k n : Int) : ∃ a c, liftR t k n = (a, c) ∧ (c = 0 ∨ (c ≠ 0 ∧ a = tm0)) := by
  unfold liftR
  split
  · split
    · exact ⟨_, _, rfl, .inl rfl⟩
    · exact ⟨_, _, rfl, .inr ⟨by omega, rfl⟩⟩
  · exact ⟨_, _, rfl, .inr ⟨by omega, rfl⟩⟩
theorem lowerR_code (t : Tm) (k n : Int) : ∃ a c, lowerR t k n = (a, c) ∧ (c = 0 ∨ (c ≠ 0 ∧ a = tm0)) := by
  unfold lowerR
  split
  · split
    · exact ⟨_, _, rfl, .inr ⟨by omega, rfl⟩⟩
    · exact ⟨_, _, rfl, .inl rfl⟩
  · exact ⟨_, _, rfl, .inr ⟨by omega, rfl⟩⟩
end Go.Proofs.Ythjlfjaciigfiaa
