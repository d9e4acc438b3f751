/-
  Swapping: the program's answer is the document's; twice it is as it was. Plain; no program.
-/
import Derived.Test.YthjlfjaciigfiaaClos
namespace Go.Proofs.Ythjlfjaciigfiaa
open Go.RowKit
set_option linter.unusedVariables false
set_option linter.unusedSimpArgs false

/-- a term, swapped; or why not -/
def swapR (t : Tm) (n : Int) : Tm × Int :=
  if Shp t = true ∧ fit n = true then (if n < 1048576 ∧ Shp (mp Fsw t n) = true then (mp Fsw t n, 0) else (tm0, 2)) else (tm0, 5)
theorem Fsw_no (k n c : Int) (h : k ≠ 1) : Fsw k n c = none := by simp [Fsw, h]
theorem Fsw_1 (n c : Int) : (Fsw 1 n c).getD (.node 1 n []) = .node 1 (if n = c then c + 1 else if n = c + 1 then c else n) [] := by
  unfold Fsw
  simp only [↓reduceIte]
  split
  · rfl
  · split <;> rfl
theorem Fwk_no (f : Int → Int) (k n c : Int) (h : k ≠ 1) : Fwk f k n c = none := by simp [Fwk, h]
theorem mp_swap (n : Int) (hn : 0 ≤ n) (t : Tm) (hg : gd t = true) : ∀ b, 0 ≤ b → mp (Fwk (fSwap n)) t b = mp Fsw t (n + b) := by
  refine gd_rec (C := fun t => ∀ b, 0 ≤ b → mp (Fwk (fSwap n)) t b = mp Fsw t (n + b)) ?_ ?_ ?_ t hg
  · intro k x hk _ b hb
    rw [mp_leaf, mp_leaf]
    by_cases h : k = 1
    · subst h
      rw [Fsw_1]
      unfold Fwk fSwap
      simp only [↓reduceIte, Option.getD_some]
      by_cases h2 : b ≤ x
      · simp only [h2, ↓reduceIte]
        congr 1
        split <;> split <;> (try split) <;> (try split) <;> omega
      · simp only [h2, ↓reduceIte]
        congr 1
        split <;> (try split) <;> omega
    · rw [Fsw_no _ _ _ h, Fwk_no _ _ _ _ h]
  · intro k a c hk _ _ ha hc b hb
    have h := show k ≠ 1 by omega
    rw [mp_bin _ _ _ _ _ (Fsw_no _ _ _ h), mp_bin _ _ _ _ _ (Fwk_no _ _ _ _ h), ha b hb, hc _ (by have := bn_le k 1; omega), Int.add_assoc]
  · intro x m _ _ b _
    rw [mp_elim _ _ _ _ (Fsw_no _ _ _ (by omega)), mp_elim _ _ _ _ (Fwk_no _ _ _ _ (by omega)), Fsw_no _ _ _ (by omega), Fwk_no _ _ _ _ (by omega)]
theorem mp_swap0 (n : Int) (hn : 0 ≤ n) (t : Tm) (hg : gd t = true) : mp (Fwk (fSwap n)) t 0 = mp Fsw t n := by
  have := mp_swap n hn t hg 0 (by omega)
  rwa [Int.add_zero] at this
theorem sw_twice (t : Tm) (hg : gd t = true) : ∀ n, mp Fsw (mp Fsw t n) n = t := by
  refine gd_rec (C := fun t => ∀ n, mp Fsw (mp Fsw t n) n = t) ?_ ?_ ?_ t hg
  · intro k x hk _ n
    rw [mp_leaf]
    by_cases h : k = 1
    · subst h
      rw [Fsw_1, mp_leaf, Fsw_1]
      congr 1
      split <;> split <;> (try split) <;> (try split) <;> omega
    · rw [Fsw_no _ _ _ h]; simp only [Option.getD_none]; rw [mp_leaf, Fsw_no _ _ _ h]; rfl
  · intro k a c hk _ _ ha hc n
    have h := show k ≠ 1 by omega
    rw [mp_bin _ _ _ _ _ (Fsw_no _ _ _ h), mp_bin _ _ _ _ _ (Fsw_no _ _ _ h), ha, hc]
  · intro x m _ _ n
    rw [mp_elim _ _ _ _ (Fsw_no _ _ _ (by omega)), Fsw_no _ _ _ (by omega)]
    simp only [Option.getD_none]
    rw [mp_elim _ _ _ _ (Fsw_no _ _ _ (by omega)), Fsw_no _ _ _ (by omega)]; rfl
theorem sw_size (t : Tm) (hg : gd t = true) : ∀ c, nsz (mp Fsw t c) = nsz t ∧ dep (mp Fsw t c) = dep t := by
  refine gd_rec (C := fun t => ∀ c, nsz (mp Fsw t c) = nsz t ∧ dep (mp Fsw t c) = dep t) ?_ ?_ ?_ t hg
  · intro k' n hk _ c
    rw [mp_leaf]
    by_cases h : k' = 1
    · subst h; rw [Fsw_1]; exact ⟨rfl, rfl⟩
    · rw [Fsw_no _ _ _ h]; exact ⟨rfl, rfl⟩
  · intro k' a b hk _ _ ha hb c
    rw [mp_bin _ _ _ _ _ (Fsw_no _ _ _ (by omega))]
    simp only [nsz, nszL, dep, depL, (ha c).1, (ha c).2, (hb _).1, (hb _).2]
    exact ⟨trivial, trivial⟩
  · intro n m _ _ c
    rw [mp_elim _ _ _ _ (Fsw_no _ _ _ (by omega)), Fsw_no _ _ _ (by omega)]
    exact ⟨rfl, rfl⟩
/-- LiftSwaps: swapped twice -/
theorem swap_back {t a : Tm} {n : Int} (h : swapR t n = (a, 0)) : swapR a n = (t, 0) := by
  unfold swapR at h
  split at h
  · rename_i h1
    split at h
    · rename_i h2
      injection h with h3 h4
      subst h3
      have hg := ((Shp_iff t).mp h1.1).2.2
      unfold swapR
      rw [if_pos ⟨h2.2, h1.2⟩, sw_twice t hg, if_pos ⟨h2.1, h1.1⟩]
    · injection h with h3 h4; cases h4
  · injection h with h3 h4; cases h4
theorem swapR_code (t : Tm) (n : Int) : ∃ a c, swapR t n = (a, c) ∧ (c = 0 ∨ (c ≠ 0 ∧ a = tm0)) := by
  unfold swapR
  split
  · split
    · exact ⟨_, _, rfl, .inl rfl⟩
    · exact ⟨_, _, rfl, .inr ⟨by omega, rfl⟩⟩
  · exact ⟨_, _, rfl, .inr ⟨by omega, rfl⟩⟩
end Go.Proofs.Ythjlfjaciigfiaa
