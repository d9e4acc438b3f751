/-
  Products of matrices of 0, 1, 2: associative, with a unit, monotone. Plain; no program.
-/
import Derived.Test.YtfcmkhjimgpppaaPlain
namespace Go.Proofs.Ytfcmkhjimgpppaa
set_option linter.unusedVariables false

theorem G_prod (a b : List (List Int)) (i j : Nat) (hi : i < a.length) (hj : j < a.length) : G (prod a b) i j = pc a b i j a.length := by
  unfold G prod
  rw [List.getD_eq_getElem?_getD (l := List.map _ _), List.getElem?_eq_getElem (by simpa using hi)]
  simp only [Option.getD_some, List.getElem_map, List.getElem_range]
  rw [List.getD_eq_getElem?_getD, List.getElem?_eq_getElem (by rw [prow_len]; exact hj)]
  simp [prow]
theorem row_prod (a b : List (List Int)) (i : Nat) (hi : i < a.length) : ((prod a b).getD i []).length = a.length := by
  unfold prod
  rw [List.getD_eq_getElem?_getD, List.getElem?_eq_getElem (by simpa using hi)]
  simp [prow_len]
theorem right_prod {a b : List (List Int)} (h : a.length ≤ 24) : right (prod a b) = true := by
  refine right_iff.2 ⟨by rw [prod_len]; exact h, fun i hi => rowOk_iff.2 ?_⟩
  rw [prod_len] at hi ⊢
  have e : (prod a b)[i]'(by rw [prod_len]; exact hi) = prow a b i := by simp [prod]
  rw [e]
  refine ⟨prow_len a b i, fun j hj => ?_⟩
  have : (prow a b i)[j] = pc a b i j a.length := by simp [prow]
  rw [this]
  exact pc_bd a b i j _

theorem tm_ge1 (x y : Int) : 1 ≤ tm x y ↔ x ≠ 0 ∧ y ≠ 0 := by unfold tm; split <;> (try split) <;> omega
theorem tm_ge2 (x y : Int) : 2 ≤ tm x y ↔ x ≠ 0 ∧ y ≠ 0 ∧ (x = 2 ∨ y = 2) := by unfold tm; split <;> (try split) <;> omega
theorem pc_ge1 (a b : List (List Int)) (i j k : Nat) : 1 ≤ pc a b i j k ↔ ∃ l, l < k ∧ G a i l ≠ 0 ∧ G b l j ≠ 0 := by
  induction k with
  | zero => simp [pc]
  | succ k ih =>
    have h := tm_ge1 (G a i k) (G b k j)
    have e : 1 ≤ pc a b i j (k + 1) ↔ 1 ≤ pc a b i j k ∨ 1 ≤ tm (G a i k) (G b k j) := by simp only [pc]; omega
    rw [e, ih, h]
    constructor
    · rintro (⟨l, h1, h2⟩ | h2)
      · exact ⟨l, by omega, h2⟩
      · exact ⟨k, by omega, h2⟩
    · rintro ⟨l, h1, h2⟩
      by_cases hl : l = k
      · subst hl; exact .inr h2
      · exact .inl ⟨l, by omega, h2⟩
theorem pc_ge2 (a b : List (List Int)) (i j k : Nat) : 2 ≤ pc a b i j k ↔ ∃ l, l < k ∧ G a i l ≠ 0 ∧ G b l j ≠ 0 ∧ (G a i l = 2 ∨ G b l j = 2) := by
  induction k with
  | zero => simp [pc]
  | succ k ih =>
    have h := tm_ge2 (G a i k) (G b k j)
    have e : 2 ≤ pc a b i j (k + 1) ↔ 2 ≤ pc a b i j k ∨ 2 ≤ tm (G a i k) (G b k j) := by simp only [pc]; omega
    rw [e, ih, h]
    constructor
    · rintro (⟨l, h1, h2⟩ | h2)
      · exact ⟨l, by omega, h2⟩
      · exact ⟨k, by omega, h2⟩
    · rintro ⟨l, h1, h2⟩
      by_cases hl : l = k
      · subst hl; exact .inr h2
      · exact .inl ⟨l, by omega, h2⟩

theorem pc_ne (a b : List (List Int)) (i j k : Nat) : pc a b i j k ≠ 0 ↔ ∃ l, l < k ∧ G a i l ≠ 0 ∧ G b l j ≠ 0 := by
  rw [← pc_ge1]; have := pc_bd a b i j k; omega
theorem pc_eq2 (a b : List (List Int)) (i j k : Nat) : pc a b i j k = 2 ↔ ∃ l, l < k ∧ G a i l ≠ 0 ∧ G b l j ≠ 0 ∧ (G a i l = 2 ∨ G b l j = 2) := by
  rw [← pc_ge2]; have := pc_bd a b i j k; omega

theorem pc_assoc (a b c : List (List Int)) (n : Nat) (ha : a.length = n) (hb : b.length = n) (i j : Nat) (hi : i < n) (hj : j < n) : pc (prod a b) c i j n = pc a (prod b c) i j n := by
  have g1 : ∀ l, l < n → G (prod a b) i l = pc a b i l n := fun l hl => by rw [G_prod a b i l (by omega) (by omega), ha]
  have g2 : ∀ l, l < n → G (prod b c) l j = pc b c l j n := fun l hl => by rw [G_prod b c l j (by omega) (by omega), hb]
  have h1 : 1 ≤ pc (prod a b) c i j n ↔ 1 ≤ pc a (prod b c) i j n := by
    rw [pc_ge1, pc_ge1]
    constructor
    · rintro ⟨l, hl, q1, q2⟩
      rw [g1 l hl, pc_ne] at q1
      obtain ⟨k, hk, q3, q4⟩ := q1
      exact ⟨k, hk, q3, by rw [g2 k hk, pc_ne]; exact ⟨l, hl, q4, q2⟩⟩
    · rintro ⟨k, hk, q1, q2⟩
      rw [g2 k hk, pc_ne] at q2
      obtain ⟨l, hl, q3, q4⟩ := q2
      exact ⟨l, hl, by rw [g1 l hl, pc_ne]; exact ⟨k, hk, q1, q3⟩, q4⟩
  have h2 : 2 ≤ pc (prod a b) c i j n ↔ 2 ≤ pc a (prod b c) i j n := by
    rw [pc_ge2, pc_ge2]
    constructor
    · rintro ⟨l, hl, q1, q2, q3⟩
      rw [g1 l hl] at q1 q3
      rcases q3 with q3 | q3
      · rw [pc_eq2] at q3
        obtain ⟨k, hk, p1, p2, p3⟩ := q3
        refine ⟨k, hk, p1, by rw [g2 k hk, pc_ne]; exact ⟨l, hl, p2, q2⟩, ?_⟩
        rcases p3 with p3 | p3
        · exact .inl p3
        · exact .inr (by rw [g2 k hk, pc_eq2]; exact ⟨l, hl, p2, q2, .inl p3⟩)
      · rw [pc_ne] at q1
        obtain ⟨k, hk, p1, p2⟩ := q1
        exact ⟨k, hk, p1, by rw [g2 k hk, pc_ne]; exact ⟨l, hl, p2, q2⟩, .inr (by rw [g2 k hk, pc_eq2]; exact ⟨l, hl, p2, q2, .inr q3⟩)⟩
    · rintro ⟨k, hk, q1, q2, q3⟩
      rw [g2 k hk] at q2 q3
      rcases q3 with q3 | q3
      · rw [pc_ne] at q2
        obtain ⟨l, hl, p1, p2⟩ := q2
        exact ⟨l, hl, by rw [g1 l hl, pc_ne]; exact ⟨k, hk, q1, p1⟩, p2, .inl (by rw [g1 l hl, pc_eq2]; exact ⟨k, hk, q1, p1, .inl q3⟩)⟩
      · rw [pc_eq2] at q3
        obtain ⟨l, hl, p1, p2, p3⟩ := q3
        refine ⟨l, hl, by rw [g1 l hl, pc_ne]; exact ⟨k, hk, q1, p1⟩, p2, ?_⟩
        rcases p3 with p3 | p3
        · exact .inl (by rw [g1 l hl, pc_eq2]; exact ⟨k, hk, q1, p1, .inr p3⟩)
        · exact .inr p3
  have b1 := pc_bd (prod a b) c i j n
  have b2 := pc_bd a (prod b c) i j n
  omega
theorem prod_assoc (a b c : List (List Int)) (hb : b.length = a.length) : prod (prod a b) c = prod a (prod b c) := by
  unfold prod
  simp only [List.length_map, List.length_range]
  apply List.map_congr_left
  intro i hi
  have hi' : i < a.length := by simpa using hi
  unfold prow
  simp only [List.length_map, List.length_range]
  apply List.map_congr_left
  intro j hj
  have hj' : j < a.length := by simpa using hj
  exact pc_assoc a b c a.length rfl hb i j hi' hj'

/-- the unit of size n -/
def unit (n : Nat) : List (List Int) := (List.range n).map fun i => (List.range n).map fun j => if j = i then 1 else 0
theorem unit_len (n : Nat) : (unit n).length = n := by simp [unit]
theorem G_unit (n i j : Nat) (hi : i < n) (hj : j < n) : G (unit n) i j = if j = i then 1 else 0 := by
  unfold G unit
  rw [List.getD_eq_getElem?_getD (l := List.map _ _), List.getElem?_eq_getElem (by simpa using hi)]
  simp only [Option.getD_some, List.getElem_map, List.getElem_range]
  rw [List.getD_eq_getElem?_getD, List.getElem?_eq_getElem (by simpa using hj)]
  simp
theorem right_unit {n : Nat} (h : n ≤ 24) : right (unit n) = true := by
  refine right_iff.2 ⟨by rw [unit_len]; exact h, fun i hi => rowOk_iff.2 ?_⟩
  have hi' : i < n := by rw [unit_len] at hi; exact hi
  simp only [unit_len]
  have e : (unit n)[i] = (List.range n).map fun j => if j = i then (1 : Int) else 0 := by simp [unit]
  rw [e]
  refine ⟨by simp, fun j hj => ?_⟩
  simp only [List.getElem_map, List.getElem_range]
  split <;> omega
theorem pc_unit_l (a : List (List Int)) (n i j : Nat) (hi : i < n) (hj : j < n) (h : 0 ≤ G a i j ∧ G a i j ≤ 2) : pc (unit n) a i j n = G a i j := by
  have h1 : 1 ≤ pc (unit n) a i j n ↔ 1 ≤ G a i j := by
    rw [pc_ge1]
    constructor
    · rintro ⟨l, hl, q1, q2⟩
      rw [G_unit n i l hi hl] at q1
      by_cases e : l = i
      · subst e; omega
      · rw [if_neg e] at q1; exact absurd rfl q1
    · intro q
      exact ⟨i, hi, by rw [G_unit n i i hi hi, if_pos rfl]; omega, by omega⟩
  have h2 : 2 ≤ pc (unit n) a i j n ↔ 2 ≤ G a i j := by
    rw [pc_ge2]
    constructor
    · rintro ⟨l, hl, q1, q2, q3⟩
      rw [G_unit n i l hi hl] at q1 q3
      by_cases e : l = i
      · subst e; rw [if_pos rfl] at q3; omega
      · rw [if_neg e] at q1; exact absurd rfl q1
    · intro q
      exact ⟨i, hi, by rw [G_unit n i i hi hi, if_pos rfl]; omega, by omega, .inr (by omega)⟩
  have := pc_bd (unit n) a i j n
  omega
theorem pc_unit_r (a : List (List Int)) (n i j : Nat) (hi : i < n) (hj : j < n) (h : 0 ≤ G a i j ∧ G a i j ≤ 2) : pc a (unit n) i j n = G a i j := by
  have h1 : 1 ≤ pc a (unit n) i j n ↔ 1 ≤ G a i j := by
    rw [pc_ge1]
    constructor
    · rintro ⟨l, hl, q1, q2⟩
      rw [G_unit n l j hl hj] at q2
      by_cases e : j = l
      · subst e; omega
      · rw [if_neg e] at q2; exact absurd rfl q2
    · intro q
      exact ⟨j, hj, by omega, by rw [G_unit n j j hj hj, if_pos rfl]; omega⟩
  have h2 : 2 ≤ pc a (unit n) i j n ↔ 2 ≤ G a i j := by
    rw [pc_ge2]
    constructor
    · rintro ⟨l, hl, q1, q2, q3⟩
      rw [G_unit n l j hl hj] at q2 q3
      by_cases e : j = l
      · subst e; rw [if_pos rfl] at q3; omega
      · rw [if_neg e] at q2; exact absurd rfl q2
    · intro q
      exact ⟨j, hj, by omega, by rw [G_unit n j j hj hj, if_pos rfl]; omega, .inl (by omega)⟩
  have := pc_bd a (unit n) i j n
  omega

theorem tm_mono {x y x' y' : Int} (hx : x' ≤ x ∧ 0 ≤ x') (hy : y' ≤ y ∧ 0 ≤ y') (bx : x ≤ 2) (by' : y ≤ 2) : tm x' y' ≤ tm x y := by
  unfold tm
  split <;> (try split) <;> (try split) <;> (try split) <;> omega
theorem pc_mono2 (a b a' b' : List (List Int)) (i j k : Nat) (ha : ∀ l, l < k → G a' i l ≤ G a i l ∧ 0 ≤ G a' i l ∧ G a i l ≤ 2) (hb : ∀ l, l < k → G b' l j ≤ G b l j ∧ 0 ≤ G b' l j ∧ G b l j ≤ 2) : pc a' b' i j k ≤ pc a b i j k := by
  induction k with
  | zero => exact Int.le_refl _
  | succ k ih =>
    have h1 := ih (fun l hl => ha l (by omega)) (fun l hl => hb l (by omega))
    obtain ⟨x1, x2, x3⟩ := ha k (by omega)
    obtain ⟨y1, y2, y3⟩ := hb k (by omega)
    have := tm_mono ⟨x1, x2⟩ ⟨y1, y2⟩ x3 y3
    simp only [pc]
    omega
end Go.Proofs.Ytfcmkhjimgpppaa
