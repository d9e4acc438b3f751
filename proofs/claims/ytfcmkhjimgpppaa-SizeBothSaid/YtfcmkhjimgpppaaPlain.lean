/-
  Matrices of 0, 1, 2 as lists: products, what is right. Plain; no program.
-/
namespace Go.Proofs.Ytfcmkhjimgpppaa
set_option linter.unusedVariables false

/-- a row of so many, each from 0 to 2 -/
def rowOk (n : Nat) (r : List Int) : Bool := r.length == n && r.all fun x => decide (0 ≤ x ∧ x ≤ 2)
def right (m : List (List Int)) : Bool := decide (m.length ≤ 24) && m.all (rowOk m.length)

theorem rowOk_iff {n : Nat} {r : List Int} : rowOk n r = true ↔ r.length = n ∧ ∀ j (h : j < r.length), 0 ≤ r[j] ∧ r[j] ≤ 2 := by
  unfold rowOk
  simp only [Bool.and_eq_true, beq_iff_eq, List.all_eq_true, decide_eq_true_eq]
  constructor
  · rintro ⟨h, g⟩; exact ⟨h, fun j hj => g _ (List.getElem_mem hj)⟩
  · rintro ⟨h, g⟩; refine ⟨h, fun x hx => ?_⟩
    obtain ⟨j, hj, rfl⟩ := List.getElem_of_mem hx
    exact g j hj
theorem right_iff {m : List (List Int)} : right m = true ↔ m.length ≤ 24 ∧ ∀ i (h : i < m.length), rowOk m.length m[i] = true := by
  unfold right
  simp only [Bool.and_eq_true, decide_eq_true_eq, List.all_eq_true]
  constructor
  · rintro ⟨h, g⟩; exact ⟨h, fun j hj => g _ (List.getElem_mem hj)⟩
  · rintro ⟨h, g⟩; refine ⟨h, fun x hx => ?_⟩
    obtain ⟨j, hj, rfl⟩ := List.getElem_of_mem hx
    exact g j hj
theorem right_no {m : List (List Int)} (i : Nat) (h : i < m.length) (g : rowOk m.length m[i] = false) : right m = false := by
  rw [Bool.eq_false_iff]; intro hr
  have := (right_iff.1 hr).2 i h
  rw [g] at this; cases this
theorem rowOk_no {n : Nat} {r : List Int} (j : Nat) (h : j < r.length) (g : r[j] < 0 ∨ 2 < r[j]) : rowOk n r = false := by
  rw [Bool.eq_false_iff]; intro hr
  have := (rowOk_iff.1 hr).2 j h
  omega
theorem rowOk_len {n : Nat} {r : List Int} (g : r.length ≠ n) : rowOk n r = false := by
  rw [Bool.eq_false_iff]; intro hr
  exact g (rowOk_iff.1 hr).1
theorem right_len {m : List (List Int)} (g : 24 < m.length) : right m = false := by
  rw [Bool.eq_false_iff]; intro hr
  have := (right_iff.1 hr).1
  omega

def G (m : List (List Int)) (i j : Nat) : Int := (m.getD i []).getD j 0
def tm (a b : Int) : Int := if a = 0 ∨ b = 0 then 0 else if a = 2 ∨ b = 2 then 2 else 1
/-- the greatest of what the first k ways give -/
def pc (a b : List (List Int)) (i j : Nat) : Nat → Int
  | 0 => 0
  | k + 1 => max (pc a b i j k) (tm (G a i k) (G b k j))
def prow (a b : List (List Int)) (i : Nat) : List Int := (List.range a.length).map fun j => pc a b i j a.length
def prod (a b : List (List Int)) : List (List Int) := (List.range a.length).map fun i => prow a b i

theorem tm_bd (a b : Int) : 0 ≤ tm a b ∧ tm a b ≤ 2 := by unfold tm; split <;> (try split) <;> omega
theorem pc_bd (a b : List (List Int)) (i j k : Nat) : 0 ≤ pc a b i j k ∧ pc a b i j k ≤ 2 := by
  induction k with
  | zero => simp [pc]
  | succ k ih => have := tm_bd (G a i k) (G b k j); simp only [pc]; omega
theorem pc_mono (a b : List (List Int)) (i j k d : Nat) : pc a b i j k ≤ pc a b i j (k + d) := by
  induction d with
  | zero => exact Int.le_refl _
  | succ d ih => rw [← Nat.add_assoc]; simp only [pc]; omega
theorem pc_two (a b : List (List Int)) (i j k n : Nat) (hk : k < n) (h : tm (G a i k) (G b k j) = 2) : pc a b i j n = 2 := by
  have h1 := pc_mono a b i j (k + 1) (n - (k + 1))
  rw [show k + 1 + (n - (k + 1)) = n from by omega] at h1
  have h2 := pc_bd a b i j n
  simp only [pc] at h1
  omega
theorem right_sq {m : List (List Int)} (h : right m = true) : m.length ≤ 24 ∧ (∀ i, i < m.length → (m.getD i []).length = m.length) ∧ ∀ i j, i < m.length → j < m.length → 0 ≤ G m i j ∧ G m i j ≤ 2 := by
  obtain ⟨h1, h2⟩ := right_iff.1 h
  have h3 : ∀ i, i < m.length → (m.getD i []).length = m.length ∧ ∀ j (hj : j < (m.getD i []).length), 0 ≤ (m.getD i [])[j] ∧ (m.getD i [])[j] ≤ 2 := by
    intro i hi
    have := rowOk_iff.1 (h2 i hi)
    rw [List.getD_eq_getElem?_getD, List.getElem?_eq_getElem hi]
    exact this
  refine ⟨h1, fun i hi => (h3 i hi).1, fun i j hi hj => ?_⟩
  have hj' : j < (m.getD i []).length := by rw [(h3 i hi).1]; exact hj
  have := (h3 i hi).2 j hj'
  unfold G
  rw [List.getD_eq_getElem?_getD (l := m.getD i []), List.getElem?_eq_getElem hj']
  exact this
theorem prod_len (a b : List (List Int)) : (prod a b).length = a.length := by simp [prod]
theorem prow_len (a b : List (List Int)) (i : Nat) : (prow a b i).length = a.length := by simp [prow]

/-- a row of the product in the making: j places done, k ways of place j -/
def st (a b : List (List Int)) (n i j k : Nat) : List Int := (List.range n).map fun j' => if j' < j then pc a b i j' n else if j' = j then pc a b i j k else 0
theorem st_len (a b : List (List Int)) (n i j k : Nat) : (st a b n i j k).length = n := by simp [st]
theorem st_zero (a b : List (List Int)) (n i : Nat) : st a b n i 0 0 = List.replicate n 0 := by
  apply List.ext_getElem (by simp [st])
  intro x h1 h2
  simp [st, pc]
theorem st_next (a b : List (List Int)) (n i j : Nat) : st a b n i j n = st a b n i (j + 1) 0 := by
  apply List.ext_getElem (by simp [st])
  intro x h1 h2
  simp only [st, List.getElem_map, List.getElem_range, pc]
  by_cases h3 : x < j
  · rw [if_pos h3, if_pos (by omega)]
  · by_cases h4 : x = j
    · subst h4; rw [if_neg h3, if_pos rfl, if_pos (by omega)]
    · rw [if_neg h3, if_neg h4, if_neg (by omega)]; split <;> rfl
theorem st_done (a b : List (List Int)) (n i k : Nat) (h : a.length = n) : st a b n i n k = prow a b i := by
  subst h
  apply List.ext_getElem (by simp [st, prow])
  intro x h1 h2
  have hx : x < a.length := by simpa [st] using h1
  simp [st, prow, hx]
theorem st_at (a b : List (List Int)) (n i j k : Nat) (h : j < n) : (st a b n i j k)[j]'(by simp [st]; exact h) = pc a b i j k := by
  simp [st]
theorem st_step (a b : List (List Int)) (n i j k : Nat) (h : j < n) : (st a b n i j k).set j (max (pc a b i j k) (tm (G a i k) (G b k j))) = st a b n i j (k + 1) := by
  apply List.ext_getElem (by simp [st])
  intro x h1 h2
  rw [List.getElem_set]
  by_cases hx : j = x
  · subst hx; rw [if_pos rfl]; simp [st, pc]
  · rw [if_neg hx]
    simp only [st, List.getElem_map, List.getElem_range]
    by_cases h3 : x < j
    · rw [if_pos h3, if_pos h3]
    · rw [if_neg h3, if_neg h3, if_neg (fun e => hx e.symm), if_neg (fun e => hx e.symm)]
end Go.Proofs.Ytfcmkhjimgpppaa
