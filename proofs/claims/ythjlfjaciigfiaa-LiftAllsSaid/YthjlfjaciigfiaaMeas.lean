/-
  How great and how deep a term is, truly; what the counts that stop early say of it. Plain; no program.
-/
import Derived.Test.YthjlfjaciigfiaaMp
namespace Go.Proofs.Ythjlfjaciigfiaa
open Go.RowKit
set_option linter.unusedVariables false
set_option linter.unusedSimpArgs false

mutual
/-- how many nodes a term has -/
def nsz : Tm → Nat
  | .node _ _ l => 1 + nszL l
def nszL : List Tm → Nat
  | [] => 0
  | t :: l => nsz t + nszL l
end
theorem nsz_pos (t : Tm) : 1 ≤ nsz t := by cases t; simp only [nsz]; omega
theorem nszL_append (a b : List Tm) : nszL (a ++ b) = nszL a + nszL b := by
  induction a with
  | nil => simp [nszL]
  | cons t l ih => simp only [List.cons_append, nszL, ih]; omega
theorem nszL_len (l : List Tm) : l.length ≤ nszL l := by
  induction l with
  | nil => simp
  | cons t l ih => have := nsz_pos t; simp only [List.length_cons, nszL]; omega
theorem nszL_take (l : List Tm) (n : Nat) : nszL (l.take n) ≤ nszL l := by
  have := nszL_append (l.take n) (l.drop n)
  rw [List.take_append_drop] at this; omega
theorem nszL_get (l : List Tm) (i : Nat) (hi : i < l.length) : nsz l[i] ≤ nszL l := by
  induction l generalizing i with
  | nil => exact absurd hi (Nat.not_lt_zero _)
  | cons t l ih =>
    cases i with
    | zero => simp only [List.getElem_cons_zero, nszL]; omega
    | succ i => have := ih i (by simpa using hi); simp only [List.getElem_cons_succ, nszL]; omega
theorem sz_min (t : Tm) : ∀ h, h ≤ 8192 → sz t h = min (h + nsz t) 8193 := by
  refine Tm.ind (C := fun t => ∀ h, h ≤ 8192 → sz t h = min (h + nsz t) 8193) (fun k n l ih => ?_) t
  intro h hh
  have aux : ∀ (l' : List Tm), (∀ t, t ∈ l' → t ∈ l) → ∀ g, g ≤ 8193 → szL l' g = min (g + nszL l') 8193 := by
    intro l'
    induction l' with
    | nil => intro _ g hg; simp [szL, nszL]; omega
    | cons a l' ih2 =>
      intro hs g hg
      simp only [szL, nszL]
      split
      · omega
      · have h1 := ih a (hs a (by simp)) g (by omega)
        rw [h1, ih2 (fun t ht => hs t (by simp [ht])) _ (by omega)]
        omega
  have := aux l (fun _ h => h) (h + 1) (by omega)
  simp only [sz, nsz]
  omega
theorem dep_pos (t : Tm) : 1 ≤ dep t := by cases t; simp only [dep]; omega
theorem dp_min (t : Tm) : ∀ a, a ≤ 129 → dp t a = min (a + dep t - 1) 129 := by
  refine Tm.ind (C := fun t => ∀ a, a ≤ 129 → dp t a = min (a + dep t - 1) 129) (fun k n l ih => ?_) t
  intro a ha
  have aux : ∀ (l' : List Tm), (∀ t, t ∈ l' → t ∈ l) → ∀ m b, m ≤ 129 → 1 ≤ b → b ≤ 129 → b ≤ m + 1 → dpL l' m b = max m (min (b + depL l' - 1) 129) := by
    intro l'
    induction l' with
    | nil => intro _ m b hm _ _ _; simp only [dpL, depL]; omega
    | cons x l' ih2 =>
      intro hs m b hm hb1 hb hbm
      simp only [dpL, depL]
      have h1 := ih x (hs x (by simp)) b hb
      have := dep_pos x
      rw [h1, ih2 (fun t ht => hs t (by simp [ht])) _ b (by omega) hb1 hb (by omega)]
      omega
  simp only [dp, dep]
  split
  · omega
  · rw [aux l (fun _ h => h) a (a + 1) ha (by omega) (by omega) (by omega)]
    omega
theorem depth_min (t : Tm) (h : nsz t ≤ 8192) : depth t = min (dep t) 129 := by
  unfold depth
  rw [sz_min t 0 (by omega), if_neg (by omega), dp_min t 1 (by omega)]
  have := dep_pos t
  omega
theorem depth_max (t : Tm) (h : 8192 < nsz t) : depth t = 129 := by
  unfold depth
  rw [sz_min t 0 (by omega), if_pos (by omega)]
theorem Shp_iff (t : Tm) : Shp t = true ↔ nsz t ≤ 8192 ∧ dep t ≤ 128 ∧ gd t = true := by
  unfold Shp
  rw [Bool.and_eq_true, decide_eq_true_iff]
  by_cases h : nsz t ≤ 8192
  · rw [depth_min t h]
    constructor
    · rintro ⟨h1, h2⟩; exact ⟨h, by omega, h2⟩
    · rintro ⟨-, h1, h2⟩; exact ⟨by omega, h2⟩
  · rw [depth_max t (by omega)]
    constructor
    · rintro ⟨h1, _⟩; omega
    · rintro ⟨h1, _⟩; omega
end Go.Proofs.Ythjlfjaciigfiaa
