/-
  Lowering and swapping: the program's answer is the document's; there and back. Plain; no program.
-/
import Derived.Test.YthjlfjaciigfiaaPure
import Derived.Test.YthjlfjaciigfiaaRefSwap
namespace Go.Proofs.Ythjlfjaciigfiaa
open Go.RowKit
set_option linter.unusedVariables false
set_option linter.unusedSimpArgs false

mutual
/-- is a loose variable from n on below m in a term? -/
def bt : Tm → Int → Int → Bool
  | .node k x l, n, m => if k = 1 then decide (n ≤ x ∧ x < m) else btL k l n m 0
def btL (k : Int) : List Tm → Int → Int → Nat → Bool
  | [], _, _, _ => false
  | t :: l, n, m, i => bt t (n + bn k i) (m + bn k i) || btL k l n m (i + 1)
end
/-- a term, lowered; or why not -/
def lowerR (t : Tm) (k n : Int) : Tm × Int :=
  if Shp t = true ∧ fit k = true ∧ fit n = true then (if bt t n (n + k) = true then (tm0, 3) else (mp (Fmv (-k)) t (n + k), 0)) else (tm0, 5)
def fLower (k n m : Int) : Int := if m < n then m else if m < n + k then 0 else m - k
def gLower (k n m : Int) : Bool := !decide (n ≤ m ∧ m < n + k)
theorem ok_bt (k n : Int) (t : Tm) : ∀ b, okW (gLower k n) t b = !bt t (n + b) (n + k + b) ∨ n < 0 := by
  refine Tm.ind (C := fun t => ∀ b, okW (gLower k n) t b = !bt t (n + b) (n + k + b) ∨ n < 0) (fun q x l ih => ?_) t
  intro b
  by_cases hn : n < 0
  · exact .inr hn
  left
  have aux : ∀ (l' : List Tm), (∀ t, t ∈ l' → t ∈ l) → ∀ i, okWL (gLower k n) q l' b i = !btL q l' (n + b) (n + k + b) i := by
    intro l'
    induction l' with
    | nil => intro _ i; rfl
    | cons y l' ih2 =>
      intro hs i
      simp only [okWL, btL]
      rw [(ih y (hs y (by simp)) _).resolve_right hn, ih2 (fun t ht => hs t (by simp [ht])), Bool.not_or, Int.add_assoc n b, Int.add_assoc (n + k) b]
  simp only [okW, bt]
  by_cases h1 : q = 1
  · simp only [h1, ↓reduceIte, gLower]
    by_cases h2 : b ≤ x
    · simp only [h2, ↓reduceIte]
      congr 1
      rw [decide_eq_decide]
      omega
    · simp only [h2, ↓reduceIte]
      have : ¬ (n + b ≤ x ∧ x < n + k + b) := by omega
      simp [this]
  · simp only [h1, ↓reduceIte]
    exact aux l (fun _ h => h) 0
theorem mp_low (k n : Int) (hk : 0 ≤ k) (hn : 0 ≤ n) (t : Tm) : ∀ b, 0 ≤ b → okW (gLower k n) t b = true → mp (Fwk (fLower k n)) t b = mp (Fmv (-k)) t (n + k + b) := by
  refine Tm.ind (C := fun t => ∀ b, 0 ≤ b → okW (gLower k n) t b = true → mp (Fwk (fLower k n)) t b = mp (Fmv (-k)) t (n + k + b)) (fun q x l ih => ?_) t
  intro b hb hok
  have aux : ∀ (l' : List Tm), (∀ t, t ∈ l' → t ∈ l) → ∀ i, okWL (gLower k n) q l' b i = true → mpL (Fwk (fLower k n)) q l' b i = mpL (Fmv (-k)) q l' (n + k + b) i := by
    intro l'
    induction l' with
    | nil => intro _ i _; rfl
    | cons y l' ih2 =>
      intro hs i hok
      simp only [okWL, Bool.and_eq_true] at hok
      simp only [mpL]
      rw [ih y (hs y (by simp)) _ (by have := bn_le q i; omega) hok.1, ih2 (fun t ht => hs t (by simp [ht])) _ hok.2, Int.add_assoc (n + k) b]
  simp only [mp]
  by_cases h1 : q = 1
  · subst h1
    simp only [okW, ↓reduceIte] at hok
    simp only [Fwk, Fmv, ↓reduceIte]
    by_cases h2 : b ≤ x
    · simp only [h2, ↓reduceIte, gLower, Bool.not_eq_true', decide_eq_false_iff_not] at hok ⊢
      unfold fLower
      by_cases h3 : x - b < n
      · simp only [h3, ↓reduceIte, show x < n + k + b by omega]; congr 1; omega
      · simp only [h3, ↓reduceIte, show ¬ (x - b < n + k) by omega, show ¬ (x < n + k + b) by omega]; congr 1; omega
    · simp only [h2, ↓reduceIte, show x < n + k + b by omega]
  · have e1 : Fwk (fLower k n) q x b = none := by simp [Fwk, h1]
    have e2 : Fmv (-k) q x (n + k + b) = none := by simp [Fmv, h1]
    rw [e1, e2]
    simp only [okW, h1, ↓reduceIte] at hok
    simp only [aux l (fun _ h => h) 0 hok]
end Go.Proofs.Ythjlfjaciigfiaa
