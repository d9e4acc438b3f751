/-
  Putting terms in the place of variables: plain functions and laws. No program; no condition but those typed.
  subst's walker: its state, its leaf functions, what a call leaves. Small functions of subst and term: contracts. No condition but those typed.
-/
import Derived.Test.YthjlfjaciigfiaaPureBack
import Derived.Test.YthjlfjaciigfiaaRefBind
import Derived.Test.YthjlfjaciigfiaaWalk
import Derived.Test.YthjlfjaciigfiaaQs
namespace Go.Proofs.Ythjlfjaciigfiaa
open Go.RowKit
set_option linter.unusedVariables false
set_option linter.unusedSimpArgs false

/-- a term beneath b binders more -/
def raise (a : Tm) (b : Int) : Tm := mp (Fmv b) a 0
/-- what stands for a node with others put in -/
def Fmy (l : List Tm) (k n b : Int) : Option Tm :=
  if k = 1 ∧ b ≤ n then some (if h : (n - b).toNat < l.length then raise l[(n - b).toNat] b else .node 1 (n - l.length) []) else none
/-- with one put in at a place -/
def Fat (a : Tm) (n0 : Int) (k n b : Int) : Option Tm :=
  if k = 1 ∧ b ≤ n then some (if n - b = n0 then raise a (n0 + b) else if n0 < n - b then .node 1 (n - 1) [] else .node 1 n []) else none
/-- with a named variable put in -/
def Fnm (a : Tm) (nm : Int) (k n b : Int) : Option Tm := if k = 8 ∧ n = nm then some (raise a b) else none
/-- what is told of a term that was gone over -/
def subR (F : Int → Int → Int → Option Tm) (t : Tm) : Tm × Int := if Shp (mp F t 0) = true then (mp F t 0, 0) else (tm0, 2)
def manyR (t : Tm) (l : List Tm) : Tm × Int := if Shp t = true ∧ l.all Shp = true then subR (Fmy l) t else (tm0, 5)
def atR (t a : Tm) (n : Int) : Tm × Int := if Shp t = true ∧ Shp a = true ∧ fit n = true then subR (Fat a n) t else (tm0, 5)
def namedR (t a : Tm) (n : Int) : Tm × Int := if Shp t = true ∧ Shp a = true ∧ fit n = true then subR (Fnm a n) t else (tm0, 5)
def bindR (t : Tm) (n : Int) : Tm × Int := if Shp t = true ∧ fit n = true then subR (Fbd n) t else (tm0, 5)
def free (n : Int) : Tm := .node 8 n []

/-- a function of leaves alone: variables and named variables -/
def Leafy (F : Int → Int → Int → Option Tm) : Prop := ∀ k n b, k ≠ 1 → k ≠ 8 → F k n b = none
theorem leafy_mv (k : Int) : Leafy (Fmv k) := fun q n b h _ => by simp [Fmv, h]
theorem leafy_my (l : List Tm) : Leafy (Fmy l) := fun q n b h _ => by simp [Fmy, h]
theorem leafy_at (a : Tm) (m : Int) : Leafy (Fat a m) := fun q n b h _ => by simp [Fat, h]
theorem leafy_nm (a : Tm) (m : Int) : Leafy (Fnm a m) := fun q n b _ h => by simp [Fnm, h]
theorem leafy_bd (m : Int) : Leafy (Fbd m) := fun q n b h h' => by simp [Fbd, h, h']

/-- two roads over good terms that agree at the leaves -/
theorem two_roads {F G H K : Int → Int → Int → Option Tm} (hF : Leafy F) (hG : Leafy G) (hH : Leafy H) (hK : Leafy K) (p q r s : Int)
    (h1 : ∀ k n c, 0 ≤ c → (k = 1 ∨ k = 8) → 0 ≤ n → mp G (mp F (.node k n []) (c + p)) (c + q) = mp K (mp H (.node k n []) (c + r)) (c + s)) (t : Tm) (hg : gd t = true) :
    ∀ c, 0 ≤ c → mp G (mp F t (c + p)) (c + q) = mp K (mp H t (c + r)) (c + s) := by
  refine gd_rec (C := fun t => ∀ c, 0 ≤ c → mp G (mp F t (c + p)) (c + q) = mp K (mp H t (c + r)) (c + s)) ?_ ?_ ?_ t hg
  · intro k n hk hgn c hc
    by_cases h : k = 1 ∨ k = 8
    · exact h1 k n c hc h ((gd_num hgn).2.2.1)
    · have a1 := hF k n (c + p) (by omega) (by omega)
      have a2 := hG k n (c + q) (by omega) (by omega)
      have a3 := hH k n (c + r) (by omega) (by omega)
      have a4 := hK k n (c + s) (by omega) (by omega)
      rw [mp_leaf, mp_leaf, a1, a3]; simp only [Option.getD_none]
      rw [mp_leaf, mp_leaf, a2, a4]
  · intro k a b hk _ _ ha hb c hc
    have e : ∀ F, Leafy F → ∀ x, F k 0 x = none := fun F h x => h k 0 x (by omega) (by omega)
    rw [mp_bin _ _ _ _ _ (e F hF _), mp_bin _ _ _ _ _ (e G hG _), mp_bin _ _ _ _ _ (e H hH _), mp_bin _ _ _ _ _ (e K hK _), ha c hc]
    have := hb (c + bn k 1) (by have := bn_le k 1; omega)
    rw [show c + p + bn k 1 = c + bn k 1 + p by omega, show c + q + bn k 1 = c + bn k 1 + q by omega, show c + r + bn k 1 = c + bn k 1 + r by omega, show c + s + bn k 1 = c + bn k 1 + s by omega, this]
  · intro n m _ _ c hc
    have e7 : ∀ F, Leafy F → ∀ x, F 7 n x = none := fun F h x => h 7 n x (by omega) (by omega)
    have e2 : ∀ F, Leafy F → ∀ x, F 2 m x = none := fun F h x => h 2 m x (by omega) (by omega)
    rw [mp_elim _ _ _ _ (e7 F hF _), mp_elim _ _ _ _ (e7 H hH _), e2 F hF, e2 H hH]
    simp only [Option.getD_none]
    rw [mp_elim _ _ _ _ (e7 G hG _), mp_elim _ _ _ _ (e7 K hK _), e2 G hG, e2 K hK]
/-- a road that does nothing -/
def Fno (_ _ _ : Int) : Option Tm := none
theorem leafy_no : Leafy Fno := fun _ _ _ _ _ => rfl
theorem mp_no (t : Tm) (hg : gd t = true) : ∀ c, mp Fno t c = t := by
  refine gd_rec (C := fun t => ∀ c, mp Fno t c = t) ?_ ?_ ?_ t hg
  · intro k n _ _ c; rw [mp_leaf]; rfl
  · intro k a b _ _ _ ha hb c; rw [mp_bin _ _ _ _ _ rfl, ha, hb]
  · intro n m _ _ c; rw [mp_elim _ _ _ _ rfl]; rfl
/-- one road against none -/
theorem back_road {F G : Int → Int → Int → Option Tm} (hF : Leafy F) (hG : Leafy G) (p q : Int)
    (h1 : ∀ k n c, 0 ≤ c → (k = 1 ∨ k = 8) → 0 ≤ n → mp G (mp F (.node k n []) (c + p)) (c + q) = .node k n []) (t : Tm) (hg : gd t = true) :
    ∀ c, 0 ≤ c → mp G (mp F t (c + p)) (c + q) = t := by
  intro c hc
  have := two_roads hF hG leafy_no leafy_no p q 0 0 (fun k n c hc hk hn => by rw [h1 k n c hc hk hn, mp_leaf]; simp only [Fno, Option.getD_none]; rw [mp_leaf]; rfl) t hg c hc
  rw [this, mp_no t hg, mp_no t hg]
/-- one step against two -/
theorem one_road {F G H : Int → Int → Int → Option Tm} (hF : Leafy F) (hG : Leafy G) (hH : Leafy H) (p q r : Int)
    (h1 : ∀ k n c, 0 ≤ c → (k = 1 ∨ k = 8) → 0 ≤ n → mp G (mp F (.node k n []) (c + p)) (c + q) = mp H (.node k n []) (c + r)) (t : Tm) (hg : gd t = true) :
    ∀ c, 0 ≤ c → mp G (mp F t (c + p)) (c + q) = mp H t (c + r) := by
  intro c hc
  have key : ∀ u : Tm, ∀ c, mp Fno u c = u := by
    intro u
    refine Tm.ind (C := fun u => ∀ c, mp Fno u c = u) (fun k n l ih => ?_) u
    intro c
    simp only [mp, Fno]
    congr 1
    have : ∀ (l' : List Tm) i, (∀ t, t ∈ l' → t ∈ l) → mpL Fno k l' c i = l' := by
      intro l'
      induction l' with
      | nil => intro i _; rfl
      | cons a l' ih2 => intro i hs; simp only [mpL]; rw [ih a (hs a (by simp)), ih2 (i + 1) (fun t ht => hs t (by simp [ht]))]
    exact this l 0 (fun _ h => h)
  have := two_roads hF hG hH leafy_no p q r 0 (fun k n c hc hk hn => by rw [h1 k n c hc hk hn, key]) t hg c hc
  rw [this, key]

theorem mp_8 (F : Int → Int → Int → Option Tm) (n c : Int) (h : F 8 n c = none) : mp F (.node 8 n []) c = .node 8 n [] := by rw [mp_leaf, h]; rfl
theorem mv_8 (k n c : Int) : mp (Fmv k) (.node 8 n []) c = .node 8 n [] := mp_8 _ _ _ (by simp [Fmv])
theorem my_8 (l : List Tm) (n c : Int) : mp (Fmy l) (.node 8 n []) c = .node 8 n [] := mp_8 _ _ _ (by simp [Fmy])
theorem at_8 (a : Tm) (m n c : Int) : mp (Fat a m) (.node 8 n []) c = .node 8 n [] := mp_8 _ _ _ (by simp [Fat])
theorem mv_lt {k n c : Int} (h : n < c) : mp (Fmv k) (.node 1 n []) c = .node 1 n [] := by rw [mp_leaf, Fmv_1, if_pos h]; rfl
theorem mv_ge {k n c : Int} (h : c ≤ n) : mp (Fmv k) (.node 1 n []) c = .node 1 (n + k) [] := by rw [mp_leaf, Fmv_1, if_neg (by omega)]; rfl
theorem my_lt {l : List Tm} {n c : Int} (h : n < c) : mp (Fmy l) (.node 1 n []) c = .node 1 n [] := by
  rw [mp_leaf]; unfold Fmy; rw [if_neg (by omega)]; rfl
theorem my_in {l : List Tm} {n c : Int} {i : Nat} (hi : i < l.length) (h : n = c + i) : mp (Fmy l) (.node 1 n []) c = raise l[i] c := by
  have e : (n - c).toNat = i := by omega
  rw [mp_leaf]; unfold Fmy
  rw [if_pos ⟨rfl, by omega⟩]
  simp only [e, hi, ↓reduceDIte, Option.getD_some]
theorem my_ge {l : List Tm} {n c : Int} (h : c + l.length ≤ n) : mp (Fmy l) (.node 1 n []) c = .node 1 (n - l.length) [] := by
  rw [mp_leaf]; unfold Fmy
  rw [if_pos ⟨rfl, by omega⟩]
  simp only [show ¬ (n - c).toNat < l.length by omega, ↓reduceDIte, Option.getD_some]
theorem at_lt {a : Tm} {m n c : Int} (h : n - c < m) : mp (Fat a m) (.node 1 n []) c = .node 1 n [] := by
  rw [mp_leaf]; unfold Fat
  by_cases q : c ≤ n
  · rw [if_pos ⟨rfl, q⟩, if_neg (by omega), if_neg (by omega)]; rfl
  · rw [if_neg (by omega)]; rfl
theorem at_eq {a : Tm} {m n c : Int} (hm : 0 ≤ m) (h : n - c = m) : mp (Fat a m) (.node 1 n []) c = raise a (m + c) := by
  rw [mp_leaf]; unfold Fat
  rw [if_pos ⟨rfl, by omega⟩, if_pos h]; rfl
theorem at_gt {a : Tm} {m n c : Int} (hm : 0 ≤ m) (h : m < n - c) : mp (Fat a m) (.node 1 n []) c = .node 1 (n - 1) [] := by
  rw [mp_leaf]; unfold Fat
  rw [if_pos ⟨rfl, by omega⟩, if_neg (by omega), if_pos h]; rfl

/-- P9.2: lifted by as many as there are, with them put in -/
theorem my_lifted (l : List Tm) (t : Tm) (hg : gd t = true) : mp (Fmy l) (mp (Fmv l.length) t 0) 0 = t := by
  have := back_road (leafy_mv l.length) (leafy_my l) 0 0 (fun k n c hc hk hn => ?_) t hg 0 (by omega)
  · simpa using this
  · simp only [Int.add_zero]
    rcases hk with rfl | rfl
    · by_cases h : n < c
      · rw [mv_lt h, my_lt h]
      · rw [mv_ge (by omega), my_ge (by omega)]; congr 1; omega
    · rw [mv_8, my_8]

/-- moving by a, and then by b -/
theorem mv_mv (a b : Int) (ha : 0 ≤ a) (t : Tm) (hg : gd t = true) : ∀ g, 0 ≤ g → mp (Fmv b) (mp (Fmv a) t g) (g + a) = mp (Fmv (a + b)) t g := by
  intro g h0
  have := one_road (leafy_mv a) (leafy_mv b) (leafy_mv (a + b)) 0 a 0 (fun k n c hc hk hn => ?_) t hg g h0
  · simpa using this
  · simp only [Int.add_zero]
    rcases hk with rfl | rfl
    · by_cases h : n < c
      · rw [mv_lt h, mv_lt (by omega), mv_lt h]
      · rw [mv_ge (by omega), mv_ge (by omega), mv_ge (by omega)]; congr 1; omega
    · rw [mv_8, mv_8, mv_8]
/-- moved over the place that is filled: nothing is put in -/
theorem my_over (v t : Tm) (c : Int) (h0 : 0 ≤ c) (hg : gd t = true) : ∀ g, 0 ≤ g → mp (Fmy [v]) (mp (Fmv (c + 1)) t g) (g + c) = mp (Fmv c) t g := by
  intro g h0
  have := one_road (leafy_mv (c + 1)) (leafy_my [v]) (leafy_mv c) 0 c 0 (fun k n e he hk hn => ?_) t hg g h0
  · simpa using this
  · simp only [Int.add_zero]
    rcases hk with rfl | rfl
    · by_cases h : n < e
      · rw [mv_lt h, my_lt (by omega), mv_lt h]
      · rw [mv_ge (by omega), my_ge (by simp; omega), mv_ge (by omega)]; congr 1; simp; omega
    · rw [mv_8, my_8, mv_8]
/-- putting in beneath what was moved -/
theorem my_mv (b a : Tm) (c : Int) (hc : 0 ≤ c) (hb : gd b = true) (hg : gd a = true) : ∀ e, 0 ≤ e → mp (Fmy [b]) (mp (Fmv c) a e) (e + c) = mp (Fmv c) (mp (Fmy [b]) a e) e := by
  intro e h0
  have := two_roads (leafy_mv c) (leafy_my [b]) (leafy_my [b]) (leafy_mv c) 0 c 0 0 (fun k n e he hk hn => ?_) a hg e h0
  · simpa using this
  · simp only [Int.add_zero]
    rcases hk with rfl | rfl
    · by_cases h : n < e
      · rw [mv_lt h, my_lt (by omega), my_lt h, mv_lt h]
      · rw [mv_ge (by omega)]
        by_cases h2 : n = e
        · subst h2
          rw [my_in (i := 0) (by simp) (by omega), my_in (i := 0) (by simp) (by omega)]
          simp only [List.getElem_cons_zero, raise]
          have := mv_mv n c (by omega) b hb 0 (by omega)
          rw [Int.zero_add] at this
          rw [this]
        · rw [my_ge (by simp; omega), my_ge (by simp; omega), mv_ge (by simp; omega)]; congr 1; simp; omega
    · rw [mv_8, my_8, my_8, mv_8]
/-- P9.3 -/
theorem my_twice (t a b : Tm) (ht : gd t = true) (ha : gd a = true) (hb : gd b = true) : mp (Fmy [b]) (mp (Fmy [a]) t 0) 0 = mp (Fmy [mp (Fmy [b]) a 0]) (mp (Fat b 1) t 0) 0 := by
  have := two_roads (leafy_my [a]) (leafy_my [b]) (leafy_at b 1) (leafy_my [mp (Fmy [b]) a 0]) 0 0 0 0 (fun k n c hc hk hn => ?_) t ht 0 (by omega)
  · simpa using this
  · simp only [Int.add_zero]
    rcases hk with rfl | rfl
    · by_cases h : n < c
      · rw [my_lt h, my_lt h, at_lt (by omega), my_lt h]
      · by_cases h2 : n = c
        · subst h2
          rw [my_in (i := 0) (by simp) (by omega), at_lt (by omega), my_in (i := 0) (by simp) (by omega)]
          simp only [List.getElem_cons_zero, raise]
          have := my_mv b a n (by omega) hb ha 0 (by omega)
          rw [Int.zero_add] at this
          exact this
        · by_cases h3 : n = c + 1
          · subst h3
            rw [my_ge (by simp), at_eq (by omega) (by omega)]
            rw [my_in (i := 0) (by simp) (by simp)]
            simp only [List.getElem_cons_zero, raise]
            have := my_over (mp (Fmy [b]) a 0) b c hc hb 0 (by omega)
            rw [Int.zero_add] at this
            rw [show (1 : Int) + c = c + 1 by omega, this]
          · rw [my_ge (by simp; omega), at_gt (by omega) (by omega), my_ge (by simp; omega), my_ge (by simp; omega)]
            simp
    · rw [my_8, my_8, at_8, my_8]

theorem bd_free (nm c : Int) : mp (Fbd nm) (.node 8 nm []) c = .node 1 c [] := by rw [mp_leaf]; simp [Fbd]
theorem bd_8 {nm n : Int} (c : Int) (h : n ≠ nm) : mp (Fbd nm) (.node 8 n []) c = .node 8 n [] := by rw [mp_leaf]; simp [Fbd, h]
theorem bd_lt {nm n c : Int} (h : n < c) : mp (Fbd nm) (.node 1 n []) c = .node 1 n [] := by rw [mp_leaf]; simp only [Fbd, ↓reduceIte, show ¬ c ≤ n by omega, Option.getD_none]
theorem bd_ge {nm n c : Int} (h : c ≤ n) : mp (Fbd nm) (.node 1 n []) c = .node 1 (n + 1) [] := by rw [mp_leaf]; simp [Fbd, h]
/-- P9.4: bound, and opened -/
theorem bd_open (nm : Int) (t : Tm) (hg : gd t = true) : mp (Fmy [free nm]) (mp (Fbd nm) t 0) 0 = t := by
  have := back_road (leafy_bd nm) (leafy_my [free nm]) 0 0 (fun k n c hc hk hn => ?_) t hg 0 (by omega)
  · simpa using this
  · simp only [Int.add_zero]
    rcases hk with rfl | rfl
    · by_cases h : n < c
      · rw [bd_lt h, my_lt h]
      · rw [bd_ge (by omega), my_ge (by simp; omega)]; simp
    · by_cases h : n = nm
      · subst h
        rw [bd_free, my_in (i := 0) (by simp) (by simp)]
        simp only [List.getElem_cons_zero, raise, free, mv_8]
      · rw [bd_8 c h, my_8]
mutual
/-- has it the named variable? -/
def hasF (nm : Int) : Tm → Bool
  | .node k n l => decide (k = 8 ∧ n = nm) || hasFL nm l
def hasFL (nm : Int) : List Tm → Bool
  | [] => false
  | t :: l => hasF nm t || hasFL nm l
end
/-- opened, and bound -/
theorem open_bd (nm : Int) (t : Tm) (hg : gd t = true) : hasF nm t = false → ∀ c, 0 ≤ c → mp (Fbd nm) (mp (Fmy [free nm]) t c) c = t := by
  refine gd_rec (C := fun t => hasF nm t = false → ∀ c, 0 ≤ c → mp (Fbd nm) (mp (Fmy [free nm]) t c) c = t) ?_ ?_ ?_ t hg
  · intro k n hk hgn hf c hc
    have hn := (gd_num hgn).2.2.1
    by_cases h1 : k = 1
    · subst h1
      by_cases h : n < c
      · rw [my_lt h, bd_lt h]
      · by_cases h2 : n = c
        · subst h2
          rw [my_in (i := 0) (by simp) (by omega)]
          simp only [List.getElem_cons_zero, raise, free, mv_8]
          rw [bd_free]
        · rw [my_ge (by simp; omega), bd_ge (by simp; omega)]; simp
    · by_cases h8 : k = 8
      · subst h8
        rw [my_8, bd_8]
        intro e; subst e; simp [hasF] at hf
      · rw [mp_leaf, leafy_my _ _ _ _ h1 h8]; simp only [Option.getD_none]
        rw [mp_leaf, leafy_bd _ _ _ _ h1 h8]; rfl
  · intro k a b hk _ _ ha hb hf c hc
    simp only [hasF, hasFL, Bool.or_false, Bool.or_eq_false_iff] at hf
    rw [mp_bin _ _ _ _ _ (leafy_my _ _ _ _ (by omega) (by omega)), mp_bin _ _ _ _ _ (leafy_bd _ _ _ _ (by omega) (by omega)), ha hf.2.1 c hc, hb hf.2.2 _ (by have := bn_le k 1; omega)]
  · intro n m _ _ _ c _
    rw [mp_elim _ _ _ _ (leafy_my _ _ _ _ (by omega) (by omega)), leafy_my _ _ _ _ (by omega) (by omega)]
    simp only [Option.getD_none]
    rw [mp_elim _ _ _ _ (leafy_bd _ _ _ _ (by omega) (by omega)), leafy_bd _ _ _ _ (by omega) (by omega)]; rfl
/-- opened with a named variable it is as great and as deep, and good -/
theorem open_size (nm : Int) (hf : 0 ≤ nm ∧ nm ≤ 1048576) (t : Tm) (hg : gd t = true) : ∀ c, 0 ≤ c → nsz (mp (Fmy [free nm]) t c) = nsz t ∧ dep (mp (Fmy [free nm]) t c) = dep t ∧ gd (mp (Fmy [free nm]) t c) = true := by
  refine gd_rec (C := fun t => ∀ c, 0 ≤ c → nsz (mp (Fmy [free nm]) t c) = nsz t ∧ dep (mp (Fmy [free nm]) t c) = dep t ∧ gd (mp (Fmy [free nm]) t c) = true) ?_ ?_ ?_ t hg
  · intro k n hk hgn c hc
    by_cases h1 : k = 1
    · subst h1
      have hn := (gd_leaf_iff 1 n (by simp)).mp hgn
      have q : mostOf 1 = 1048576 := by decide
      by_cases h : n < c
      · rw [my_lt h]; exact ⟨rfl, rfl, hgn⟩
      · by_cases h2 : n = c
        · subst h2
          rw [my_in (i := 0) (by simp) (by omega)]
          simp only [List.getElem_cons_zero, raise, free, mv_8]
          exact ⟨rfl, rfl, (gd_leaf_iff 8 nm (by simp)).mpr ⟨hf.1, show nm ≤ mostOf 8 by rw [show mostOf 8 = 1048576 by decide]; omega⟩⟩
        · rw [my_ge (by simp; omega)]
          exact ⟨rfl, rfl, (gd_leaf_iff 1 _ (by simp)).mpr (by simp; omega)⟩
    · rw [mp_leaf]
      have : Fmy [free nm] k n c = none := by simp [Fmy, h1]
      rw [this]; exact ⟨rfl, rfl, hgn⟩
  · intro k a b hk _ _ ha hb c hc
    rw [mp_bin _ _ _ _ _ (leafy_my _ _ _ _ (by omega) (by omega))]
    have h1 := ha c hc
    have h2 := hb (c + bn k 1) (by have := bn_le k 1; omega)
    simp only [nsz, nszL, dep, depL, h1.1, h1.2.1, h2.1, h2.2.1]
    exact ⟨trivial, trivial, (gd_bin_iff _ _ _ hk).mpr ⟨h1.2.2, h2.2.2⟩⟩
  · intro n m hg _ c _
    rw [mp_elim _ _ _ _ (leafy_my _ _ _ _ (by omega) (by omega)), leafy_my _ _ _ _ (by omega) (by omega)]
    exact ⟨rfl, rfl, hg⟩
end Go.Proofs.Ythjlfjaciigfiaa
namespace Go.Proofs.Ythjlfjaciigfiaa
open Go.RowKit
set_option linter.unusedVariables false
set_option linter.unusedSimpArgs false

theorem Sort_w (n : Int) (w : World) : Calls Try.prog 119 #[.int .i64 n] w (Ans w (.agg #[.int .i64 2, .int .i64 n, .slice none 0 0])) := by
  go_enter Try.func119, Try.ntmps119
  go_wp2_with fail
  refine (node_w _ _ _ _ _ _).mono ?_
  rintro e w1 ⟨rfl, hb⟩
  have hw : w.heap.size < (w.alloc (.cells #[.int .i64 0, .int .i64 0, .slice none 0 0] 24)).heap.size := by rw [World.size_alloc]; omega
  obtain ⟨z0, z1, z2, zf, -⟩ := three ((hb.block _ hw).trans (heap_new w _ _ rfl))
  have hb2 : Below w.heap.size w w1 := ((Below.refl _ _).alloc (Nat.le_refl _) _).trans (hb.mono (Nat.le_of_lt hw))
  have HB := Lib.hid hb2
  clear hb hb2
  go_wp2_with fail
  exact bodyPost_ret (v := .agg #[.int .i64 2, .int .i64 n, .slice none 0 0]) (by simp [results, Try.results119, go_sem, z0, z1, z2]) rfl ⟨rfl, ((HB.out.setCell (Nat.le_refl _) _).setCell (Nat.le_refl _) _).setCell (Nat.le_refl _) _⟩
theorem Free_w (n : Int) (w : World) : Calls Try.prog 100 #[.int .i64 n] w (Ans w (.agg #[.int .i64 8, .int .i64 n, .slice none 0 0])) := by
  go_enter Try.func100, Try.ntmps100
  go_wp2_with fail
  refine (node_w _ _ _ _ _ _).mono ?_
  rintro e w1 ⟨rfl, hb⟩
  have hw : w.heap.size < (w.alloc (.cells #[.int .i64 0, .int .i64 0, .slice none 0 0] 24)).heap.size := by rw [World.size_alloc]; omega
  obtain ⟨z0, z1, z2, zf, -⟩ := three ((hb.block _ hw).trans (heap_new w _ _ rfl))
  have hb2 : Below w.heap.size w w1 := ((Below.refl _ _).alloc (Nat.le_refl _) _).trans (hb.mono (Nat.le_of_lt hw))
  have HB := Lib.hid hb2
  clear hb hb2
  go_wp2_with fail
  exact bodyPost_ret (v := .agg #[.int .i64 8, .int .i64 n, .slice none 0 0]) (by simp [results, Try.results100, go_sem, z0, z1, z2]) rfl ⟨rfl, ((HB.out.setCell (Nat.le_refl _) _).setCell (Nat.le_refl _) _).setCell (Nat.le_refl _) _⟩

/-- which loose variable a node is -/
def looseV (k n b : Int) : Int := if k = 1 ∧ b ≤ n then n - b else -1
theorem loose_w (k n : Int) (ao : Option Addr) (m c : Nat) (b : Int) (w : World) (hn : 0 ≤ n ∧ n ≤ 1048576) (hb : 0 ≤ b ∧ b ≤ 1048576) : Calls Try.prog 89 #[.agg #[.int .i64 k, .int .i64 n, .slice ao m c], .int .i64 b] w (Ans w (.int .i64 (looseV k n b))) := by
  by_cases h1 : k = 1
  · subst h1
    by_cases h2 : b ≤ n
    · have e : looseV 1 n b = n - b := by simp [looseV, h2]
      rw [e]; clear e
      go_enter Try.func89, Try.ntmps89
      go_wp2
      go_ret
      exact ⟨rfl, (Below.refl _ _).alloc (Nat.le_refl _) _⟩
    · have e : looseV 1 n b = -1 := by simp [looseV, h2]
      rw [e]; clear e
      go_enter Try.func89, Try.ntmps89
      go_wp2
      go_ret
      exact ⟨rfl, (Below.refl _ _).alloc (Nat.le_refl _) _⟩
  · have e : looseV k n b = -1 := by simp [looseV, h1]
    have e2 : (k != 1) = true := by simp [h1]
    rw [e]; clear e
    go_enter Try.func89, Try.ntmps89
    go_wp2
    go_ret
    exact ⟨rfl, (Below.refl _ _).alloc (Nat.le_refl _) _⟩

/-- the walker's box: how many nodes are left, are there too many, its leaf function -/
def WBox (wb : Nat) (fv : Value) (L : Int) (lg : Bool) (w : World) : Prop := w.heap[wb]? = some (.cells #[.int .i64 L, .bool lg, fv] 89)
/-- from what is left at the beginning to what is left at the end, x being what should come, y what came -/
def OkS (L : Int) (lg : Bool) (x y : Tm) (L' : Int) (lg' : Bool) : Prop :=
  (lg' = false → lg = false ∧ y = x ∧ 0 ≤ L' ∧ L' ≤ L ∧ L ≤ L' + nsz x) ∧ (lg' = true → (lg = true ∨ ¬ (gd x = true ∧ nsz x ≤ L)) ∧ -8193 ≤ L' ∧ L' ≤ 8192)
/-- what a call of the walker leaves -/
def AnsK (wb : Nat) (fv : Value) (St : World → Prop) (L : Int) (lg : Bool) (x : Tm) (w : World) (e : Ending) (w' : World) : Prop :=
  ∃ k n ao m c y L' lg', e = .returned (.agg #[.int .i64 k, .int .i64 n, .slice ao m c]) ∧ Bx (some wb) w.heap.size w w' ∧ Rd (Fr w w') w' (.agg #[.int .i64 k, .int .i64 n, .slice ao m c]) y ∧ St w' ∧ WBox wb fv L' lg' w' ∧ OkS L lg x y L' lg'
/-- what a leaf function answers: g: what stands for the node, if it is one -/
def AnsLf (wb : Nat) (fv : Value) (St : World → Prop) (L : Int) (g : Option Tm) (w : World) (e : Ending) (w' : World) : Prop :=
  ∃ k n ao m c dn L' lg', e = .returned (.tuple #[.agg #[.int .i64 k, .int .i64 n, .slice ao m c], .bool dn]) ∧ Bx (some wb) w.heap.size w w' ∧ St w' ∧ WBox wb fv L' lg' w' ∧
    (dn = false → g = none ∧ L' = L ∧ lg' = false) ∧ (dn = true → ∃ x y, g = some x ∧ Rd (Fr w w') w' (.agg #[.int .i64 k, .int .i64 n, .slice ao m c]) y ∧ OkS L false x y L' lg')
/-- what is known of a leaf function: St, what it needs, is kept where the blocks C are -/
structure Leafn (F : Nat) (caps : Array Value) (wb : Nat) (C : Nat → Prop) (St : World → Prop) (G : Int → Int → Int → Option Tm) : Prop where
  call : ∀ k n ao m c b L w, 1 ≤ k → k ≤ 8 → 0 ≤ n → n ≤ 1048576 → 0 ≤ b → b ≤ 1048576 → 0 ≤ L → L ≤ 8192 → (∀ q, C q → q < w.heap.size) → WBox wb (.func (.func F) #[] caps) L false w → St w →
    Calls Try.prog F (#[.agg #[.int .i64 k, .int .i64 n, .slice ao m c], .int .i64 b] ++ caps) w (AnsLf wb (.func (.func F) #[] caps) St L (G k n b) w)
  keep : ∀ w w', St w → (∀ k, C k → w'.heap[k]? = w.heap[k]?) → St w'
  off : ∀ q, C q → q ≠ wb
  enter : ∀ args w, (callFunc F args).run Try.prog w = .ok (.enter F args) w
  leafy : Leafy G

theorem WBox.cells {wb : Nat} {fv : Value} {L : Int} {lg : Bool} {w : World} (h : WBox wb fv L lg w) : w.cell? ⟨wb, 0, none⟩ = some (.int .i64 L) ∧ w.cell? ⟨wb, 1, none⟩ = some (.bool lg) ∧ w.cell? ⟨wb, 2, none⟩ = some fv ∧ (∀ j, w.frozen? ⟨wb, j, none⟩ = false) ∧ wb < w.heap.size := three h
theorem WBox.set0 {wb : Nat} {fv : Value} {L L' : Int} {lg : Bool} {w : World} (h : WBox wb fv L lg w) : WBox wb fv L' lg (w.setCell ⟨wb, 0, none⟩ (.int .i64 L')) := by
  unfold WBox at *; simp [World.setCell, Array.getElem?_modify, h]
theorem WBox.set1 {wb : Nat} {fv : Value} {L : Int} {lg lg' : Bool} {w : World} (h : WBox wb fv L lg w) : WBox wb fv L lg' (w.setCell ⟨wb, 1, none⟩ (.bool lg')) := by
  unfold WBox at *; simp [World.setCell, Array.getElem?_modify, h]
theorem WBox.keep {wb : Nat} {fv : Value} {L : Int} {lg : Bool} {w w' : World} (h : WBox wb fv L lg w) (hk : w'.heap[wb]? = w.heap[wb]?) : WBox wb fv L lg w' := hk.trans h
theorem OkS.start (L : Int) (lg : Bool) (x y : Tm) (h : lg = true) (hL : -8193 ≤ L ∧ L ≤ 8192) : OkS L lg x y L lg := ⟨fun h' => (by rw [h] at h'; cases h'), fun _ => ⟨.inl h, hL⟩⟩

/-- what raising answers: b is Lift's number, at most the greatest -/
theorem raise_lift {a : Tm} {b : Int} (hs : Shp a = true) (hb : 0 ≤ b ∧ b ≤ 1048576) : (gd (raise a b) = true ∧ liftR a b 0 = (raise a b, 0)) ∨ (gd (raise a b) = false ∧ liftR a b 0 = (tm0, 2)) := by
  have e := liftR_of (t := a) (k := b) (n := 0) hs ((fit_iff b).mpr hb) (by decide)
  unfold raise
  by_cases h : gd (mp (Fmv b) a 0) = true
  · left; rw [if_pos h] at e; exact ⟨h, e⟩
  · right; rw [if_neg h] at e; exact ⟨by simpa using h, e⟩
theorem raise_size {a : Tm} {b : Int} (hs : Shp a = true) : nsz (raise a b) = nsz a := (mv_size b a ((Shp_iff a).mp hs).2.2 0).1
theorem sz_of {a : Tm} (hs : Shp a = true) : sz a 0 = nsz a := by
  rw [sz_min a 0 (by omega)]; have := ((Shp_iff a).mp hs).1; omega
theorem size_r {w : World} {v : Value} {t : Tm} (h : Rd (· < w.heap.size) w v t) : Calls Try.prog 118 #[v] w (Ans w (.int .i64 (sz t 0))) := by
  obtain ⟨d, h⟩ := h; exact Size_w d v t w h

theorem set3_off (w : World) (r : Nat) (a b c : Value) : ∀ q, q ≠ r → (((w.setCell ⟨r, 0, none⟩ a).setCell ⟨r, 1, none⟩ b).setCell ⟨r, 2, none⟩ c).heap[q]? = w.heap[q]? := fun q hq => by
  rw [Below.heap_setCell _ _ _ _ (by exact hq), Below.heap_setCell _ _ _ _ (by exact hq), Below.heap_setCell _ _ _ _ (by exact hq)]
theorem set3_size (w : World) (r : Nat) (a b c : Value) : (((w.setCell ⟨r, 0, none⟩ a).setCell ⟨r, 1, none⟩ b).setCell ⟨r, 2, none⟩ c).heap.size = w.heap.size := by simp [World.setCell]
/-- an answer that was laid into the result's variable, block r -/
theorem AnsK.fin {wb r : Nat} {fv : Value} {C : Nat → Prop} {St : World → Prop} {L L' : Int} {lg lg' : Bool} {x y : Tm} {w w4 : World} {k n : Int} {ao : Option Addr} {m c : Nat} {v0 v1 v2 : Value}
    (hkeep : ∀ w w', St w → (∀ k, C k → w'.heap[k]? = w.heap[k]?) → St w') (hC : ∀ q, C q → q < w.heap.size) (hB : Bx (some wb) w.heap.size w w4) (hr : w.heap.size ≤ r) (hwb : wb < w.heap.size) (hS : St w4) (hW : WBox wb fv L' lg' w4)
    (hR : Rd (fun q => Fr w w4 q ∧ q ≠ r) w4 (.agg #[.int .i64 k, .int .i64 n, .slice ao m c]) y) (hO : OkS L lg x y L' lg') :
    AnsK wb fv St L lg x w (.returned (.agg #[.int .i64 k, .int .i64 n, .slice ao m c])) (((w4.setCell ⟨r, 0, none⟩ v0).setCell ⟨r, 1, none⟩ v1).setCell ⟨r, 2, none⟩ v2) := by
  have hoff := set3_off w4 r v0 v1 v2
  have hsz := set3_size w4 r v0 v1 v2
  refine ⟨k, n, ao, m, c, y, L', lg', rfl, ?_, hR.keep (fun q hq => ⟨hq.1.1, by rw [hsz]; exact hq.1.2⟩) fun q hq => hoff q hq.2, hkeep _ _ hS fun q hq => hoff q (by have := hC q hq; omega), hW.keep (hoff _ (by omega)), hO⟩
  exact ((hB.setCell (.inl (by simpa using hr)) _).setCell (.inl (by simpa using hr)) _).setCell (.inl (by simpa using hr)) _

set_option maxRecDepth 100000 in
set_option maxHeartbeats 4000000 in
theorem raised_w {wb : Nat} {fv : Value} {C : Nat → Prop} {St : World → Prop} (hkeep : ∀ w w', St w → (∀ k, C k → w'.heap[k]? = w.heap[k]?) → St w') (hoff : ∀ q, C q → q ≠ wb)
    (va : Value) (a : Tm) (by' L : Int) (w : World) (hC : ∀ q, C q → q < w.heap.size) (hr : Rd (fun q => q < w.heap.size ∧ q ≠ wb) w va a) (hs : Shp a = true) (hb : 0 ≤ by' ∧ by' ≤ 1048576) (hL : 0 ≤ L ∧ L ≤ 8192) (hW : WBox wb fv L false w) (hS : St w) :
    Calls Try.prog 90 #[.pointer (some ⟨wb, 0, none⟩), va, .int .i64 by'] w (AnsK wb fv St L false (raise a by') w) := by
  obtain ⟨ao, cap, rfl⟩ := hr.shape
  obtain ⟨W, hWd⟩ : ∃ W, W = ((w.alloc (.cells #[.int .i64 a.kind, .int .i64 a.num, .slice ao a.sub.length cap] 24)).alloc (.cells #[.int .i64 0, .int .i64 0, .slice none 0 0] 24)) := ⟨_, rfl⟩
  have hbel : Below w.heap.size w W := by rw [hWd]; exact ((Below.refl _ _).alloc (Nat.le_refl _) _).alloc (by simp) _
  have hsz : W.heap.size = w.heap.size + 2 := by rw [hWd]; simp
  have Q : W.heap[w.heap.size]? = some (.cells #[.int .i64 a.kind, .int .i64 a.num, .slice ao a.sub.length cap] 24) := by rw [hWd]; exact (Below.heap_alloc _ _ _ (by simp)).trans (heap_new _ _ _ rfl)
  have Z : W.heap[w.heap.size + 1]? = some (.cells #[.int .i64 0, .int .i64 0, .slice none 0 0] 24) := by rw [hWd]; exact heap_new _ _ _ (by simp)
  have hwbl := hW.cells.2.2.2.2
  have hWW : WBox wb fv L false W := hW.keep (hbel.block _ hwbl)
  have hSW : St W := hkeep _ _ hS fun q hq => hbel.block q (hC q hq)
  have T : Rd (fun q => q < w.heap.size ∧ q ≠ wb) W (.agg #[.int .i64 a.kind, .int .i64 a.num, .slice ao a.sub.length cap]) a := hr.keep (fun _ h => h) fun q hq => hbel.block q hq.1
  have SZ := sz_of hs
  have HCO := Lib.hid hC
  have HOFF := Lib.hid hoff
  have HKEEP := Lib.hid hkeep
  have HBEL := Lib.hid hbel
  have HSZ := Lib.hid hsz
  have HQ := Lib.hid Q
  have HZ := Lib.hid Z
  have HWB := Lib.hid hWW
  have HS := Lib.hid hSW
  have HT := Lib.hid T
  have HWD := Lib.hid hWd
  have HSH := Lib.hid hs
  have HLT := Lib.hid hwbl
  have hn1 : 1 ≤ nsz a := nsz_pos a
  have hn2 : nsz a ≤ 8192 := ((Shp_iff a).mp hs).1
  clear hC hoff hkeep hbel hsz Q Z hWW hSW T hWd hs hwbl hr hW hS
  go_enter Try.func90, Try.ntmps90
  go_wp2_with fail
  rw [← HWD.out]
  obtain ⟨g0, g1, g2, gf, gl⟩ := HWB.out.cells
  obtain ⟨q0, q1, q2, -, ql⟩ := three HQ.out
  have g0d : W.drew.cell? ⟨wb, 0, none⟩ = some (.int .i64 L) := g0
  have hT0 : Rd (· < W.drew.heap.size) W.drew (.agg #[.int .i64 a.kind, .int .i64 a.num, .slice ao a.sub.length cap]) a := HT.out.keep (w' := W.drew) (fun q hq => by have := HSZ.out; show q < W.heap.size; omega) fun _ _ => rfl
  have HSIZE := Lib.hid (size_r hT0)
  clear hT0
  refine wp_region_order [(0, true), (1, true), (2, true), (3, true), (4, true), (5, false), (6, true), (7, true), (8, true), (9, false)]
    (fun w' => w'.cell? ⟨wb, 0, none⟩ = some (.int .i64 L) ∧ (w'.cell? ⟨w.heap.size, 0, none⟩ = some (.int .i64 a.kind) ∧ w'.cell? ⟨w.heap.size, 1, none⟩ = some (.int .i64 a.num) ∧ w'.cell? ⟨w.heap.size, 2, none⟩ = some (.slice ao a.sub.length cap)))
    (by kernel_rfl) (by kernel_rfl) ⟨g0, q0, q1, q2⟩ (fun hHeld => ?_)
  clear g0 q0 q1 q2
  simp only [pickT, List.getElem?_cons_zero, List.getElem?_cons_succ, Option.getD_some]
  repeat (refine wpT_take (v := ?_) (by rfl) (fun w' hSw => ?_) ?_; rotate_left; (go_simp; with_reducible rfl); simp only [Act.put, List.setIfInBounds_toArray, List.set_cons_zero, List.set_cons_succ])
  refine wpT_do (fun K hK => ?_)
  go_simp
  go_at_call 118
  refine HSIZE.out.mono ?_
  rintro e w1 ⟨rfl, hb1⟩
  have hbD : Below W.heap.size W w1 := (below_drewN (Below.refl _ _) 1).trans hb1
  have HB1 := Lib.hid hbD
  have HW1 := Lib.hid (HWB.out.keep (hbD.block _ gl))
  have HQ1 := Lib.hid ((hbD.block _ ql).trans HQ.out)
  have HZ1 := Lib.hid ((hbD.block _ (by have := HSZ.out; omega)).trans HZ.out)
  have HS1 := Lib.hid (HKEEP.out _ w1 HS.out fun q hq => hbD.block q (by have := HCO.out q hq; have := HSZ.out; omega))
  clear hb1 hbD gf
  obtain ⟨g0, g1, g2, gf, gl1⟩ := HW1.out.cells
  obtain ⟨q0, q1, q2, -, ql1⟩ := three HQ1.out
  rw [SZ]
  clear SZ g0d hHeld
  refine hK.out _ _ ⟨g0, q0, q1, q2⟩ (fun hHeld => ?_)
  clear hK K
  have hwr : IntKind.i64.wrap (L - (nsz a : Nat)) = L - (nsz a : Nat) := IntWalk.i64_in _ (by omega)
  repeat (refine wpT_take (v := ?_) (by rfl) (fun w' hSw => ?_) ?_; rotate_left; (go_simp; with_reducible rfl); simp only [Act.put, List.setIfInBounds_toArray, List.set_cons_zero, List.set_cons_succ])
  clear hwr
  have gf0 := gf 0
  refine wpT_last (fun K hK => ?_)
  go_simp
  refine hK.out _ _ ?_
  clear hK K hHeld
  have HW2 := Lib.hid (HW1.out.set0 (L' := L - (nsz a : Nat)))
  have hS2 : Bx (some wb) W.heap.size W (w1.setCell ⟨wb, 0, none⟩ (.int .i64 (L - (nsz a : Nat)))) := (Bx.of HB1.out).setCell (p := ⟨wb, 0, none⟩) (.inr rfl) _
  have hk2 : ∀ q, q ≠ wb → (w1.setCell ⟨wb, 0, none⟩ (.int .i64 (L - (nsz a : Nat)))).heap[q]? = w1.heap[q]? := fun q hq => Below.heap_setCell _ _ _ _ hq
  have HB2 := Lib.hid hS2
  have HQ2 := Lib.hid ((hk2 _ (by have := HLT.out; omega)).trans HQ1.out)
  have HZ2 := Lib.hid ((hk2 _ (by have := HLT.out; omega)).trans HZ1.out)
  have HS2 := Lib.hid (HKEEP.out _ _ HS1.out fun q hq => hk2 q (HOFF.out q hq))
  clear hS2 hk2 g0 g1 g2 gf gf0 q0 q1 q2 HB1 HW1 HQ1 HZ1 HS1 HWB HQ HZ HS
  generalize w1.setCell ⟨wb, 0, none⟩ (.int .i64 (L - (nsz a : Nat))) = w2 at HW2 HB2 HQ2 HZ2 HS2 ⊢
  have hbw2 : Bx (some wb) w.heap.size w w2 := (Bx.of HBEL.out).trans (HB2.out.mono (by have := HSZ.out; omega))
  have hsz2 : w.heap.size + 2 ≤ w2.heap.size := by have := HB2.out.size; have := HSZ.out; omega
  have HBW2 := Lib.hid hbw2
  clear hbw2
  obtain ⟨g0, g1, g2, gf, gl2⟩ := HW2.out.cells
  have gf1 := gf 1
  by_cases hlt : L - (nsz a : Nat) < 0
  · go_wp2_with fail
    have HW3 := Lib.hid (HW2.out.set1 (lg' := true))
    have hk3 : ∀ q, q ≠ wb → (w2.setCell ⟨wb, 1, none⟩ (.bool true)).heap[q]? = w2.heap[q]? := fun q hq => Below.heap_setCell _ _ _ _ hq
    have HB3 := Lib.hid (HBW2.out.setCell (p := ⟨wb, 1, none⟩) (.inr rfl) (.bool true))
    have HZ3 := Lib.hid ((hk3 _ (by have := HLT.out; omega)).trans HZ2.out)
    have HS3 := Lib.hid (HKEEP.out _ _ HS2.out fun q hq => hk3 q (HOFF.out q hq))
    have hsz3 : w.heap.size + 2 ≤ (w2.setCell ⟨wb, 1, none⟩ (.bool true)).heap.size := by simpa [World.setCell] using hsz2
    clear g0 g1 g2 gf gf1 hk3
    generalize w2.setCell ⟨wb, 1, none⟩ (.bool true) = w3 at HW3 HB3 HZ3 HS3 hsz3 ⊢
    refine (Sort_w _ _).mono ?_
    rintro e w4 ⟨rfl, hb4⟩
    have HW4 := Lib.hid (HW3.out.keep (hb4.block _ HW3.out.cells.2.2.2.2))
    have HS4 := Lib.hid (HKEEP.out _ w4 HS3.out fun q hq => hb4.block q (by have := HCO.out q hq; omega))
    have HB4 := Lib.hid (HB3.out.trans (Bx.of (hb4.mono (by omega))))
    obtain ⟨z0, z1, z2, zf, zl⟩ := three ((hb4.block _ (by omega)).trans HZ3.out)
    clear hb4
    go_wp2_with fail
    exact bodyPost_ret (v := .agg #[.int .i64 2, .int .i64 0, .slice none 0 0]) (by simp [results, Try.results90, go_sem, z0, z1, z2]) rfl (AnsK.fin HKEEP.out HCO.out HB4.out (Nat.le_succ _) HLT.out HS4.out HW4.out (Rd.leaf _ _ _ _ _ _ (Nat.zero_le _) (by omega) (by omega))
      ⟨fun h => (by cases h), fun _ => ⟨.inr (fun h => by have := h.2; rw [raise_size HSH.out] at this; omega), by omega, by omega⟩⟩)
  · rcases raise_lift HSH.out hb with ⟨hg, hl⟩ | ⟨hg, hl⟩
    all_goals (
      have HL := Lib.hid hl
      clear hl
      obtain ⟨q0, q1, q2, -, ql2⟩ := three HQ2.out
      have HT2 := Lib.hid (HT.out.keep (w' := w2) (P' := (· < w2.heap.size)) (fun q hq => by omega) fun q hq => HB2.out.block q (by have := HSZ.out; omega) (by intro e; injection e with e; exact hq.2 e))
      go_wp2_with fail
      refine (Up_q HL.out HT2.out).mono ?_
      rintro e w4 ⟨k4, n4, ao4, m4, c4, rfl, hb4, hr4⟩
      have HW4 := Lib.hid (HW2.out.keep (hb4.block _ gl2))
      have HS4 := Lib.hid (HKEEP.out _ w4 HS2.out fun q hq => hb4.block q (by have := HCO.out q hq; omega))
      have HB4 := Lib.hid (HBW2.out.trans (Bx.of (hb4.mono (by omega))))
      have HZ4 := Lib.hid ((hb4.block _ (by omega)).trans HZ2.out)
      have HR4 := Lib.hid (hr4.keep (P' := fun q => w.heap.size + 2 ≤ q ∧ q < w4.heap.size) (fun q hq => ⟨by have := hq.1; omega, hq.2⟩) fun _ _ => rfl)
      have hsz4 : w.heap.size + 2 ≤ w4.heap.size := by have := hb4.size; omega
      clear g0 g1 g2 gf gf1 hb4 hr4 q0 q1 q2
      obtain ⟨W5, hW5⟩ : ∃ W5, W5 = w4.alloc (.cells #[.int .i64 k4, .int .i64 n4, .slice ao4 m4 c4] 24) := ⟨_, rfl⟩
      have hb5 : Below w4.heap.size w4 W5 := by rw [hW5]; exact alloc_bel _ _
      have HW5 := Lib.hid (HW4.out.keep (hb5.block _ HW4.out.cells.2.2.2.2))
      have HS5 := Lib.hid (HKEEP.out _ W5 HS4.out fun q hq => hb5.block q (by have := HCO.out q hq; omega))
      have HB5 := Lib.hid (HB4.out.trans (Bx.of (hb5.mono (by omega))))
      have HZ5 := Lib.hid ((hb5.block _ (by omega)).trans HZ4.out)
      have HR5 := Lib.hid (HR4.out.keep (w' := W5) (P' := fun q => Fr w W5 q ∧ q ≠ w.heap.size + 1) (fun q hq => ⟨⟨by omega, Nat.lt_of_lt_of_le hq.2 hb5.size⟩, by omega⟩) fun q hq => hb5.block q hq.2)
      have hsz5 : w.heap.size + 2 ≤ W5.heap.size := by have := hb5.size; omega
      have HWD5 := Lib.hid hW5
      have HX5 := Lib.hid (show W5.heap[w4.heap.size]? = some (.cells #[.int .i64 k4, .int .i64 n4, .slice ao4 m4 c4] 24) by rw [hW5]; exact heap_new _ _ _ rfl)
      clear hb5 HWD5
      subst hW5
      obtain ⟨z0, z1, z2, zf, zl⟩ := three HZ5.out
      obtain ⟨x0, x1, x2, xf, xl⟩ := three HX5.out
      obtain ⟨g0, g1, g2, gf, gl5⟩ := HW5.out.cells
      have gf1 := gf 1)
    · go_wp2_with fail
      exact bodyPost_ret (v := .agg #[.int .i64 k4, .int .i64 n4, .slice ao4 m4 c4]) (by simp [results, Try.results90, go_sem, z0, z1, z2]) rfl (AnsK.fin HKEEP.out HCO.out HB5.out (Nat.le_succ _) HLT.out HS5.out HW5.out HR5.out
        ⟨fun _ => ⟨rfl, rfl, by omega, by omega, by rw [raise_size HSH.out]; omega⟩, fun h => (by cases h)⟩)
    · go_wp2_with fail
      have HW6 := Lib.hid (HW5.out.set1 (lg' := true))
      have hk6 : ∀ q, q ≠ wb → ((w4.alloc (.cells #[.int .i64 k4, .int .i64 n4, .slice ao4 m4 c4] 24)).setCell ⟨wb, 1, none⟩ (.bool true)).heap[q]? = (w4.alloc (.cells #[.int .i64 k4, .int .i64 n4, .slice ao4 m4 c4] 24)).heap[q]? := fun q hq => Below.heap_setCell _ _ _ _ hq
      have HB6 := Lib.hid (HB5.out.setCell (p := ⟨wb, 1, none⟩) (.inr rfl) (.bool true))
      have HZ6 := Lib.hid ((hk6 _ (by have := HLT.out; omega)).trans HZ5.out)
      have HS6 := Lib.hid (HKEEP.out _ _ HS5.out fun q hq => hk6 q (HOFF.out q hq))
      have hsz6 : w.heap.size + 2 ≤ ((w4.alloc (.cells #[.int .i64 k4, .int .i64 n4, .slice ao4 m4 c4] 24)).setCell ⟨wb, 1, none⟩ (.bool true)).heap.size := by simpa [World.setCell] using hsz5
      clear g0 g1 g2 gf gf1 hk6 z0 z1 z2 zf x0 x1 x2 xf
      generalize (w4.alloc (.cells #[.int .i64 k4, .int .i64 n4, .slice ao4 m4 c4] 24)).setCell ⟨wb, 1, none⟩ (.bool true) = w6 at HW6 HB6 HZ6 HS6 hsz6 ⊢
      refine (Sort_w _ _).mono ?_
      rintro e w7 ⟨rfl, hb7⟩
      have HW7 := Lib.hid (HW6.out.keep (hb7.block _ HW6.out.cells.2.2.2.2))
      have HS7 := Lib.hid (HKEEP.out _ w7 HS6.out fun q hq => hb7.block q (by have := HCO.out q hq; omega))
      have HB7 := Lib.hid (HB6.out.trans (Bx.of (hb7.mono (by omega))))
      obtain ⟨z0, z1, z2, zf, zl⟩ := three ((hb7.block _ (by omega)).trans HZ6.out)
      clear hb7
      go_wp2_with fail
      exact bodyPost_ret (v := .agg #[.int .i64 2, .int .i64 0, .slice none 0 0]) (by simp [results, Try.results90, go_sem, z0, z1, z2]) rfl (AnsK.fin HKEEP.out HCO.out HB7.out (Nat.le_succ _) HLT.out HS7.out HW7.out (Rd.leaf _ _ _ _ _ _ (Nat.zero_le _) (by omega) (by omega))
        ⟨fun h => (by cases h), fun _ => ⟨.inr (fun h => by rw [hg] at h; cases h.1), by omega, by omega⟩⟩)
end Go.Proofs.Ythjlfjaciigfiaa
