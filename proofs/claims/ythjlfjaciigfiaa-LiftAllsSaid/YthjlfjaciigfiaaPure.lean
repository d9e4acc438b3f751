/-
  Good terms by their seven forms; moving loose variables: how great, how deep, how good what comes is; by 0, twice, and back. Plain; no program.
-/
import Derived.Test.YthjlfjaciigfiaaLift
namespace Go.Proofs.Ythjlfjaciigfiaa
open Go.RowKit
set_option linter.unusedVariables false
set_option linter.unusedSimpArgs false

theorem gd_rec {C : Tm → Prop} (leaf : ∀ k n, (k = 1 ∨ k = 2 ∨ k = 6 ∨ k = 8) → gd (.node k n []) = true → C (.node k n [])) (bin : ∀ k a b, (k = 3 ∨ k = 4 ∨ k = 5) → gd a = true → gd b = true → C a → C b → C (.node k 0 [a, b]))
    (elim : ∀ n m, gd (.node 7 n [.node 2 m []]) = true → gd (.node 2 m []) = true → C (.node 7 n [.node 2 m []])) : ∀ t, gd t = true → C t := by
  intro t
  refine Tm.ind (C := fun t => gd t = true → C t) (fun k n l ih => ?_) t
  intro hg
  have hg0 := hg
  simp only [gd, Bool.and_eq_true] at hg
  obtain ⟨h1, h2, h3, h4, h5, h6⟩ := (hd_iff k n l).mp hg.1
  have hk : k = 1 ∨ k = 2 ∨ k = 3 ∨ k = 4 ∨ k = 5 ∨ k = 6 ∨ k = 7 ∨ k = 8 := by omega
  have l0 : ∀ (q : subsOf k = 0), l = [] := fun q => List.eq_nil_of_length_eq_zero (by omega)
  have l2 : ∀ (q : subsOf k = 2) (q2 : mostOf k = 0), (k = 3 ∨ k = 4 ∨ k = 5) → C (.node k n l) := fun q q2 q3 => by
    match l, (show l.length = 2 by omega) with
    | [a, b], _ =>
      have hn : n = 0 := by omega
      subst hn
      simp only [gdL, Bool.and_eq_true] at hg
      exact bin k a b q3 hg.2.1 hg.2.2.1 (ih a (by simp) hg.2.1) (ih b (by simp) hg.2.2.1)
  rcases hk with rfl | rfl | rfl | rfl | rfl | rfl | rfl | rfl
  · obtain rfl := l0 (by decide); exact leaf _ _ (by simp) hg0
  · obtain rfl := l0 (by decide); exact leaf _ _ (by simp) hg0
  · exact l2 (by decide) (by decide) (by simp)
  · exact l2 (by decide) (by decide) (by simp)
  · exact l2 (by decide) (by decide) (by simp)
  · obtain rfl := l0 (by decide); exact leaf _ _ (by simp) hg0
  · have q : subsOf 7 = 1 := by decide
    match l, (show l.length = 1 by omega) with
    | [.node k2 m l2], _ =>
      have e := h6 rfl
      simp only [List.getElem?_cons_zero, Option.map_some, Tm.kind, Option.some.injEq] at e
      subst e
      simp only [gdL, Bool.and_eq_true] at hg
      have hs := hg.2.1
      have hs0 := hs
      simp only [gd, Bool.and_eq_true] at hs
      obtain ⟨-, -, r3, -⟩ := (hd_iff 2 m l2).mp hs.1
      have q2 : subsOf 2 = 0 := by decide
      obtain rfl := List.eq_nil_of_length_eq_zero (show l2.length = 0 by omega)
      exact elim n m hg0 hs0
  · obtain rfl := l0 (by decide); exact leaf _ _ (by simp) hg0

theorem bn0 (k : Int) : bn k 0 = 0 := by unfold bn; rw [if_neg (by omega)]
theorem mp_bin (F : Int → Int → Int → Option Tm) (k : Int) (a b : Tm) (c : Int) (h : F k 0 c = none) : mp F (.node k 0 [a, b]) c = .node k 0 [mp F a c, mp F b (c + bn k 1)] := by
  simp only [mp, h, mpL, bn0, Int.add_zero, Nat.zero_add]
theorem mp_leaf (F : Int → Int → Int → Option Tm) (k n : Int) (c : Int) : mp F (.node k n []) c = (F k n c).getD (.node k n []) := by
  simp only [mp, mpL]; cases F k n c <;> rfl
theorem mp_elim (F : Int → Int → Int → Option Tm) (n m c : Int) (h : F 7 n c = none) : mp F (.node 7 n [.node 2 m []]) c = .node 7 n [(F 2 m c).getD (.node 2 m [])] := by
  have := mp_leaf F 2 m c
  simp only [mp, h, mpL, bn0, Int.add_zero] at this ⊢
  rw [this]

theorem gd_leaf_iff (k n : Int) (hk : k = 1 ∨ k = 2 ∨ k = 6 ∨ k = 8) : gd (.node k n []) = true ↔ 0 ≤ n ∧ n ≤ mostOf k := by
  simp only [gd, gdL, Bool.and_true, hd_iff, List.length_nil]
  rcases hk with rfl | rfl | rfl | rfl <;> simp [subsOf, mostOf]
theorem gd_bin_iff (k : Int) (a b : Tm) (hk : k = 3 ∨ k = 4 ∨ k = 5) : gd (.node k 0 [a, b]) = true ↔ gd a = true ∧ gd b = true := by
  simp only [gd, gdL, Bool.and_true, Bool.and_eq_true, hd_iff, List.length_cons, List.length_nil]
  rcases hk with rfl | rfl | rfl <;> simp [subsOf, mostOf]
theorem gd_elim_iff (n m : Int) : gd (.node 7 n [.node 2 m []]) = true ↔ 0 ≤ n ∧ n ≤ 1048576 ∧ 0 ≤ m ∧ m ≤ 7 := by
  simp only [gd, gdL, Bool.and_true, Bool.and_eq_true, hd_iff, List.length_cons, List.length_nil]
  simp [subsOf, mostOf, Tm.kind, and_assoc]

theorem Fmv_1 (k n c : Int) : Fmv k 1 n c = some (if n < c then .node 1 n [] else .node 1 (n + k) []) := by simp [Fmv]
theorem Fmv_no (k k' n c : Int) (h : k' ≠ 1) : Fmv k k' n c = none := by simp [Fmv, h]

/-- size and depth stay -/
theorem mv_size (k : Int) (t : Tm) (hg : gd t = true) : ∀ c, nsz (mp (Fmv k) t c) = nsz t ∧ dep (mp (Fmv k) t c) = dep t := by
  refine gd_rec (C := fun t => ∀ c, nsz (mp (Fmv k) t c) = nsz t ∧ dep (mp (Fmv k) t c) = dep t) ?_ ?_ ?_ t hg
  · intro k' n hk _ c
    rw [mp_leaf]
    by_cases h : k' = 1
    · subst h; rw [Fmv_1]; simp only [Option.getD_some]; split <;> exact ⟨rfl, rfl⟩
    · rw [Fmv_no _ _ _ _ h]; exact ⟨rfl, rfl⟩
  · intro k' a b hk _ _ ha hb c
    rw [mp_bin _ _ _ _ _ (Fmv_no _ _ _ _ (by omega))]
    simp only [nsz, nszL, dep, depL, (ha c).1, (ha c).2, (hb _).1, (hb _).2]
    exact ⟨trivial, trivial⟩
  · intro n m _ _ c
    rw [mp_elim _ _ _ _ (Fmv_no _ _ _ _ (by omega)), Fmv_no _ _ _ _ (by omega)]
    exact ⟨rfl, rfl⟩
/-- what is moved by more is good only where what is moved by less is -/
theorem mv_mono (k k' : Int) (hk : 0 ≤ k) (hkk : k ≤ k') (t : Tm) (hg : gd t = true) : ∀ c, gd (mp (Fmv k') t c) = true → gd (mp (Fmv k) t c) = true := by
  refine gd_rec (C := fun t => ∀ c, gd (mp (Fmv k') t c) = true → gd (mp (Fmv k) t c) = true) ?_ ?_ ?_ t hg
  · intro q n hq hg c
    rw [mp_leaf, mp_leaf]
    by_cases h : q = 1
    · subst h
      rw [Fmv_1, Fmv_1]
      simp only [Option.getD_some]
      by_cases h2 : n < c
      · simp only [h2, ↓reduceIte]; exact id
      · simp only [h2, ↓reduceIte]
        rw [gd_leaf_iff 1 _ (by simp)] at hg
        rw [gd_leaf_iff 1 _ (by simp), gd_leaf_iff 1 _ (by simp)]
        omega
    · rw [Fmv_no _ _ _ _ h, Fmv_no _ _ _ _ h]; exact id
  · intro q a b hq _ _ ha hb c
    have h := show q ≠ 1 by omega
    rw [mp_bin _ _ _ _ _ (Fmv_no _ _ _ _ h), mp_bin _ _ _ _ _ (Fmv_no _ _ _ _ h), gd_bin_iff _ _ _ hq, gd_bin_iff _ _ _ hq]
    exact fun ⟨h1, h2⟩ => ⟨ha _ h1, hb _ h2⟩
  · intro n m _ _ c
    rw [mp_elim _ _ _ _ (Fmv_no _ _ _ _ (by omega)), mp_elim _ _ _ _ (Fmv_no _ _ _ _ (by omega)), Fmv_no _ _ _ _ (by omega), Fmv_no _ _ _ _ (by omega)]
    exact id
/-- lifting what is a term -/
theorem liftR_of {t : Tm} {k n : Int} (hs : Shp t = true) (hk : fit k = true) (hn : fit n = true) : liftR t k n = if gd (mp (Fmv k) t n) = true then (mp (Fmv k) t n, 0) else (tm0, 2) := by
  obtain ⟨h1, h2, h3⟩ := (Shp_iff t).mp hs
  obtain ⟨q1, q2⟩ := mv_size k t h3 n
  have : Shp (mp (Fmv k) t n) = true ↔ gd (mp (Fmv k) t n) = true := by rw [Shp_iff, q1, q2]; exact ⟨fun h => h.2.2, fun h => ⟨h1, h2, h⟩⟩
  unfold liftR
  rw [if_pos ⟨hs, hk, hn⟩]
  by_cases h : gd (mp (Fmv k) t n) = true
  · rw [if_pos (this.mpr h), if_pos h]
  · rw [if_neg (fun q => h (this.mp q)), if_neg h]
theorem mv_shaped {t : Tm} {k n : Int} (hs : Shp t = true) (h : gd (mp (Fmv k) t n) = true) : Shp (mp (Fmv k) t n) = true := by
  obtain ⟨h1, h2, h3⟩ := (Shp_iff t).mp hs
  obtain ⟨q1, q2⟩ := mv_size k t h3 n
  rw [Shp_iff, q1, q2]; exact ⟨h1, h2, h⟩
theorem tm0_not : Shp tm0 = false := by rfl
theorem liftR_tm0 (k n : Int) : liftR tm0 k n = (tm0, 5) := by unfold liftR; rw [tm0_not]; simp
/-- by 0 -/
theorem mv_zero (t : Tm) (hg : gd t = true) : ∀ c, mp (Fmv 0) t c = t := by
  refine gd_rec (C := fun t => ∀ c, mp (Fmv 0) t c = t) ?_ ?_ ?_ t hg
  · intro k' n hk _ c
    rw [mp_leaf]
    by_cases h : k' = 1
    · subst h; rw [Fmv_1]; simp only [Option.getD_some, Int.add_zero, ite_self]
    · rw [Fmv_no _ _ _ _ h]; rfl
  · intro k' a b hk _ _ ha hb c
    rw [mp_bin _ _ _ _ _ (Fmv_no _ _ _ _ (by omega)), ha, hb]
  · intro n m _ _ c
    rw [mp_elim _ _ _ _ (Fmv_no _ _ _ _ (by omega)), Fmv_no _ _ _ _ (by omega)]; rfl
/-- twice -/
theorem mv_add (k m : Int) (hk : 0 ≤ k) (t : Tm) (hg : gd t = true) : ∀ c, mp (Fmv m) (mp (Fmv k) t c) c = mp (Fmv (k + m)) t c := by
  refine gd_rec (C := fun t => ∀ c, mp (Fmv m) (mp (Fmv k) t c) c = mp (Fmv (k + m)) t c) ?_ ?_ ?_ t hg
  · intro k' n hk' _ c
    rw [mp_leaf, mp_leaf]
    by_cases h : k' = 1
    · subst h
      rw [Fmv_1, Fmv_1]
      simp only [Option.getD_some]
      by_cases h2 : n < c
      · simp only [h2, ↓reduceIte]; rw [mp_leaf, Fmv_1]; simp only [Option.getD_some, h2, ↓reduceIte]
      · simp only [h2, ↓reduceIte]; rw [mp_leaf, Fmv_1]; simp only [Option.getD_some, show ¬ (n + k < c) by omega, ↓reduceIte, Int.add_assoc]
    · rw [Fmv_no _ _ _ _ h, Fmv_no _ _ _ _ h]; simp only [Option.getD_none]; rw [mp_leaf, Fmv_no _ _ _ _ h]; rfl
  · intro k' a b hk' _ _ ha hb c
    have h := show k' ≠ 1 by omega
    rw [mp_bin _ _ _ _ _ (Fmv_no _ _ _ _ h), mp_bin _ _ _ _ _ (Fmv_no _ _ _ _ h), mp_bin _ _ _ _ _ (Fmv_no _ _ _ _ h), ha, hb]
  · intro n m' _ _ c
    rw [mp_elim _ _ _ _ (Fmv_no _ _ _ _ (by omega)), mp_elim _ _ _ _ (Fmv_no _ _ _ _ (by omega)), Fmv_no _ _ _ _ (by omega), Fmv_no _ _ _ _ (by omega)]
    simp only [Option.getD_none]
    rw [mp_elim _ _ _ _ (Fmv_no _ _ _ _ (by omega)), Fmv_no _ _ _ _ (by omega)]; rfl

/-- LiftAdds: what the calls answer -/
theorem adds_cases {t : Tm} {k m : Int} (hs : Shp t = true) (hk : 0 ≤ k ∧ k ≤ 255) (hm : 0 ≤ m ∧ m ≤ 255) :
    liftR t 0 1 = (t, 0) ∧ ((liftR t k 1 = (tm0, 2) ∧ liftR tm0 m 1 = (tm0, 5) ∧ liftR t (k + m) 1 = (tm0, 2)) ∨
      ∃ a, liftR t k 1 = (a, 0) ∧ ((liftR a m 1 = (tm0, 2) ∧ liftR t (k + m) 1 = (tm0, 2)) ∨ ∃ b, liftR a m 1 = (b, 0) ∧ liftR t (k + m) 1 = (b, 0) ∧ nsz b = nsz t ∧ depth b = depth t)) := by
  have hg := ((Shp_iff t).mp hs).2.2
  have f1 : fit 1 = true := by decide
  have fk : fit k = true := (fit_iff k).mpr ⟨by omega, by omega⟩
  have fm : fit m = true := (fit_iff m).mpr ⟨by omega, by omega⟩
  have fkm : fit (k + m) = true := (fit_iff _).mpr ⟨by omega, by omega⟩
  refine ⟨by rw [liftR_of hs (by decide) f1, mv_zero t hg, if_pos hg], ?_⟩
  by_cases h1 : gd (mp (Fmv k) t 1) = true
  · right
    have hsa := mv_shaped hs h1
    refine ⟨mp (Fmv k) t 1, by rw [liftR_of hs fk f1, if_pos h1], ?_⟩
    have e1 : liftR (mp (Fmv k) t 1) m 1 = if gd (mp (Fmv (k + m)) t 1) = true then (mp (Fmv (k + m)) t 1, 0) else (tm0, 2) := by rw [liftR_of hsa fm f1, mv_add k m hk.1 t hg]
    have e2 := liftR_of hs fkm f1
    by_cases h2 : gd (mp (Fmv (k + m)) t 1) = true
    · right
      rw [if_pos h2] at e1 e2
      have h3 := mv_shaped hs h2
      obtain ⟨q1, q2⟩ := mv_size (k + m) t hg 1
      exact ⟨_, e1, e2, q1, by rw [depth_min _ (by rw [q1]; exact ((Shp_iff t).mp hs).1), depth_min _ ((Shp_iff t).mp hs).1, q2]⟩
    · left
      rw [if_neg h2] at e1 e2
      exact ⟨e1, e2⟩
  · left
    refine ⟨by rw [liftR_of hs fk f1, if_neg h1], liftR_tm0 m 1, ?_⟩
    rw [liftR_of hs fkm f1, if_neg (fun h => h1 (mv_mono k (k + m) hk.1 (by omega) t hg 1 h))]
end Go.Proofs.Ythjlfjaciigfiaa
