/-
  A term whose leaves are replaced, beneath so many binders: the plain function of all such walks. How deep a term truly is. Plain; no program.
-/
import Derived.Test.YthjlfjaciigfiaaSmall
namespace Go.Proofs.Ythjlfjaciigfiaa
open Go.RowKit
set_option linter.unusedVariables false
set_option linter.unusedSimpArgs false

mutual
/-- F: what stands for a node of a kind and a number, beneath so many binders; none: its subs are gone over -/
def mp (F : Int → Int → Int → Option Tm) : Tm → Int → Tm
  | .node k n l, b => match F k n b with
    | some t => t
    | none => .node k n (mpL F k l b 0)
def mpL (F : Int → Int → Int → Option Tm) (k : Int) : List Tm → Int → Nat → List Tm
  | [], _, _ => []
  | t :: l, b, i => mp F t (b + bn k i) :: mpL F k l b (i + 1)
end
theorem mpL_len (F : Int → Int → Int → Option Tm) (k : Int) (b : Int) : ∀ (l : List Tm) (i : Nat), (mpL F k l b i).length = l.length
  | [], _ => by simp [mpL]
  | t :: l, i => by simp only [mpL, List.length_cons]; rw [mpL_len F k b l (i + 1)]
theorem mpL_get (F : Int → Int → Int → Option Tm) (k : Int) (b : Int) : ∀ (l : List Tm) (i j : Nat) (hj : j < l.length), (mpL F k l b i)[j]'(by rw [mpL_len]; exact hj) = mp F l[j] (b + bn k (i + j))
  | [], _, j, hj => absurd hj (Nat.not_lt_zero _)
  | t :: l, i, 0, hj => by simp [mpL]
  | t :: l, i, j + 1, hj => by
    simp only [mpL, List.getElem_cons_succ]
    rw [mpL_get F k b l (i + 1) j (by simpa using hj)]
    congr 3; omega
theorem mpL_take (F : Int → Int → Int → Option Tm) (k : Int) (b : Int) (l : List Tm) (j : Nat) (hj : j < l.length) : (mpL F k l b 0).take (j + 1) = (mpL F k l b 0).take j ++ [mp F l[j] (b + bn k j)] := by
  rw [List.take_succ_eq_append_getElem (by rw [mpL_len]; exact hj), mpL_get F k b l 0 j hj, Nat.zero_add]
theorem mpL_all (F : Int → Int → Int → Option Tm) (k : Int) (b : Int) (l : List Tm) (j : Nat) (hj : ¬ j < l.length) : (mpL F k l b 0).take j = mpL F k l b 0 :=
  List.take_of_length_le (by rw [mpL_len]; omega)

mutual
/-- how deep a term is -/
def dep : Tm → Nat
  | .node _ _ l => 1 + depL l
def depL : List Tm → Nat
  | [] => 0
  | t :: l => max (dep t) (depL l)
end
theorem depL_get : ∀ (l : List Tm) (i : Nat) (hi : i < l.length), dep l[i] ≤ depL l
  | [], i, hi => absurd hi (Nat.not_lt_zero _)
  | t :: l, 0, _ => by simp only [depL, List.getElem_cons_zero]; omega
  | t :: l, i + 1, hi => by
    have := depL_get l i (by simpa using hi)
    simp only [depL, List.getElem_cons_succ]; omega
/-- a reading at the term's own depth -/
theorem RdN.fit {P : Nat → Prop} {w : World} : ∀ (d : Nat) (v : Value) (t : Tm), RdN P w d v t → RdN P w (dep t) v t := by
  intro d
  induction d with
  | zero => intro v t h; exact absurd h (fun h => h)
  | succ d ih =>
    rintro v ⟨k, n, l⟩ ⟨s, h1, h2, h3, ao, cap, hv, hl, hc, he⟩
    have : dep (.node k n l) = depL l + 1 := by simp only [dep]; omega
    rw [this]
    refine ⟨s, h1, h2, h3, ao, cap, hv, hl, hc, fun i hi => ?_⟩
    obtain ⟨b, off, c0, c1, c2, q1, q2, q3, q4, q5, q6⟩ := he i hi
    exact ⟨b, off, c0, c1, c2, q1, q2, q3, q4, q5, RdN.up _ _ _ _ (depL_get l i hi) (ih _ _ q6)⟩
theorem Rd.fit {P : Nat → Prop} {w : World} {v : Value} {t : Tm} (h : Rd P w v t) : RdN P w (dep t) v t := by
  obtain ⟨d, h⟩ := h
  exact h.fit

theorem gd_len {k n : Int} {l : List Tm} (h : gd (.node k n l) = true) : l.length ≤ 2 := by
  simp only [gd, Bool.and_eq_true] at h
  have := ((hd_iff k n l).mp h.1).2.2.1
  unfold subsOf at this
  split at this
  · omega
  · split at this <;> omega
theorem gdL_get : ∀ {l : List Tm}, gdL l = true → ∀ i (hi : i < l.length), gd l[i] = true
  | [], _, i, hi => absurd hi (Nat.not_lt_zero _)
  | t :: l, h, 0, _ => by simp only [gdL, Bool.and_eq_true] at h; exact h.1
  | t :: l, h, i + 1, hi => by simp only [gdL, Bool.and_eq_true] at h; exact gdL_get h.2 i (by simpa using hi)
theorem gd_sub {k n : Int} {l : List Tm} (h : gd (.node k n l) = true) : ∀ i (hi : i < l.length), gd l[i] = true := by
  simp only [gd, Bool.and_eq_true] at h
  exact gdL_get h.2
theorem gd_num {k n : Int} {l : List Tm} (h : gd (.node k n l) = true) : 1 ≤ k ∧ k ≤ 8 ∧ 0 ≤ n ∧ n ≤ 1048576 := by
  simp only [gd, Bool.and_eq_true] at h
  obtain ⟨h1, h2, -, h4, h5, -⟩ := (hd_iff k n l).mp h.1
  unfold mostOf at h5
  split at h5
  · omega
  · split at h5 <;> omega
theorem gd_var {n : Int} {l : List Tm} (h : gd (.node 1 n l) = true) : l = [] := by
  simp only [gd, Bool.and_eq_true] at h
  have := ((hd_iff 1 n l).mp h.1).2.2.1
  have q : subsOf 1 = 0 := by decide
  exact List.eq_nil_of_length_eq_zero (by omega)

theorem gd_free {n : Int} {l : List Tm} (h : gd (.node 8 n l) = true) : l = [] := by
  simp only [gd, Bool.and_eq_true] at h
  have := ((hd_iff 8 n l).mp h.1).2.2.1
  have q : subsOf 8 = 0 := by decide
  exact List.eq_nil_of_length_eq_zero (by omega)
theorem RdN.cap {P : Nat → Prop} {w : World} {d : Nat} {v : Value} {k n : Int} {l : List Tm} (h : RdN P w d v (.node k n l)) : ∀ (ao : Option Addr) (cap : Nat), v = .agg #[.int .i64 k, .int .i64 n, .slice ao l.length cap] → cap ≤ maxLen := by
  intro ao cap hv
  cases d with
  | zero => exact absurd h (fun h => h)
  | succ d =>
    obtain ⟨s, e, -, -, ao', cap', e2, -, hc, -⟩ := h
    rw [e2, hv] at e
    injection e with e; injection e with e; injection e with e3 e; injection e with e4 e; injection e with e e6; injection e with e7 e8 e9; subst e9
    exact hc

/-- a leaf in memory -/
theorem Rd.leaf (P : Nat → Prop) (w : World) (k n : Int) (ao : Option Addr) (cap : Nat) (hc : cap ≤ maxLen) (hk : -9223372036854775808 ≤ k ∧ k ≤ 9223372036854775807) (hn : -9223372036854775808 ≤ n ∧ n ≤ 9223372036854775807) :
    Rd P w (.agg #[.int .i64 k, .int .i64 n, .slice ao 0 cap]) (.node k n []) := Rd.node (SubR.nil P w _ ao cap hc) hk hn

/-- loose variables from the binders on are so many more -/
def Fmv (by' : Int) (k n b : Int) : Option Tm := if k = 1 then some (if n < b then .node 1 n [] else .node 1 (n + by') []) else none
end Go.Proofs.Ythjlfjaciigfiaa
