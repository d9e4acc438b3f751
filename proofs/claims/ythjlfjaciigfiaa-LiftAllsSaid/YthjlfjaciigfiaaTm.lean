/-
  Terms as a plain type, and how one lies in memory. Plain; no program.
-/
import Derived.Test.YthjlfjaciigfiaaMem
namespace Go.Proofs.Ythjlfjaciigfiaa
open Go.RowKit
set_option linter.unusedVariables false
set_option linter.unusedSimpArgs false

inductive Tm where
  | node (k n : Int) (sub : List Tm)

def Tm.kind : Tm → Int | .node k _ _ => k
def Tm.num : Tm → Int | .node _ n _ => n
def Tm.sub : Tm → List Tm | .node _ _ l => l

/-- a slice of terms in memory, each term three cells; the elements by R -/
def SubR (P : Nat → Prop) (w : World) (R : Value → Tm → Prop) (v : Value) (l : List Tm) : Prop :=
  ∃ ao cap, v = .slice ao l.length cap ∧ l.length ≤ cap ∧ cap ≤ maxLen ∧
    ∀ i (h : i < l.length), ∃ b off c0 c1 c2, ao = some ⟨b, off, none⟩ ∧ P b ∧ w.cell? ⟨b, off + i * 3, none⟩ = some c0 ∧ w.cell? ⟨b, off + i * 3 + 1, none⟩ = some c1 ∧ w.cell? ⟨b, off + i * 3 + 2, none⟩ = some c2 ∧ R (.agg #[c0, c1, c2]) l[i]

/-- a term in memory, at most d deep -/
def RdN (P : Nat → Prop) (w : World) : Nat → Value → Tm → Prop
  | 0, _, _ => False
  | d + 1, v, .node k n l => ∃ s, v = .agg #[.int .i64 k, .int .i64 n, s] ∧ (-9223372036854775808 ≤ k ∧ k ≤ 9223372036854775807) ∧ (-9223372036854775808 ≤ n ∧ n ≤ 9223372036854775807) ∧ SubR P w (RdN P w d) s l
def Rd (P : Nat → Prop) (w : World) (v : Value) (t : Tm) : Prop := ∃ d, RdN P w d v t

theorem SubR.mono {P P' : Nat → Prop} {w w' : World} {R R' : Value → Tm → Prop} {v : Value} {l : List Tm} (h : SubR P w R v l) (hP : ∀ b, P b → P' b) (hk : ∀ b, P b → w'.heap[b]? = w.heap[b]?) (hR : ∀ u t, t ∈ l → R u t → R' u t) : SubR P' w' R' v l := by
  obtain ⟨ao, cap, hv, hl, hc, he⟩ := h
  refine ⟨ao, cap, hv, hl, hc, fun i hi => ?_⟩
  obtain ⟨b, off, c0, c1, c2, h1, h2, h3, h4, h5, h6⟩ := he i hi
  exact ⟨b, off, c0, c1, c2, h1, hP b h2, (cell_keep (hk b h2)).trans h3, (cell_keep (hk b h2)).trans h4, (cell_keep (hk b h2)).trans h5, hR _ _ (List.getElem_mem hi) h6⟩

theorem RdN.keep {P P' : Nat → Prop} {w w' : World} (hP : ∀ b, P b → P' b) (hk : ∀ b, P b → w'.heap[b]? = w.heap[b]?) : ∀ (d : Nat) (v : Value) (t : Tm), RdN P w d v t → RdN P' w' d v t := by
  intro d
  induction d with
  | zero => intro v t h; exact h
  | succ d ih =>
    rintro v ⟨k, n, l⟩ ⟨s, h1, h2, h3, h4⟩
    exact ⟨s, h1, h2, h3, h4.mono hP hk fun u t _ h => ih u t h⟩
theorem RdN.up {P : Nat → Prop} {w : World} : ∀ (d e : Nat) (v : Value) (t : Tm), d ≤ e → RdN P w d v t → RdN P w e v t := by
  intro d
  induction d with
  | zero => intro e v t _ h; exact absurd h (fun h => h)
  | succ d ih =>
    rintro e v ⟨k, n, l⟩ hde ⟨s, h1, h2, h3, h4⟩
    obtain ⟨e, rfl⟩ : ∃ e', e = e' + 1 := ⟨e - 1, by omega⟩
    exact ⟨s, h1, h2, h3, h4.mono (fun _ h => h) (fun _ _ => rfl) fun u t _ h => ih e u t (by omega) h⟩
theorem Rd.keep {P P' : Nat → Prop} {w w' : World} {v : Value} {t : Tm} (h : Rd P w v t) (hP : ∀ b, P b → P' b) (hk : ∀ b, P b → w'.heap[b]? = w.heap[b]?) : Rd P' w' v t := by
  obtain ⟨d, h⟩ := h
  exact ⟨d, RdN.keep hP hk d v t h⟩
theorem RdN.on {w w' : World} {d : Nat} {v : Value} {t : Tm} (h : RdN (· < w.heap.size) w d v t) (hb : Below w.heap.size w w') : RdN (· < w'.heap.size) w' d v t :=
  RdN.keep (fun b hb' => Nat.lt_of_lt_of_le hb' hb.size) (fun b hb' => hb.block b hb') d v t h
theorem Rd.on {w w' : World} {v : Value} {t : Tm} (h : Rd (· < w.heap.size) w v t) (hb : Below w.heap.size w w') : Rd (· < w'.heap.size) w' v t := by
  obtain ⟨d, h⟩ := h
  exact ⟨d, h.on hb⟩

theorem RdN.shape {P : Nat → Prop} {w : World} {d : Nat} {v : Value} {t : Tm} (h : RdN P w d v t) :
    ∃ ao cap, v = .agg #[.int .i64 t.kind, .int .i64 t.num, .slice ao t.sub.length cap] ∧ (-9223372036854775808 ≤ t.kind ∧ t.kind ≤ 9223372036854775807) ∧ (-9223372036854775808 ≤ t.num ∧ t.num ≤ 9223372036854775807) := by
  cases d with
  | zero => exact absurd h (fun h => h)
  | succ d =>
    obtain ⟨k, n, l⟩ := t
    obtain ⟨s, rfl, h2, h3, ao, cap, rfl, -⟩ := h
    exact ⟨ao, cap, rfl, h2, h3⟩
/-- what a walk reads of a term -/
theorem RdN.open {P : Nat → Prop} {w : World} {d : Nat} {v : Value} {k n : Int} {l : List Tm} (h : RdN P w (d + 1) v (.node k n l)) :
    ∃ ao cap, v = .agg #[.int .i64 k, .int .i64 n, .slice ao l.length cap] ∧ l.length ≤ 9223372036854775807 ∧ (-9223372036854775808 ≤ k ∧ k ≤ 9223372036854775807) ∧ (-9223372036854775808 ≤ n ∧ n ≤ 9223372036854775807) ∧
      ∀ i (hi : i < l.length), ∃ b off k2 n2 ao2 m2 cap2, ao = some ⟨b, off, none⟩ ∧ P b ∧ w.cell? ⟨b, off + i * 3, none⟩ = some (.int .i64 k2) ∧ w.cell? ⟨b, off + i * 3 + 1, none⟩ = some (.int .i64 n2) ∧
        w.cell? ⟨b, off + i * 3 + 2, none⟩ = some (.slice ao2 m2 cap2) ∧ RdN P w d (.agg #[.int .i64 k2, .int .i64 n2, .slice ao2 m2 cap2]) l[i] := by
  obtain ⟨s, rfl, h2, h3, ao, cap, rfl, hl, hc, he⟩ := h
  refine ⟨ao, cap, rfl, by unfold maxLen at hc; omega, h2, h3, fun i hi => ?_⟩
  obtain ⟨b, off, c0, c1, c2, q1, q2, q3, q4, q5, q6⟩ := he i hi
  obtain ⟨ao2, cap2, hv, -, -⟩ := q6.shape
  injection hv with hv
  injection hv with hv
  injection hv with r0 hv
  injection hv with r1 hv
  injection hv with r2 hv
  subst r0; subst r1; subst r2
  exact ⟨b, off, _, _, ao2, _, cap2, q1, q2, q3, q4, q5, q6⟩

/-- an induction over terms -/
theorem Tm.ind {C : Tm → Prop} (h : ∀ k n l, (∀ t, t ∈ l → C t) → C (.node k n l)) : ∀ t, C t := by
  intro t
  refine Tm.rec (motive_1 := C) (motive_2 := fun l => ∀ t, t ∈ l → C t) (fun k n l ih => h k n l ih) (fun t ht => by cases ht) (fun a l h1 h2 t ht => ?_) t
  cases ht with
  | head => exact h1
  | tail _ ht => exact h2 t ht

mutual
/-- how many nodes, counting on, till there are too many -/
def sz : Tm → Nat → Nat
  | .node _ _ l, h => szL l (h + 1)
def szL : List Tm → Nat → Nat
  | [], h => h
  | t :: l, h => if 8192 < h then h else szL l (sz t h)
end

theorem sz_le (t : Tm) : ∀ h, h ≤ 8192 → sz t h ≤ 8193 ∧ h < sz t h := by
  refine Tm.ind (C := fun t => ∀ h, h ≤ 8192 → sz t h ≤ 8193 ∧ h < sz t h) (fun k n l ih => ?_) t
  intro h hh
  have aux : ∀ (l' : List Tm), (∀ t, t ∈ l' → t ∈ l) → ∀ g, g ≤ 8193 → szL l' g ≤ 8193 ∧ g ≤ szL l' g := by
    intro l'
    induction l' with
    | nil => intro _ g hg; simp [szL]; omega
    | cons a l' ih2 =>
      intro hs g hg
      simp only [szL]
      split
      · omega
      · have h1 := ih a (hs a (by simp)) g (by omega)
        have h2 := ih2 (fun t ht => hs t (by simp [ht])) (sz a g) h1.1
        omega
  have := aux l (fun _ h => h) (h + 1) (by omega)
  simp only [sz]
  omega
end Go.Proofs.Ythjlfjaciigfiaa
