/-
  Slices in the making whose elements are several cells (terms; terms with a flag); what they read as. Plain; no program.
-/
import Derived.Test.YthjlfjaciigfiaaTm
namespace Go.Proofs.Ythjlfjaciigfiaa
open Go.RowKit
set_option linter.unusedVariables false
set_option linter.unusedSimpArgs false

/-- three cells that read as a term -/
def RdC (P : Nat → Prop) (w : World) (cs : List Value) (t : Tm) : Prop := ∃ k n ao m c, cs = [.int .i64 k, .int .i64 n, .slice ao m c] ∧ Rd P w (.agg #[.int .i64 k, .int .i64 n, .slice ao m c]) t
/-- four cells: a term and a flag -/
def GtC (P : Nat → Prop) (w : World) (cs : List Value) (t : Tm × Bool) : Prop := ∃ k n ao m c, cs = [.int .i64 k, .int .i64 n, .slice ao m c, .bool t.2] ∧ Rd P w (.agg #[.int .i64 k, .int .i64 n, .slice ao m c]) t.1

def KeepsC {α : Type} (R : (Nat → Prop) → World → List Value → α → Prop) : Prop :=
  ∀ (P P' : Nat → Prop) (w w' : World) (cs : List Value) (x : α), R P w cs x → (∀ b, P b → P' b) → (∀ b, P b → w'.heap[b]? = w.heap[b]?) → R P' w' cs x
theorem keepsC_rd : KeepsC RdC := fun P P' w w' cs x ⟨k, n, ao, m, c, h1, h2⟩ hP hk => ⟨k, n, ao, m, c, h1, h2.keep hP hk⟩
theorem keepsC_gt : KeepsC GtC := fun P P' w w' cs x ⟨k, n, ao, m, c, h1, h2⟩ hP hk => ⟨k, n, ao, m, c, h1, h2.keep hP hk⟩

/-- a slice in the making: it owns its row; each element reads, in blocks that are not the row's and have F -/
def MadeG {α : Type} (sz : Nat) (e : TypeId) (R : (Nat → Prop) → World → List Value → α → Prop) (F : Nat → Prop) (base : Nat) (w : World) (v : Value) (l : List α) : Prop :=
  ∃ css : List (List Value), w.ownsRow base e sz v l.length css.flatten ∧ css.length = l.length ∧
    ∀ i (hi : i < l.length), ∃ cs, css[i]? = some cs ∧ cs.length = sz ∧ R (fun g => v.ownBlock ≠ some g ∧ g < w.heap.size ∧ F g) w cs l[i]

theorem MadeG.nil {α : Type} (sz : Nat) (e : TypeId) (R : (Nat → Prop) → World → List Value → α → Prop) (F : Nat → Prop) (base : Nat) (w : World) : MadeG sz e R F base w (.slice none 0 0) [] :=
  ⟨[], World.ownsRow_nil _ _ _ _, rfl, fun i hi => absurd hi (Nat.not_lt_zero _)⟩
theorem MadeG.empty {α : Type} (sz : Nat) (e : TypeId) (R : (Nat → Prop) → World → List Value → α → Prop) (F : Nat → Prop) (base : Nat) (w : World) (hb : base ≤ w.heap.size) : MadeG sz e R F base (w.alloc (.cells #[] e)) (.slice (some ⟨w.heap.size, 0, none⟩) 0 0) ([] : List α) := by
  refine ⟨[], ⟨by simp, .inr ⟨w.heap.size, 0, #[], rfl, hb, ?_, Nat.le_refl _, Nat.zero_le _, by simp, by simp⟩⟩, rfl, fun i hi => absurd hi (Nat.not_lt_zero _)⟩
  show (w.heap.push _)[w.heap.size]? = _
  simp

/-- carried on to a world in which nothing of it was written -/
theorem MadeG.keep {α : Type} {sz : Nat} {e : TypeId} {R : (Nat → Prop) → World → List Value → α → Prop} {F : Nat → Prop} {base : Nat} {w W : World} {v : Value} {l : List α} (hR : KeepsC R) (h : MadeG sz e R F base w v l) (row : Option Nat)
    (hg : w.grownBy W row) (h1 : v.ownBlock = none ∨ v.ownBlock ≠ row) (h2 : ∀ b, row = some b → b < w.heap.size → ¬ F b) : MadeG sz e R F base W v l := by
  obtain ⟨css, q1, q2, q3⟩ := h
  refine ⟨css, q1.kept hg h1, q2, fun i hi => ?_⟩
  obtain ⟨cs, r1, r2, r3⟩ := q3 i hi
  refine ⟨cs, r1, r2, hR _ _ _ _ _ _ r3 (fun b hb => ⟨hb.1, Nat.lt_of_lt_of_le hb.2.1 hg.size, hb.2.2⟩) fun b hb => hg.block b hb.2.1 fun e => ?_⟩
  exact h2 b e.symm hb.2.1 hb.2.2
theorem grown_of_below {w W : World} (hb : Below w.heap.size w W) : w.grownBy W none := ⟨hb.os, hb.tape, hb.output, hb.size, fun k hk _ => hb.block k hk⟩
theorem MadeG.below {α : Type} {sz : Nat} {e : TypeId} {R : (Nat → Prop) → World → List Value → α → Prop} {F : Nat → Prop} {base : Nat} {w W : World} {v : Value} {l : List α} (hR : KeepsC R) (h : MadeG sz e R F base w v l)
    (hb : Below w.heap.size w W) : MadeG sz e R F base W v l :=
  h.keep hR none (grown_of_below hb) (by cases v.ownBlock <;> simp) (fun b e => by cases e)

theorem MadeG.block {α : Type} {sz : Nat} {e : TypeId} {R : (Nat → Prop) → World → List Value → α → Prop} {F : Nat → Prop} {base : Nat} {w : World} {v : Value} {l : List α} (h : MadeG sz e R F base w v l) : ∀ k, v.ownBlock = some k → base ≤ k ∧ k < w.heap.size := by
  obtain ⟨css, q1, q2, q3⟩ := h
  exact fun k hk => q1.lt k hk
theorem MadeG.mono {α : Type} {sz : Nat} {e : TypeId} {R : (Nat → Prop) → World → List Value → α → Prop} {F F' : Nat → Prop} {base : Nat} {w : World} {v : Value} {l : List α} (hR : KeepsC R) (h : MadeG sz e R F base w v l) (hF : ∀ b, F b → F' b) : MadeG sz e R F' base w v l := by
  obtain ⟨css, q1, q2, q3⟩ := h
  refine ⟨css, q1, q2, fun i hi => ?_⟩
  obtain ⟨cs, r1, r2, r3⟩ := q3 i hi
  exact ⟨cs, r1, r2, hR _ _ _ _ _ _ r3 (fun b hb => ⟨hb.1, hb.2.1, hF b hb.2.2⟩) fun _ _ => rfl⟩

/-- what an append leaves, with its block (its cells: those that were, and the new ones) -/
structure AppG (base : Nat) (e : TypeId) (sz : Nat) (w w' : World) (v v' : Value) (n : Nat) (xs : List Value) : Prop where
  own : w'.ownsRow base e sz v' n xs
  grown : w.grownBy w' v.ownBlock
  blk : v'.ownBlock = v.ownBlock ∨ ∃ g, v'.ownBlock = some g ∧ w.heap.size ≤ g
theorem AppG.of_lies {base : Nat} {e : TypeId} {sz : Nat} {w w' : World} {v : Value} {n g cap H m : Nat} {xs : List Value} (hH : w.heap.size = H) (h1 : w'.ownsRow base e sz (.slice (some ⟨g, 0, none⟩) m cap) n xs) (h2 : w.grownBy w' v.ownBlock) (h3 : v.ownBlock = some g ∨ g = H) :
    AppG base e sz w w' v (.slice (some ⟨g, 0, none⟩) m cap) n xs := by
  refine ⟨h1, h2, ?_⟩
  rcases h3 with h3 | h3
  · exact .inl (by rw [h3]; rfl)
  · exact .inr ⟨g, rfl, by omega⟩
theorem AppG.other {base e sz : Nat} {w w' : World} {v v' : Value} {n : Nat} {xs : List Value} (h : AppG base e sz w w' v v' n xs) {b : Nat} (hb : b < w.heap.size) (hv : v.ownBlock ≠ some b) : w'.heap[b]? = w.heap[b]? ∧ v'.ownBlock ≠ some b := by
  refine ⟨h.grown.block b hb (fun e => hv e.symm), fun e => ?_⟩
  rcases h.blk with h1 | ⟨g, h1, h2⟩
  · exact hv (h1 ▸ e)
  · rw [h1] at e; injection e with e; omega
theorem AppG.below {base e sz : Nat} {w w' : World} {v v' : Value} {n : Nat} {xs : List Value} (h : AppG base e sz w w' v v' n xs) {B : Nat} (hB : B ≤ w.heap.size) (hv : ∀ k, v.ownBlock = some k → B ≤ k) : Below B w w' :=
  ⟨h.grown.os, h.grown.tape, h.grown.output, h.grown.size, fun k hk => h.grown.block k (by omega) (fun e => by have := hv k e.symm; omega)⟩

/-- elements appended -/
theorem MadeG.app {α : Type} {sz : Nat} {e : TypeId} {R : (Nat → Prop) → World → List Value → α → Prop} {F : Nat → Prop} {base : Nat} {W w' : World} {v v' : Value} {l xs : List α} (hR : KeepsC R) {css new : List (List Value)} {n : Nat}
    (h : ∀ i (hi : i < l.length), ∃ cs, css[i]? = some cs ∧ cs.length = sz ∧ R (fun g => v.ownBlock ≠ some g ∧ g < W.heap.size ∧ F g) W cs l[i]) (hl : css.length = l.length) (hn : n = l.length + xs.length)
    (ha : AppG base e sz W w' v v' n (css.flatten ++ new.flatten)) (hnl : new.length = xs.length)
    (hu : ∀ i (hi : i < xs.length), ∃ cs, new[i]? = some cs ∧ cs.length = sz ∧ R (fun g => v.ownBlock ≠ some g ∧ g < W.heap.size ∧ F g) W cs xs[i]) : MadeG sz e R F base w' v' (l ++ xs) := by
  subst hn
  have hk : ∀ (cs : List Value) (y : α), R (fun g => v.ownBlock ≠ some g ∧ g < W.heap.size ∧ F g) W cs y → R (fun g => v'.ownBlock ≠ some g ∧ g < w'.heap.size ∧ F g) w' cs y := fun u y hr =>
    hR _ _ _ _ _ _ hr (fun b hb => ⟨(ha.other hb.2.1 hb.1).2, Nat.lt_of_lt_of_le hb.2.1 ha.grown.size, hb.2.2⟩) fun b hb => (ha.other hb.2.1 hb.1).1
  refine ⟨css ++ new, by rw [List.length_append, List.flatten_append]; exact ha.own, by simp [hl, hnl], fun i hi => ?_⟩
  by_cases hil : i < l.length
  · obtain ⟨y, hy, hy1, hyr⟩ := h i hil
    refine ⟨y, by rw [List.getElem?_append_left (by omega)]; exact hy, hy1, ?_⟩
    rw [List.getElem_append_left hil]
    exact hk _ _ hyr
  · have hi2 : i - l.length < xs.length := by simp at hi; omega
    obtain ⟨y, hy, hy1, hyr⟩ := hu (i - l.length) hi2
    refine ⟨y, by rw [List.getElem?_append_right (by omega), hl]; exact hy, hy1, ?_⟩
    rw [List.getElem_append_right (by omega)]
    exact hk _ _ hyr

theorem flatten_get {sz : Nat} : ∀ (css : List (List Value)) (_ : ∀ cs ∈ css, cs.length = sz) (i j : Nat) (cs : List Value), css[i]? = some cs → j < sz → css.flatten[i * sz + j]? = cs[j]?
  | [], _, i, j, cs, h, _ => by simp at h
  | c :: css, hl, 0, j, cs, h, hj => by
    simp at h; subst h
    have := hl c (by simp)
    rw [List.flatten_cons, Nat.zero_mul, Nat.zero_add, List.getElem?_append_left (by omega)]
  | c :: css, hl, i + 1, j, cs, h, hj => by
    have h1 := hl c (by simp)
    rw [List.flatten_cons, List.getElem?_append_right (by rw [h1, Nat.succ_mul]; omega)]
    have := flatten_get css (fun x hx => hl x (by simp [hx])) i j cs (by simpa using h) hj
    rw [← this, h1]
    congr 1
    rw [Nat.succ_mul]; omega

/-- how it reads: the elements' cells -/
theorem MadeG.cells {α : Type} {sz : Nat} {e : TypeId} {R : (Nat → Prop) → World → List Value → α → Prop} {F : Nat → Prop} {base : Nat} {w : World} {v : Value} {l : List α} (h : MadeG sz e R F base w v l) (hsz : 0 < sz) :
    ∃ ao cap, v = .slice ao l.length cap ∧ l.length ≤ cap ∧ cap ≤ maxLen ∧ ∀ i (hi : i < l.length), ∃ g cs, ao = some ⟨g, 0, none⟩ ∧ v.ownBlock = some g ∧ base ≤ g ∧ g < w.heap.size ∧ cs.length = sz ∧
      (∀ j u, cs[j]? = some u → w.cell? ⟨g, i * sz + j, none⟩ = some u) ∧ R (fun g => v.ownBlock ≠ some g ∧ g < w.heap.size ∧ F g) w cs l[i] := by
  obtain ⟨css, q1, q2, q3⟩ := h
  have q1' := q1
  rcases q1.2 with ⟨rfl, h0⟩ | ⟨g, cap, cur, rfl, hb, hg, hnc, hcm, hcs, ht⟩
  · exact ⟨none, 0, by rw [h0], by omega, Nat.zero_le _, fun i hi => absurd hi (by omega)⟩
  · refine ⟨some ⟨g, 0, none⟩, cap, rfl, hnc, hcm, fun i hi => ?_⟩
    obtain ⟨cs, r1, r2, r3⟩ := q3 i hi
    refine ⟨g, cs, rfl, rfl, hb, (Array.getElem?_eq_some_iff.1 hg).1, r2, fun j u hj => ?_, r3⟩
    have hjs : j < sz := by rw [← r2]; exact (List.getElem?_eq_some_iff.1 hj).1
    have hall : ∀ cs ∈ css, cs.length = sz := fun c hc => by
      obtain ⟨i, hi, rfl⟩ := List.getElem_of_mem hc
      obtain ⟨cs, r1, r2, r3⟩ := q3 i (by omega)
      rw [List.getElem?_eq_getElem hi] at r1
      injection r1 with r1
      rw [r1, r2]
    have := q1'.cells (g := g) rfl (i * sz + j) u (by rw [flatten_get css hall i j cs r1 hjs]; exact hj)
    rwa [Addr.add_lit, Nat.zero_add] at this

/-- terms' slice: some depth serves all -/
theorem subR_depth {P : Nat → Prop} {w : World} {v : Value} {l : List Tm} (h : SubR P w (Rd P w) v l) : ∃ d, SubR P w (RdN P w d) v l := by
  obtain ⟨ao, cap, hv, hl, hc, he⟩ := h
  have : ∀ n, n ≤ l.length → ∃ d, ∀ i (hi : i < l.length), i < n → ∃ b off c0 c1 c2, ao = some ⟨b, off, none⟩ ∧ P b ∧ w.cell? ⟨b, off + i * 3, none⟩ = some c0 ∧ w.cell? ⟨b, off + i * 3 + 1, none⟩ = some c1 ∧ w.cell? ⟨b, off + i * 3 + 2, none⟩ = some c2 ∧ RdN P w d (.agg #[c0, c1, c2]) l[i] := by
    intro n
    induction n with
    | zero => exact fun _ => ⟨0, fun i hi h => absurd h (Nat.not_lt_zero _)⟩
    | succ n ih =>
      intro hn
      obtain ⟨d, hd⟩ := ih (by omega)
      obtain ⟨b, off, c0, c1, c2, q1, q2, q3, q4, q5, d2, q6⟩ := he n (by omega)
      refine ⟨max d d2, fun i hi hin => ?_⟩
      by_cases e : i = n
      · subst e
        exact ⟨b, off, c0, c1, c2, q1, q2, q3, q4, q5, RdN.up _ _ _ _ (by omega) q6⟩
      · obtain ⟨b, off, c0, c1, c2, q1, q2, q3, q4, q5, q6⟩ := hd i hi (by omega)
        exact ⟨b, off, c0, c1, c2, q1, q2, q3, q4, q5, RdN.up _ _ _ _ (by omega) q6⟩
  obtain ⟨d, hd⟩ := this l.length (Nat.le_refl _)
  exact ⟨d, ao, cap, hv, hl, hc, fun i hi => hd i hi hi⟩
/-- a node of subs that read -/
theorem Rd.node {P : Nat → Prop} {w : World} {v : Value} {k n : Int} {l : List Tm} (h : SubR P w (Rd P w) v l) (hk : -9223372036854775808 ≤ k ∧ k ≤ 9223372036854775807) (hn : -9223372036854775808 ≤ n ∧ n ≤ 9223372036854775807) :
    Rd P w (.agg #[.int .i64 k, .int .i64 n, v]) (.node k n l) := by
  obtain ⟨d, hd⟩ := subR_depth h
  exact ⟨d + 1, v, rfl, hk, hn, hd⟩
theorem SubR.nil (P : Nat → Prop) (w : World) (R : Value → Tm → Prop) (ao : Option Addr) (cap : Nat) (hc : cap ≤ maxLen) : SubR P w R (.slice ao 0 cap) [] :=
  ⟨ao, cap, rfl, Nat.zero_le _, hc, fun i hi => absurd hi (Nat.not_lt_zero _)⟩

/-- a slice of terms in the making, read -/
theorem MadeG.terms {F : Nat → Prop} {base : Nat} {w : World} {e : TypeId} {v : Value} {l : List Tm} (h : MadeG 3 e RdC F base w v l) (P : Nat → Prop) (hF : ∀ g, g < w.heap.size → F g → P g) (hb : ∀ g, base ≤ g → g < w.heap.size → P g) :
    SubR P w (Rd P w) v l := by
  obtain ⟨ao, cap, hv, h1, h2, h3⟩ := h.cells (by omega)
  refine ⟨ao, cap, hv, h1, h2, fun i hi => ?_⟩
  obtain ⟨g, cs, r1, r2, r3, r4, r5, r6, k, n, ao2, m, c, rfl, r7⟩ := h3 i hi
  refine ⟨g, 0, _, _, _, r1, hb g r3 r4, by have := r6 0 _ rfl; simpa using this, by have := r6 1 _ rfl; simpa using this, by have := r6 2 _ rfl; simpa using this, ?_⟩
  exact r7.keep (fun b hb => hF b hb.2.1 hb.2.2) fun _ _ => rfl

/-- in new memory -/
def Fr (w w' : World) (b : Nat) : Prop := w.heap.size ≤ b ∧ b < w'.heap.size
/-- a term in new memory is answered -/
def AnsT (w : World) (t : Tm) (e : Ending) (w' : World) : Prop :=
  ∃ k n ao m c, e = .returned (.agg #[.int .i64 k, .int .i64 n, .slice ao m c]) ∧ Below w.heap.size w w' ∧ Rd (Fr w w') w' (.agg #[.int .i64 k, .int .i64 n, .slice ao m c]) t
/-- a term in new memory and an error are answered -/
def AnsTE (w : World) (t : Tm) (c : Int) (e : Ending) (w' : World) : Prop :=
  ∃ k n ao m cp, e = .returned (.tuple #[.agg #[.int .i64 k, .int .i64 n, .slice ao m cp], .int .i64 c]) ∧ Below w.heap.size w w' ∧ Rd (Fr w w') w' (.agg #[.int .i64 k, .int .i64 n, .slice ao m cp]) t
end Go.Proofs.Ythjlfjaciigfiaa
