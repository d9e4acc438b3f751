/-
  Terms that lie as trees: each node's subs in a block of their own, no two in one. Plain; no program.
-/
import Derived.Test.YthjlfjaciigfiaaMp
import Derived.Test.YthjlfjaciigfiaaOut
namespace Go.Proofs.Ythjlfjaciigfiaa
open Go.RowKit
set_option linter.unusedVariables false
set_option linter.unusedSimpArgs false

/-- a term that lies as a tree in blocks that have P, at most d deep -/
def TrN (w : World) : Nat → (Nat → Prop) → Value → Tm → Prop
  | 0, _, _, _ => False
  | d + 1, P, v, .node k n l => ∃ ao cap, v = .agg #[.int .i64 k, .int .i64 n, .slice ao l.length cap] ∧ (-9223372036854775808 ≤ k ∧ k ≤ 9223372036854775807) ∧ (-9223372036854775808 ≤ n ∧ n ≤ 9223372036854775807) ∧ l.length ≤ cap ∧ cap ≤ maxLen ∧
      (0 < l.length → ∃ g, ao = some ⟨g, 0, none⟩ ∧ P g ∧ (∀ j, w.frozen? ⟨g, j, none⟩ = false) ∧ ∃ Q : Nat → Nat → Prop, (∀ j b, Q j b → P b ∧ b ≠ g) ∧ (∀ i j b, i < j → Q i b → ¬ Q j b) ∧
        ∀ j (hj : j < l.length), ∃ c0 c1 c2, w.cell? ⟨g, j * 3, none⟩ = some c0 ∧ w.cell? ⟨g, j * 3 + 1, none⟩ = some c1 ∧ w.cell? ⟨g, j * 3 + 2, none⟩ = some c2 ∧ TrN w d (Q j) (.agg #[c0, c1, c2]) l[j])
theorem frozen_keep {w w' : World} {a : Addr} (h : w'.heap[a.block]? = w.heap[a.block]?) : w'.frozen? a = w.frozen? a := by
  unfold World.frozen?; rw [h]
theorem TrN.keep : ∀ (d : Nat) {P P' : Nat → Prop} {w w' : World} {v : Value} {t : Tm}, TrN w d P v t → (∀ b, P b → P' b) → (∀ b, P b → w'.heap[b]? = w.heap[b]?) → TrN w' d P' v t
  | 0, _, _, _, _, _, _, h, _, _ => h
  | d + 1, P, P', w, w', v, .node k n l, ⟨ao, cap, h1, h2, h3, h4, h5, h6⟩, hP, hk => by
    refine ⟨ao, cap, h1, h2, h3, h4, h5, fun h0 => ?_⟩
    obtain ⟨g, q1, q2, q3, Q, q4, q5, q6⟩ := h6 h0
    refine ⟨g, q1, hP g q2, fun j => (frozen_keep (hk g q2)).trans (q3 j), Q, fun j b hb => ⟨hP b (q4 j b hb).1, (q4 j b hb).2⟩, q5, fun j hj => ?_⟩
    obtain ⟨c0, c1, c2, r0, r1, r2, r3⟩ := q6 j hj
    exact ⟨c0, c1, c2, (cell_keep (hk g q2)).trans r0, (cell_keep (hk g q2)).trans r1, (cell_keep (hk g q2)).trans r2, TrN.keep d r3 (fun _ h => h) fun b hb => hk b (q4 j b hb).1⟩
theorem TrN.up {w : World} : ∀ (d e : Nat) {P : Nat → Prop} {v : Value} {t : Tm}, d ≤ e → TrN w d P v t → TrN w e P v t
  | 0, _, _, _, _, _, h => absurd h (fun h => h)
  | d + 1, 0, _, _, _, h, _ => absurd h (by omega)
  | d + 1, e + 1, P, v, .node k n l, hde, ⟨ao, cap, h1, h2, h3, h4, h5, h6⟩ => by
    refine ⟨ao, cap, h1, h2, h3, h4, h5, fun h0 => ?_⟩
    obtain ⟨g, q1, q2, q3, Q, q4, q5, q6⟩ := h6 h0
    refine ⟨g, q1, q2, q3, Q, q4, q5, fun j hj => ?_⟩
    obtain ⟨c0, c1, c2, r0, r1, r2, r3⟩ := q6 j hj
    exact ⟨c0, c1, c2, r0, r1, r2, TrN.up d e (by omega) r3⟩
theorem TrN.rd {w : World} : ∀ (d : Nat) {P : Nat → Prop} {v : Value} {t : Tm}, TrN w d P v t → RdN P w d v t
  | 0, _, _, _, h => h
  | d + 1, P, v, .node k n l, ⟨ao, cap, h1, h2, h3, h4, h5, h6⟩ => by
    refine ⟨_, h1, h2, h3, ao, cap, rfl, h4, h5, fun i hi => ?_⟩
    obtain ⟨g, q1, q2, q3, Q, q4, q5, q6⟩ := h6 (by omega)
    obtain ⟨c0, c1, c2, r0, r1, r2, r3⟩ := q6 i hi
    refine ⟨g, 0, c0, c1, c2, q1, q2, by rw [Nat.zero_add]; exact r0, by rw [Nat.zero_add]; exact r1, by rw [Nat.zero_add]; exact r2, ?_⟩
    exact RdN.keep (fun b hb => (q4 i b hb).1) (fun _ _ => rfl) d _ _ (TrN.rd d r3)

/-- three cells of a tree, in an interval -/
def TrC (P : Nat → Prop) (w : World) (cs : List Value) (x : Tm × Nat × Nat) : Prop :=
  ∃ k n ao m c, cs = [.int .i64 k, .int .i64 n, .slice ao m c] ∧ TrN w (dep x.1) (fun b => P b ∧ x.2.1 ≤ b ∧ b < x.2.2) (.agg #[.int .i64 k, .int .i64 n, .slice ao m c]) x.1
theorem keepsC_tr : KeepsC TrC := fun P P' w w' cs x ⟨k, n, ao, m, c, h1, h2⟩ hP hk => ⟨k, n, ao, m, c, h1, h2.keep _ (fun b hb => ⟨hP b hb.1, hb.2⟩) fun b hb => hk b hb.1⟩
/-- the intervals rise -/
def Rise (L : List (Tm × Nat × Nat)) (hi : Nat) : Prop := L.Pairwise (fun x y => x.2.2 ≤ y.2.1) ∧ ∀ x ∈ L, x.2.2 ≤ hi
theorem Rise.nil (hi : Nat) : Rise [] hi := ⟨List.Pairwise.nil, fun x hx => by cases hx⟩
theorem Rise.snoc {L : List (Tm × Nat × Nat)} {hi lo hi' : Nat} (h : Rise L hi) (t : Tm) (h1 : hi ≤ lo) (h2 : hi ≤ hi') (h3 : lo ≤ hi') : Rise (L ++ [(t, lo, hi')]) hi' := by
  refine ⟨?_, fun x hx => ?_⟩
  · rw [List.pairwise_append]
    refine ⟨h.1, by simp, fun x hx y hy => ?_⟩
    rw [List.mem_singleton] at hy
    subst hy
    have := h.2 x hx
    show x.2.2 ≤ lo
    omega
  · rcases List.mem_append.1 hx with hx | hx
    · have := h.2 x hx; omega
    · rw [List.mem_singleton] at hx; subst hx; exact Nat.le_refl _
theorem Rise.mono {L : List (Tm × Nat × Nat)} {hi hi' : Nat} (h : Rise L hi) (h1 : hi ≤ hi') : Rise L hi' := ⟨h.1, fun x hx => Nat.le_trans (h.2 x hx) h1⟩
theorem Rise.get {L : List (Tm × Nat × Nat)} {hi : Nat} (h : Rise L hi) {i j : Nat} (hij : i < j) (hj : j < L.length) : (L[i]'(by omega)).2.2 ≤ L[j].2.1 :=
  (List.pairwise_iff_getElem.1 h.1) i j (by omega) hj hij

/-- block o is a term in the making whose subs lie as trees -/
structure OutT (w0 : World) (o : Nat) (k n : Int) (vs : Value) (l : List (Tm × Nat × Nat)) (wr : World) : Prop where
  box : wr.heap[o]? = some (.cells #[.int .i64 k, .int .i64 n, vs] 24)
  made : MadeG 3 24 TrC (o < ·) (o + 1) wr vs l
  bel : Below o w0 wr
  rise : Rise l wr.heap.size
theorem OutT.start {w0 : World} {o : Nat} {k n : Int} (h : w0.heap[o]? = some (.cells #[.int .i64 k, .int .i64 n, .slice none 0 0] 24)) : OutT w0 o k n (.slice none 0 0) [] w0 :=
  ⟨h, MadeG.nil _ _ _ _ _ _, Below.refl _ _, Rise.nil _⟩
theorem OutT.lt {w0 : World} {o : Nat} {k n : Int} {vs : Value} {l : List (Tm × Nat × Nat)} {wr : World} (h : OutT w0 o k n vs l wr) : o < wr.heap.size := (three h.box).2.2.2.2
theorem OutT.on {w0 : World} {o : Nat} {k n : Int} {vs : Value} {l : List (Tm × Nat × Nat)} {wr W : World} (h : OutT w0 o k n vs l wr) (hb : Below wr.heap.size wr W) : OutT w0 o k n vs l W :=
  ⟨(hb.block _ h.lt).trans h.box, h.made.below keepsC_tr hb, h.bel.trans (hb.mono (Nat.le_of_lt h.lt)), h.rise.mono hb.size⟩
theorem OutT.shape {w0 : World} {o : Nat} {k n : Int} {vs : Value} {l : List (Tm × Nat × Nat)} {wr : World} (h : OutT w0 o k n vs l wr) : ∃ ao m cap, vs = .slice ao m cap := by
  obtain ⟨ao, cap, hv, -⟩ := h.made.cells (by omega)
  exact ⟨ao, _, cap, hv⟩
theorem OutT.own {w0 : World} {o : Nat} {k n : Int} {vs : Value} {l : List (Tm × Nat × Nat)} {wr : World} (h : OutT w0 o k n vs l wr) {b : Nat} (hb : b ≤ o) : vs.ownBlock ≠ some b := fun e => by
  have := (h.made.block _ e).1; omega

/-- a tree appended to a slice in the making, behind a call that made it -/
theorem MadeG.app_tr {base : Nat} {F : Nat → Prop} {W w3 w5 : World} {vs : Value} {l : List (Tm × Nat × Nat)} {css : List (List Value)} {k3 n3 : Int} {ao3 : Option Addr} {m3 c3 g cap : Nat} {x : Tm}
    (q1 : W.ownsRow base 24 3 vs l.length css.flatten) (q2 : css.length = l.length)
    (q3 : ∀ i (hi : i < l.length), ∃ cs, css[i]? = some cs ∧ cs.length = 3 ∧ TrC (fun g => vs.ownBlock ≠ some g ∧ g < W.heap.size ∧ F g) W cs l[i])
    (hF : ∀ b, W.heap.size ≤ b → F b) (hb3 : Below W.heap.size W w3) (hr3 : TrN w3 (dep x) (Fr W w3) (.agg #[.int .i64 k3, .int .i64 n3, .slice ao3 m3 c3]) x)
    (ha : AppG base 24 3 (w3.alloc (.cells #[.int .i64 k3, .int .i64 n3, .slice ao3 m3 c3] 24)) w5 vs (.slice (some ⟨g, 0, none⟩) (l.length + 1) cap) (l.length + 1) (css.flatten ++ [.int .i64 k3, .int .i64 n3, .slice ao3 m3 c3])) :
    MadeG 3 24 TrC F base w5 (.slice (some ⟨g, 0, none⟩) (l.length + 1) cap) (l ++ [(x, W.heap.size, w3.heap.size)]) := by
  have hbw : Below W.heap.size W (w3.alloc (.cells #[.int .i64 k3, .int .i64 n3, .slice ao3 m3 c3] 24)) := hb3.alloc hb3.size _
  have q3' : ∀ i (hi : i < l.length), ∃ cs, css[i]? = some cs ∧ cs.length = 3 ∧ TrC (fun g => vs.ownBlock ≠ some g ∧ g < (w3.alloc (.cells #[.int .i64 k3, .int .i64 n3, .slice ao3 m3 c3] 24)).heap.size ∧ F g) (w3.alloc (.cells #[.int .i64 k3, .int .i64 n3, .slice ao3 m3 c3] 24)) cs l[i] := fun i hi => by
    obtain ⟨cs, r1, r2, r3⟩ := q3 i hi
    exact ⟨cs, r1, r2, keepsC_tr _ _ _ _ _ _ r3 (fun b hb => ⟨hb.1, Nat.lt_of_lt_of_le hb.2.1 hbw.size, hb.2.2⟩) fun b hb => hbw.block b hb.2.1⟩
  refine MadeG.app keepsC_tr (new := [[.int .i64 k3, .int .i64 n3, .slice ao3 m3 c3]]) (xs := [(x, W.heap.size, w3.heap.size)]) q3' q2 rfl (by simpa using ha) rfl fun i hi => ?_
  obtain rfl : i = 0 := by simpa using hi
  refine ⟨_, rfl, rfl, k3, n3, ao3, m3, c3, rfl, ?_⟩
  refine hr3.keep _ (fun b hb => ⟨⟨fun e => ?_, ?_, hF b hb.1⟩, hb⟩) fun b hb => Below.heap_alloc _ _ _ hb.2
  · have := (q1.lt _ e).2; have := hb.1; omega
  · rw [World.size_alloc]; have := hb.2; omega

/-- 'out.Sub = append(out.Sub, f(..))': the append -/
theorem step_outT {ops : Array Oper} {o : Oper} {a : Act} {K : Act → World → Prop} {Q : Exit → Act → World → Prop} {E : Prop} {W w3 w0 : World} {ob : Nat} {k n k3 n3 : Int} {vs : Value} {l : List (Tm × Nat × Nat)} {x : Tm} {ao3 : Option Addr} {m3 c3 : Nat}
    (hgd : o.guard = none) (s y : Operand) (ho : o.op = .call { callee := .builtin .append, args := #[s, y], argTypes := #[22, 22] })
    (hL : OutT w0 ob k n vs l W) (hlen : l.length + 1 ≤ 3518437208883) (hs : a.eval s = vs) (hb3 : Below W.heap.size W w3) (hr3 : TrN w3 (dep x) (Fr W w3) (.agg #[.int .i64 k3, .int .i64 n3, .slice ao3 m3 c3]) x)
    (c : Nat) (hx : a.eval y = .slice (some ⟨w3.heap.size, 0, none⟩) 1 c)
    (h : ∀ g m cap w5, OutT w0 ob k n (.slice (some ⟨g, 0, none⟩) m cap) (l ++ [(x, W.heap.size, w3.heap.size)]) (w5.setCell ⟨ob, 2, none⟩ (.slice (some ⟨g, 0, none⟩) m cap)) → (∀ b, b < W.heap.size → vs.ownBlock ≠ some b → w5.heap[b]? = W.heap[b]?) →
      w5.heap[ob]? = some (.cells #[.int .i64 k, .int .i64 n, vs] 24) → K (a.put o.dst (.slice (some ⟨g, 0, none⟩) m cap)) w5) :
    if Region.wanted o (yielded ops a.tmps) = true then Oper.wp Try.prog o a (w3.alloc (.cells #[.int .i64 k3, .int .i64 n3, .slice ao3 m3 c3] 24)) K Q else E := by
  obtain ⟨i24, hi24, hy1, hy2, hy3⟩ := info_parts info24
  obtain ⟨css, q1, q2, q3⟩ := hL.made
  have hob := hL.lt
  refine step_app_made hgd s y 22 ho (ob + 1) 24 i24 _ 3 40 Try.underlying22 hi24 hy1 hy2 hy3 rfl (by omega) vs l.length css.flatten hs q1 hb3 (by omega) c [.int .i64 k3, .int .i64 n3, .slice ao3 m3 c3] hx rfl (one3 k3 n3 ao3 m3 c3) (by unfold maxLen; omega) (by omega) ?_
  intro g cap w5 ha hk
  have hWl : W.heap.size ≤ w3.heap.size := hb3.size
  have hown := hL.own (Nat.le_refl ob)
  have h5 := (hk ob hob hown).trans hL.box
  refine h g _ cap w5 ?_ hk h5
  have hbw : Below W.heap.size W (w3.alloc (.cells #[.int .i64 k3, .int .i64 n3, .slice ao3 m3 c3] 24)) := hb3.alloc hb3.size _
  have hM := MadeG.app_tr (F := (ob < ·)) q1 q2 q3 (fun b hb => by show ob < b; omega) hb3 hr3 ha
  have hbW5 : Below ob w0 w5 := (hL.bel.trans (hbw.mono (Nat.le_of_lt hob))).trans (ha.below (by rw [World.size_alloc]; omega) fun q hq => by have := (q1.lt _ hq).1; omega)
  have hs5 : w3.heap.size ≤ w5.heap.size := by have := ha.grown.size; rw [World.size_alloc] at this; omega
  refine ⟨set3 h5, ?_, hbW5.setCell (Nat.le_refl _) _, ?_⟩
  · refine hM.keep keepsC_tr (some ob) ⟨rfl, rfl, rfl, by simp [World.setCell], fun b _ hb => Below.heap_setCell _ _ _ _ (by simpa using hb)⟩ (.inr ?_) (fun b hb _ => by injection hb with hb; omega)
    intro e
    have := (hM.block _ e).1
    omega
  · exact (hL.rise.snoc x (Nat.le_refl _) hWl hWl).mono (by simpa [World.setCell] using hs5)
theorem ownsRow_frozen {w : World} {base e sz n g cap m : Nat} {xs : List Value} (h : w.ownsRow base e sz (.slice (some ⟨g, 0, none⟩) m cap) n xs) (j : Nat) : w.frozen? ⟨g, j, none⟩ = false := by
  rcases h.2 with ⟨h, -⟩ | ⟨g', cap', cur, hv, hb, hg, -⟩
  · cases h
  · injection hv with h1; injection h1 with h1; injection h1 with h1
    subst h1
    simp [World.frozen?, hg]
/-- what has been made lies as a tree -/
theorem OutT.tree {w0 : World} {o : Nat} {k n : Int} {vs : Value} {L : List (Tm × Nat × Nat)} {wr W : World} (h : OutT w0 o k n vs L wr) (hk : -9223372036854775808 ≤ k ∧ k ≤ 9223372036854775807) (hn : -9223372036854775808 ≤ n ∧ n ≤ 9223372036854775807)
    (hW : ∀ b, o < b → b < wr.heap.size → W.heap[b]? = wr.heap[b]?) : TrN W (depL (L.map (·.1)) + 1) (fun b => o < b ∧ b < wr.heap.size) (.agg #[.int .i64 k, .int .i64 n, vs]) (.node k n (L.map (·.1))) := by
  have hfr : ∀ g, vs.ownBlock = some g → ∀ j, wr.frozen? ⟨g, j, none⟩ = false := by
    obtain ⟨css, q1, -, -⟩ := h.made
    intro g hg j
    rcases q1.2 with ⟨rfl, -⟩ | ⟨g', cap', cur, rfl, hb, hg', -⟩
    · cases hg
    · injection hg with hg; subst hg
      simp [World.frozen?, hg']
  obtain ⟨ao, cap, rfl, hlc, hcm, he⟩ := h.made.cells (by omega)
  refine ⟨ao, cap, by simp, hk, hn, by simpa using hlc, hcm, fun h0 => ?_⟩
  obtain ⟨g, -, rfl, -, hg1, hg2, -⟩ := he 0 (by simpa using h0)
  refine ⟨g, rfl, ⟨hg1, hg2⟩, fun j => (frozen_keep (hW g (by omega) hg2)).trans (hfr g rfl j), fun j b => j < L.length ∧ (b ≠ g ∧ o < b ∧ b < wr.heap.size) ∧ (L.getD j (Tm.node 0 0 [], 0, 0)).2.1 ≤ b ∧ b < (L.getD j (Tm.node 0 0 [], 0, 0)).2.2, fun j b hb => ⟨hb.2.1.2, hb.2.1.1⟩, fun i j b hij hi hj => ?_, fun j hj => ?_⟩
  · have hjl := hj.1
    have := h.rise.get hij hjl
    have h1 := hi.2.2.2
    have h2 := hj.2.2.1
    rw [List.getD_eq_getElem?_getD, List.getElem?_eq_getElem (by omega), Option.getD_some] at h1
    rw [List.getD_eq_getElem?_getD, List.getElem?_eq_getElem hjl, Option.getD_some] at h2
    omega
  · have hjl : j < L.length := by simpa using hj
    obtain ⟨g', cs, hao, -, -, -, hcl, hcc, k2, n2, ao2, m2, c2, rfl, htr⟩ := he j hjl
    injection hao with hao; injection hao with hao; subst hao
    have e0 := hcc 0 _ rfl
    have e1 := hcc 1 _ rfl
    have e2 := hcc 2 _ rfl
    refine ⟨_, _, _, (cell_keep (hW g (by omega) hg2)).trans e0, (cell_keep (hW g (by omega) hg2)).trans e1, (cell_keep (hW g (by omega) hg2)).trans e2, ?_⟩
    have hd : dep L[j].1 ≤ depL (L.map (·.1)) := by
      have := depL_get (L.map (·.1)) j hj
      rwa [List.getElem_map] at this
    rw [List.getElem_map]
    refine TrN.up _ _ hd (htr.keep _ (fun b hb => ?_) fun b hb => hW b hb.1.2.2 hb.1.2.1)
    show j < L.length ∧ (b ≠ g ∧ o < b ∧ b < wr.heap.size) ∧ (L.getD j (Tm.node 0 0 [], 0, 0)).2.1 ≤ b ∧ b < (L.getD j (Tm.node 0 0 [], 0, 0)).2.2
    rw [List.getD_eq_getElem?_getD, List.getElem?_eq_getElem hjl, Option.getD_some]
    exact ⟨hjl, ⟨fun e => hb.1.1 (by rw [e]; rfl), hb.1.2.2, hb.1.2.1⟩, hb.2⟩

/-- only old blocks that have P are written -/
structure OnlyP (P : Nat → Prop) (w w' : World) : Prop where
  os : w'.os = w.os
  tape : w'.tape = w.tape
  output : w'.output = w.output
  size : w.heap.size ≤ w'.heap.size
  block : ∀ b, b < w.heap.size → ¬ P b → w'.heap[b]? = w.heap[b]?
theorem OnlyP.refl (P : Nat → Prop) (w : World) : OnlyP P w w := ⟨rfl, rfl, rfl, Nat.le_refl _, fun _ _ _ => rfl⟩
theorem OnlyP.trans {P Q : Nat → Prop} {w w' w'' : World} (h : OnlyP P w w') (g : OnlyP Q w' w'') (hQ : ∀ b, b < w.heap.size → Q b → P b) : OnlyP P w w'' :=
  ⟨g.os.trans h.os, g.tape.trans h.tape, g.output.trans h.output, Nat.le_trans h.size g.size, fun b hb hp => (g.block b (Nat.lt_of_lt_of_le hb h.size) fun q => hp (hQ b hb q)).trans (h.block b hb hp)⟩
theorem OnlyP.of_below {P : Nat → Prop} {w w' : World} (h : Below w.heap.size w w') : OnlyP P w w' := ⟨h.os, h.tape, h.output, h.size, fun b hb _ => h.block b hb⟩
theorem OnlyP.below {P : Nat → Prop} {w w' : World} {B : Nat} (h : OnlyP P w w') (hP : ∀ b, P b → B ≤ b) (hB : B ≤ w.heap.size) : Below B w w' :=
  ⟨h.os, h.tape, h.output, h.size, fun b hb => h.block b (by omega) fun q => by have := hP b q; omega⟩
mutual
/-- no slice takes more memory than there is -/
def thin : Tm → Bool
  | .node _ _ l => decide (l.length ≤ 3518437208883) && thinL l
def thinL : List Tm → Bool
  | [] => true
  | t :: l => thin t && thinL l
end
theorem thinL_get : ∀ {l : List Tm}, thinL l = true → ∀ i (hi : i < l.length), thin l[i] = true
  | [], _, i, hi => absurd hi (Nat.not_lt_zero _)
  | t :: l, h, 0, _ => by simp only [thinL, Bool.and_eq_true] at h; exact h.1
  | t :: l, h, i + 1, hi => by simp only [thinL, Bool.and_eq_true] at h; exact thinL_get h.2 i (by simpa using hi)
theorem thin_open {k n : Int} {l : List Tm} (h : thin (.node k n l) = true) : l.length ≤ 3518437208883 ∧ ∀ i (hi : i < l.length), thin l[i] = true := by
  simp only [thin, Bool.and_eq_true, decide_eq_true_iff] at h
  exact ⟨h.1, thinL_get h.2⟩
/-- a tree in new memory is answered -/
def AnsTr (w : World) (t : Tm) (e : Ending) (w' : World) : Prop :=
  ∃ k n ao m c, e = .returned (.agg #[.int .i64 k, .int .i64 n, .slice ao m c]) ∧ Below w.heap.size w w' ∧ TrN w' (dep t) (Fr w w') (.agg #[.int .i64 k, .int .i64 n, .slice ao m c]) t
theorem OutT.done {w w0 : World} {o r : Nat} {k n : Int} {vs a b c : Value} {L : List (Tm × Nat × Nat)} {l : List Tm} {wr : World} (h : OutT w0 o k n vs L wr) (hl : L.map (·.1) = l) (hbw : Below w.heap.size w w0) (hr : w.heap.size ≤ r) (hro : r < o)
    (hk : -9223372036854775808 ≤ k ∧ k ≤ 9223372036854775807) (hn : -9223372036854775808 ≤ n ∧ n ≤ 9223372036854775807) :
    Below w.heap.size w (((wr.setCell ⟨r, 0, none⟩ a).setCell ⟨r, 1, none⟩ b).setCell ⟨r, 2, none⟩ c) ∧
      TrN (((wr.setCell ⟨r, 0, none⟩ a).setCell ⟨r, 1, none⟩ b).setCell ⟨r, 2, none⟩ c) (dep (.node k n l)) (Fr w (((wr.setCell ⟨r, 0, none⟩ a).setCell ⟨r, 1, none⟩ b).setCell ⟨r, 2, none⟩ c)) (.agg #[.int .i64 k, .int .i64 n, vs]) (.node k n l) := by
  subst hl
  have hb := hbw.trans (h.bel.mono (by omega))
  refine ⟨((hb.setCell (by simpa using hr) _).setCell (by simpa using hr) _).setCell (by simpa using hr) _, ?_⟩
  have ht := h.tree (W := ((wr.setCell ⟨r, 0, none⟩ a).setCell ⟨r, 1, none⟩ b).setCell ⟨r, 2, none⟩ c) hk hn fun q h1 h2 => by
    rw [Below.heap_setCell _ _ _ _ (by show q ≠ r; omega), Below.heap_setCell _ _ _ _ (by show q ≠ r; omega), Below.heap_setCell _ _ _ _ (by show q ≠ r; omega)]
  have hd : dep (.node k n (L.map (·.1))) = depL (L.map (·.1)) + 1 := by simp only [dep]; omega
  rw [hd]
  exact ht.keep _ (fun q hq => ⟨by omega, by simp [World.setCell]; omega⟩) fun _ _ => rfl
end Go.Proofs.Ythjlfjaciigfiaa
