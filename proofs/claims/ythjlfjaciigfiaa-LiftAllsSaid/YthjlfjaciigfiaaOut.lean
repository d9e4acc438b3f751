/-
  A term in the making: a variable of three cells whose third is a slice in the making. What a round's append leaves. Plain, but for the numbers of the types.
-/
import Derived.Test.YthjlfjaciigfiaaRefGood
import Derived.Test.YthjlfjaciigfiaaMade
import Derived.Test.YthjlfjaciigfiaaOrd
import Derived.Deep.AppendLies
namespace Go.Proofs.Ythjlfjaciigfiaa
open Go.RowKit
set_option linter.unusedVariables false
set_option linter.unusedSimpArgs false

theorem info24 : (Try.prog.info? 24).map (fun i => (i.zero, i.size, i.bytes)) = some (some (.agg #[.int .i64 0, .int .i64 0, .slice none 0 0]), 3, 40) := by kernel_rfl

/-- the three cells of a block that is known whole -/
theorem three {w : World} {B : Nat} {a b c : Value} {z : TypeId} (h : w.heap[B]? = some (.cells #[a, b, c] z)) :
    w.cell? ⟨B, 0, none⟩ = some a ∧ w.cell? ⟨B, 1, none⟩ = some b ∧ w.cell? ⟨B, 2, none⟩ = some c ∧ (∀ j, w.frozen? ⟨B, j, none⟩ = false) ∧ B < w.heap.size := by
  refine ⟨?_, ?_, ?_, fun j => ?_, (Array.getElem?_eq_some_iff.1 h).1⟩ <;> first | (unfold World.cell?; rw [h]; rfl) | (unfold World.frozen?; rw [h]; simp)
theorem set3 {w : World} {B : Nat} {a b c v : Value} {z : TypeId} (h : w.heap[B]? = some (.cells #[a, b, c] z)) : (w.setCell ⟨B, 2, none⟩ v).heap[B]? = some (.cells #[a, b, v] z) := by
  simp [World.setCell, Array.getElem?_modify, h]
theorem one3 (k n : Int) (ao : Option Addr) (m c : Nat) : ∀ u ∈ [Value.int .i64 k, .int .i64 n, .slice ao m c], u.oneCell' = true := by simp [Value.oneCell']

/-- block o is a term in the making, of kind k and number n, whose subs l are made above it; nothing below o has changed since w0 -/
structure OutL (w0 : World) (o : Nat) (k n : Int) (vs : Value) (l : List Tm) (wr : World) : Prop where
  box : wr.heap[o]? = some (.cells #[.int .i64 k, .int .i64 n, vs] 24)
  made : MadeG 3 24 RdC (o < ·) (o + 1) wr vs l
  bel : Below o w0 wr

theorem OutL.start {w0 : World} {o : Nat} {k n : Int} (h : w0.heap[o]? = some (.cells #[.int .i64 k, .int .i64 n, .slice none 0 0] 24)) : OutL w0 o k n (.slice none 0 0) [] w0 :=
  ⟨h, MadeG.nil _ _ _ _ _ _, Below.refl _ _⟩
theorem OutL.lt {w0 : World} {o : Nat} {k n : Int} {vs : Value} {l : List Tm} {wr : World} (h : OutL w0 o k n vs l wr) : o < wr.heap.size := (three h.box).2.2.2.2
theorem OutL.on {w0 : World} {o : Nat} {k n : Int} {vs : Value} {l : List Tm} {wr W : World} (h : OutL w0 o k n vs l wr) (hb : Below wr.heap.size wr W) : OutL w0 o k n vs l W :=
  ⟨(hb.block _ h.lt).trans h.box, h.made.below keepsC_rd hb, h.bel.trans (hb.mono (Nat.le_of_lt h.lt))⟩
theorem OutL.shape {w0 : World} {o : Nat} {k n : Int} {vs : Value} {l : List Tm} {wr : World} (h : OutL w0 o k n vs l wr) : ∃ ao m cap, vs = .slice ao m cap := by
  obtain ⟨ao, cap, hv, -⟩ := h.made.cells (by omega)
  exact ⟨ao, _, cap, hv⟩
theorem OutL.own {w0 : World} {o : Nat} {k n : Int} {vs : Value} {l : List Tm} {wr : World} (h : OutL w0 o k n vs l wr) {b : Nat} (hb : b ≤ o) : vs.ownBlock ≠ some b := fun e => by
  have := (h.made.block _ e).1; omega

/-- an append of one built element behind a call, as a step of a region that draws -/
theorem step_app_made {P : Program} {ops : Array Oper} {o : Oper} {a : Act} {K : Act → World → Prop} {Q : Exit → Act → World → Prop} {E : Prop} {W w3 : World} (hgd : o.guard = none) (s x : Operand) (t : TypeId)
    (ho : o.op = .call { callee := .builtin .append, args := #[s, x], argTypes := #[t, t] })
    (base : Nat) (e : TypeId) (i : TypeInfo) (z : Value) (size bytes : Nat) (ht : P.underlying t = some (.slice e)) (hi : P.info? e = some i) (hz : i.zero = some z)
    (hsize : i.size = size) (hby : i.bytes = bytes) (hzs : z.cells.size = size) (hsz : 0 < size)
    (v : Value) (n : Nat) (xs : List Value) (hs : a.eval s = v) (hown : W.ownsRow base e size v n xs) (hb3 : Below W.heap.size W w3) (hbase : base ≤ W.heap.size)
    (c : Nat) (news : List Value) (hx : a.eval x = .slice (some ⟨w3.heap.size, 0, none⟩) 1 c) (hl : news.length = size) (h1 : ∀ u ∈ news, u.oneCell' = true)
    (h63 : n + 1 ≤ maxLen) (hbytes : (n + 1) * bytes ≤ 140737488355328)
    (h : ∀ g cap w5, AppG base e size (w3.alloc (.cells news.toArray e)) w5 v (.slice (some ⟨g, 0, none⟩) (n + 1) cap) (n + 1) (xs ++ news) → (∀ b, b < W.heap.size → v.ownBlock ≠ some b → w5.heap[b]? = W.heap[b]?) → K (a.put o.dst (.slice (some ⟨g, 0, none⟩) (n + 1) cap)) w5) :
    if Region.wanted o (yielded ops a.tmps) = true then Oper.wp P o a (w3.alloc (.cells news.toArray e)) K Q else E := by
  refine step_append_lies _ hgd s x t ho base e i z size bytes ht hi hz hsize hby hzs hsz v n xs hs ((hown.kept (grown_of_below hb3) (by cases v.ownBlock <;> simp)).alloc _)
    ⟨w3.heap.size, 0, none⟩ 1 c news hx (by omega) (World.news_of_block (cs := news.toArray) (t := e) (fr := (0, 0)) (heap_alloc_new w3 _)) h1 (by omega) h63 hbytes (by rw [World.size_alloc]; have := hb3.size; omega) _ rfl ?_
  intro g cap w5 h1 h2 h3 h4
  refine h _ _ _ (AppG.of_lies rfl h1 h2 h3) fun b hb hv => ?_
  have hb' : b < (w3.alloc (.cells news.toArray e)).heap.size := by rw [World.size_alloc]; have := hb3.size; omega
  exact (h2.block b hb' (fun q => hv q.symm)).trans ((Below.heap_alloc _ _ _ (by have := hb3.size; omega)).trans (hb3.block b hb))

/-- 'out.Sub = append(out.Sub, f(..))': the append -/
theorem step_out {ops : Array Oper} {o : Oper} {a : Act} {K : Act → World → Prop} {Q : Exit → Act → World → Prop} {E : Prop} {W w3 w0 : World} {ob : Nat} {k n k3 n3 : Int} {vs : Value} {l : List Tm} {x : Tm} {ao3 : Option Addr} {m3 c3 : Nat}
    (hgd : o.guard = none) (s y : Operand) (ho : o.op = .call { callee := .builtin .append, args := #[s, y], argTypes := #[22, 22] })
    (hL : OutL w0 ob k n vs l W) (hlen : l.length < 100000) (hs : a.eval s = vs) (hb3 : Below W.heap.size W w3) (hr3 : Rd (Fr W w3) w3 (.agg #[.int .i64 k3, .int .i64 n3, .slice ao3 m3 c3]) x)
    (c : Nat) (hx : a.eval y = .slice (some ⟨w3.heap.size, 0, none⟩) 1 c)
    (h : ∀ g m cap w5, OutL w0 ob k n (.slice (some ⟨g, 0, none⟩) m cap) (l ++ [x]) (w5.setCell ⟨ob, 2, none⟩ (.slice (some ⟨g, 0, none⟩) m cap)) → (∀ b, b < W.heap.size → vs.ownBlock ≠ some b → w5.heap[b]? = W.heap[b]?) →
      w5.heap[ob]? = some (.cells #[.int .i64 k, .int .i64 n, vs] 24) → K (a.put o.dst (.slice (some ⟨g, 0, none⟩) m cap)) w5) :
    if Region.wanted o (yielded ops a.tmps) = true then Oper.wp Try.prog o a (w3.alloc (.cells #[.int .i64 k3, .int .i64 n3, .slice ao3 m3 c3] 24)) K Q else E := by
  obtain ⟨i24, hi24, hy1, hy2, hy3⟩ := info_parts info24
  obtain ⟨css, q1, q2, q3⟩ := hL.made
  have hob := hL.lt
  refine step_app_made hgd s y 22 ho (ob + 1) 24 i24 _ 3 40 Try.underlying22 hi24 hy1 hy2 hy3 rfl (by omega) vs l.length css.flatten hs q1 hb3 (by omega) c [.int .i64 k3, .int .i64 n3, .slice ao3 m3 c3] hx rfl (one3 k3 n3 ao3 m3 c3) (by unfold maxLen; omega) (by omega) ?_
  intro g cap w5 ha hk
  have hWl : W.heap.size ≤ w3.heap.size := hb3.size
  have hown := hL.own (Nat.le_refl ob)
  have h5 := (hk ob hob hown).trans hL.box
  refine h g _ cap w5 ?_ hk h5
  have hbw : Below W.heap.size W (w3.alloc (.cells #[.int .i64 k3, .int .i64 n3, .slice ao3 m3 c3] 24)) := hb3.alloc hb3.size _
  have hM : MadeG 3 24 RdC (ob < ·) (ob + 1) w5 (.slice (some ⟨g, 0, none⟩) (l.length + 1) cap) (l ++ [x]) := by
    have hM0 : MadeG 3 24 RdC (ob < ·) (ob + 1) (w3.alloc (.cells #[.int .i64 k3, .int .i64 n3, .slice ao3 m3 c3] 24)) vs l := MadeG.below keepsC_rd ⟨css, q1, q2, q3⟩ hbw
    have q3' : ∀ i (hi : i < l.length), ∃ cs, css[i]? = some cs ∧ cs.length = 3 ∧ RdC (fun g => vs.ownBlock ≠ some g ∧ g < (w3.alloc (.cells #[.int .i64 k3, .int .i64 n3, .slice ao3 m3 c3] 24)).heap.size ∧ ob < g) (w3.alloc (.cells #[.int .i64 k3, .int .i64 n3, .slice ao3 m3 c3] 24)) cs l[i] := fun i hi => by
      obtain ⟨cs, r1, r2, r3⟩ := q3 i hi
      exact ⟨cs, r1, r2, keepsC_rd _ _ _ _ _ _ r3 (fun b hb => ⟨hb.1, Nat.lt_of_lt_of_le hb.2.1 hbw.size, hb.2.2⟩) fun b hb => hbw.block b hb.2.1⟩
    refine MadeG.app keepsC_rd (new := [[.int .i64 k3, .int .i64 n3, .slice ao3 m3 c3]]) (xs := [x]) q3' q2 rfl (by simpa using ha) rfl fun i hi => ?_
    obtain rfl : i = 0 := by simpa using hi
    refine ⟨_, rfl, rfl, k3, n3, ao3, m3, c3, rfl, ?_⟩
    refine hr3.keep (fun b hb => ⟨fun e => ?_, ?_, ?_⟩) fun b hb => Below.heap_alloc _ _ _ hb.2
    · have := (q1.lt _ e).2; have := hb.1; omega
    · rw [World.size_alloc]; have := hb.2; omega
    · have := hb.1; omega
  have hbW5 : Below ob w0 w5 := (hL.bel.trans (hbw.mono (Nat.le_of_lt hob))).trans (ha.below (by rw [World.size_alloc]; omega) fun q hq => by have := (q1.lt _ hq).1; omega)
  refine ⟨set3 h5, ?_, hbW5.setCell (Nat.le_refl _) _⟩
  refine hM.keep keepsC_rd (some ob) ⟨rfl, rfl, rfl, by simp [World.setCell], fun b _ hb => Below.heap_setCell _ _ _ _ (by simpa using hb)⟩ (.inr ?_) (fun b hb _ => by injection hb with hb; omega)
  intro e
  have := (hM.block _ e).1
  omega

/-- what has been made reads as a term -/
theorem OutL.term {w w0 : World} {o : Nat} {k n : Int} {vs : Value} {l : List Tm} {wr W : World} (h : OutL w0 o k n vs l wr) (hw : w.heap.size ≤ o) (hk : -9223372036854775808 ≤ k ∧ k ≤ 9223372036854775807) (hn : -9223372036854775808 ≤ n ∧ n ≤ 9223372036854775807)
    (hs : wr.heap.size ≤ W.heap.size) (hW : ∀ b, o < b → b < wr.heap.size → W.heap[b]? = wr.heap[b]?) : Rd (Fr w W) W (.agg #[.int .i64 k, .int .i64 n, vs]) (.node k n l) := by
  have h1 : SubR (fun b => o < b ∧ b < wr.heap.size) wr (Rd (fun b => o < b ∧ b < wr.heap.size) wr) vs l := h.made.terms _ (fun g h1 h2 => ⟨h2, h1⟩) (fun g h1 h2 => ⟨by omega, h2⟩)
  exact (Rd.node h1 hk hn).keep (fun b hb => ⟨by omega, by omega⟩) fun b hb => hW b hb.1 hb.2
/-- laid into the result's variable, block r -/
theorem OutL.done {w w0 : World} {o r : Nat} {k n : Int} {vs a b c : Value} {l l' : List Tm} {wr : World} (h : OutL w0 o k n vs l' wr) (hl : l' = l) (hbw : Below w.heap.size w w0) (hr : w.heap.size ≤ r) (hro : r < o)
    (hk : -9223372036854775808 ≤ k ∧ k ≤ 9223372036854775807) (hn : -9223372036854775808 ≤ n ∧ n ≤ 9223372036854775807) :
    Below w.heap.size w (((wr.setCell ⟨r, 0, none⟩ a).setCell ⟨r, 1, none⟩ b).setCell ⟨r, 2, none⟩ c) ∧
      Rd (Fr w (((wr.setCell ⟨r, 0, none⟩ a).setCell ⟨r, 1, none⟩ b).setCell ⟨r, 2, none⟩ c)) (((wr.setCell ⟨r, 0, none⟩ a).setCell ⟨r, 1, none⟩ b).setCell ⟨r, 2, none⟩ c) (.agg #[.int .i64 k, .int .i64 n, vs]) (.node k n l) := by
  subst hl
  have hb := hbw.trans (h.bel.mono (by omega))
  refine ⟨((hb.setCell (by simpa using hr) _).setCell (by simpa using hr) _).setCell (by simpa using hr) _, ?_⟩
  refine h.term (by omega) hk hn (by simp [World.setCell]) fun q h1 h2 => ?_
  rw [Below.heap_setCell _ _ _ _ (by show q ≠ r; omega), Below.heap_setCell _ _ _ _ (by show q ≠ r; omega), Below.heap_setCell _ _ _ _ (by show q ≠ r; omega)]
end Go.Proofs.Ythjlfjaciigfiaa
