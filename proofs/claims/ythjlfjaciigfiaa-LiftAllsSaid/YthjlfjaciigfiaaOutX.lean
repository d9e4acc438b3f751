/-
  A term in the making where one old block (a closure's) may be written meanwhile: as Out, with that block named. Plain, but for the numbers of the types.
-/
import Derived.Test.YthjlfjaciigfiaaEqual
namespace Go.Proofs.Ythjlfjaciigfiaa
open Go.RowKit
set_option linter.unusedVariables false
set_option linter.unusedSimpArgs false

/-- below block B, all but one block is as it was -/
structure Bx (row : Option Nat) (B : Nat) (w w' : World) : Prop where
  os : w'.os = w.os
  tape : w'.tape = w.tape
  output : w'.output = w.output
  size : w.heap.size ≤ w'.heap.size
  block : ∀ k, k < B → some k ≠ row → w'.heap[k]? = w.heap[k]?
theorem Bx.refl (row : Option Nat) (B : Nat) (w : World) : Bx row B w w := ⟨rfl, rfl, rfl, Nat.le_refl _, fun _ _ _ => rfl⟩
theorem Bx.of {row : Option Nat} {B : Nat} {w w' : World} (h : Below B w w') : Bx row B w w' := ⟨h.os, h.tape, h.output, h.size, fun k hk _ => h.block k hk⟩
theorem Bx.below {B : Nat} {w w' : World} (h : Bx none B w w') : Below B w w' := ⟨h.os, h.tape, h.output, h.size, fun k hk => h.block k hk (by simp)⟩
theorem Bx.trans {row : Option Nat} {B : Nat} {w w' w'' : World} (h : Bx row B w w') (g : Bx row B w' w'') : Bx row B w w'' :=
  ⟨g.os.trans h.os, g.tape.trans h.tape, g.output.trans h.output, Nat.le_trans h.size g.size, fun k hk hr => (g.block k hk hr).trans (h.block k hk hr)⟩
theorem Bx.mono {row : Option Nat} {B B' : Nat} {w w' : World} (h : Bx row B w w') (hB : B' ≤ B) : Bx row B' w w' := ⟨h.os, h.tape, h.output, h.size, fun k hk => h.block k (Nat.lt_of_lt_of_le hk hB)⟩
theorem Bx.drewN {row : Option Nat} {B : Nat} {w w' : World} (h : Bx row B w w') (n : Nat) : Bx row B w (w'.drewN n) := ⟨h.os, h.tape, h.output, h.size, h.block⟩
theorem Bx.cell {row : Option Nat} {B : Nat} {w w' : World} (h : Bx row B w w') {p : Addr} (hp : p.block < B) (hr : some p.block ≠ row) : w'.cell? p = w.cell? p := cell_keep (h.block _ hp hr)
theorem Bx.grown {row : Option Nat} {w w' : World} (h : Bx row w.heap.size w w') : w.grownBy w' row := ⟨h.os, h.tape, h.output, h.size, h.block⟩
theorem Bx.setCell {row : Option Nat} {B : Nat} {w w' : World} (h : Bx row B w w') {p : Addr} (hp : B ≤ p.block ∨ row = some p.block) (v : Value) : Bx row B w (w'.setCell p v) := by
  refine ⟨h.os, h.tape, h.output, by have := h.size; simpa [World.setCell] using this, fun k hk hr => ?_⟩
  rw [Below.heap_setCell _ _ _ _ (by
    rcases hp with hp | hp
    · omega
    · intro e; rw [hp] at hr; exact hr (by rw [e]))]
  exact h.block k hk hr
theorem Bx.alloc {row : Option Nat} {B : Nat} {w w' : World} (h : Bx row B w w') (hB : B ≤ w'.heap.size) (o : Obj) : Bx row B w (w'.alloc o) :=
  h.trans (Bx.of ((Below.refl _ _).alloc hB o))

/-- as OutL, and block row may have been written -/
structure OutX (row : Option Nat) (w0 : World) (o : Nat) (k n : Int) (vs : Value) (l : List Tm) (wr : World) : Prop where
  box : wr.heap[o]? = some (.cells #[.int .i64 k, .int .i64 n, vs] 24)
  made : MadeG 3 24 RdC (o < ·) (o + 1) wr vs l
  bel : Bx row o w0 wr
  row : ∀ r, row = some r → r < o

theorem OutX.start {row : Option Nat} {w0 : World} {o : Nat} {k n : Int} (h : w0.heap[o]? = some (.cells #[.int .i64 k, .int .i64 n, .slice none 0 0] 24)) (hr : ∀ r, row = some r → r < o) : OutX row w0 o k n (.slice none 0 0) [] w0 :=
  ⟨h, MadeG.nil _ _ _ _ _ _, Bx.refl _ _ _, hr⟩
theorem OutX.lt {row : Option Nat} {w0 : World} {o : Nat} {k n : Int} {vs : Value} {l : List Tm} {wr : World} (h : OutX row w0 o k n vs l wr) : o < wr.heap.size := (three h.box).2.2.2.2
theorem OutX.on {row : Option Nat} {w0 : World} {o : Nat} {k n : Int} {vs : Value} {l : List Tm} {wr W : World} (h : OutX row w0 o k n vs l wr) (hb : Bx row wr.heap.size wr W) : OutX row w0 o k n vs l W := by
  have hne : some o ≠ row := fun e => by have := h.row _ e.symm; omega
  refine ⟨(hb.block _ h.lt hne).trans h.box, ?_, h.bel.trans (hb.mono (Nat.le_of_lt h.lt)), h.row⟩
  refine h.made.keep keepsC_rd row hb.grown ?_ (fun b e _ => by have := h.row _ e; omega)
  cases hv : vs.ownBlock with
  | none => exact .inl rfl
  | some g => right; intro e; have := h.row _ e.symm; have := (h.made.block _ hv).1; omega
theorem OutX.shape {row : Option Nat} {w0 : World} {o : Nat} {k n : Int} {vs : Value} {l : List Tm} {wr : World} (h : OutX row w0 o k n vs l wr) : ∃ ao m cap, vs = .slice ao m cap := by
  obtain ⟨ao, cap, hv, -⟩ := h.made.cells (by omega)
  exact ⟨ao, _, cap, hv⟩

/-- 'out.Sub = append(out.Sub, f(..))': the append -/
theorem step_outX {row : Option Nat} {ops : Array Oper} {o : Oper} {a : Act} {K : Act → World → Prop} {Q : Exit → Act → World → Prop} {E : Prop} {W w3 w0 : World} {ob : Nat} {k n k3 n3 : Int} {vs : Value} {l : List Tm} {x : Tm} {ao3 : Option Addr} {m3 c3 : Nat}
    (hgd : o.guard = none) (s y : Operand) (ho : o.op = .call { callee := .builtin .append, args := #[s, y], argTypes := #[22, 22] })
    (hL : OutX row w0 ob k n vs l W) (hlen : l.length < 100000) (hs : a.eval s = vs) (hb3 : Bx row W.heap.size W w3) (hr3 : Rd (Fr W w3) w3 (.agg #[.int .i64 k3, .int .i64 n3, .slice ao3 m3 c3]) x)
    (c : Nat) (hx : a.eval y = .slice (some ⟨w3.heap.size, 0, none⟩) 1 c)
    (h : ∀ g m cap w5, OutX row w0 ob k n (.slice (some ⟨g, 0, none⟩) m cap) (l ++ [x]) (w5.setCell ⟨ob, 2, none⟩ (.slice (some ⟨g, 0, none⟩) m cap)) → (∀ b, b < w3.heap.size → vs.ownBlock ≠ some b → w5.heap[b]? = w3.heap[b]?) →
      w5.heap[ob]? = some (.cells #[.int .i64 k, .int .i64 n, vs] 24) → K (a.put o.dst (.slice (some ⟨g, 0, none⟩) m cap)) w5) :
    if Region.wanted o (yielded ops a.tmps) = true then Oper.wp Try.prog o a (w3.alloc (.cells #[.int .i64 k3, .int .i64 n3, .slice ao3 m3 c3] 24)) K Q else E := by
  obtain ⟨i24, hi24, hy1, hy2, hy3⟩ := info_parts info24
  have hL3 := hL.on hb3
  obtain ⟨css, q1, q2, q3⟩ := hL3.made
  have q1W := hL.made.block
  have hob := hL3.lt
  have hobW := hL.lt
  refine step_append_lies _ hgd s y 22 ho (ob + 1) 24 i24 _ 3 40 Try.underlying22 hi24 hy1 hy2 hy3 rfl (by omega) vs l.length css.flatten hs (q1.alloc _) ⟨w3.heap.size, 0, none⟩ 1 c [.int .i64 k3, .int .i64 n3, .slice ao3 m3 c3] hx rfl
    (World.news_of_block (cs := #[.int .i64 k3, .int .i64 n3, .slice ao3 m3 c3]) (t := 24) (fr := (0, 0)) (heap_alloc_new w3 _)) (one3 k3 n3 ao3 m3 c3) (by omega) (by unfold maxLen; omega) (by omega) (by rw [World.size_alloc]; omega) _ rfl ?_
  intro g cap w5 ho5 hg5 hat5 hlt5
  have ha : AppG (ob + 1) 24 3 _ w5 vs (.slice (some ⟨g, 0, none⟩) (l.length + 1) cap) (l.length + 1) (css.flatten ++ [.int .i64 k3, .int .i64 n3, .slice ao3 m3 c3]) := AppG.of_lies rfl ho5 hg5 hat5
  have hk : ∀ b, b < w3.heap.size → vs.ownBlock ≠ some b → w5.heap[b]? = w3.heap[b]? := fun b hb hv =>
    (hg5.block b (by rw [World.size_alloc]; omega) (fun q => hv q.symm)).trans (Below.heap_alloc _ _ _ hb)
  have hown : vs.ownBlock ≠ some ob := fun e => by have := (q1.lt _ e).1; omega
  have h5 := (hk ob hob hown).trans hL3.box
  refine h g _ cap w5 ?_ hk h5
  have hM : MadeG 3 24 RdC (ob < ·) (ob + 1) w5 (.slice (some ⟨g, 0, none⟩) (l.length + 1) cap) (l ++ [x]) := by
    have q3' : ∀ i (hi : i < l.length), ∃ cs, css[i]? = some cs ∧ cs.length = 3 ∧ RdC (fun g => vs.ownBlock ≠ some g ∧ g < (w3.alloc (.cells #[.int .i64 k3, .int .i64 n3, .slice ao3 m3 c3] 24)).heap.size ∧ ob < g) (w3.alloc (.cells #[.int .i64 k3, .int .i64 n3, .slice ao3 m3 c3] 24)) cs l[i] := fun i hi => by
      obtain ⟨cs, r1, r2, r3⟩ := q3 i hi
      exact ⟨cs, r1, r2, keepsC_rd _ _ _ _ _ _ r3 (fun b hb => ⟨hb.1, by rw [World.size_alloc]; omega, hb.2.2⟩) fun b hb => Below.heap_alloc _ _ _ hb.2.1⟩
    refine MadeG.app keepsC_rd (new := [[.int .i64 k3, .int .i64 n3, .slice ao3 m3 c3]]) (xs := [x]) q3' q2 rfl (by simpa using ha) rfl fun i hi => ?_
    obtain rfl : i = 0 := by simpa using hi
    refine ⟨_, rfl, rfl, k3, n3, ao3, m3, c3, rfl, ?_⟩
    refine hr3.keep (fun b hb => ⟨fun e => ?_, ?_, ?_⟩) fun b hb => Below.heap_alloc _ _ _ hb.2
    · have := (q1W _ e).2; have := hb.1; omega
    · rw [World.size_alloc]; have := hb.2; omega
    · have := hb.1; omega
  have hbW5 : Bx row ob w0 w5 := (hL3.bel.trans (Bx.of ((Below.refl _ _).alloc (Nat.le_of_lt hob) _))).trans (Bx.of (ha.below (by rw [World.size_alloc]; omega) fun q hq => by have := (q1.lt _ hq).1; omega))
  refine ⟨set3 h5, ?_, hbW5.setCell (.inl (Nat.le_refl _)) _, hL.row⟩
  refine hM.keep keepsC_rd (some ob) ⟨rfl, rfl, rfl, by simp [World.setCell], fun b _ hb => Below.heap_setCell _ _ _ _ (by simpa using hb)⟩ (.inr ?_) (fun b hb _ => by injection hb with hb; omega)
  intro e
  have := (hM.block _ e).1
  omega

/-- laid into the result's variable, block r -/
theorem OutX.done {row : Option Nat} {w w0 : World} {o r : Nat} {k n : Int} {vs a b c : Value} {l l' : List Tm} {wr : World} (h : OutX row w0 o k n vs l' wr) (hl : l' = l) (hbw : Bx row w.heap.size w w0) (hr : w.heap.size ≤ r) (hro : r < o)
    (hk : -9223372036854775808 ≤ k ∧ k ≤ 9223372036854775807) (hn : -9223372036854775808 ≤ n ∧ n ≤ 9223372036854775807) :
    Bx row w.heap.size w (((wr.setCell ⟨r, 0, none⟩ a).setCell ⟨r, 1, none⟩ b).setCell ⟨r, 2, none⟩ c) ∧
      Rd (Fr w (((wr.setCell ⟨r, 0, none⟩ a).setCell ⟨r, 1, none⟩ b).setCell ⟨r, 2, none⟩ c)) (((wr.setCell ⟨r, 0, none⟩ a).setCell ⟨r, 1, none⟩ b).setCell ⟨r, 2, none⟩ c) (.agg #[.int .i64 k, .int .i64 n, vs]) (.node k n l) ∧
      ∀ b', b' < w.heap.size → (((wr.setCell ⟨r, 0, none⟩ a).setCell ⟨r, 1, none⟩ b).setCell ⟨r, 2, none⟩ c).heap[b']? = wr.heap[b']? := by
  subst hl
  have hb := hbw.trans (h.bel.mono (by omega))
  have hq : ∀ q, q ≠ r → (((wr.setCell ⟨r, 0, none⟩ a).setCell ⟨r, 1, none⟩ b).setCell ⟨r, 2, none⟩ c).heap[q]? = wr.heap[q]? := fun q hqr => by
    rw [Below.heap_setCell _ _ _ _ (by show q ≠ r; omega), Below.heap_setCell _ _ _ _ (by show q ≠ r; omega), Below.heap_setCell _ _ _ _ (by show q ≠ r; omega)]
  refine ⟨((hb.setCell (.inl (by simpa using hr)) _).setCell (.inl (by simpa using hr)) _).setCell (.inl (by simpa using hr)) _, ?_, fun b' hb' => hq b' (by omega)⟩
  have h1 : SubR (fun b => o < b ∧ b < wr.heap.size) wr (Rd (fun b => o < b ∧ b < wr.heap.size) wr) vs l' := h.made.terms _ (fun g h1 h2 => ⟨h2, h1⟩) (fun g h1 h2 => ⟨by omega, h2⟩)
  exact (Rd.node h1 hk hn).keep (fun b hb => ⟨by omega, by simp [World.setCell]; omega⟩) fun b hb => hq b (by omega)
end Go.Proofs.Ythjlfjaciigfiaa
