/-
  From what the form reads of an argument to the readings of the walks: terms, slices of terms. Plain.
-/
import Derived.Test.YthjlfjaciigfiaaEqual
import Derived.Lib.SmallJoins
import Derived.OpenShut
import Derived.WideShapes
import Derived.ChangeAt
namespace Go.Proofs.Ythjlfjaciigfiaa
open Go.RowKit Go.ChangeShapes Go.WideShapes Go.ChangeAt
set_option linter.unusedVariables false
set_option linter.unusedSimpArgs false

theorem cell_lt {w : World} {a : Addr} {v : Value} (h : w.cell? a = some v) : a.block < w.heap.size ∧ a.spot = none := by
  obtain ⟨e, n, h1, h2, h3⟩ := World.shape?_of_cell? h
  refine ⟨?_, h3⟩
  apply Nat.lt_of_not_le
  intro hle
  rw [World.cell?, show w.heap[a.block]? = none from Array.getElem?_eq_none hle] at h
  cases h

variable {H : Type} {enc : TypeId × Value → H} {w : World} {sp : Nat → Bool}

theorem three_cells {w : World} {a : Addr} {cs : List Value} (h : w.cells? 0 a 3 = some cs) : ∃ c0 c1 c2, cs = [c0, c1, c2] ∧ w.cell? (a.add 0) = some c0 ∧ w.cell? (a.add 1) = some c1 ∧ w.cell? (a.add 2) = some c2 := by
  unfold World.cells? at h
  rw [if_pos (Nat.zero_le _)] at h
  have hl := mapM_some_length h
  match cs, hl with
  | [c0, c1, c2], _ =>
    have g := fun (j : Nat) (hj : j < 3) => mapM_some_get h j j (by simp [hj])
    exact ⟨c0, c1, c2, rfl, by simpa using g 0 (by omega), by simpa using g 1 (by omega), by simpa using g 2 (by omega)⟩

theorem slice_of {fuel : Nat} {v : Value} {x : DataW H × List MemPlace} (h : DataW.trod enc Try.prog w 0 sp true fuel 22 [v] = some x)
    (hel : ∀ n cs y, n < fuel → DataW.trod enc Try.prog w 0 sp true n 24 cs = some y → ∃ k n ao m c t, cs = [.int .i64 k, .int .i64 n, .slice ao m c] ∧ Rd (· < w.heap.size) w (.agg #[.int .i64 k, .int .i64 n, .slice ao m c]) t) : ∃ l, Ts (· < w.heap.size) w v l := by
  have hc : Try.prog.cellsOf 24 = 3 := by kernel_rfl
  rcases DataW.trod_slice Try.underlying22 h with ⟨h1, _⟩ | ⟨a, len, cap, elems, rest, n, hfu, h1, _, hb, hl, hm, hlen, hels, _, _⟩
  · injection h1 with h1 _
    subst h1
    exact ⟨[], SubR.nil _ _ _ _ _ (Nat.zero_le _)⟩
  · injection h1 with h1 _
    subst h1
    have hq : ∀ i, i < len → ∃ z : Tm, ∃ b off c0 c1 c2, (some a : Option Addr) = some ⟨b, off, none⟩ ∧ b < w.heap.size ∧ w.cell? ⟨b, off + i * 3, none⟩ = some c0 ∧ w.cell? ⟨b, off + i * 3 + 1, none⟩ = some c1 ∧ w.cell? ⟨b, off + i * 3 + 2, none⟩ = some c2 ∧ Rd (· < w.heap.size) w (.agg #[c0, c1, c2]) z := by
      intro i hi
      have hy := hels i hi
      rw [List.getElem?_eq_getElem (by omega), hc, Option.bind_eq_some_iff] at hy
      obtain ⟨cs, hcs, hy⟩ := hy
      obtain ⟨c0, c1, c2, rfl, q0, q1, q2⟩ := three_cells hcs
      obtain ⟨k, x, ao, m, c, t, e, hr⟩ := hel n _ _ (by omega) hy
      injection e with e0 e; injection e with e1 e; injection e with e2 e
      subst e0; subst e1; subst e2
      obtain ⟨hlt, hsp⟩ := cell_lt q0
      obtain ⟨b, off, spot⟩ := a
      have hspot : spot = none := by
        by_cases h0 : i = 0
        · subst h0; simpa [Addr.add] using hsp
        · obtain ⟨z, hz⟩ : ∃ z : Nat, z = 0 := ⟨0, rfl⟩
          have hy0 := hels z (by omega)
          rw [List.getElem?_eq_getElem (by omega), hc, Option.bind_eq_some_iff] at hy0
          obtain ⟨cs0, hcs0, _⟩ := hy0
          obtain ⟨_, _, _, _, q0', _⟩ := three_cells hcs0
          have := (cell_lt q0').2
          subst hz
          simpa [Addr.add] using this
      subst hspot
      rw [Addr.add_lit] at q0 q1 q2
      rw [Addr.add_lit] at q0 q1 q2
      rw [Addr.add_lit] at hlt
      rw [Nat.add_zero] at q0
      exact ⟨t, b, off, _, _, _, rfl, hlt, q0, q1, q2, hr⟩
    obtain ⟨l, hll, hlq⟩ := list_of len _ hq
    subst hll
    exact ⟨l, _, cap, rfl, hl, hm, fun i hi => hlq i hi⟩

theorem term_cells : ∀ (fuel : Nat) (cs : List Value) (x : DataW H × List MemPlace), DataW.trod enc Try.prog w 0 sp true fuel 24 cs = some x →
    ∃ k n ao m c t, cs = [.int .i64 k, .int .i64 n, .slice ao m c] ∧ Rd (· < w.heap.size) w (.agg #[.int .i64 k, .int .i64 n, .slice ao m c]) t := by
  intro fuel
  induction fuel using Nat.strongRecOn with
  | _ fuel ih =>
    intro cs x h
    obtain ⟨xs, n, hfu, -, hl, hlen, hf⟩ := DataW.trod_struct Try.underlying24 h
    have hc : Try.prog.cellsOf 24 = 3 := by kernel_rfl
    have hc3 : Try.prog.cellsOf 3 = 1 := by kernel_rfl
    have hc22 : Try.prog.cellsOf 22 = 1 := by kernel_rfl
    rw [hc] at hl
    match cs, hl with
    | [c0, c1, c2], _ =>
      match xs, hlen with
      | [y0, y1, y2], _ =>
        have h0 := hf 0 _ rfl
        have h1 := hf 1 _ rfl
        have h2 := hf 2 _ rfl
        simp [hc3, hc22] at h0 h1 h2
        obtain ⟨k, e0, -, w0⟩ := DataW.trod_int Try.underlying3 h0
        obtain ⟨m, e1, -, w1⟩ := DataW.trod_int Try.underlying3 h1
        injection e0 with e0 _
        injection e1 with e1 _
        subst e0; subst e1
        obtain ⟨l, hl⟩ := slice_of h2 fun n' cs' y hn hy => ih n' (by omega) cs' y hy
        have hl' := hl
        obtain ⟨ao, cap, rfl, -, -, -⟩ := hl
        have b0 : -9223372036854775808 ≤ k ∧ k ≤ 9223372036854775807 := by have q := w0; simp [Lit.wf, show IntKind.i64.min = -9223372036854775808 from rfl] at q; exact q
        have b1 : -9223372036854775808 ≤ m ∧ m ≤ 9223372036854775807 := by have q := w1; simp [Lit.wf, show IntKind.i64.min = -9223372036854775808 from rfl] at q; exact q
        exact ⟨k, m, ao, _, cap, .node k m l, rfl, Rd.node hl' b0 b1⟩

theorem term_arg {r : Reach} {base : Nat} {v : Value} {d : DataW H} {ps : List MemPlace} (ho : Value.okWide Try.prog w r base 24 v) (h : DataW.Trod enc Try.prog w 0 sp true 24 v d ps) : ∃ x, Rd (· < w.heap.size) w v x := by
  obtain ⟨cs, rfl, hsz⟩ := okWide_struct Try.underlying24 ho
  obtain ⟨fuel, hf⟩ := h
  have hcl : (Value.agg cs).cells = cs := rfl
  rw [hcl] at hf
  obtain ⟨k, n, ao, m, c, t, e, hr⟩ := term_cells fuel _ _ hf
  have : cs = #[.int .i64 k, .int .i64 n, .slice ao m c] := by
    apply Array.ext'
    simpa using e
  subst this
  exact ⟨t, hr⟩
theorem terms_arg {r : Reach} {base : Nat} {v : Value} {d : DataW H} {ps : List MemPlace} (ho : Value.okWide Try.prog w r base 22 v) (h : DataW.Trod enc Try.prog w 0 sp true 22 v d ps) : ∃ x, Ts (· < w.heap.size) w v x := by
  obtain ⟨fuel, hf⟩ := h
  obtain ⟨a, l, c, rfl⟩ := okWide_slice Try.underlying22 ho
  have hcl : (Value.slice a l c).cells.toList = [.slice a l c] := rfl
  rw [hcl] at hf
  exact slice_of hf fun n cs y _ hy => term_cells n cs y hy
end Go.Proofs.Ythjlfjaciigfiaa
