/-
  slices.Clone, slices.Reverse at terms, tele.backwards, Fill: contracts of the walk.
-/
import Derived.Test.YthjlfjaciigfiaaAwake9
namespace Go.Proofs.Ythjlfjaciigfiaa
open Go.RowKit
set_option linter.unusedVariables false
set_option linter.unusedSimpArgs false

set_option maxRecDepth 100000 in
set_option maxHeartbeats 4000000 in
theorem Clone_w (vl : Value) (l : List Tm) (w : World) (hl : Ts (· < w.heap.size) w vl l) (hlen : l.length ≤ 1000000) :
    Calls Try.prog 122 #[vl] w (fun e w' => ∃ v, e = .returned v ∧ Below w.heap.size w w' ∧ MadeG 3 24 RdC (· < w.heap.size) w.heap.size w' v l) := by
  have hl0 := hl
  obtain ⟨ao, cap, rfl, h1, h2, he⟩ := hl.elem
  have HL := Lib.hid hl0
  have qT : ∀ (w : World) (a : Option Addr) (n c : Nat), (binOp .eql 22 (.slice a n c) (.slice none 0 0)).run Try.prog w = .ok (.bool a.isNone) w := fun w a n c => Lib.run_eql_slice_nil w _ _ a n c _ _ Try.underlying22
  cases ao with
  | none =>
    have h0 : l = [] := by
      cases l with
      | nil => rfl
      | cons a l => obtain ⟨b, off, k2, n2, ao2, m2, cap2, e, -⟩ := he 0 (by simp); cases e
    subst h0
    clear hl hl0 he
    go_enter Try.func122, Try.ntmps122
    go_wp2_with fail
    go_ret
    exact ⟨_, rfl, Below.refl _ _, MadeG.nil _ _ _ _ _ _⟩
  | some p =>
    have hM := (MadeG.empty 3 24 RdC (· < w.heap.size) w.heap.size w (Nat.le_refl _) : MadeG 3 24 RdC _ _ _ _ ([] : List Tm))
    have hb := alloc_bel w (.cells #[] 24)
    obtain ⟨ao2, c2, w', hr, hM2, hg, hbk⟩ := run_terms (Pb := (· < w.heap.size)) (xs := l) 22 hM (SubR.keep HL.out (fun q hq => hq) (fun q hq => hb.block q hq) (fun q (hq : q < w.heap.size) => ⟨by simp [Value.ownBlock]; omega, Nat.lt_of_lt_of_le hq hb.size, hq⟩) fun q hq => hb.block q hq) (by simpa using by omega) hb.size
    have HR := Lib.hid hr
    have HM2 := Lib.hid hM2
    have HB2 := Lib.hid (show Below w.heap.size w w' from hb.trans ⟨hg.os, hg.tape, hg.output, hg.size, fun b hb' => hg.block b (Nat.lt_of_lt_of_le hb' hb.size) (fun e => by simp [Value.ownBlock] at e; omega)⟩)
    clear hl hl0 he hM hr hM2 hg hbk hb
    go_enter Try.func122, Try.ntmps122
    go_wp2_with (at_builtin; refine wpList_run_append rfl _ _ _ rfl _ _ _ rfl rfl HR.out ?_)
    go_ret
    exact ⟨_, rfl, HB2.out, by simpa using HM2.out⟩

/-- a row of terms in block b, its elements read in P -/
def Rw (b : Nat) (P : Nat → Prop) (w : World) (l : List Tm) : Prop :=
  ∃ cs, w.heap[b]? = some (.cells cs 24) ∧ 3 * l.length ≤ cs.size ∧ ∀ i (hi : i < l.length), ∃ k n ao m c, cs[i * 3]? = some (.int .i64 k) ∧ cs[i * 3 + 1]? = some (.int .i64 n) ∧ cs[i * 3 + 2]? = some (.slice ao m c) ∧
    Rd P w (.agg #[.int .i64 k, .int .i64 n, .slice ao m c]) l[i]
theorem Rw.cell {b : Nat} {P : Nat → Prop} {w : World} {l : List Tm} (h : Rw b P w l) {i : Nat} (hi : i < l.length) : ∃ k n ao m c, w.cell? ⟨b, i * 3, none⟩ = some (.int .i64 k) ∧ w.cell? ⟨b, i * 3 + 1, none⟩ = some (.int .i64 n) ∧ w.cell? ⟨b, i * 3 + 2, none⟩ = some (.slice ao m c) ∧
    Rd P w (.agg #[.int .i64 k, .int .i64 n, .slice ao m c]) l[i] ∧ (∀ j, w.frozen? ⟨b, j, none⟩ = false) ∧ b < w.heap.size := by
  obtain ⟨cs, h1, h2, h3⟩ := h
  obtain ⟨k, n, ao, m, c, q0, q1, q2, hr⟩ := h3 i hi
  refine ⟨k, n, ao, m, c, ?_, ?_, ?_, hr, fun j => ?_, (Array.getElem?_eq_some_iff.1 h1).1⟩
  · unfold World.cell?; rw [h1]; simpa using q0
  · unfold World.cell?; rw [h1]; simpa using q1
  · unfold World.cell?; rw [h1]; simpa using q2
  · unfold World.frozen?; rw [h1]; simp
theorem setRow_off (w : World) (b o : Nat) (x y z : Value) : ∀ q, q ≠ b → (((w.setCell ⟨b, o, none⟩ x).setCell ⟨b, o + 1, none⟩ y).setCell ⟨b, o + 2, none⟩ z).heap[q]? = w.heap[q]? := fun q hq => by
  rw [Below.heap_setCell _ _ _ _ (by exact hq), Below.heap_setCell _ _ _ _ (by exact hq), Below.heap_setCell _ _ _ _ (by exact hq)]
theorem Rw.put {b : Nat} {P : Nat → Prop} {w : World} {l : List Tm} (h : Rw b P w l) (hb : ¬ P b) {i : Nat} (hi : i < l.length) {k n : Int} {ao : Option Addr} {m c : Nat} {x : Tm} (hx : Rd P w (.agg #[.int .i64 k, .int .i64 n, .slice ao m c]) x) :
    Rw b P (((w.setCell ⟨b, i * 3, none⟩ (.int .i64 k)).setCell ⟨b, i * 3 + 1, none⟩ (.int .i64 n)).setCell ⟨b, i * 3 + 2, none⟩ (.slice ao m c)) (l.set i x) := by
  obtain ⟨cs, h1, h2, h3⟩ := h
  have hoff := setRow_off w b (i * 3) (.int .i64 k) (.int .i64 n) (.slice ao m c)
  have hk : ∀ q, P q → (((w.setCell ⟨b, i * 3, none⟩ (.int .i64 k)).setCell ⟨b, i * 3 + 1, none⟩ (.int .i64 n)).setCell ⟨b, i * 3 + 2, none⟩ (.slice ao m c)).heap[q]? = w.heap[q]? := fun q hq => hoff q (fun e => hb (e ▸ hq))
  refine ⟨((cs.setIfInBounds (i * 3) (.int .i64 k)).setIfInBounds (i * 3 + 1) (.int .i64 n)).setIfInBounds (i * 3 + 2) (.slice ao m c), by simp [World.setCell, Array.getElem?_modify, h1], by simpa using h2, fun p hp => ?_⟩
  rw [List.length_set] at hp
  by_cases e : p = i
  · subst e
    refine ⟨k, n, ao, m, c, ?_, ?_, ?_, ?_⟩
    · simp [Array.getElem?_setIfInBounds]; omega
    · simp [Array.getElem?_setIfInBounds]; omega
    · simp [Array.getElem?_setIfInBounds]; omega
    · simpa using hx.keep (fun q hq => hq) hk
  · obtain ⟨k2, n2, ao2, m2, c2, q0, q1, q2, hr⟩ := h3 p hp
    refine ⟨k2, n2, ao2, m2, c2, ?_, ?_, ?_, ?_⟩
    · rw [Array.getElem?_setIfInBounds_ne (by omega), Array.getElem?_setIfInBounds_ne (by omega), Array.getElem?_setIfInBounds_ne (by omega)]; exact q0
    · rw [Array.getElem?_setIfInBounds_ne (by omega), Array.getElem?_setIfInBounds_ne (by omega), Array.getElem?_setIfInBounds_ne (by omega)]; exact q1
    · rw [Array.getElem?_setIfInBounds_ne (by omega), Array.getElem?_setIfInBounds_ne (by omega), Array.getElem?_setIfInBounds_ne (by omega)]; exact q2
    · rw [List.getElem_set_ne (by omega)]; exact hr.keep (fun q hq => hq) hk
theorem Rw.drew {b : Nat} {P : Nat → Prop} {w : World} {l : List Tm} (h : Rw b P w l) : Rw b P w.drew l := by
  obtain ⟨cs, q1, q2, q3⟩ := h
  refine ⟨cs, q1, q2, fun p hp => ?_⟩
  obtain ⟨k, n, ao, m, c, z0, z1, z2, zr⟩ := q3 p hp
  exact ⟨k, n, ao, m, c, z0, z1, z2, zr.keep (fun q hq => hq) fun _ _ => rfl⟩
theorem Rw.swap {b : Nat} {P : Nat → Prop} {base i j : Nat} {w w0 : World} {l : List Tm} (h : Rw b P w l) (hB : Below base w0 w) (hbase : base ≤ b) (hb : ¬ P b) (hi : i < l.length) (hj : j < l.length) {k n : Int} {ao : Option Addr} {m c : Nat} {k2 n2 : Int} {ao2 : Option Addr} {m2 c2 : Nat}
    (hx : Rd P w (.agg #[.int .i64 k, .int .i64 n, .slice ao m c]) l[i]) (hy : Rd P w (.agg #[.int .i64 k2, .int .i64 n2, .slice ao2 m2 c2]) l[j]) :
    Rw b P ((((((w.setCell ⟨b, i * 3, none⟩ (.int .i64 k2)).setCell ⟨b, i * 3 + 1, none⟩ (.int .i64 n2)).setCell ⟨b, i * 3 + 2, none⟩ (.slice ao2 m2 c2)).setCell ⟨b, j * 3, none⟩ (.int .i64 k)).setCell ⟨b, j * 3 + 1, none⟩ (.int .i64 n)).setCell ⟨b, j * 3 + 2, none⟩ (.slice ao m c)).drew ((l.set i l[j]).set j l[i]) ∧
    Below base w0 ((((((w.setCell ⟨b, i * 3, none⟩ (.int .i64 k2)).setCell ⟨b, i * 3 + 1, none⟩ (.int .i64 n2)).setCell ⟨b, i * 3 + 2, none⟩ (.slice ao2 m2 c2)).setCell ⟨b, j * 3, none⟩ (.int .i64 k)).setCell ⟨b, j * 3 + 1, none⟩ (.int .i64 n)).setCell ⟨b, j * 3 + 2, none⟩ (.slice ao m c)).drew := by
  have h1 := h.put hb hi hy
  have h2 := h1.put hb (i := j) (by simpa using hj) (hx.keep (fun q hq => hq) fun q hq => setRow_off w b (i * 3) _ _ _ q (fun e => hb (e ▸ hq)))
  exact ⟨h2.drew, below_drewN ((((((hB.setCell (p := ⟨b, i * 3, none⟩) hbase _).setCell (p := ⟨b, i * 3 + 1, none⟩) hbase _).setCell (p := ⟨b, i * 3 + 2, none⟩) hbase _).setCell (p := ⟨b, j * 3, none⟩) hbase _).setCell (p := ⟨b, j * 3 + 1, none⟩) hbase _).setCell (p := ⟨b, j * 3 + 2, none⟩) hbase _) 1⟩
/-- reversed so far -/
def Tn (l cur : List Tm) (i : Nat) : Prop := cur.length = l.length ∧ ∀ p, p < l.length → cur[p]? = if p < i ∨ l.length ≤ p + i then l[l.length - 1 - p]? else l[p]?
theorem Tn.start (l : List Tm) : Tn l l 0 := ⟨rfl, fun p hp => by rw [if_neg (by omega)]⟩
theorem Tn.done {l cur : List Tm} {i : Nat} (h : Tn l cur i) (hi : l.length ≤ 2 * i + 1) : cur = l.reverse := by
  apply List.ext_getElem?
  intro p
  by_cases hp : p < l.length
  · rw [h.2 p hp, List.getElem?_reverse hp]
    by_cases h2 : p < i ∨ l.length ≤ p + i
    · rw [if_pos h2]
    · rw [if_neg h2]; congr 1; omega
  · rw [List.getElem?_eq_none (by have := h.1; omega), List.getElem?_eq_none (by simp; omega)]
theorem Tn.step {l cur : List Tm} {i j : Nat} (h : Tn l cur i) (hij : i < j) (hs : i + j + 1 = l.length) (hi : i < cur.length) (hj : j < cur.length) : Tn l ((cur.set i cur[j]).set j cur[i]) (i + 1) := by
  have hl := h.1
  refine ⟨by simpa using hl, fun p hp => ?_⟩
  have ei := h.2 i (by omega)
  have ej := h.2 j (by omega)
  rw [if_neg (by omega), List.getElem?_eq_getElem hi] at ei
  rw [if_neg (by omega), List.getElem?_eq_getElem hj] at ej
  by_cases e1 : p = j
  · subst e1
    rw [List.getElem?_set_self (by simpa using hj), if_pos (by omega), show l.length - 1 - p = i by omega]; exact ei
  · rw [List.getElem?_set_ne (fun e => e1 e.symm)]
    by_cases e2 : p = i
    · subst e2
      rw [List.getElem?_set_self hi, if_pos (by omega), show l.length - 1 - p = j by omega]; exact ej
    · rw [List.getElem?_set_ne (fun e => e2 e.symm), h.2 p hp]
      by_cases h2 : p < i ∨ l.length ≤ p + i
      · rw [if_pos h2, if_pos (by omega)]
      · rw [if_neg h2, if_neg (by omega)]

set_option maxRecDepth 100000 in
set_option maxHeartbeats 4000000 in
theorem Reverse_w (b : Nat) (P : Nat → Prop) (cap base : Nat) (l : List Tm) (w : World) (hP : ¬ P b) (h : Rw b P w l) (hc : l.length ≤ cap) (hlen : l.length ≤ 1000000) (hbase : base ≤ b) :
    Calls Try.prog 123 #[.slice (some ⟨b, 0, none⟩) l.length cap] w (fun e w' => e = .returned (.tuple #[]) ∧ Below base w w' ∧ Rw b P w' l.reverse) := by
  have HW := Lib.hid h
  have HB0 := Lib.hid (Below.refl base w)
  clear h
  go_enter Try.func123, Try.ntmps123
  go_wp2_with fail
  go_loopw [2, 3] (fun iv jv wr => ∃ (i : Nat) (jj : Int) (cur : List Tm), iv = .int .i64 i ∧ jv = .int .i64 jj ∧ (i : Int) + jj + 1 = l.length ∧ i ≤ l.length ∧ Tn l cur i ∧ Rw b P wr cur ∧ Below base w wr) (fun iv _ _ => l.length - (intOf iv).toNat)
  case atStart => exact ⟨0, _, l, by go_num, by go_num, by omega, Nat.zero_le _, Tn.start l, HW.out, HB0.out⟩
  case round =>
    obtain ⟨i, jj, cur, rfl, rfl, hs, hil, ht, hR, hb⟩ := hrel
    have HT := Lib.hid ht
    have HR := Lib.hid hR
    have HB := Lib.hid hb
    have HS := Lib.hid hs
    clear ht hR hb HW HB0 hs
    by_cases hij : (i : Int) < jj
    · obtain ⟨j, rfl⟩ : ∃ j : Nat, jj = j := ⟨jj.toNat, by omega⟩
      have hsn : i + j + 1 = l.length := by have := HS.out; omega
      have hl := HT.out.1
      have hi : i < cur.length := by omega
      have hj : j < cur.length := by omega
      have HI := Lib.hid hsn
      have HL := Lib.hid hl
      obtain ⟨k1, n1, ao1, m1, c1, p0, p1, p2, pr, pf, pl⟩ := HR.out.cell hi
      obtain ⟨k2, n2, ao2, m2, c2, r0, r1, r2, rr, -, -⟩ := HR.out.cell hj
      have HPR := Lib.hid pr
      have HRR := Lib.hid rr
      have hi1 : (i : Int) < (l.length : Int) := by omega
      have hj1 : (j : Int) < (l.length : Int) := by omega
      have hi2 : i < l.length := by omega
      have hj2 : j < l.length := by omega
      clear pr rr hsn hl
      go_wp2_with fail
      have HSW := Lib.hid (HR.out.swap HB.out hbase hP hi hj HPR.out HRR.out)
      go_region
      clear p0 p1 p2 r0 r1 r2 pf pl
      go_wp2_with fail
      go_roundw
      case rel =>
        exact ⟨i + 1, (j : Int) - 1, _, by go_num, by go_num, by have := HI.out; omega, by omega, HT.out.step (by omega) HI.out hi hj, HSW.out.1, HSW.out.2⟩
      case measure =>
        have q : (intOf (.int .i64 ((i : Int) + 1))).toNat = i + 1 := by show ((i : Int) + 1).toNat = _; omega
        have q2 : (intOf (.int .i64 (i : Int))).toNat = i := by show ((i : Int)).toNat = _; omega
        rw [q, q2]; omega
    · have hd := HT.out.done (by have := HS.out; omega)
      subst hd
      have HJ := Lib.hid hij
      go_wp2_with fail
      exact bodyPost_end (results_none rfl _ _ _) rfl ⟨rfl, HB.out, HR.out⟩
theorem MadeG.rw {F : Nat → Prop} {base : Nat} {w : World} {v : Value} {l : List Tm} (h : MadeG 3 24 RdC F base w v l) (hl : l ≠ []) :
    ∃ g cap, v = .slice (some ⟨g, 0, none⟩) l.length cap ∧ base ≤ g ∧ l.length ≤ cap ∧ cap ≤ maxLen ∧ Rw g (fun q => q ≠ g ∧ q < w.heap.size) w l := by
  have h0 := h
  obtain ⟨css, q1, q2, q3⟩ := h
  rcases q1.2 with ⟨rfl, h1⟩ | ⟨g, cap, cur, rfl, hb, hg, hnc, hcm, hcs, ht⟩
  · exact absurd (List.eq_nil_of_length_eq_zero h1) hl
  · refine ⟨g, cap, rfl, hb, hnc, hcm, cur, hg, by rw [hcs]; omega, fun i hi => ?_⟩
    obtain ⟨ao, cap2, e, -, -, he⟩ := h0.cells (by omega)
    obtain ⟨g2, cs, e1, e2, -, -, -, hc, k, n, ao2, m, c, rfl, hr⟩ := he i hi
    simp only [Value.ownBlock, Option.some.injEq] at e2
    subst e2
    have z0 := hc 0 _ rfl
    have z1 := hc 1 _ rfl
    have z2 := hc 2 _ rfl
    unfold World.cell? at z0 z1 z2
    rw [hg] at z0 z1 z2
    refine ⟨k, n, ao2, m, c, by simpa using z0, by simpa using z1, by simpa using z2, hr.keep (fun q hq => ⟨fun e => hq.1 (by simp [Value.ownBlock, e]), hq.2.1⟩) fun _ _ => rfl⟩
theorem Rw.terms {b : Nat} {P : Nat → Prop} {w : World} {l : List Tm} {cap : Nat} (h : Rw b P w l) (hc : l.length ≤ cap) (hcm : cap ≤ maxLen) : Ts (fun q => q = b ∨ P q) w (.slice (some ⟨b, 0, none⟩) l.length cap) l := by
  refine ⟨_, cap, rfl, hc, hcm, fun i hi => ?_⟩
  obtain ⟨k, n, ao, m, c, z0, z1, z2, hr, -, -⟩ := h.cell hi
  exact ⟨b, 0, _, _, _, rfl, .inl rfl, by simpa using z0, by simpa using z1, by simpa using z2, hr.keep (fun q hq => .inr hq) fun _ _ => rfl⟩
set_option maxRecDepth 100000 in
set_option maxHeartbeats 4000000 in
theorem Reverse0_w (ao : Option Addr) (cap : Nat) (w : World) : Calls Try.prog 123 #[.slice ao 0 cap] w (fun e w' => e = .returned (.tuple #[]) ∧ w' = w) := by
  go_enter Try.func123, Try.ntmps123
  go_wp2_with fail
  go_loopw [2, 3] (fun iv jv wr => iv = .int .i64 0 ∧ jv = .int .i64 (-1) ∧ wr = w) (fun _ _ _ => 0)
  case atStart => exact ⟨rfl, by go_num, rfl⟩
  case round =>
    obtain ⟨rfl, rfl, rfl⟩ := hrel
    go_wp2_with fail
    exact bodyPost_end (results_none rfl _ _ _) rfl ⟨rfl, rfl⟩
/-- a list of terms is answered -/
def AnsTl (w : World) (l : List Tm) (e : Ending) (w' : World) : Prop :=
  ∃ ao m c, e = .returned (.slice ao m c) ∧ Below w.heap.size w w' ∧ Ts (· < w'.heap.size) w' (.slice ao m c) l
set_option maxRecDepth 100000 in
set_option maxHeartbeats 4000000 in
theorem backwards_w (vl : Value) (l : List Tm) (w : World) (hl : Ts (· < w.heap.size) w vl l) (hlen : l.length ≤ 1000000) :
    Calls Try.prog 106 #[vl] w (AnsTl w l.reverse) := by
  have HC := Lib.hid (Clone_w vl l w hl hlen)
  obtain ⟨ao, cap, rfl, -⟩ := hl.elem
  clear hl
  go_enter Try.func106, Try.ntmps106
  go_wp2_with fail
  refine HC.out.mono ?_
  rintro e w1 ⟨v, rfl, hb, hM⟩
  by_cases h0 : l = []
  · subst h0
    obtain ⟨ao2, cap2, rfl, -, hcm, -⟩ := hM.cells (by omega)
    have HB := Lib.hid hb
    clear hb hM
    go_wp2_with fail
    refine (Reverse0_w _ _ _).mono ?_
    rintro e w2 ⟨rfl, rfl⟩
    go_wp2_with fail
    go_ret
    exact ⟨_, _, _, rfl, HB.out, SubR.nil _ _ _ _ _ hcm⟩
  · obtain ⟨g, cap2, rfl, hg, hc, hcm, hR⟩ := hM.rw h0
    have HB := Lib.hid hb
    have HR := Lib.hid (Reverse_w g _ cap2 w.heap.size l w1 (by simp) hR hc hlen hg)
    clear hb hM hR
    go_wp2_with fail
    refine HR.out.mono ?_
    rintro e w2 ⟨rfl, hb2, hR2⟩
    have HB2 := Lib.hid (HB.out.trans hb2)
    have HB3 := Lib.hid hb2.size
    have HR2 := Lib.hid hR2
    clear hb2 hR2
    go_wp2_with fail
    go_ret
    have hz : g < w2.heap.size := by
      obtain ⟨cs, q, -⟩ := HR2.out
      exact blt q
    have hts := HR2.out.terms (cap := cap2) (by simpa using hc) hcm
    have hbz := HB2.out
    refine ⟨_, _, _, rfl, hbz, ?_⟩
    have hts2 := hts.keep (P' := (· < w2.heap.size)) (w' := w2) (fun q hq => by rcases hq with rfl | hq; exact hz; exact Nat.lt_of_lt_of_le hq.2 HB3.out) fun _ _ => rfl
    simpa using hts2
set_option maxRecDepth 100000 in
set_option maxHeartbeats 4000000 in
theorem Fill_w (v : Value) (t : Tm) (vl : Value) (l : List Tm) (w : World) (hr : Rd (· < w.heap.size) w v t) (hl : Ts (· < w.heap.size) w vl l) (hlen : l.length ≤ 1000000) :
    Calls Try.prog 66 #[v, vl] w (AnsTE w (manyR t l.reverse).1 (manyR t l.reverse).2) := by
  obtain ⟨rt, rc, hres⟩ : ∃ rt rc, manyR t l.reverse = (rt, rc) := ⟨_, _, rfl⟩
  rw [hres]
  obtain ⟨ao, cap, rfl⟩ := hr.shape
  obtain ⟨W, hW⟩ : ∃ W, W = (w.alloc (.cells #[.int .i64 t.kind, .int .i64 t.num, .slice ao t.sub.length cap] 24)).alloc (.cells #[.int .i64 0, .int .i64 0, .slice none 0 0] 24) := ⟨_, rfl⟩
  have hb0 : Below w.heap.size w W := by rw [hW]; exact (((Below.refl _ _).alloc (Nat.le_refl _) _).alloc (by simp only [World.size_alloc]; omega) _)
  have hsW : W.heap.size = w.heap.size + 2 := by rw [hW]; simp only [World.size_alloc]
  have Q : W.heap[w.heap.size]? = some (.cells #[.int .i64 t.kind, .int .i64 t.num, .slice ao t.sub.length cap] 24) := by rw [hW]; exact (Below.heap_alloc _ _ _ (by simp only [World.size_alloc]; omega)).trans (heap_new _ _ _ rfl)
  have Z : W.heap[w.heap.size + 1]? = some (.cells #[.int .i64 0, .int .i64 0, .slice none 0 0] 24) := by rw [hW]; exact heap_new _ _ _ (by simp only [World.size_alloc])
  have HQ := Lib.hid Q
  have HZ := Lib.hid Z
  have T := Lib.hid (hr.on hb0)
  have FB0 := Lib.hid hb0
  have SW := Lib.hid hsW
  have HW := Lib.hid hW
  have RES := Lib.hid hres
  have TL := Lib.hid (hl.on hb0)
  have HLN := Lib.hid hlen
  obtain ⟨aol, capl, rfl, -⟩ := hl.elem
  obtain ⟨q0, q1, q2, -, ql⟩ := three Q
  rw [hW] at q0 q1 q2 ql
  clear hb0 hsW hW hr Q Z hres hl
  go_enter Try.func66, Try.ntmps66
  go_wp2_with fail
  rw [← HW.out] at q0 q1 q2 ql ⊢
  refine wp_region_order [(0, true), (1, true), (2, false), (3, false), (4, true), (5, true), (6, false), (7, false)]
    (fun w' => w'.cell? ⟨w.heap.size, 0, none⟩ = some (.int .i64 t.kind) ∧ w'.cell? ⟨w.heap.size, 1, none⟩ = some (.int .i64 t.num) ∧ w'.cell? ⟨w.heap.size, 2, none⟩ = some (.slice ao t.sub.length cap))
    (by kernel_rfl) (by kernel_rfl) ⟨q0, q1, q2⟩ (fun hHeld => ?_)
  simp only [pickT, List.getElem?_cons_zero, List.getElem?_cons_succ, Option.getD_some]
  repeat (refine wpT_take (v := ?_) (by rfl) (fun w' hSw => ?_) ?_; rotate_left; (go_simp; with_reducible rfl); simp only [Act.put, List.setIfInBounds_toArray, List.set_cons_zero, List.set_cons_succ])
  refine wpT_do (fun K hK => ?_)
  go_simp
  go_at_call 106
  refine (backwards_w _ _ _ (TL.out.on (below_drewN (Below.refl _ _) 1)) HLN.out).mono ?_
  rintro e w1 ⟨aob, mb, cb, rfl, hb, hts⟩
  have HTS := Lib.hid hts
  clear hts
  have hb1 : Below W.heap.size W w1 := (below_drewN (Below.refl _ _) 1).trans hb
  have HB1 := Lib.hid (FB0.out.trans (hb1.mono FB0.out.size))
  have T1 := Lib.hid (T.out.on hb1)
  have HQ1 := Lib.hid ((hb1.block _ (blt HQ.out)).trans HQ.out)
  have HZ1 := Lib.hid ((hb1.block _ (blt HZ.out)).trans HZ.out)
  have hsz1 : w.heap.size + 2 ≤ w1.heap.size := by have := hb1.size; have := SW.out; omega
  clear hb hb1 q0 q1 q2 ql
  obtain ⟨q0, q1, q2, -, ql⟩ := three HQ1.out
  refine hK.out _ _ ⟨q0, q1, q2⟩ (fun hHeld => ?_)
  clear hK K hHeld
  have hcon := Many9_q RES.out (by rw [List.length_reverse]; exact HLN.out) HTS.out T1.out
  have HCON := Lib.hid hcon
  clear hcon
  refine wpT_do (fun K hK => ?_)
  go_simp
  go_at_call 50
  refine HCON.out.mono ?_
  rintro e w2 ⟨k2, n2, ao2, m2, c2, rfl, hb2, hr2⟩
  have HB2 := Lib.hid (HB1.out.trans (hb2.mono HB1.out.size))
  have HQ2 := Lib.hid ((hb2.block _ (blt HQ1.out)).trans HQ1.out)
  have HZ2 := Lib.hid ((hb2.block _ (blt HZ1.out)).trans HZ1.out)
  have HR2 := Lib.hid (hr2.keep (P' := fun q => w.heap.size + 1 < q ∧ q < w2.heap.size) (fun q hq => ⟨by have := hq.1; omega, hq.2⟩) fun _ _ => rfl)
  clear hb2 hr2 q0 q1 q2 ql
  obtain ⟨q0, q1, q2, -, ql⟩ := three HQ2.out
  refine hK.out _ _ ⟨q0, q1, q2⟩ (fun hHeld => ?_)
  clear hK K hHeld
  repeat (refine wpT_take (v := ?_) (by rfl) (fun w' hSw => ?_) ?_; rotate_left; (go_simp; with_reducible rfl); simp only [Act.put, List.setIfInBounds_toArray, List.set_cons_zero, List.set_cons_succ])
  obtain ⟨z0, z1, z2, zf, zl⟩ := three HZ2.out
  have zf0 := zf 0
  have zf1 := zf 1
  have zf2 := zf 2
  have hoff := set3_off w2 (w.heap.size + 1) (.int .i64 k2) (.int .i64 n2) (.slice ao2 m2 c2)
  have HX := Lib.hid (set3_blk (a := .int .i64 k2) (b := .int .i64 n2) (c := .slice ao2 m2 c2) HZ2.out)
  have HB3 := Lib.hid ((((HB2.out.setCell (p := ⟨w.heap.size + 1, 0, none⟩) (by simp only []; omega) (.int .i64 k2)).setCell (p := ⟨w.heap.size + 1, 1, none⟩) (by simp only []; omega) (.int .i64 n2)).setCell (p := ⟨w.heap.size + 1, 2, none⟩) (by simp only []; omega) (.slice ao2 m2 c2)))
  have HR3 := Lib.hid (HR2.out.keep (w' := ((w2.setCell ⟨w.heap.size + 1, 0, none⟩ (.int .i64 k2)).setCell ⟨w.heap.size + 1, 1, none⟩ (.int .i64 n2)).setCell ⟨w.heap.size + 1, 2, none⟩ (.slice ao2 m2 c2))
    (P' := fun q => w.heap.size + 1 < q ∧ q < (((w2.setCell ⟨w.heap.size + 1, 0, none⟩ (.int .i64 k2)).setCell ⟨w.heap.size + 1, 1, none⟩ (.int .i64 n2)).setCell ⟨w.heap.size + 1, 2, none⟩ (.slice ao2 m2 c2)).heap.size) (fun q hq => ⟨hq.1, by rw [set3_size]; exact hq.2⟩) fun q hq => hoff q (by omega))
  have HQ3 := Lib.hid ((hoff _ (by omega)).trans HQ2.out)
  refine wpT_do (fun K hK => ?_)
  go_simp
  clear z0 z1 z2 zf zf0 zf1 zf2 zl hoff q0 q1 q2 ql
  generalize ((w2.setCell ⟨w.heap.size + 1, 0, none⟩ (.int .i64 k2)).setCell ⟨w.heap.size + 1, 1, none⟩ (.int .i64 n2)).setCell ⟨w.heap.size + 1, 2, none⟩ (.slice ao2 m2 c2) = w3 at HX HB3 HR3 HQ3 ⊢
  obtain ⟨q0, q1, q2, -, ql⟩ := three HQ3.out
  refine hK.out _ _ ⟨q0, q1, q2⟩ (fun hHeld => ?_)
  clear hK K hHeld
  obtain ⟨z0, z1, z2, zf, zl⟩ := three HX.out
  refine wpT_last (fun K hK => ?_)
  go_simp
  refine hK.out _ _ ?_
  clear hK K
  go_wp2_with fail
  exact bodyPost_ret (v := .tuple #[.agg #[.int .i64 k2, .int .i64 n2, .slice ao2 m2 c2], .int .i64 rc]) (by simp [results, Try.results66, go_sem, z0, z1, z2]) rfl ⟨_, _, _, _, _, rfl, HB3.out, HR3.out.keep (fun q hq => ⟨by omega, hq.2⟩) fun _ _ => rfl⟩
theorem Fill_q {w : World} {vl v : Value} {l : List Tm} {t a : Tm} {c : Int} (hq : manyR t l.reverse = (a, c)) (hlen : l.length ≤ 1000000) (hl : Ts (· < w.heap.size) w vl l) (h : Rd (· < w.heap.size) w v t) : Calls Try.prog 66 #[v, vl] w (AnsTE w a c) := by
  have := Fill_w v t vl l w h hl hlen; rwa [hq] at this
end Go.Proofs.Ythjlfjaciigfiaa
