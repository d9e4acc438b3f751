/-
  tele.Whole: a contract of the walk.
-/
import Derived.Test.YthjlfjaciigfiaaMany
namespace Go.Proofs.Ythjlfjaciigfiaa
open Go.RowKit
set_option linter.unusedVariables false
set_option linter.unusedSimpArgs false

theorem pi_len {t : Tm} {n : Nat} (h : t.kind = 3) (h2 : t.sub.length = 2) : ∃ x a b, t = .node 3 x [a, b] ∧ pis (n + 1) t = pis n b + 1 := by
  obtain ⟨k, x, l⟩ := t
  have hk : k = 3 := h
  subst hk
  match l, (show l.length = 2 from h2) with
  | [a, b], _ => exact ⟨x, a, b, rfl, by simp [pis]⟩
theorem pis_not {t : Tm} {n : Nat} (h : ¬ (t.kind = 3 ∧ t.sub.length = 2)) : pis n t = 0 := by
  obtain ⟨k, x, l⟩ := t
  cases n with
  | zero => rfl
  | succ n =>
    simp only [pis]
    split
    · rename_i hk
      match l, h with
      | [], _ => rfl
      | [_], _ => rfl
      | [a, b], h => exact absurd ⟨hk, rfl⟩ h
      | _ :: _ :: _ :: _, _ => rfl
    · rfl

set_option maxRecDepth 100000 in
set_option maxHeartbeats 4000000 in
theorem Whole_w (v : Value) (t : Tm) (w : World) (hr : Rd (· < w.heap.size) w v t) : Calls Try.prog 47 #[v] w (AnsSF w (splitR t (pis 25 t : Nat))) := by
  obtain ⟨ao, cap, rfl⟩ := hr.shape
  obtain ⟨S, hS⟩ : ∃ S, S = splitR t (pis 25 t : Nat) := ⟨_, rfl⟩
  rw [← hS]
  have HSS := Lib.hid hS
  clear hS
  obtain ⟨W, hW⟩ : ∃ W, W = (w.alloc (.cells #[.int .i64 t.kind, .int .i64 t.num, .slice ao t.sub.length cap] 24)).alloc (.cells #[.int .i64 0, .int .i64 0, .slice none 0 0] 24) := ⟨_, rfl⟩
  have hb0 : Below w.heap.size w W := by rw [hW]; exact (((Below.refl _ _).alloc (Nat.le_refl _) _).alloc (by simp only [World.size_alloc]; omega) _)
  have hsW : W.heap.size = w.heap.size + 2 := by rw [hW]; simp only [World.size_alloc]
  have Q : W.heap[w.heap.size]? = some (.cells #[.int .i64 t.kind, .int .i64 t.num, .slice ao t.sub.length cap] 24) := by rw [hW]; exact (Below.heap_alloc _ _ _ (by simp only [World.size_alloc]; omega)).trans (heap_new _ _ _ (by first | rfl | simp only [World.size_alloc]))
  replace Q := Lib.hid Q
  have Z : W.heap[w.heap.size + 1]? = some (.cells #[.int .i64 0, .int .i64 0, .slice none 0 0] 24) := by rw [hW]; exact heap_new _ _ _ (by first | rfl | simp only [World.size_alloc])
  replace Z := Lib.hid Z
  have TR := Lib.hid (hr.keep (w' := W) (P' := (· < w.heap.size)) (fun q hq => hq) fun q hq => hb0.block q hq)
  have FB0 := Lib.hid hb0
  have SW := Lib.hid hsW
  have HW := Lib.hid hW
  clear hb0 hsW hW hr
  obtain ⟨Q0, Q1, Q2, Qf, Ql⟩ := three Q.out
  go_enter Try.func47, Try.ntmps47
  go_wp2_with fail
  rw [← HW.out]
  go_wp2_with fail
  clear Q0 Q1 Q2 Qf Ql
  have hbA := alloc_bel W (.cells #[.int .i64 t.kind, .int .i64 t.num, .slice ao t.sub.length cap] 24)
  go_loopw [5, 6] (fun i p wr => ∃ (j bx : Nat) (cur : Tm) (aoc : Option Addr) (capc : Nat), i = .int .i64 j ∧ p = .pointer (some ⟨bx, 0, none⟩) ∧ j ≤ 25 ∧ pis 25 t = j + pis (25 - j) cur ∧ w.heap.size + 2 ≤ bx ∧
      wr.heap[bx]? = some (.cells #[.int .i64 cur.kind, .int .i64 cur.num, .slice aoc cur.sub.length capc] 24) ∧
      Rd (· < w.heap.size) wr (.agg #[.int .i64 cur.kind, .int .i64 cur.num, .slice aoc cur.sub.length capc]) cur ∧ Below W.heap.size W wr) (fun i _ _ => 25 - (intOf i).toNat)
  case atStart =>
    exact ⟨0, W.heap.size, t, ao, cap, rfl, by rw [SW.out], by omega, by rw [Nat.zero_add], by have := SW.out; omega, heap_new _ _ _ rfl, TR.out.keep (fun q hq => hq) fun q hq => hbA.block q (by have := SW.out; have h2 : q < w.heap.size := hq; omega), hbA⟩
  case round =>
    obtain ⟨j, bx, cur, aoc, capc, rfl, rfl, hj, hpis, hbx, hcells, hcur, hb⟩ := hrel
    have HBX := Lib.hid hcells
    have HCUR := Lib.hid hcur
    have HB := Lib.hid hb
    have HPIS := Lib.hid hpis
    clear hcells hcur hb hpis hbA
    obtain ⟨c0, c1, c2, cf, cl⟩ := three HBX.out
    by_cases hc : (cur.kind = 3 ∧ cur.sub.length = 2) ∧ j ≤ 24
    · obtain ⟨⟨hk, hl2⟩, hj24⟩ := hc
      obtain ⟨M, hM⟩ : ∃ M, 25 - j = M + 1 := ⟨25 - j - 1, by omega⟩
      obtain ⟨x, a, b, rfl, hps⟩ := pi_len (n := M) hk hl2
      obtain ⟨g, off, cap', ka, na, aoa, ma, ca, kb, nb, aob, mb, cb, hsl, h2, hP, q0, q1, q2, qa, r0, r1, r2, qb⟩ := pi_cells HCUR.out
      simp only [Tm.kind, Tm.num, Tm.sub, List.length_cons, List.length_nil, Nat.zero_add, Nat.reduceAdd, Value.slice.injEq, true_and] at hsl c0 c1 c2 HBX
      obtain ⟨rfl, rfl⟩ := hsl
      obtain ⟨aob', cb', hvb⟩ := qb.shape
      injection hvb with hvb
      simp only [Array.mk.injEq, List.cons.injEq, Value.int.injEq, Value.slice.injEq, true_and, and_true] at hvb
      obtain ⟨rfl, rfl, rfl, rfl, rfl⟩ := hvb
      have HQB := Lib.hid qb
      have hP' : g < w.heap.size := hP
      have hgr : g < wr.heap.size := by have := SW.out; have := HB.out.size; omega
      clear qa qb q0 q1 q2 hP hk hl2
      have hji : (j : Int) ≤ 24 := by omega
      have hbA := alloc_bel wr (.cells #[.int .i64 3, .int .i64 x, .slice (some ⟨g, off, none⟩) 2 capc] 24)
      have HN := Lib.hid (heap_new wr (.cells #[.int .i64 3, .int .i64 x, .slice (some ⟨g, off, none⟩) 2 capc] 24) _ rfl)
      have HBA := Lib.hid hbA
      clear hbA
      go_wp2_with fail
      go_roundw
      case rel =>
        refine ⟨j + 1, wr.heap.size, b, _, _, by go_num, rfl, by omega, ?_, by have := SW.out; have := HB.out.size; omega, heap_new _ _ _ rfl, ?_, ?_⟩
        · rw [HPIS.out, hM, hps, show 25 - (j + 1) = M by omega]; omega
        · refine HQB.out.keep (fun q hq => hq) fun q hq => ?_
          have hlt : q < wr.heap.size := by have h1 : q < w.heap.size := hq; have := SW.out; have := HB.out.size; omega
          exact (alloc_bel wr _).block q hlt
        · exact HB.out.trans ((alloc_bel wr _).mono HB.out.size)
      case measure =>
        have q : (intOf (.int .i64 ((j : Int) + 1))).toNat = j + 1 := by show ((j : Int) + 1).toNat = _; omega
        have q2 : (intOf (.int .i64 (j : Int))).toNat = j := by show ((j : Int)).toNat = _; omega
        rw [q, q2]; omega
    · have e : pis 25 t = j := by
        by_cases hj24 : j ≤ 24
        · rw [HPIS.out, pis_not (fun h => hc ⟨h, hj24⟩)]; rfl
        · rw [HPIS.out, show 25 - j = 0 by omega]; rfl
      have FW := Lib.hid HB.out
      replace Q := Lib.hid ((FW.out.block _ (blt Q.out)).trans Q.out)
      replace Z := Lib.hid ((FW.out.block _ (blt Z.out)).trans Z.out)
      have hT : Rd (· < wr.heap.size) wr (.agg #[.int .i64 t.kind, .int .i64 t.num, .slice ao t.sub.length cap]) t := TR.out.keep (fun q hq => by have h1 : q < w.heap.size := hq; have := SW.out; have := FW.out.size; show q < wr.heap.size; omega) fun q hq => FW.out.block q (by have h1 : q < w.heap.size := hq; have := SW.out; omega)
      have hcon := Split_w _ t j wr hT
      rw [show splitR t (j : Int) = S by rw [HSS.out, e]] at hcon
      clear e
      have HCON := Lib.hid hcon
      obtain ⟨Q0, Q1, Q2, Qf, Ql⟩ := three Q.out
      clear hT hcon
      by_cases hk : cur.kind = 3
      · by_cases hl : cur.sub.length = 2
        · have hj25 : ¬ ((j : Int) ≤ 24) := by omega
          have hl' : ((cur.sub.length : Int) == 2) = true := by simp; omega
          go_wp2_with fail
          refine HCON.out.mono ?_
          rintro e w2 ⟨al, ml, cl2, k5, n5, ao5, m5, c5, rfl, hb2, ht, hr2⟩
          have hz2 := (hb2.block _ (blt Z.out)).trans Z.out
          have hsz := hb2.size
          obtain ⟨Z0, Z1, Z2, Zf, Zl⟩ := three hz2
          have HT := Lib.hid ht
          have HR2 := Lib.hid hr2
          have hbw := FB0.out.trans (FW.out.mono FB0.out.size)
          have HB2 := Lib.hid (hbw.trans (hb2.mono hbw.size))
          have hws : w.heap.size + 2 ≤ wr.heap.size := by have := SW.out; have := FW.out.size; omega
          have hset : ∀ (x y u : Value) (q : Nat), q ≠ w.heap.size + 1 → (((w2.setCell ⟨w.heap.size + 1, 0, none⟩ x).setCell ⟨w.heap.size + 1, 1, none⟩ y).setCell ⟨w.heap.size + 1, 2, none⟩ u).heap[q]? = w2.heap[q]? := fun x y u q hne => by
            rw [Below.heap_setCell _ _ _ _ hne, Below.heap_setCell _ _ _ _ hne, Below.heap_setCell _ _ _ _ hne]
          clear ht hr2 hb2 hbw hz2
          go_wp2_with fail
          refine bodyPost_ret (v := .tuple #[.slice al ml cl2, .agg #[.int .i64 k5, .int .i64 n5, .slice ao5 m5 c5], .int .i64 S.2.2]) (by simp [results, Try.results47, go_sem, Z0, Z1, Z2]) rfl ⟨_, _, _, _, _, _, _, _, rfl, ((HB2.out.setCell (by simp only []; omega) _).setCell (by simp only []; omega) _).setCell (by simp only []; omega) _, ?_, ?_⟩
          · exact HT.out.keep (fun q hq => ⟨by have := hq.1; omega, by simp only [World.size_setCell]; exact hq.2⟩) (fun q hq => hset _ _ _ q (by have := hq.1; omega))
          · exact HR2.out.keep (fun q hq => ⟨by have := hq.1; omega, by simp only [World.size_setCell]; exact hq.2⟩) (fun q hq => hset _ _ _ q (by have := hq.1; omega))
        · have hl' : ((cur.sub.length : Int) == 2) = false := by simp; omega
          go_wp2_with fail
          refine HCON.out.mono ?_
          rintro e w2 ⟨al, ml, cl2, k5, n5, ao5, m5, c5, rfl, hb2, ht, hr2⟩
          have hz2 := (hb2.block _ (blt Z.out)).trans Z.out
          have hsz := hb2.size
          obtain ⟨Z0, Z1, Z2, Zf, Zl⟩ := three hz2
          have HT := Lib.hid ht
          have HR2 := Lib.hid hr2
          have hbw := FB0.out.trans (FW.out.mono FB0.out.size)
          have HB2 := Lib.hid (hbw.trans (hb2.mono hbw.size))
          have hws : w.heap.size + 2 ≤ wr.heap.size := by have := SW.out; have := FW.out.size; omega
          have hset : ∀ (x y u : Value) (q : Nat), q ≠ w.heap.size + 1 → (((w2.setCell ⟨w.heap.size + 1, 0, none⟩ x).setCell ⟨w.heap.size + 1, 1, none⟩ y).setCell ⟨w.heap.size + 1, 2, none⟩ u).heap[q]? = w2.heap[q]? := fun x y u q hne => by
            rw [Below.heap_setCell _ _ _ _ hne, Below.heap_setCell _ _ _ _ hne, Below.heap_setCell _ _ _ _ hne]
          clear ht hr2 hb2 hbw hz2
          go_wp2_with fail
          refine bodyPost_ret (v := .tuple #[.slice al ml cl2, .agg #[.int .i64 k5, .int .i64 n5, .slice ao5 m5 c5], .int .i64 S.2.2]) (by simp [results, Try.results47, go_sem, Z0, Z1, Z2]) rfl ⟨_, _, _, _, _, _, _, _, rfl, ((HB2.out.setCell (by simp only []; omega) _).setCell (by simp only []; omega) _).setCell (by simp only []; omega) _, ?_, ?_⟩
          · exact HT.out.keep (fun q hq => ⟨by have := hq.1; omega, by simp only [World.size_setCell]; exact hq.2⟩) (fun q hq => hset _ _ _ q (by have := hq.1; omega))
          · exact HR2.out.keep (fun q hq => ⟨by have := hq.1; omega, by simp only [World.size_setCell]; exact hq.2⟩) (fun q hq => hset _ _ _ q (by have := hq.1; omega))
      · go_wp2_with fail
        refine HCON.out.mono ?_
        rintro e w2 ⟨al, ml, cl2, k5, n5, ao5, m5, c5, rfl, hb2, ht, hr2⟩
        have hz2 := (hb2.block _ (blt Z.out)).trans Z.out
        have hsz := hb2.size
        obtain ⟨Z0, Z1, Z2, Zf, Zl⟩ := three hz2
        have HT := Lib.hid ht
        have HR2 := Lib.hid hr2
        have hbw := FB0.out.trans (FW.out.mono FB0.out.size)
        have HB2 := Lib.hid (hbw.trans (hb2.mono hbw.size))
        have hws : w.heap.size + 2 ≤ wr.heap.size := by have := SW.out; have := FW.out.size; omega
        have hset : ∀ (x y u : Value) (q : Nat), q ≠ w.heap.size + 1 → (((w2.setCell ⟨w.heap.size + 1, 0, none⟩ x).setCell ⟨w.heap.size + 1, 1, none⟩ y).setCell ⟨w.heap.size + 1, 2, none⟩ u).heap[q]? = w2.heap[q]? := fun x y u q hne => by
          rw [Below.heap_setCell _ _ _ _ hne, Below.heap_setCell _ _ _ _ hne, Below.heap_setCell _ _ _ _ hne]
        clear ht hr2 hb2 hbw hz2
        go_wp2_with fail
        refine bodyPost_ret (v := .tuple #[.slice al ml cl2, .agg #[.int .i64 k5, .int .i64 n5, .slice ao5 m5 c5], .int .i64 S.2.2]) (by simp [results, Try.results47, go_sem, Z0, Z1, Z2]) rfl ⟨_, _, _, _, _, _, _, _, rfl, ((HB2.out.setCell (by simp only []; omega) _).setCell (by simp only []; omega) _).setCell (by simp only []; omega) _, ?_, ?_⟩
        · exact HT.out.keep (fun q hq => ⟨by have := hq.1; omega, by simp only [World.size_setCell]; exact hq.2⟩) (fun q hq => hset _ _ _ q (by have := hq.1; omega))
        · exact HR2.out.keep (fun q hq => ⟨by have := hq.1; omega, by simp only [World.size_setCell]; exact hq.2⟩) (fun q hq => hset _ _ _ q (by have := hq.1; omega))
end Go.Proofs.Ythjlfjaciigfiaa
