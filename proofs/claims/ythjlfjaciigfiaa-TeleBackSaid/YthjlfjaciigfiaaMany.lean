/-
  ref10.Many: a contract of the walk.
-/
import Derived.Test.YthjlfjaciigfiaaSplit
namespace Go.Proofs.Ythjlfjaciigfiaa
open Go.RowKit
set_option linter.unusedVariables false
set_option linter.unusedSimpArgs false

theorem pis_small : ∀ (d : Nat) (t : Tm), pis d t ≤ d
  | 0, t => by simp [pis]
  | d + 1, .node k x l => by
    simp only [pis]
    split
    · split
      · rename_i a b; have := pis_small d b; omega
      · omega
    · omega

set_option maxRecDepth 100000 in
set_option maxHeartbeats 4000000 in
theorem Many_w (v : Value) (t : Tm) (D : Nat) (w : World) (hD : dep t ≤ D) (hD2 : D ≤ 1000000) (hg : gd t = true) (hr : Rd (· < w.heap.size) w v t) : Calls Try.prog 48 #[v] w (Ans w (.int .i64 (pis D t : Nat))) := by
  obtain ⟨ao, cap, rfl⟩ := hr.shape
  have hb0 := alloc_bel w (.cells #[.int .i64 t.kind, .int .i64 t.num, .slice ao t.sub.length cap] 24)
  have HD := Lib.hid hD
  have HG := Lib.hid hg
  have HR := Lib.hid hr
  have HB0 := Lib.hid hb0
  clear hD hg hr hb0
  go_enter Try.func48, Try.ntmps48
  go_wp2_with fail
  go_loopw [3] (fun i wr => ∃ (j : Nat) (cur : Tm) (aoc : Option Addr) (capc : Nat), i = .int .i64 j ∧ gd cur = true ∧ dep cur ≤ D - j ∧ j ≤ D ∧ pis D t = j + pis (D - j) cur ∧
      wr.heap[w.heap.size]? = some (.cells #[.int .i64 cur.kind, .int .i64 cur.num, .slice aoc cur.sub.length capc] 24) ∧
      Rd (· < w.heap.size) wr (.agg #[.int .i64 cur.kind, .int .i64 cur.num, .slice aoc cur.sub.length capc]) cur ∧ Below w.heap.size w wr) (fun i _ => D - (intOf i).toNat)
  case atStart =>
    exact ⟨0, t, ao, cap, rfl, HG.out, HD.out, Nat.zero_le _, by rw [Nat.sub_zero, Nat.zero_add], heap_new _ _ _ rfl, HR.out.keep (fun q hq => hq) fun q hq => HB0.out.block q hq, HB0.out⟩
  case round =>
    obtain ⟨j, cur, aoc, capc, rfl, hgd, hdep, hj, hpis, hbx, hcur, hb⟩ := hrel
    have HBX := Lib.hid hbx
    have HCUR := Lib.hid hcur
    have HB := Lib.hid hb
    have HGD := Lib.hid hgd
    have HPIS := Lib.hid hpis
    have HDEP := Lib.hid hdep
    clear hbx hcur hb hgd hpis hdep
    obtain ⟨c0, c1, c2, cf, cl⟩ := three HBX.out
    have hpos := dep_pos cur
    obtain ⟨M, hM⟩ : ∃ M, D - j = M + 1 := ⟨D - j - 1, by have := HDEP.out; omega⟩
    by_cases hk : cur.kind = 3
    · obtain ⟨k, x, l⟩ := cur
      have hk3 : k = 3 := hk
      subst hk3
      obtain ⟨a, b, rfl, ga, gb⟩ := gd_pi HGD.out
      obtain ⟨g, off, cap', ka, na, aoa, ma, ca, kb, nb, aob, mb, cb, hsl, h2, hP, q0, q1, q2, qa, r0, r1, r2, qb⟩ := pi_cells HCUR.out
      simp only [Tm.kind, Tm.num, Tm.sub, List.length_cons, List.length_nil, Nat.zero_add, Nat.reduceAdd, Value.slice.injEq, true_and] at hsl c0 c1 c2 HBX
      obtain ⟨rfl, rfl⟩ := hsl
      obtain ⟨aob', cb', hvb⟩ := qb.shape
      injection hvb with hvb
      simp only [Array.mk.injEq, List.cons.injEq, Value.int.injEq, Value.slice.injEq, true_and, and_true] at hvb
      obtain ⟨rfl, rfl, rfl, rfl, rfl⟩ := hvb
      have HQB := Lib.hid qb
      have cf0 := cf 0
      have cf1 := cf 1
      have cf2 := cf 2
      have hP' : g < w.heap.size := hP
      clear qa qb q0 q1 q2 cf hP
      go_wp2_with fail
      go_roundw
      case rel =>
        refine ⟨j + 1, b, _, _, by go_num, gb, ?_, by omega, ?_, set123 HBX.out, ?_, ?_⟩
        · have := HDEP.out; simp only [dep, depL] at this; omega
        · rw [HPIS.out, hM, show D - (j + 1) = M by omega]; simp only [pis]; simp; omega
        · refine HQB.out.keep (fun q hq => hq) fun q hq => ?_
          have hne : q ≠ w.heap.size := Nat.ne_of_lt hq
          rw [Below.heap_setCell _ _ _ _ hne, Below.heap_setCell _ _ _ _ hne, Below.heap_setCell _ _ _ _ hne]
        · exact ((HB.out.setCell (Nat.le_refl _) _).setCell (Nat.le_refl _) _).setCell (Nat.le_refl _) _
      case measure =>
        have q : (intOf (.int .i64 ((j : Int) + 1))).toNat = j + 1 := by show ((j : Int) + 1).toNat = _; omega
        have q2 : (intOf (.int .i64 (j : Int))).toNat = j := by show ((j : Int)).toNat = _; omega
        rw [q, q2]; omega
    · have e : pis D t = j := by
        rw [HPIS.out, hM]
        cases cur with
        | node k x l => simp only [pis]; rw [if_neg (show ¬ k = 3 from hk)]; omega
      go_wp2_with fail
      go_ret
      exact ⟨by rw [e]; rfl, HB.out⟩
end Go.Proofs.Ythjlfjaciigfiaa
