/-
  One term appended to a list in the making; tele.Vars: a contract of the walk.
-/
import Derived.Test.YthjlfjaciigfiaaRefAround
namespace Go.Proofs.Ythjlfjaciigfiaa
open Go.RowKit
set_option linter.unusedVariables false
set_option linter.unusedSimpArgs false

/-- a list of terms in new memory is answered -/
def AnsTs (w : World) (l : List Tm) (e : Ending) (w' : World) : Prop :=
  ∃ ao m c, e = .returned (.slice ao m c) ∧ Below w.heap.size w w' ∧ Ts (Fr w w') w' (.slice ao m c) l
/-- a list of terms in new memory and an error are answered -/
def AnsTsE (w : World) (l : List Tm) (cd : Int) (e : Ending) (w' : World) : Prop :=
  ∃ ao m c, e = .returned (.tuple #[.slice ao m c, .int .i64 cd]) ∧ Below w.heap.size w w' ∧ Ts (Fr w w') w' (.slice ao m c) l

theorem one_sub {w : World} {g : Nat} {P Pg : Nat → Prop} {k n : Int} {ao : Option Addr} {m c : Nat} {t : Tm} (hg : w.heap[g]? = some (.cells #[.int .i64 k, .int .i64 n, .slice ao m c] 24)) (hP : Pg g)
    (hr : Rd P w (.agg #[.int .i64 k, .int .i64 n, .slice ao m c]) t) : SubR Pg w (Rd P w) (.slice (some ⟨g, 0, none⟩) 1 1) [t] := by
  obtain ⟨q0, q1, q2, -⟩ := three hg
  refine ⟨_, 1, rfl, Nat.le_refl _, by unfold maxLen; omega, fun i hi => ?_⟩
  obtain rfl : i = 0 := by simpa using hi
  exact ⟨g, 0, _, _, _, rfl, hP, by simpa using q0, by simpa using q1, by simpa using q2, hr⟩

/-- a list in the making, all of it at or above base -/
def Lst (base : Nat) (w : World) (v : Value) (l : List Tm) : Prop := MadeG 3 24 RdC (base ≤ ·) base w v l
theorem Lst.nil (base : Nat) (w : World) : Lst base w (.slice none 0 0) [] := MadeG.nil _ _ _ _ _ _
theorem Lst.on {base : Nat} {w w' : World} {v : Value} {l : List Tm} (h : Lst base w v l) (hb : Below w.heap.size w w') : Lst base w' v l := MadeG.below keepsC_rd h hb
theorem Lst.terms {base : Nat} {w : World} {v : Value} {l : List Tm} (h : Lst base w v l) : Ts (fun q => base ≤ q ∧ q < w.heap.size) w v l := MadeG.terms h _ (fun g h1 h2 => ⟨h2, h1⟩) (fun g h1 h2 => ⟨h1, h2⟩)
theorem Lst.shape {base : Nat} {w : World} {v : Value} {l : List Tm} (h : Lst base w v l) : ∃ ao c, v = .slice ao l.length c := by
  obtain ⟨ao, c, hv, -⟩ := MadeG.cells h (by omega); exact ⟨ao, c, hv⟩
/-- 'out = append(out, x)', x built just now at world wx -/
theorem run_one {base : Nat} {W wx : World} {v : Value} {l : List Tm} {k n : Int} {ao : Option Addr} {m c : Nat} {x : Tm} (ty : TypeId) (h : Lst base W v l) (hb : Below W.heap.size W wx) (hlen : l.length + 1 ≤ 1000000000) (hbase : base ≤ W.heap.size)
    (hx : Rd (fun q => base ≤ q ∧ q < wx.heap.size ∧ v.ownBlock ≠ some q) wx (.agg #[.int .i64 k, .int .i64 n, .slice ao m c]) x) :
    ∃ ao2 c2 w', (Builtin.append_ #[22, 22] ty #[v, .slice (some ⟨wx.heap.size, 0, none⟩) 1 1]).run Try.prog (wx.alloc (.cells #[.int .i64 k, .int .i64 n, .slice ao m c] 24)) = .ok (.slice ao2 (l.length + 1) c2) w' ∧
      Lst base w' (.slice ao2 (l.length + 1) c2) (l ++ [x]) ∧ (∀ b, b < wx.heap.size → v.ownBlock ≠ some b → w'.heap[b]? = wx.heap[b]?) ∧ Below base wx w' := by
  have ha := alloc_bel wx (.cells #[.int .i64 k, .int .i64 n, .slice ao m c] 24)
  have h1 : Lst base (wx.alloc (.cells #[.int .i64 k, .int .i64 n, .slice ao m c] 24)) v l := (h.on hb).on ha
  have hs := hb.size
  have hown := h.block
  have hsrc := one_sub (Pg := fun _ => True) (P := fun g => v.ownBlock ≠ some g ∧ g < (wx.alloc (.cells #[.int .i64 k, .int .i64 n, .slice ao m c] 24)).heap.size ∧ base ≤ g) (heap_new wx (.cells #[.int .i64 k, .int .i64 n, .slice ao m c] 24) _ rfl) trivial
    (hx.keep (fun q hq => ⟨hq.2.2, Nat.lt_of_lt_of_le hq.2.1 ha.size, hq.1⟩) fun q hq => ha.block q hq.2.1)
  obtain ⟨ao2, c2, w', hr, hM, hg, hbk⟩ := run_terms (xs := [x]) ty h1 hsrc (by simpa using hlen) (by rw [World.size_alloc]; omega)
  refine ⟨ao2, c2, w', hr, hM, fun b hb' hv => (hg.block b (by rw [World.size_alloc]; omega) (fun e => hv e.symm)).trans (ha.block b hb'), ?_⟩
  refine (ha.mono (by omega)).trans ⟨hg.os, hg.tape, hg.output, hg.size, fun b hb' => hg.block b (by rw [World.size_alloc]; omega) (fun e => by have := (hown b e.symm).1; omega)⟩

def vars (n : Int) : List Tm := if 0 ≤ n ∧ n ≤ 1048576 then (List.range n.toNat).map fun (i : Nat) => .node 1 (n - 1 - (i : Int)) [] else []

set_option maxRecDepth 100000 in
set_option maxHeartbeats 4000000 in
theorem Vars_w (n : Int) (w : World) : Calls Try.prog 67 #[.int .i64 n] w (AnsTs w (vars n)) := by
  by_cases h0 : n < 0
  · have e : vars n = [] := by unfold vars; rw [if_neg (by omega)]
    rw [e]; clear e
    go_enter Try.func67, Try.ntmps67
    go_wp2_with fail
    go_ret
    exact ⟨_, _, _, rfl, Below.refl _ _, (Lst.nil w.heap.size w).terms.keep (fun q hq => hq) fun _ _ => rfl⟩
  by_cases h1 : 1048576 < n
  · have e : vars n = [] := by unfold vars; rw [if_neg (by omega)]
    rw [e]; clear e
    go_enter Try.func67, Try.ntmps67
    go_wp2_with fail
    go_ret
    exact ⟨_, _, _, rfl, Below.refl _ _, (Lst.nil w.heap.size w).terms.keep (fun q hq => hq) fun _ _ => rfl⟩
  have e : vars n = (List.range n.toNat).map fun (i : Nat) => .node 1 (n - 1 - (i : Int)) [] := by unfold vars; rw [if_pos ⟨by omega, by omega⟩]
  rw [e]; clear e
  obtain ⟨N, hN⟩ : ∃ N : Nat, n = N := ⟨n.toNat, by omega⟩
  subst hN
  have hwl : IntKind.i64.wrap ((N : Int) - 1) = (N : Int) - 1 := IntWalk.i64_in _ (by omega)
  rw [Int.toNat_natCast]
  go_enter Try.func67, Try.ntmps67
  go_wp2_with fail
  clear hwl
  go_loopw [3, 4] (fun v i wr => ∃ j : Nat, i = .int .i64 ((j : Int) - 1) ∧ j ≤ N ∧ Lst w.heap.size wr v ((List.range (N - j)).map fun (i : Nat) => .node 1 ((N : Int) - 1 - (i : Int)) []) ∧ Below w.heap.size w wr) (fun _ i _ => (intOf i + 1).toNat)
  case atStart => exact ⟨N, rfl, Nat.le_refl _, by rw [Nat.sub_self]; exact Lst.nil _ _, Below.refl _ _⟩
  case round =>
    obtain ⟨j, rfl, hj, hL, hb⟩ := hrel
    cases j with
    | zero =>
      have hz1 : ((0 : Nat) : Int) - 1 = -1 := by omega
      rw [hz1]
      obtain ⟨ao, c, hv⟩ := hL.shape
      rename_i v3 _
      subst hv
      have HL := Lib.hid hL
      have HB := Lib.hid hb
      clear hz1 hL hb
      go_wp2_with fail
      go_ret
      exact ⟨_, _, _, rfl, HB.out, HL.out.terms.keep (fun q hq => hq) fun _ _ => rfl⟩
    | succ M =>
      have hM1 : ((M + 1 : Nat) : Int) - 1 = (M : Int) := by omega
      rw [hM1]
      have HL := Lib.hid hL
      have HB := Lib.hid hb
      clear hM1 hL hb
      go_wp2_with fail
      refine (Var_w _ _).mono ?_
      rintro e w1 ⟨rfl, hb1⟩
      have hlen : ((List.range (N - (M + 1))).map fun (i : Nat) => Tm.node 1 ((N : Int) - 1 - (i : Int)) []).length + 1 ≤ 1000000000 := by simp; omega
      obtain ⟨ao2, c2, w', hr, hL2, hk, hb2⟩ := run_one 22 HL.out hb1 hlen HB.out.size (Rd.leaf _ w1 1 (M : Int) none 0 (Nat.zero_le _) (by omega) (by omega))
      have hlist : ((List.range (N - (M + 1))).map fun (i : Nat) => Tm.node 1 ((N : Int) - 1 - (i : Int)) []) ++ [.node 1 (M : Int) []] = (List.range (N - M)).map fun (i : Nat) => Tm.node 1 ((N : Int) - 1 - (i : Int)) [] := by
        rw [show N - M = N - (M + 1) + 1 by omega, List.range_succ, List.map_append]
        simp; omega
      rw [hlist] at hL2
      generalize ((List.range (N - (M + 1))).map fun (i : Nat) => Tm.node 1 ((N : Int) - 1 - (i : Int)) []).length + 1 = L5 at hr hL2
      have HR := Lib.hid hr
      have HL2 := Lib.hid hL2
      have HB2 := Lib.hid (HB.out.trans ((hb1.mono HB.out.size).trans hb2))
      clear hr hL2 hk hb2 hb1 hlen hlist
      go_wp2_with (at_builtin; refine wpList_run_append rfl _ _ _ rfl _ _ _ rfl rfl HR.out ?_)
      go_roundw
      case rel => exact ⟨M, by go_num, by omega, HL2.out, HB2.out⟩
      case measure =>
        show ((M : Int) - 1 + 1).toNat < ((M : Int) + 1).toNat
        omega
end Go.Proofs.Ythjlfjaciigfiaa
