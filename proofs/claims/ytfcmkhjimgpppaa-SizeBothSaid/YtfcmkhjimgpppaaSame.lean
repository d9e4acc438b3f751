/-
  Are two matrices the same; is one at least the other: contracts.
-/
import Derived.Test.YtfcmkhjimgpppaaSq
import Derived.Test.YtfcmkhjimgpppaaRows
import Derived.Test.YtfcmkhjimgpppaaRight
import Derived.BigQuiet
import Derived.Deep.QuietTactic
import Derived.LoopN
namespace Go.Proofs.Ytfcmkhjimgpppaa
open Go.RowKit
set_option linter.unusedVariables false
set_option linter.unusedSimpArgs false

def Drawn (w : World) (r : Bool) (e : Ending) (w' : World) : Prop := e = .returned (.bool r) ∧ ∃ n, w' = w.drewN n

theorem dd (w : World) (n m : Nat) : (w.drewN n).drewN m = w.drewN (n + m) := by simp [World.drewN, Nat.add_assoc]

set_option maxHeartbeats 2000000 in
theorem same_w {P P' : Nat → Prop} (va vb : Value) (a b : List (List Int)) (w : World) (ha : MatR P w va a) (hb : MatR P' w vb b) :
    Calls Try.prog 19 #[va, vb] w (Drawn w (decide (a = b))) := by
  obtain ⟨ao, ca, rfl, hal, hea⟩ := ha.all
  obtain ⟨bo, cb, rfl, hbl, heb⟩ := hb.all
  clear ha hb
  by_cases hlen : a.length = b.length
  · have hn : ((a.length : Int) != (b.length : Int)) = false := by simp [hlen]
    have HL := Lib.hid hlen
    clear hlen
    go_enter Try.func19, Try.ntmps19
    go_wp2_with fail
    go_loopw [5] (fun i wr => ∃ (k n : Nat), i = .int .i64 k ∧ k ≤ a.length ∧ wr = w.drewN n ∧ ∀ i (h : i < a.length) (h' : i < b.length), i < k → a[i] = b[i]) (fun i _ => a.length - (intOf i).toNat)
    case atStart => exact ⟨0, 0, rfl, Nat.zero_le _, rfl, fun _ _ _ h => absurd h (Nat.not_lt_zero _)⟩
    case round =>
      obtain ⟨k, n, rfl, hk, rfl, heq⟩ := hrel
      by_cases hlt : k < a.length
      · have hlt2 : k < b.length := by rw [← HL.out]; exact hlt
        obtain ⟨A, oA, ao2, ca2, ra, HRA, rfl, hua, hra, hxa⟩ := hea k hlt
        obtain ⟨B, oB, bo2, cb2, rb, HRB, rfl, hub, hrb, hxb⟩ := heb k hlt2
        by_cases hrl : ra.length = rb.length
        · have hn2 : ((ra.length : Int) != (rb.length : Int)) = false := by simp [hrl]
          have HRL := Lib.hid hrl
          clear hrl
          go_wp2_with fail
          go_quiet (fail)
          go_wp2_with fail
          go_loopw [6] (fun i wr => ∃ (j n : Nat), i = .int .i64 j ∧ j ≤ ra.length ∧ wr = w.drewN n ∧ ∀ i (h : i < ra.length) (h' : i < rb.length), i < j → ra[i] = rb[i]) (fun i _ => ra.length - (intOf i).toNat)
          case atStart => exact ⟨0, _, rfl, Nat.zero_le _, dd _ _ _, fun _ _ _ h => absurd h (Nat.not_lt_zero _)⟩
          case round =>
            obtain ⟨j, n3, rfl, hj, rfl, heq2⟩ := hrel
            by_cases hjl : j < ra.length
            · have hjl2 : j < rb.length := by rw [← HRL.out]; exact hjl
              obtain ⟨A2, oA2, x, HX, rfl, hx⟩ := hxa j hjl
              obtain ⟨B2, oB2, y, HY, rfl, hy⟩ := hxb j hjl2
              have hq1 : (j : Int) < (ra.length : Int) := by omega
              have hq2 : (j : Int) < (rb.length : Int) := by omega
              by_cases hxy : x = y
              · have hn3 : (x != y) = false := by simp [hxy]
                have HXY := Lib.hid hxy
                clear hxy
                go_wp2_with fail
                go_quiet (fail)
                go_wp2_with fail
                go_roundw
                case rel => exact ⟨j + 1, _, by go_num, by omega, rfl, fun i h h' hi => by
                  by_cases hij : i = j
                  · subst hij; rw [← HX.out, ← HY.out]; exact HXY.out
                  · exact heq2 i h h' (by omega)⟩
                case measure => simp [intOf]; omega
              · have hn3 : (x != y) = true := by simp [hxy]
                have HXY := Lib.hid hxy
                clear hxy
                go_wp2_with fail
                go_quiet (fail)
                go_wp2_with fail
                go_ret
                refine ⟨?_, _, dd _ _ _⟩
                rw [show decide (a = b) = false from decide_eq_false fun e => HXY.out (by rw [HX.out, HY.out]; have := HRA.out; have := HRB.out; subst e; simp_all)]
                rfl
            · go_wp2_with fail
              go_roundw
              case rel => exact ⟨k + 1, _, by go_num, by omega, rfl, fun i h h' hi => by
                by_cases hij : i = k
                · subst hij; rw [← HRA.out, ← HRB.out]; exact List.ext_getElem HRL.out fun q h1 h2 => heq2 q h1 h2 (by omega)
                · exact heq i h h' (by omega)⟩
              case measure => simp [intOf]; omega
        · have hn2 : ((ra.length : Int) != (rb.length : Int)) = true := by simp; omega
          have HRL := Lib.hid hrl
          clear hrl
          go_wp2_with fail
          go_quiet (fail)
          go_wp2_with fail
          go_ret
          refine ⟨?_, _, dd _ _ _⟩
          rw [show decide (a = b) = false from decide_eq_false fun e => HRL.out (by have := HRA.out; have := HRB.out; subst e; simp_all)]
          rfl
      · go_wp2_with fail
        go_ret
        refine ⟨?_, _, rfl⟩
        rw [show decide (a = b) = true from decide_eq_true (List.ext_getElem HL.out fun q h1 h2 => heq q h1 h2 (by omega))]
        rfl
  · have hn : ((a.length : Int) != (b.length : Int)) = true := by simp; omega
    have HL := Lib.hid hlen
    clear hlen
    go_enter Try.func19, Try.ntmps19
    go_wp2_with fail
    go_ret
    refine ⟨?_, 0, rfl⟩
    rw [show decide (a = b) = false from decide_eq_false fun e => HL.out (by rw [e])]
    rfl
end Go.Proofs.Ytfcmkhjimgpppaa
