/-
  MeterSpends: the walk at a nil slice, and at a fuel that is none. No condition.
-/
import Derived.Test.YtkghgilpocbifaaBase
import Derived.LoopN
namespace Go.Proofs.Ytkghgilpocbifaa
open Go.ChangeShapes Go.WideShapes Go.ChangeAt Go.RowKit
set_option linter.unusedVariables false
set_option linter.unusedSimpArgs false

set_option maxRecDepth 100000 in
set_option maxHeartbeats 1000000 in
theorem spends_bare (fuel : Int) (a : Option Addr) (w : World) (hf0 : 0 ≤ fuel) (hf1 : fuel ≤ 1048576) :
    Calls Try.prog 3 #[.int .i64 fuel, .slice a 0 0] w fun e w' => e = .returned (.bool true) ∧ Below w.heap.size w w' := by
  go_enter Try.func3, Try.ntmps3
  go_wp2_with fail
  refine (new_ok _ w (by omega) (by omega)).mono ?_
  rintro e w1 ⟨rfl, hw⟩
  have hb1 : Below w.heap.size w w1 := by rw [← hw]; exact (Below.refl _ _).alloc (Nat.le_refl _) _
  clear hw
  go_wp2_with fail
  refine wp_loop_rounds 1 ?_
  rw [rounds_succ]
  have hb2 := hb1.alloc hb1.size (.cells #[.int .i64 fuel, .int .i64 0] 29)
  go_wp2_with fail
  refine (awake_ok _).mono ?_
  rintro e w5 ⟨rfl, hb5⟩
  go_wp2_with fail
  go_ret
  exact ⟨rfl, hb2.trans (hb5.mono hb2.size)⟩

theorem spends_nil (fuel : Int) (w : World) (hf0 : 0 ≤ fuel) (hf1 : fuel ≤ 1048576) :
    Calls Try.prog 3 #[.int .i64 fuel, .slice none 0 0] w fun e w' => e = .returned (.bool true) ∧ Below w.heap.size w w' := spends_bare fuel none w hf0 hf1

set_option maxRecDepth 100000 in
set_option maxHeartbeats 1000000 in
theorem spends_out (fuel : Int) (v : Value) (w : World) (hf : fuel < 0 ∨ 1048576 < fuel) :
    Calls Try.prog 3 #[.int .i64 fuel, v] w fun e w' => e = .returned (.bool true) ∧ Below w.heap.size w w' := by
  by_cases h0 : fuel < 0
  · go_enter Try.func3, Try.ntmps3
    go_wp2_with fail
    refine (new_no _ w (by omega)).mono ?_
    rintro e w1 ⟨rfl, rfl⟩
    go_wp2_with fail
    refine (awake_ok _).mono ?_
    rintro e w5 ⟨rfl, hb5⟩
    go_wp2_with fail
    go_ret
    exact ⟨rfl, hb5⟩
  · have h1 : 1048576 < fuel := by omega
    go_enter Try.func3, Try.ntmps3
    go_wp2_with fail
    refine (new_no _ w (by omega)).mono ?_
    rintro e w1 ⟨rfl, rfl⟩
    go_wp2_with fail
    refine (awake_ok _).mono ?_
    rintro e w5 ⟨rfl, hb5⟩
    go_wp2_with fail
    go_ret
    exact ⟨rfl, hb5⟩
end Go.Proofs.Ytkghgilpocbifaa
