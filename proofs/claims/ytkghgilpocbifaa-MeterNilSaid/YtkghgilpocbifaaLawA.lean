/-
  Takes, Forks: the walks: each returns true and writes nothing that was there. No condition but that the integers fit their kinds.
-/
import Derived.Test.YtkghgilpocbifaaBase
namespace Go.Proofs.Ytkghgilpocbifaa
open Go.ChangeShapes Go.WideShapes Go.ChangeAt Go.RowKit
set_option linter.unusedVariables false
set_option linter.unusedSimpArgs false

theorem take_ok (b c : Nat) (l u l' u' : Int) (w : World) (hm : IsM w b l u) (hc : IsM w c l' u') (h : 0 ≤ u') (hn : u' ≤ l) (hl : l ≤ 1048576) (hu : 0 ≤ u) (hu' : u ≤ 1048576) :
    Calls Try.prog 14 #[.pointer (some ⟨b, 0, none⟩), .pointer (some ⟨c, 0, none⟩)] w fun e w' => e = .returned (.int .i64 0) ∧ IsM w' b (l - u') (u + u') ∧ Only b w w' := by
  go_enter Try.func14, Try.ntmps14
  go_wp2_with fail
  refine (used_ok _ _ _ _ hc).mono ?_
  rintro e w' ⟨rfl, rfl⟩
  go_wp2_with fail
  refine (spend_ok _ _ _ _ _ hm h hn hl hu hu').mono ?_
  rintro e w' ⟨rfl, h1, h2⟩
  go_wp2_with fail
  go_ret
  exact ⟨rfl, h1, h2⟩
theorem take_no (b c : Nat) (l u l' u' : Int) (w : World) (hm : IsM w b l u) (hc : IsM w c l' u') (h : u' < 0 ∨ l < u') :
    Calls Try.prog 14 #[.pointer (some ⟨b, 0, none⟩), .pointer (some ⟨c, 0, none⟩)] w fun e w' => e = .returned (.int .i64 8) ∧ w = w' := by
  go_enter Try.func14, Try.ntmps14
  go_wp2_with fail
  refine (used_ok _ _ _ _ hc).mono ?_
  rintro e w' ⟨rfl, rfl⟩
  go_wp2_with fail
  refine (spend_no _ _ _ _ _ hm h).mono ?_
  rintro e w' ⟨rfl, rfl⟩
  go_wp2_with fail
  go_ret
  exact ⟨rfl, rfl⟩
theorem take_nil (m : Option Addr) (w : World) :
    Calls Try.prog 14 #[.pointer m, .pointer none] w fun e w' => e = .returned (.int .i64 8) ∧ w = w' := by
  go_enter Try.func14, Try.ntmps14
  go_wp2_with fail
  go_ret
  exact ⟨rfl, rfl⟩

theorem fork_no (b : Nat) (l u n : Int) (w : World) (hm : IsM w b l u) (h : n < 0 ∨ l < n) :
    Calls Try.prog 15 #[.pointer (some ⟨b, 0, none⟩), .int .i64 n] w fun e w' => e = .returned (.tuple #[.pointer none, .int .i64 8]) ∧ w = w' := by
  rcases h with h | h
  · go_enter Try.func15, Try.ntmps15
    go_wp2_with fail
    go_ret2
    exact ⟨rfl, rfl⟩
  · by_cases h' : n < 0
    · go_enter Try.func15, Try.ntmps15
      go_wp2_with fail
      go_ret2
      exact ⟨rfl, rfl⟩
    · go_enter Try.func15, Try.ntmps15
      go_wp2_with (go_at_call 12; refine (left_ok _ _ _ _ hm).mono ?_; rintro e w' ⟨rfl, rfl⟩)
      go_ret2
      exact ⟨rfl, rfl⟩
theorem fork_ok (b : Nat) (l u n : Int) (w : World) (hm : IsM w b l u) (h : 0 ≤ n) (hn : n ≤ l) (hl : l ≤ 1048576) :
    Calls Try.prog 15 #[.pointer (some ⟨b, 0, none⟩), .int .i64 n] w fun e w' => e = .returned (.tuple #[.pointer (some ⟨w.heap.size, 0, none⟩), .int .i64 0]) ∧ w.alloc (.cells #[.int .i64 n, .int .i64 0] 66) = w' := by
  go_enter Try.func15, Try.ntmps15
  go_wp2_with fail
  refine (left_ok _ _ _ _ hm).mono ?_
  rintro e w' ⟨rfl, rfl⟩
  go_wp2_with fail
  refine (new_ok _ _ h (by omega)).mono ?_
  rintro e w' ⟨rfl, rfl⟩
  go_wp2_with fail
  go_ret2
  exact ⟨rfl, rfl⟩


set_option maxHeartbeats 1000000 in
theorem takes_walk (a b : Int) (w : World) (wa : (Lit.int .u16 a).wf = true) (wb : (Lit.int .u16 b).wf = true) :
    Calls Try.prog 4 #[.int .u16 a, .int .u16 b] w fun e w' => e = .returned (.bool true) ∧ Below w.heap.size w w' := by
  have ⟨a0, a1⟩ := bounds_u16 wa
  have ⟨b0, b1⟩ := bounds_u16 wb
  clear wa wb
  by_cases hab : a < b
  all_goals
    go_enter Try.func4, Try.ntmps4
    go_wp2_with fail
    refine (new_ok a w (by omega) (by omega)).mono ?_
    rintro e w1 ⟨rfl, hw⟩
    have hm1 : IsM w1 w.heap.size a 0 := by rw [← hw]; exact isM_new _ _ _
    have hb1 : Below w.heap.size w w1 := by rw [← hw]; exact (Below.refl _ _).alloc (Nat.le_refl _) _
    have hs1 : w.heap.size < w1.heap.size := hm1.lt
    clear hw
    go_wp2_with fail
    refine (new_ok b w1 (by omega) (by omega)).mono ?_
    rintro e w2 ⟨rfl, hw⟩
    have hm1 : IsM w2 w.heap.size a 0 := by rw [← hw]; exact hm1.alloc _
    have hm2 : IsM w2 w1.heap.size b 0 := by rw [← hw]; exact isM_new _ _ _
    have hb2 : Below w.heap.size w w2 := by rw [← hw]; exact hb1.alloc (by omega) _
    clear hw hb1
    go_wp2_with fail
    refine (spend_ok _ _ _ _ _ hm2 (by omega) (by omega) (by omega) (by omega) (by omega)).mono ?_
    rintro e w3 ⟨rfl, hm2', ho⟩
    have hm1 : IsM w3 w.heap.size a 0 := ho.isM (by omega) hm1
    have hb3 : Below w.heap.size w w3 := hb2.trans (ho.below (by omega))
    clear hb2 ho hm2
    go_wp2_with fail
  · refine (take_no _ _ _ _ _ _ _ hm1 hm2' (by omega)).mono ?_
    rintro e w4 ⟨rfl, rfl⟩
    go_wp2_with (first | (go_at_call 12; refine (left_ok _ _ _ _ hm1).mono ?_; rintro e w' ⟨rfl, rfl⟩) | (go_at_call 13; refine (used_ok _ _ _ _ hm1).mono ?_; rintro e w' ⟨rfl, rfl⟩))
    refine (awake_ok _).mono ?_
    rintro e w4 ⟨rfl, hb4⟩
    go_wp2_with fail
    go_ret
    exact ⟨rfl, hb3.trans (hb4.mono hb3.size)⟩
  · refine (take_ok _ _ _ _ _ _ _ hm1 hm2' (by omega) (by omega) (by omega) (by omega) (by omega)).mono ?_
    rintro e w4 ⟨rfl, hm4, ho⟩
    have hb4 : Below w.heap.size w w4 := hb3.trans (ho.below (Nat.le_refl _))
    clear hb3 ho hm1 hm2'
    go_wp2_with (first | (go_at_call 12; refine (left_ok _ _ _ _ hm4).mono ?_; rintro e w' ⟨rfl, rfl⟩) | (go_at_call 13; refine (used_ok _ _ _ _ hm4).mono ?_; rintro e w' ⟨rfl, rfl⟩))
    refine (awake_ok _).mono ?_
    rintro e w5 ⟨rfl, hb5⟩
    go_wp2_with fail
    go_ret
    exact ⟨by simp, hb4.trans (hb5.mono hb4.size)⟩

set_option maxHeartbeats 1000000 in
theorem forks_no (a n k : Int) (w : World) (wa : (Lit.int .u16 a).wf = true) (h : n < 0 ∨ a < n) :
    Calls Try.prog 5 #[.int .u16 a, .int .i64 n, .int .i64 k] w fun e w' => e = .returned (.bool true) ∧ Below w.heap.size w w' := by
  have ⟨a0, a1⟩ := bounds_u16 wa
  clear wa
  by_cases h' : n < 0
  all_goals
    go_enter Try.func5, Try.ntmps5
    go_wp2_with fail
    refine (new_ok a w (by omega) (by omega)).mono ?_
    rintro e w1 ⟨rfl, hw⟩
    have hm1 : IsM w1 w.heap.size a 0 := by rw [← hw]; exact isM_new _ _ _
    have hb1 : Below w.heap.size w w1 := by rw [← hw]; exact (Below.refl _ _).alloc (Nat.le_refl _) _
    clear hw
    go_wp2_with fail
    refine (fork_no _ _ _ _ _ hm1 (by omega)).mono ?_
    rintro e w2 ⟨rfl, rfl⟩
    have h2 : n < 0 ∨ (¬ n < 0 ∧ a < n) := by omega
  · go_wp2_with (first | (go_at_call 14; refine (take_nil _ _).mono ?_; rintro e w' ⟨rfl, rfl⟩) | (go_at_call 12; refine (left_ok _ _ _ _ hm1).mono ?_; rintro e w' ⟨rfl, rfl⟩))
    refine (awake_ok _).mono ?_
    rintro e w5 ⟨rfl, hb5⟩
    go_wp2_with fail
    go_ret
    exact ⟨rfl, hb1.trans (hb5.mono hb1.size)⟩
  · have h3 : a < n := by omega
    go_wp2_with (first | (go_at_call 14; refine (take_nil _ _).mono ?_; rintro e w' ⟨rfl, rfl⟩) | (go_at_call 12; refine (left_ok _ _ _ _ hm1).mono ?_; rintro e w' ⟨rfl, rfl⟩))
    refine (awake_ok _).mono ?_
    rintro e w5 ⟨rfl, hb5⟩
    go_wp2_with fail
    go_ret
    exact ⟨rfl, hb1.trans (hb5.mono hb1.size)⟩

set_option maxHeartbeats 1000000 in
theorem forks_yes (a n k : Int) (w : World) (wa : (Lit.int .u16 a).wf = true) (h0 : 0 ≤ n) (h1 : n ≤ a) :
    Calls Try.prog 5 #[.int .u16 a, .int .i64 n, .int .i64 k] w fun e w' => e = .returned (.bool true) ∧ Below w.heap.size w w' := by
  have ⟨a0, a1⟩ := bounds_u16 wa
  clear wa
  by_cases hk : 0 ≤ k ∧ k ≤ n
  all_goals
    go_enter Try.func5, Try.ntmps5
    go_wp2_with fail
    refine (new_ok a w (by omega) (by omega)).mono ?_
    rintro e w1 ⟨rfl, hw⟩
    have hm1 : IsM w1 w.heap.size a 0 := by rw [← hw]; exact isM_new _ _ _
    have hb1 : Below w.heap.size w w1 := by rw [← hw]; exact (Below.refl _ _).alloc (Nat.le_refl _) _
    have hs1 : w.heap.size < w1.heap.size := hm1.lt
    clear hw
    go_wp2_with fail
    refine (fork_ok _ _ _ _ _ hm1 h0 h1 (by omega)).mono ?_
    rintro e w2 ⟨rfl, hw⟩
    have hm1 : IsM w2 w.heap.size a 0 := by rw [← hw]; exact hm1.alloc _
    have hm2 : IsM w2 w1.heap.size n 0 := by rw [← hw]; exact isM_new _ _ _
    have hb2 : Below w.heap.size w w2 := by rw [← hw]; exact hb1.alloc (by omega) _
    clear hw hb1
    have hne : ¬ (n < 0) := by omega
    have hne2 : ¬ (a < n) := by omega
    go_wp2_with fail
    refine (left_ok _ _ _ _ hm2).mono ?_
    rintro e w' ⟨rfl, rfl⟩
    go_wp2_with fail
    refine (used_ok _ _ _ _ hm2).mono ?_
    rintro e w' ⟨rfl, rfl⟩
    go_wp2_with fail
    refine (left_ok _ _ _ _ hm1).mono ?_
    rintro e w' ⟨rfl, rfl⟩
    go_wp2_with fail
  · refine (spend_ok _ _ _ _ _ hm2 hk.1 hk.2 (by omega) (by omega) (by omega)).mono ?_
    rintro e w3 ⟨rfl, hm2', ho⟩
    have hm1 : IsM w3 w.heap.size a 0 := ho.isM (by omega) hm1
    have hb3 : Below w.heap.size w w3 := hb2.trans (ho.below (by omega))
    clear hb2 ho hm2
    go_wp2_with fail
    refine (take_ok _ _ _ _ _ _ _ hm1 hm2' (by omega) (by omega) (by omega) (by omega) (by omega)).mono ?_
    rintro e w4 ⟨rfl, hm4, ho⟩
    have hb4 : Below w.heap.size w w4 := hb3.trans (ho.below (Nat.le_refl _))
    clear hb3 ho hm1 hm2'
    go_wp2_with (first | (go_at_call 12; refine (left_ok _ _ _ _ hm4).mono ?_; rintro e w' ⟨rfl, rfl⟩) | (go_at_call 13; refine (used_ok _ _ _ _ hm4).mono ?_; rintro e w' ⟨rfl, rfl⟩))
    refine (awake_ok _).mono ?_
    rintro e w5 ⟨rfl, hb5⟩
    go_wp2_with fail
    go_ret
    exact ⟨by simp, hb4.trans (hb5.mono hb4.size)⟩
  · refine (spend_no _ _ _ _ _ hm2 (by omega)).mono ?_
    rintro e w3 ⟨rfl, rfl⟩
    go_wp2_with fail
    refine (take_ok _ _ _ _ _ _ _ hm1 hm2 (by omega) (by omega) (by omega) (by omega) (by omega)).mono ?_
    rintro e w4 ⟨rfl, hm4, ho⟩
    have hb4 : Below w.heap.size w w4 := hb2.trans (ho.below (Nat.le_refl _))
    clear hb2 ho hm1 hm2
    go_wp2_with (first | (go_at_call 12; refine (left_ok _ _ _ _ hm4).mono ?_; rintro e w' ⟨rfl, rfl⟩) | (go_at_call 13; refine (used_ok _ _ _ _ hm4).mono ?_; rintro e w' ⟨rfl, rfl⟩))
    refine (awake_ok _).mono ?_
    rintro e w5 ⟨rfl, hb5⟩
    go_wp2_with fail
    go_ret
    exact ⟨by simp, hb4.trans (hb5.mono hb4.size)⟩

theorem forks_walk (a n k : Int) (w : World) (wa : (Lit.int .u16 a).wf = true) (wn : (Lit.int .i64 n).wf = true) (wk : (Lit.int .i64 k).wf = true) :
    Calls Try.prog 5 #[.int .u16 a, .int .i64 n, .int .i64 k] w fun e w' => e = .returned (.bool true) ∧ Below w.heap.size w w' := by
  by_cases h : n < 0 ∨ a < n
  · exact forks_no a n k w wa h
  · exact forks_yes a n k w wa (by omega) (by omega)
end Go.Proofs.Ytkghgilpocbifaa
