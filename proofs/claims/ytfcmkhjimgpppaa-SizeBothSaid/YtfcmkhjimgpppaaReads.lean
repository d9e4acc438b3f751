/-
  What reads a matrix and makes none: the document's Right; light; Falls; times; best: contracts of the walk.
-/
import Derived.Test.YtfcmkhjimgpppaaRight
import Derived.Test.YtfcmkhjimgpppaaSq
namespace Go.Proofs.Ytfcmkhjimgpppaa
open Go.RowKit
set_option linter.unusedVariables false
set_option linter.unusedSimpArgs false

set_option maxHeartbeats 1000000 in
theorem refRight_w {P : Nat → Prop} (v : Value) (m : List (List Int)) (w : World) (h : MatR P w v m) :
    Calls Try.prog 16 #[v] w fun e w' => e = .returned (.bool (right m)) ∧ w = w' := by
  obtain ⟨ao, cap, rfl, hml, he⟩ := h.all
  clear h
  by_cases h24 : 24 < m.length
  · have hr := right_len h24
    go_enter Try.func16, Try.ntmps16
    go_wp2_with fail
    go_ret
    exact ⟨by rw [hr]; rfl, rfl⟩
  have H24 : m.length ≤ 24 := by omega
  go_enter Try.func16, Try.ntmps16
  go_wp2_with fail
  go_loop [3] (fun i => ∃ k : Nat, i = .int .i64 k ∧ k ≤ m.length ∧ ∀ k' (h : k' < m.length), k' < k → rowOk m.length m[k'] = true) (fun i => m.length - (intOf i).toNat)
  case atStart => exact ⟨0, rfl, Nat.zero_le _, fun _ _ h => absurd h (Nat.not_lt_zero _)⟩
  case round =>
    obtain ⟨k, rfl, hk, hrows⟩ := hrel
    by_cases hlt : k < m.length
    · obtain ⟨b, off, ao2, cap2, r, HR, rfl, hu, hrl, he2⟩ := he k hlt
      by_cases hlen : r.length = m.length
      · have hb1 : ((r.length : Int) != (m.length : Int)) = false := by simp [hlen]
        have HL : Hid (r.length = m.length) := hlen
        clear hlen
        go_wp2_with fail
        go_loop [4] (fun j => ∃ jj : Nat, j = .int .i64 jj ∧ jj ≤ r.length ∧ ∀ j' (h : j' < r.length), j' < jj → 0 ≤ r[j'] ∧ r[j'] ≤ 2) (fun j => r.length - (intOf j).toNat)
        case atStart => exact ⟨0, rfl, Nat.zero_le _, fun _ _ h => absurd h (Nat.not_lt_zero _)⟩
        case round =>
          obtain ⟨j, rfl, hj, hxs⟩ := hrel
          by_cases hjl : j < r.length
          · obtain ⟨b2, off2, x, HX, rfl, hx⟩ := he2 j hjl
            by_cases hx0 : x < 0
            · go_wp2_with fail
              go_ret
              exact ⟨by rw [right_no k hlt (by rw [← HR.out]; exact rowOk_no j hjl (by rw [← HX.out]; omega))]; rfl, rfl⟩
            · by_cases hx2 : 2 < x
              · go_wp2_with fail
                go_ret
                exact ⟨by rw [right_no k hlt (by rw [← HR.out]; exact rowOk_no j hjl (by rw [← HX.out]; omega))]; rfl, rfl⟩
              · go_wp2_with fail
                go_round
                case rel => exact ⟨j + 1, by go_num, by omega, fun j' h' hj' => by
                  by_cases hjj : j' = j
                  · subst hjj; rw [← HX.out]; omega
                  · exact hxs j' h' (by omega)⟩
                case measure => simp [intOf]; omega
          · go_wp2_with fail
            go_round
            case rel => exact ⟨k + 1, by go_num, by omega, fun k' h' hk' => by
              by_cases hkk : k' = k
              · subst hkk; rw [← HR.out]; exact rowOk_iff.2 ⟨HL.out, fun j' h' => hxs j' h' (by omega)⟩
              · exact hrows k' h' (by omega)⟩
            case measure => simp [intOf]; omega
      · have hb1 : ((r.length : Int) != (m.length : Int)) = true := by simp; omega
        go_wp2_with fail
        go_ret
        exact ⟨by rw [right_no k hlt (by rw [← HR.out]; exact rowOk_len hlen)]; rfl, rfl⟩
    · have hkk : k = m.length := by omega
      have HK : Hid (k = m.length) := hkk
      clear hkk
      go_wp2_with fail
      go_ret
      exact ⟨by rw [right_iff.2 ⟨H24, fun i hi => hrows i hi (by have := HK.out; omega)⟩]; rfl, rfl⟩

/-- light: it answers; where it says yes the matrix is small -/
def lightB (m : List (List Int)) : Bool := decide (m.length ≤ 30) && m.all fun r => decide (r.length ≤ 30)
theorem lightB_no {m : List (List Int)} (i : Nat) (h : i < m.length) (g : 30 < m[i].length) : lightB m = false := by
  rw [Bool.eq_false_iff]; intro hr
  unfold lightB at hr
  simp only [Bool.and_eq_true, decide_eq_true_eq, List.all_eq_true] at hr
  have := hr.2 _ (List.getElem_mem h)
  omega
theorem lightB_yes {m : List (List Int)} (h : m.length ≤ 30) (g : ∀ i (h : i < m.length), m[i].length ≤ 30) : lightB m = true := by
  unfold lightB
  simp only [Bool.and_eq_true, decide_eq_true_eq, List.all_eq_true]
  refine ⟨h, fun x hx => ?_⟩
  obtain ⟨j, hj, rfl⟩ := List.getElem_of_mem hx
  exact g j hj
theorem lightB_of_right {m : List (List Int)} (h : right m = true) : lightB m = true := by
  obtain ⟨h1, h2⟩ := right_iff.1 h
  exact lightB_yes (by omega) fun i hi => by have := (rowOk_iff.1 (h2 i hi)).1; omega

set_option maxHeartbeats 1000000 in
theorem light_w {P : Nat → Prop} (v : Value) (m : List (List Int)) (w : World) (h : MatR P w v m) :
    Calls Try.prog 12 #[v] w fun e w' => e = .returned (.bool (lightB m)) ∧ w = w' := by
  obtain ⟨ao, cap, rfl, hml, he⟩ := h.all
  clear h
  by_cases h30 : 30 < m.length
  · have hr : lightB m = false := by unfold lightB; rw [decide_eq_false (by omega)]; rfl
    go_enter Try.func12, Try.ntmps12
    go_wp2_with fail
    go_ret
    exact ⟨by rw [hr]; rfl, rfl⟩
  have H30 : m.length ≤ 30 := by omega
  go_enter Try.func12, Try.ntmps12
  go_wp2_with fail
  go_loop [3] (fun i => ∃ k : Nat, i = .int .i64 k ∧ k ≤ m.length ∧ ∀ k' (h : k' < m.length), k' < k → m[k'].length ≤ 30) (fun i => m.length - (intOf i).toNat)
  case atStart => exact ⟨0, rfl, Nat.zero_le _, fun _ _ h => absurd h (Nat.not_lt_zero _)⟩
  case round =>
    obtain ⟨k, rfl, hk, hrows⟩ := hrel
    by_cases hlt : k < m.length
    · obtain ⟨b, off, ao2, cap2, r, HR, rfl, hu, hrl, he2⟩ := he k hlt
      by_cases hlen : 30 < r.length
      · go_wp2_with fail
        go_ret
        exact ⟨by rw [lightB_no k hlt (by rw [← HR.out]; exact hlen)]; rfl, rfl⟩
      · go_wp2_with fail
        go_round
        case rel => exact ⟨k + 1, by go_num, by omega, fun k' h' hk' => by
          by_cases hkk : k' = k
          · subst hkk; rw [← HR.out]; omega
          · exact hrows k' h' (by omega)⟩
        case measure => simp [intOf]; omega
    · have hkk : k = m.length := by omega
      have HK : Hid (k = m.length) := hkk
      clear hkk
      go_wp2_with fail
      go_ret
      exact ⟨by rw [lightB_yes H30 (fun i hi => hrows i hi (by have := HK.out; omega))]; rfl, rfl⟩

def i3 (a b c : Int) : Value := .agg #[.int .i64 a, .int .i64 b, .int .i64 c]
def tbl : Value := .agg #[.int .i64 0, .int .i64 0, .int .i64 0, .int .i64 0, .int .i64 1, .int .i64 2, .int .i64 0, .int .i64 2, .int .i64 2]
theorem tbl0 (w : World) : (Instr.index 68 tbl (.int .i64 0)).run Try.prog w = .ok (i3 0 0 0) w := by kernel_rfl
theorem tbl1 (w : World) : (Instr.index 68 tbl (.int .i64 1)).run Try.prog w = .ok (i3 0 1 2) w := by kernel_rfl
theorem tbl2 (w : World) : (Instr.index 68 tbl (.int .i64 2)).run Try.prog w = .ok (i3 0 2 2) w := by kernel_rfl
theorem tri0 (a b c : Int) (w : World) : (Instr.index 67 (i3 a b c) (.int .i64 0)).run Try.prog w = .ok (.int .i64 a) w := by kernel_rfl
theorem tri1 (a b c : Int) (w : World) : (Instr.index 67 (i3 a b c) (.int .i64 1)).run Try.prog w = .ok (.int .i64 b) w := by kernel_rfl
theorem tri2 (a b c : Int) (w : World) : (Instr.index 67 (i3 a b c) (.int .i64 2)).run Try.prog w = .ok (.int .i64 c) w := by kernel_rfl

set_option maxHeartbeats 1000000 in
theorem times_w (x y : Int) (w : World) (hx : 0 ≤ x ∧ x ≤ 2) (hy : 0 ≤ y ∧ y ≤ 2) :
    Calls Try.prog 52 #[.int .i64 x, .int .i64 y] w fun e w' => e = .returned (.int .i64 (tm x y)) ∧ w = w' := by
  have h1 : x = 0 ∨ x = 1 ∨ x = 2 := by omega
  have h2 : y = 0 ∨ y = 1 ∨ y = 2 := by omega
  have q0 := tbl0
  have q1 := tbl1
  have q2 := tbl2
  have p0 := tri0
  have p1 := tri1
  have p2 := tri2
  unfold tbl i3 at q0 q1 q2
  unfold i3 at p0 p1 p2
  clear hx hy
  rcases h1 with rfl | rfl | rfl <;> rcases h2 with rfl | rfl | rfl
  all_goals
    go_enter Try.func52, Try.ntmps52
    go_wp2_with fail
    go_ret
    exact ⟨rfl, rfl⟩
end Go.Proofs.Ytfcmkhjimgpppaa
