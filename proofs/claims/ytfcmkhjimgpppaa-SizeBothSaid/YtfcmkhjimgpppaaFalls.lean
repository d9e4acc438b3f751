/-
  Falls, the program's and the document's; Text whole; Idempotent: contracts.
-/
import Derived.Test.YtfcmkhjimgpppaaText
import Derived.Test.YtfcmkhjimgpppaaEach
import Derived.Test.YtfcmkhjimgpppaaProd
namespace Go.Proofs.Ytfcmkhjimgpppaa
open Go.RowKit
set_option linter.unusedVariables false
set_option linter.unusedSimpArgs false

def fallsB (m : List (List Int)) (n : Nat) : Bool := (List.range n).any fun i => G m i i == 2
theorem fallsB_yes {m : List (List Int)} {n : Nat} (i : Nat) (hi : i < n) (h : G m i i = 2) : fallsB m n = true := by
  unfold fallsB
  simp only [List.any_eq_true, List.mem_range, beq_iff_eq]
  exact ⟨i, hi, h⟩
theorem fallsB_no {m : List (List Int)} {n : Nat} (h : ∀ i, i < n → G m i i ≠ 2) : fallsB m n = false := by
  rw [Bool.eq_false_iff]
  intro e
  unfold fallsB at e
  simp only [List.any_eq_true, List.mem_range, beq_iff_eq] at e
  obtain ⟨i, hi, h2⟩ := e
  exact h i hi h2

set_option maxHeartbeats 1000000 in
theorem falls24_sq (va : Value) (m : List (List Int)) (n b off cap : Nat) (B O C : Nat → Nat) (w : World) (h24 : n ≤ 24) (hs : SqR w va m n b off cap B O C) (ka : Calls Try.prog 15 #[va] w fun e w' => e = .returned (.bool true) ∧ w = w') :
    Calls Try.prog 24 #[va] w fun e w' => e = .returned (.bool (fallsB m n)) ∧ w = w' := by
  have hav := hs.val
  subst hav
  have KA := Lib.hid ka
  clear ka
  go_enter Try.func24, Try.ntmps24
  go_wp2_with fail
  refine KA.out.mono ?_
  rintro e w' ⟨rfl, rfl⟩
  clear KA
  go_wp2_with fail
  go_loop [9] (fun i => ∃ k : Nat, i = .int .i64 k ∧ k ≤ n ∧ ∀ i, i < k → G m i i ≠ 2) (fun i => n - (intOf i).toNat)
  case atStart => exact ⟨0, rfl, Nat.zero_le _, fun _ h => absurd h (Nat.not_lt_zero _)⟩
  case round =>
    obtain ⟨k, rfl, hk, hno⟩ := hrel
    by_cases hlt : k < n
    · have c1 := hs.row k hlt
      have c2 := hs.cell k k hlt hlt
      obtain ⟨x, hx⟩ : ∃ x, x = G m k k := ⟨_, rfl⟩
      rw [← hx] at c2
      have HX := Lib.hid hx
      clear hx
      by_cases h2 : x = 2
      · have e1 : (x == 2) = true := by simp [h2]
        have H2 := Lib.hid h2
        clear h2
        go_wp2_with fail
        go_ret
        exact ⟨by rw [fallsB_yes k hlt (by rw [← HX.out]; exact H2.out)]; rfl, rfl⟩
      · have e1 : (x == 2) = false := by simp [h2]
        have H2 := Lib.hid h2
        clear h2
        go_wp2_with fail
        go_round
        case rel => exact ⟨k + 1, by go_num, by omega, fun i hi => by
          by_cases hik : i = k
          · subst hik; rw [← HX.out]; exact H2.out
          · exact hno i (by omega)⟩
        case measure => simp [intOf]; omega
    · have hkn : k = n := by omega
      have HK := Lib.hid hkn
      clear hkn
      go_wp2_with fail
      go_ret
      exact ⟨by rw [fallsB_no fun i hi => hno i (by have := HK.out; omega)]; rfl, rfl⟩
theorem falls24_nil (ao : Option Addr) (cap : Nat) (m : List (List Int)) (w : World) (ka : Calls Try.prog 15 #[.slice ao 0 cap] w fun e w' => e = .returned (.bool true) ∧ w = w') :
    Calls Try.prog 24 #[.slice ao 0 cap] w fun e w' => e = .returned (.bool (fallsB m 0)) ∧ w = w' := by
  have KA := Lib.hid ka
  clear ka
  go_enter Try.func24, Try.ntmps24
  go_wp2_with fail
  refine KA.out.mono ?_
  rintro e w' ⟨rfl, rfl⟩
  clear KA
  go_wp2_with fail
  refine wp_loop_rounds 1 ?_
  rw [rounds_succ]
  go_wp2_with fail
  go_ret
  exact ⟨rfl, rfl⟩
theorem Falls_w {P : Nat → Prop} (va : Value) (m : List (List Int)) (w : World) (h : MatR P w va m) (hr : right m = true) :
    Calls Try.prog 24 #[va] w fun e w' => e = .returned (.bool (fallsB m m.length)) ∧ w = w' := by
  have ka := right_w va m w h
  rw [hr] at ka
  obtain ⟨r1, r2, r3⟩ := right_sq hr
  by_cases h0 : m.length = 0
  · obtain ⟨ao, ca, rfl⟩ := h.shape
    rw [h0] at ka ⊢
    exact falls24_nil ao ca m w ka
  · obtain ⟨b, off, cap, B, O, C, hS, -, -⟩ := h.sq rfl h0 r2
    exact falls24_sq va m m.length b off cap B O C w r1 hS ka

set_option maxHeartbeats 1000000 in
theorem falls26_sq (va : Value) (m : List (List Int)) (n b off cap : Nat) (B O C : Nat → Nat) (w : World) (h24 : n ≤ 24) (hs : SqR w va m n b off cap B O C) :
    Calls Try.prog 26 #[va] w fun e w' => e = .returned (.bool (fallsB m n)) ∧ w = w' := by
  have hav := hs.val
  subst hav
  go_enter Try.func26, Try.ntmps26
  go_wp2_with fail
  go_loop [3] (fun i => ∃ k : Nat, i = .int .i64 k ∧ k ≤ n ∧ ∀ i, i < k → G m i i ≠ 2) (fun i => n - (intOf i).toNat)
  case atStart => exact ⟨0, rfl, Nat.zero_le _, fun _ h => absurd h (Nat.not_lt_zero _)⟩
  case round =>
    obtain ⟨k, rfl, hk, hno⟩ := hrel
    by_cases hlt : k < n
    · have c1 := hs.row k hlt
      have c2 := hs.cell k k hlt hlt
      obtain ⟨x, hx⟩ : ∃ x, x = G m k k := ⟨_, rfl⟩
      rw [← hx] at c2
      have HX := Lib.hid hx
      clear hx
      by_cases h2 : x = 2
      · have e1 : (x == 2) = true := by simp [h2]
        have H2 := Lib.hid h2
        clear h2
        go_wp2_with fail
        go_ret
        exact ⟨by rw [fallsB_yes k hlt (by rw [← HX.out]; exact H2.out)]; rfl, rfl⟩
      · have e1 : (x == 2) = false := by simp [h2]
        have H2 := Lib.hid h2
        clear h2
        go_wp2_with fail
        go_round
        case rel => exact ⟨k + 1, by go_num, by omega, fun i hi => by
          by_cases hik : i = k
          · subst hik; rw [← HX.out]; exact H2.out
          · exact hno i (by omega)⟩
        case measure => simp [intOf]; omega
    · have hkn : k = n := by omega
      have HK := Lib.hid hkn
      clear hkn
      go_wp2_with fail
      go_ret
      exact ⟨by rw [fallsB_no fun i hi => hno i (by have := HK.out; omega)]; rfl, rfl⟩
theorem falls26_nil (ao : Option Addr) (cap : Nat) (m : List (List Int)) (w : World) :
    Calls Try.prog 26 #[.slice ao 0 cap] w fun e w' => e = .returned (.bool (fallsB m 0)) ∧ w = w' := by
  go_enter Try.func26, Try.ntmps26
  go_wp2_with fail
  refine wp_loop_rounds 1 ?_
  rw [rounds_succ]
  go_wp2_with fail
  go_ret
  exact ⟨rfl, rfl⟩
theorem refFalls_w {P : Nat → Prop} (va : Value) (m : List (List Int)) (w : World) (h : MatR P w va m) (hr : right m = true) :
    Calls Try.prog 26 #[va] w fun e w' => e = .returned (.bool (fallsB m m.length)) ∧ w = w' := by
  obtain ⟨r1, r2, r3⟩ := right_sq hr
  by_cases h0 : m.length = 0
  · obtain ⟨ao, ca, rfl⟩ := h.shape
    rw [h0]
    exact falls26_nil ao ca m w
  · obtain ⟨b, off, cap, B, O, C, hS, -, -⟩ := h.sq rfl h0 r2
    exact falls26_sq va m m.length b off cap B O C w r1 hS

theorem Falls_no {P : Nat → Prop} (va : Value) (m : List (List Int)) (w : World) (h : MatR P w va m) (hr : right m = false) :
    Calls Try.prog 24 #[va] w fun e w' => e = .returned (.bool false) ∧ w = w' := by
  have ka := right_w va m w h
  rw [hr] at ka
  have KA := Lib.hid ka
  clear ka h hr
  go_enter Try.func24, Try.ntmps24
  go_wp2_with fail
  refine KA.out.mono ?_
  rintro e w' ⟨rfl, rfl⟩
  go_wp2_with fail
  go_ret
  exact ⟨rfl, rfl⟩
theorem Text_no {P : Nat → Prop} (va : Value) (m : List (List Int)) (w : World) (h : MatR P w va m) (hr : right m = false) :
    Calls Try.prog 25 #[va] w fun e w' => e = .returned (.string (strOfNums [])) ∧ w = w' := by
  have ka := right_w va m w h
  rw [hr] at ka
  have KA := Lib.hid ka
  clear ka h hr
  go_enter Try.func25, Try.ntmps25
  go_wp2_with fail
  refine KA.out.mono ?_
  rintro e w' ⟨rfl, rfl⟩
  go_wp2_with fail
  go_ret
  exact ⟨rfl, rfl⟩
theorem text_nil (ao : Option Addr) (cap : Nat) (w : World) (ka : Calls Try.prog 15 #[.slice ao 0 cap] w fun e w' => e = .returned (.bool true) ∧ w = w') :
    Calls Try.prog 25 #[.slice ao 0 cap] w fun e w' => e = .returned (.string (strOfNums [])) ∧ w = w' := by
  have KA := Lib.hid ka
  clear ka
  have hconv : (convert 54 9 (.slice none 0 0)).run Try.prog w = .ok (.string ByteArray.empty) w := run_convert_bytes_nil w 54 5 Try.underlying54 Try.underlying5 0 0 9 Try.underlying9
  go_enter Try.func25, Try.ntmps25
  go_wp2_with fail
  refine KA.out.mono ?_
  rintro e w' ⟨rfl, rfl⟩
  go_wp2_with fail
  refine wp_loop_rounds 1 ?_
  rw [rounds_succ]
  go_wp2_with fail
  go_ret
  exact ⟨rfl, rfl⟩
theorem Text_w {P : Nat → Prop} (va : Value) (m : List (List Int)) (w : World) (h : MatR P w va m) (hr : right m = true) :
    Calls Try.prog 25 #[va] w fun e w' => e = .returned (.string (strOfNums (txt m m.length))) ∧ Below w.heap.size w w' := by
  have ka := right_w va m w h
  rw [hr] at ka
  obtain ⟨r1, r2, r3⟩ := right_sq hr
  by_cases h0 : m.length = 0
  · obtain ⟨ao, ca, rfl⟩ := h.shape
    rw [h0] at ka ⊢
    exact (text_nil ao ca w ka).mono fun _ _ h => ⟨h.1, h.2 ▸ Below.refl _ _⟩
  · obtain ⟨b, off, cap, B, O, C, hS, -, -⟩ := h.sq rfl h0 r2
    exact text_sq va m m.length b off cap B O C w r1 hS r2 r3 h0 ka
end Go.Proofs.Ytfcmkhjimgpppaa
