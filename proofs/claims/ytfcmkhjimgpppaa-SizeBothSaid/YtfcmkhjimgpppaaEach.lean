/-
  Same, Least: the program's: contracts, at any two matrices.
-/
import Derived.Test.YtfcmkhjimgpppaaSame
namespace Go.Proofs.Ytfcmkhjimgpppaa
open Go.RowKit
set_option linter.unusedVariables false
set_option linter.unusedSimpArgs false

def cSame (x y : Int) : Bool := x == y
def cLeast (x y : Int) : Bool := decide (y ≤ x)
def allB (c : Int → Int → Bool) (a b : List (List Int)) (n : Nat) : Bool := (List.range n).all fun i => (List.range n).all fun j => c (G a i j) (G b i j)
theorem allB_yes {c : Int → Int → Bool} {a b : List (List Int)} {n : Nat} (h : ∀ i j, i < n → j < n → c (G a i j) (G b i j) = true) : allB c a b n = true := by
  unfold allB
  simp only [List.all_eq_true, List.mem_range]
  exact fun i hi j hj => h i j hi hj
theorem allB_all {c : Int → Int → Bool} {a b : List (List Int)} {n : Nat} (h : allB c a b n = true) (i j : Nat) (hi : i < n) (hj : j < n) : c (G a i j) (G b i j) = true := by
  unfold allB at h
  simp only [List.all_eq_true, List.mem_range] at h
  exact h i hi j hj
theorem allB_no {c : Int → Int → Bool} {a b : List (List Int)} {n : Nat} (i j : Nat) (hi : i < n) (hj : j < n) (h : c (G a i j) (G b i j) = false) : allB c a b n = false := by
  rw [Bool.eq_false_iff]; intro e
  rw [allB_all e i j hi hj] at h; cases h
def eachB (c : Int → Int → Bool) (a b : List (List Int)) : Bool := right a && right b && decide (a.length = b.length) && allB c a b a.length
theorem eachB_yes (c : Int → Int → Bool) {a b : List (List Int)} (h : right a = true ∧ right b = true ∧ a.length = b.length) : eachB c a b = allB c a b a.length := by
  unfold eachB; rw [h.1, h.2.1, decide_eq_true h.2.2]; rfl
theorem eachB_no (c : Int → Int → Bool) {a b : List (List Int)} (h : ¬ (right a = true ∧ right b = true ∧ a.length = b.length)) : eachB c a b = false := by
  rw [Bool.eq_false_iff]; intro e
  unfold eachB at e
  simp only [Bool.and_eq_true, decide_eq_true_eq] at e
  exact h ⟨e.1.1.1, e.1.1.2, e.1.2⟩

theorem clos42 (x y : Int) (w : World) : Calls Try.prog 42 #[.int .i64 x, .int .i64 y] w fun e w' => e = .returned (.bool (cSame x y)) ∧ w = w' := by
  unfold cSame
  go_enter Try.func42, Try.ntmps42
  go_wp2_with fail
  go_ret
  exact ⟨rfl, rfl⟩

set_option maxHeartbeats 2000000 in
theorem each42_sq (va vb : Value) (a b : List (List Int)) (n ba oa ca bb ob cb : Nat) (A1 A2 A3 B1 B2 B3 : Nat → Nat) (w : World) (h0 : n ≠ 0) (h24 : n ≤ 24)
    (ha : SqR w va a n ba oa ca A1 A2 A3) (hb : SqR w vb b n bb ob cb B1 B2 B3)
    (ka : Calls Try.prog 15 #[va] w fun e w' => e = .returned (.bool true) ∧ w = w') (kb : Calls Try.prog 15 #[vb] w fun e w' => e = .returned (.bool true) ∧ w = w') :
    Calls Try.prog 41 #[va, vb, .func (.func 42) #[] #[]] w (Drawn w (allB cSame a b n)) := by
  have hav := ha.val
  have hbv := hb.val
  subst hav
  subst hbv
  have KA := Lib.hid ka
  have KB := Lib.hid kb
  clear ka kb
  go_enter Try.func41, Try.ntmps41
  go_wp2_with fail
  refine KA.out.mono ?_
  rintro e w' ⟨rfl, rfl⟩
  go_wp2_with fail
  refine KB.out.mono ?_
  rintro e w' ⟨rfl, rfl⟩
  go_wp2_with fail
  clear KA KB
  go_loopw [26] (fun i wr => ∃ (k m : Nat), i = .int .i64 k ∧ k ≤ n ∧ wr = w.drewN m ∧ ∀ i j, i < k → j < n → cSame (G a i j) (G b i j) = true) (fun i _ => n - (intOf i).toNat)
  case atStart => exact ⟨0, 0, rfl, Nat.zero_le _, rfl, fun _ _ h => absurd h (Nat.not_lt_zero _)⟩
  case round =>
    obtain ⟨k, m, rfl, hk, rfl, heq⟩ := hrel
    by_cases hlt : k < n
    · have c1 := ha.row k hlt
      have c3 := hb.row k hlt
      go_wp2_with fail
      go_loopw [31] (fun i wr => ∃ (j m : Nat), i = .int .i64 j ∧ j ≤ n ∧ wr = w.drewN m ∧ ∀ j', j' < j → cSame (G a k j') (G b k j') = true) (fun i _ => n - (intOf i).toNat)
      case atStart => exact ⟨0, _, rfl, Nat.zero_le _, rfl, fun _ h => absurd h (Nat.not_lt_zero _)⟩
      case round =>
        obtain ⟨j, m2, rfl, hj, rfl, heq2⟩ := hrel
        clear c1 c3
        by_cases hjl : j < n
        · have c1 := ha.row k hlt
          have c3 := hb.row k hlt
          have c2 := ha.cell k j hlt hjl
          have c4 := hb.cell k j hlt hjl
          have hq1 : (j : Int) < (n : Int) := by omega
          have hq2 : (k : Int) < (n : Int) := by omega
          obtain ⟨x, hx⟩ : ∃ x, x = G a k j := ⟨_, rfl⟩
          obtain ⟨y, hy⟩ : ∃ y, y = G b k j := ⟨_, rfl⟩
          rw [← hx] at c2
          rw [← hy] at c4
          have HX := Lib.hid hx
          have HY := Lib.hid hy
          clear hx hy
          obtain ⟨r, hr⟩ : ∃ r, r = cSame x y := ⟨_, rfl⟩
          have hcl : ∀ w, Calls Try.prog 42 #[.int .i64 x, .int .i64 y] w fun e w' => e = .returned (.bool r) ∧ w' = w := fun w => by rw [hr]; exact (clos42 x y w).mono fun _ _ h => ⟨h.1, h.2.symm⟩
          have HCL := Lib.hid hcl
          have HR := Lib.hid hr
          clear hcl hr
          cases r
          · go_wp2_with fail
            go_quiet ((go_at_call 42; exact (HCL.out _).mono fun _ _ h => ⟨h.1, _, h.2⟩))
            go_wp2_with fail
            go_ret
            refine ⟨?_, _, dd _ _ _⟩
            rw [show allB cSame a b n = false from allB_no k j hlt hjl (by rw [← HX.out, ← HY.out, HR.out])]
            rfl
          · go_wp2_with fail
            go_quiet ((go_at_call 42; exact (HCL.out _).mono fun _ _ h => ⟨h.1, _, h.2⟩))
            go_wp2_with fail
            go_roundw
            case rel => exact ⟨j + 1, _, by go_num, by omega, rfl, fun j' hj' => by
              by_cases hij : j' = j
              · subst hij; rw [← HX.out, ← HY.out]; exact HR.out.symm
              · exact heq2 j' (by omega)⟩
            case measure => simp [intOf]; omega
        · go_wp2_with fail
          go_roundw
          case rel => exact ⟨k + 1, _, by go_num, by omega, rfl, fun i j' hi hj' => by
            by_cases hij : i = k
            · subst hij; exact heq2 j' (by omega)
            · exact heq i j' (by omega) hj'⟩
          case measure => simp [intOf]; omega
    · go_wp2_with fail
      go_ret
      refine ⟨?_, _, rfl⟩
      rw [show allB cSame a b n = true from allB_yes fun i j hi hj => heq i j (by omega) hj]
      rfl

theorem each42_nil (ao bo : Option Addr) (ca cb : Nat) (w : World)
    (ka : Calls Try.prog 15 #[.slice ao 0 ca] w fun e w' => e = .returned (.bool true) ∧ w = w') (kb : Calls Try.prog 15 #[.slice bo 0 cb] w fun e w' => e = .returned (.bool true) ∧ w = w') :
    Calls Try.prog 41 #[.slice ao 0 ca, .slice bo 0 cb, .func (.func 42) #[] #[]] w (Drawn w true) := by
  have KA := Lib.hid ka
  have KB := Lib.hid kb
  clear ka kb
  go_enter Try.func41, Try.ntmps41
  go_wp2_with fail
  refine KA.out.mono ?_
  rintro e w' ⟨rfl, rfl⟩
  go_wp2_with fail
  refine KB.out.mono ?_
  rintro e w' ⟨rfl, rfl⟩
  go_wp2_with fail
  refine wp_loop_rounds 1 ?_
  rw [rounds_succ]
  go_wp2_with fail
  go_ret
  exact ⟨rfl, 0, rfl⟩

theorem each42_no {P P' : Nat → Prop} (va vb : Value) (a b : List (List Int)) (w : World) (ha : MatR P w va a) (hb : MatR P' w vb b) (h : ¬ (right a = true ∧ right b = true ∧ a.length = b.length)) :
    Calls Try.prog 41 #[va, vb, .func (.func 42) #[] #[]] w (Drawn w false) := by
  have ka := right_w va a w ha
  have kb := right_w vb b w hb
  obtain ⟨ao, ca, rfl⟩ := ha.shape
  obtain ⟨bo, cb, rfl⟩ := hb.shape
  have KA := Lib.hid ka
  have KB := Lib.hid kb
  have H := Lib.hid h
  clear ka kb h ha hb
  obtain ⟨x, hx⟩ : ∃ x, x = right a := ⟨_, rfl⟩
  obtain ⟨y, hy⟩ : ∃ y, y = right b := ⟨_, rfl⟩
  rw [← hx, ← hy] at H
  rw [← hx] at KA
  rw [← hy] at KB
  clear hx hy
  cases x
  · go_enter Try.func41, Try.ntmps41
    go_wp2_with fail
    refine KA.out.mono ?_
    rintro e w' ⟨rfl, rfl⟩
    go_wp2_with fail
    go_ret
    exact ⟨rfl, 0, rfl⟩
  · cases y
    · go_enter Try.func41, Try.ntmps41
      go_wp2_with fail
      refine KA.out.mono ?_
      rintro e w' ⟨rfl, rfl⟩
      go_wp2_with fail
      refine KB.out.mono ?_
      rintro e w' ⟨rfl, rfl⟩
      go_wp2_with fail
      go_ret
      exact ⟨rfl, 0, rfl⟩
    · have hb : ((a.length : Int) != (b.length : Int)) = true := by have := H.out; simp at this; simp; omega
      go_enter Try.func41, Try.ntmps41
      go_wp2_with fail
      refine KA.out.mono ?_
      rintro e w' ⟨rfl, rfl⟩
      go_wp2_with fail
      refine KB.out.mono ?_
      rintro e w' ⟨rfl, rfl⟩
      go_wp2_with fail
      go_ret
      exact ⟨rfl, 0, rfl⟩

theorem Same_w {P P' : Nat → Prop} (va vb : Value) (a b : List (List Int)) (w : World) (ha : MatR P w va a) (hb : MatR P' w vb b) :
    Calls Try.prog 17 #[va, vb] w (Drawn w (eachB cSame a b)) := by
  have hf : Calls Try.prog 41 #[va, vb, .func (.func 42) #[] #[]] w (Drawn w (eachB cSame a b)) := by
    by_cases h : right a = true ∧ right b = true ∧ a.length = b.length
    · have ka := right_w va a w ha
      have kb := right_w vb b w hb
      rw [h.1] at ka
      rw [h.2.1] at kb
      rw [eachB_yes cSame h]
      obtain ⟨r1, r2, r3⟩ := right_sq h.1
      obtain ⟨s1, s2, s3⟩ := right_sq h.2.1
      by_cases h0 : a.length = 0
      · obtain ⟨ao, ca, rfl⟩ := ha.shape
        obtain ⟨bo, cb, rfl⟩ := hb.shape
        rw [h0] at ka ⊢
        rw [← h.2.2, h0] at kb ⊢
        rw [show allB cSame a b 0 = true from allB_yes fun i j hi _ => absurd hi (Nat.not_lt_zero _)]
        exact each42_nil _ _ _ _ _ ka kb
      · obtain ⟨ba, oa, ca, A1, A2, A3, hA, -, -⟩ := ha.sq rfl h0 r2
        obtain ⟨bb, ob, cb, B1, B2, B3, hB, -, -⟩ := hb.sq h.2.2.symm h0 (fun i hi => by rw [s2 i (by omega), h.2.2])
        exact each42_sq va vb a b a.length ba oa ca bb ob cb A1 A2 A3 B1 B2 B3 w h0 r1 hA hB ka kb
    · rw [eachB_no cSame h]
      exact each42_no va vb a b w ha hb h
  have HF := Lib.hid hf
  obtain ⟨ao, ca, rfl⟩ := ha.shape
  obtain ⟨bo, cb, rfl⟩ := hb.shape
  clear hf ha hb
  go_enter Try.func17, Try.ntmps17
  go_wp2_with fail
  refine HF.out.mono ?_
  rintro e w' ⟨rfl, n, rfl⟩
  go_wp2_with fail
  go_ret
  exact ⟨rfl, n, rfl⟩

theorem clos43 (x y : Int) (w : World) : Calls Try.prog 43 #[.int .i64 x, .int .i64 y] w fun e w' => e = .returned (.bool (cLeast x y)) ∧ w = w' := by
  unfold cLeast
  go_enter Try.func43, Try.ntmps43
  go_wp2_with fail
  go_ret
  exact ⟨rfl, rfl⟩

set_option maxHeartbeats 2000000 in
theorem each43_sq (va vb : Value) (a b : List (List Int)) (n ba oa ca bb ob cb : Nat) (A1 A2 A3 B1 B2 B3 : Nat → Nat) (w : World) (h0 : n ≠ 0) (h24 : n ≤ 24)
    (ha : SqR w va a n ba oa ca A1 A2 A3) (hb : SqR w vb b n bb ob cb B1 B2 B3)
    (ka : Calls Try.prog 15 #[va] w fun e w' => e = .returned (.bool true) ∧ w = w') (kb : Calls Try.prog 15 #[vb] w fun e w' => e = .returned (.bool true) ∧ w = w') :
    Calls Try.prog 41 #[va, vb, .func (.func 43) #[] #[]] w (Drawn w (allB cLeast a b n)) := by
  have hav := ha.val
  have hbv := hb.val
  subst hav
  subst hbv
  have KA := Lib.hid ka
  have KB := Lib.hid kb
  clear ka kb
  go_enter Try.func41, Try.ntmps41
  go_wp2_with fail
  refine KA.out.mono ?_
  rintro e w' ⟨rfl, rfl⟩
  go_wp2_with fail
  refine KB.out.mono ?_
  rintro e w' ⟨rfl, rfl⟩
  go_wp2_with fail
  clear KA KB
  go_loopw [26] (fun i wr => ∃ (k m : Nat), i = .int .i64 k ∧ k ≤ n ∧ wr = w.drewN m ∧ ∀ i j, i < k → j < n → cLeast (G a i j) (G b i j) = true) (fun i _ => n - (intOf i).toNat)
  case atStart => exact ⟨0, 0, rfl, Nat.zero_le _, rfl, fun _ _ h => absurd h (Nat.not_lt_zero _)⟩
  case round =>
    obtain ⟨k, m, rfl, hk, rfl, heq⟩ := hrel
    by_cases hlt : k < n
    · have c1 := ha.row k hlt
      have c3 := hb.row k hlt
      go_wp2_with fail
      go_loopw [31] (fun i wr => ∃ (j m : Nat), i = .int .i64 j ∧ j ≤ n ∧ wr = w.drewN m ∧ ∀ j', j' < j → cLeast (G a k j') (G b k j') = true) (fun i _ => n - (intOf i).toNat)
      case atStart => exact ⟨0, _, rfl, Nat.zero_le _, rfl, fun _ h => absurd h (Nat.not_lt_zero _)⟩
      case round =>
        obtain ⟨j, m2, rfl, hj, rfl, heq2⟩ := hrel
        clear c1 c3
        by_cases hjl : j < n
        · have c1 := ha.row k hlt
          have c3 := hb.row k hlt
          have c2 := ha.cell k j hlt hjl
          have c4 := hb.cell k j hlt hjl
          have hq1 : (j : Int) < (n : Int) := by omega
          have hq2 : (k : Int) < (n : Int) := by omega
          obtain ⟨x, hx⟩ : ∃ x, x = G a k j := ⟨_, rfl⟩
          obtain ⟨y, hy⟩ : ∃ y, y = G b k j := ⟨_, rfl⟩
          rw [← hx] at c2
          rw [← hy] at c4
          have HX := Lib.hid hx
          have HY := Lib.hid hy
          clear hx hy
          obtain ⟨r, hr⟩ : ∃ r, r = cLeast x y := ⟨_, rfl⟩
          have hcl : ∀ w, Calls Try.prog 43 #[.int .i64 x, .int .i64 y] w fun e w' => e = .returned (.bool r) ∧ w' = w := fun w => by rw [hr]; exact (clos43 x y w).mono fun _ _ h => ⟨h.1, h.2.symm⟩
          have HCL := Lib.hid hcl
          have HR := Lib.hid hr
          clear hcl hr
          cases r
          · go_wp2_with fail
            go_quiet ((go_at_call 43; exact (HCL.out _).mono fun _ _ h => ⟨h.1, _, h.2⟩))
            go_wp2_with fail
            go_ret
            refine ⟨?_, _, dd _ _ _⟩
            rw [show allB cLeast a b n = false from allB_no k j hlt hjl (by rw [← HX.out, ← HY.out, HR.out])]
            rfl
          · go_wp2_with fail
            go_quiet ((go_at_call 43; exact (HCL.out _).mono fun _ _ h => ⟨h.1, _, h.2⟩))
            go_wp2_with fail
            go_roundw
            case rel => exact ⟨j + 1, _, by go_num, by omega, rfl, fun j' hj' => by
              by_cases hij : j' = j
              · subst hij; rw [← HX.out, ← HY.out]; exact HR.out.symm
              · exact heq2 j' (by omega)⟩
            case measure => simp [intOf]; omega
        · go_wp2_with fail
          go_roundw
          case rel => exact ⟨k + 1, _, by go_num, by omega, rfl, fun i j' hi hj' => by
            by_cases hij : i = k
            · subst hij; exact heq2 j' (by omega)
            · exact heq i j' (by omega) hj'⟩
          case measure => simp [intOf]; omega
    · go_wp2_with fail
      go_ret
      refine ⟨?_, _, rfl⟩
      rw [show allB cLeast a b n = true from allB_yes fun i j hi hj => heq i j (by omega) hj]
      rfl

theorem each43_nil (ao bo : Option Addr) (ca cb : Nat) (w : World)
    (ka : Calls Try.prog 15 #[.slice ao 0 ca] w fun e w' => e = .returned (.bool true) ∧ w = w') (kb : Calls Try.prog 15 #[.slice bo 0 cb] w fun e w' => e = .returned (.bool true) ∧ w = w') :
    Calls Try.prog 41 #[.slice ao 0 ca, .slice bo 0 cb, .func (.func 43) #[] #[]] w (Drawn w true) := by
  have KA := Lib.hid ka
  have KB := Lib.hid kb
  clear ka kb
  go_enter Try.func41, Try.ntmps41
  go_wp2_with fail
  refine KA.out.mono ?_
  rintro e w' ⟨rfl, rfl⟩
  go_wp2_with fail
  refine KB.out.mono ?_
  rintro e w' ⟨rfl, rfl⟩
  go_wp2_with fail
  refine wp_loop_rounds 1 ?_
  rw [rounds_succ]
  go_wp2_with fail
  go_ret
  exact ⟨rfl, 0, rfl⟩

theorem each43_no {P P' : Nat → Prop} (va vb : Value) (a b : List (List Int)) (w : World) (ha : MatR P w va a) (hb : MatR P' w vb b) (h : ¬ (right a = true ∧ right b = true ∧ a.length = b.length)) :
    Calls Try.prog 41 #[va, vb, .func (.func 43) #[] #[]] w (Drawn w false) := by
  have ka := right_w va a w ha
  have kb := right_w vb b w hb
  obtain ⟨ao, ca, rfl⟩ := ha.shape
  obtain ⟨bo, cb, rfl⟩ := hb.shape
  have KA := Lib.hid ka
  have KB := Lib.hid kb
  have H := Lib.hid h
  clear ka kb h ha hb
  obtain ⟨x, hx⟩ : ∃ x, x = right a := ⟨_, rfl⟩
  obtain ⟨y, hy⟩ : ∃ y, y = right b := ⟨_, rfl⟩
  rw [← hx, ← hy] at H
  rw [← hx] at KA
  rw [← hy] at KB
  clear hx hy
  cases x
  · go_enter Try.func41, Try.ntmps41
    go_wp2_with fail
    refine KA.out.mono ?_
    rintro e w' ⟨rfl, rfl⟩
    go_wp2_with fail
    go_ret
    exact ⟨rfl, 0, rfl⟩
  · cases y
    · go_enter Try.func41, Try.ntmps41
      go_wp2_with fail
      refine KA.out.mono ?_
      rintro e w' ⟨rfl, rfl⟩
      go_wp2_with fail
      refine KB.out.mono ?_
      rintro e w' ⟨rfl, rfl⟩
      go_wp2_with fail
      go_ret
      exact ⟨rfl, 0, rfl⟩
    · have hb : ((a.length : Int) != (b.length : Int)) = true := by have := H.out; simp at this; simp; omega
      go_enter Try.func41, Try.ntmps41
      go_wp2_with fail
      refine KA.out.mono ?_
      rintro e w' ⟨rfl, rfl⟩
      go_wp2_with fail
      refine KB.out.mono ?_
      rintro e w' ⟨rfl, rfl⟩
      go_wp2_with fail
      go_ret
      exact ⟨rfl, 0, rfl⟩

theorem Least_w {P P' : Nat → Prop} (va vb : Value) (a b : List (List Int)) (w : World) (ha : MatR P w va a) (hb : MatR P' w vb b) :
    Calls Try.prog 18 #[va, vb] w (Drawn w (eachB cLeast a b)) := by
  have hf : Calls Try.prog 41 #[va, vb, .func (.func 43) #[] #[]] w (Drawn w (eachB cLeast a b)) := by
    by_cases h : right a = true ∧ right b = true ∧ a.length = b.length
    · have ka := right_w va a w ha
      have kb := right_w vb b w hb
      rw [h.1] at ka
      rw [h.2.1] at kb
      rw [eachB_yes cLeast h]
      obtain ⟨r1, r2, r3⟩ := right_sq h.1
      obtain ⟨s1, s2, s3⟩ := right_sq h.2.1
      by_cases h0 : a.length = 0
      · obtain ⟨ao, ca, rfl⟩ := ha.shape
        obtain ⟨bo, cb, rfl⟩ := hb.shape
        rw [h0] at ka ⊢
        rw [← h.2.2, h0] at kb ⊢
        rw [show allB cLeast a b 0 = true from allB_yes fun i j hi _ => absurd hi (Nat.not_lt_zero _)]
        exact each43_nil _ _ _ _ _ ka kb
      · obtain ⟨ba, oa, ca, A1, A2, A3, hA, -, -⟩ := ha.sq rfl h0 r2
        obtain ⟨bb, ob, cb, B1, B2, B3, hB, -, -⟩ := hb.sq h.2.2.symm h0 (fun i hi => by rw [s2 i (by omega), h.2.2])
        exact each43_sq va vb a b a.length ba oa ca bb ob cb A1 A2 A3 B1 B2 B3 w h0 r1 hA hB ka kb
    · rw [eachB_no cLeast h]
      exact each43_no va vb a b w ha hb h
  have HF := Lib.hid hf
  obtain ⟨ao, ca, rfl⟩ := ha.shape
  obtain ⟨bo, cb, rfl⟩ := hb.shape
  clear hf ha hb
  go_enter Try.func18, Try.ntmps18
  go_wp2_with fail
  refine HF.out.mono ?_
  rintro e w' ⟨rfl, n, rfl⟩
  go_wp2_with fail
  go_ret
  exact ⟨rfl, n, rfl⟩
end Go.Proofs.Ytfcmkhjimgpppaa
