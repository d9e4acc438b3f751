/-
  MatrixProducts: the walk: it returns true and writes nothing that was there. No condition but that the arguments read as matrices.
-/
import Derived.Test.YtfcmkhjimgpppaaAwake
namespace Go.Proofs.Ytfcmkhjimgpppaa
open Go.RowKit
set_option linter.unusedVariables false
set_option linter.unusedSimpArgs false

theorem G_ext {a b : List (List Int)} {n : Nat} (ha : a.length = n) (hb : b.length = n) (ra : ∀ i, i < n → (a.getD i []).length = n) (rb : ∀ i, i < n → (b.getD i []).length = n) (h : ∀ i j, i < n → j < n → G a i j = G b i j) : a = b := by
  subst ha
  apply List.ext_getElem hb.symm
  intro i h1 h2
  have e1 : a.getD i [] = a[i] := by rw [List.getD_eq_getElem?_getD, List.getElem?_eq_getElem h1]; rfl
  have e2 : b.getD i [] = b[i] := by rw [List.getD_eq_getElem?_getD, List.getElem?_eq_getElem h2]; rfl
  have q1 := ra i h1
  have q2 := rb i h1
  rw [e1] at q1
  rw [e2] at q2
  apply List.ext_getElem (by omega)
  intro j h3 h4
  have := h i j h1 (by omega)
  unfold G at this
  rw [e1, e2, List.getD_eq_getElem?_getD, List.getElem?_eq_getElem h3, List.getD_eq_getElem?_getD, List.getElem?_eq_getElem h4] at this
  exact this
theorem eachB_same {a b : List (List Int)} (ra : right a = true) (rb : right b = true) (hl : a.length = b.length) : eachB cSame a b = decide (a = b) := by
  rw [eachB_yes _ ⟨ra, rb, hl⟩]
  obtain ⟨_, r2, _⟩ := right_sq ra
  obtain ⟨_, s2, _⟩ := right_sq rb
  by_cases h : a = b
  · subst h
    rw [decide_eq_true rfl]
    exact allB_yes fun i j _ _ => by simp [cSame]
  · rw [decide_eq_false h, Bool.eq_false_iff]
    intro e
    exact h (G_ext rfl hl.symm r2 (fun i hi => by rw [s2 i (by omega), hl]) fun i j hi hj => by simpa [cSame] using allB_all e i j hi hj)

set_option maxRecDepth 100000 in
set_option maxHeartbeats 2000000 in
theorem products_heavy (va vb : Value) (a b : List (List Int)) (w : World) (ha : MatR (· < w.heap.size) w va a) (hb : MatR (· < w.heap.size) w vb b) (h : lightB a = false ∨ lightB b = false) :
    Calls Try.prog 3 #[va, vb] w fun e w' => e = .returned (.bool true) ∧ Below w.heap.size w w' := by
  have ka := light_w va a w ha
  have kb := light_w vb b w hb
  obtain ⟨x, hx⟩ : ∃ x, x = lightB a := ⟨_, rfl⟩
  obtain ⟨y, hy⟩ : ∃ y, y = lightB b := ⟨_, rfl⟩
  rw [← hx, ← hy] at h
  rw [← hx] at ka
  rw [← hy] at kb
  have KA := Lib.hid ka
  have KB := Lib.hid kb
  clear ka kb hx hy ha hb
  cases x
  · go_enter Try.func3, Try.ntmps3
    go_wp2_with fail
    refine KA.out.mono ?_
    rintro e w' ⟨rfl, rfl⟩
    go_wp2_with fail
    refine (awake_w _).mono ?_
    rintro e w1 ⟨rfl, hb⟩
    go_wp2_with fail
    go_ret
    exact ⟨rfl, hb⟩
  · have hy : y = false := by simpa using h
    subst hy
    clear h
    go_enter Try.func3, Try.ntmps3
    go_wp2_with fail
    refine KA.out.mono ?_
    rintro e w' ⟨rfl, rfl⟩
    go_wp2_with fail
    refine KB.out.mono ?_
    rintro e w' ⟨rfl, rfl⟩
    go_wp2_with fail
    refine (awake_w _).mono ?_
    rintro e w1 ⟨rfl, hb⟩
    go_wp2_with fail
    go_ret
    exact ⟨rfl, hb⟩

set_option maxRecDepth 100000 in
set_option maxHeartbeats 2000000 in
theorem products_wrong (va vb : Value) (a b : List (List Int)) (w : World) (ha : MatR (· < w.heap.size) w va a) (hb : MatR (· < w.heap.size) w vb b) (la : lightB a = true) (lb : lightB b = true) (h : ¬ (right a = true ∧ right b = true ∧ a.length = b.length)) :
    Calls Try.prog 3 #[va, vb] w fun e w' => e = .returned (.bool true) ∧ Below w.heap.size w w' := by
  have ka := light_w va a w ha
  have kb := light_w vb b w hb
  rw [la] at ka
  rw [lb] at kb
  have kp := Product_no va vb a b w ha hb h
  have kr := right_w va a w ha
  have kr2 := refRight_w va a w ha
  have kr3 := refRight_w vb b w hb
  have ks := Same_w va vb a b w ha hb
  rw [eachB_no _ h] at ks
  have kl : ∀ n, Calls Try.prog 18 #[va, vb] (w.drewN n) (Drawn (w.drewN n) false) := fun n => by
    have := Least_w va vb a b (w.drewN n) ha hb
    rwa [eachB_no _ h] at this
  obtain ⟨ao, ca, rfl⟩ := ha.shape
  obtain ⟨bo, cb, rfl⟩ := hb.shape
  have KA := Lib.hid ka
  have KB := Lib.hid kb
  have KP := Lib.hid kp
  have KS := Lib.hid ks
  have KL := Lib.hid kl
  have HL := Lib.hid h
  obtain ⟨x, hx⟩ : ∃ x, x = right a := ⟨_, rfl⟩
  obtain ⟨y, hy⟩ : ∃ y, y = right b := ⟨_, rfl⟩
  rw [← hx, ← hy] at HL
  rw [← hx] at kr kr2
  rw [← hy] at kr3
  have KR := Lib.hid kr
  have KR2 := Lib.hid kr2
  have KR3 := Lib.hid kr3
  have hne : x = true → y = true → ((a.length : Int) != (b.length : Int)) = true := fun e1 e2 => by have := HL.out; simp [e1, e2] at this; simp; omega
  have HNE := Lib.hid hne
  clear ka kb kp kr kr2 kr3 ks kl h hx hy ha hb la lb hne
  cases x
  · go_enter Try.func3, Try.ntmps3
    go_wp2_with fail
    refine KA.out.mono ?_
    rintro e w' ⟨rfl, rfl⟩
    go_wp2_with fail
    refine KB.out.mono ?_
    rintro e w' ⟨rfl, rfl⟩
    go_wp2_with fail
    refine KP.out.mono ?_
    rintro e w' ⟨rfl, rfl⟩
    go_wp2_with fail
    refine KR.out.mono ?_
    rintro e w' ⟨rfl, rfl⟩
    go_wp2_with fail
    refine KR2.out.mono ?_
    rintro e w' ⟨rfl, rfl⟩
    go_wp2_with fail
    refine KR2.out.mono ?_
    rintro e w' ⟨rfl, rfl⟩
    go_wp2_with fail
    refine KS.out.mono ?_
    rintro e w' ⟨rfl, n, rfl⟩
    go_wp2_with fail
    refine (KL.out n).mono ?_
    rintro e w' ⟨rfl, n2, rfl⟩
    go_wp2_with fail
    refine (awake_w _).mono ?_
    rintro e w1 ⟨rfl, hb⟩
    go_wp2_with fail
    go_ret
    exact ⟨rfl, (below_drewN (Below.refl _ w) (n + n2)).trans hb⟩
  · cases y
    · go_enter Try.func3, Try.ntmps3
      go_wp2_with fail
      refine KA.out.mono ?_
      rintro e w' ⟨rfl, rfl⟩
      go_wp2_with fail
      refine KB.out.mono ?_
      rintro e w' ⟨rfl, rfl⟩
      go_wp2_with fail
      refine KP.out.mono ?_
      rintro e w' ⟨rfl, rfl⟩
      go_wp2_with fail
      refine KR.out.mono ?_
      rintro e w' ⟨rfl, rfl⟩
      go_wp2_with fail
      refine KR2.out.mono ?_
      rintro e w' ⟨rfl, rfl⟩
      go_wp2_with fail
      refine KR2.out.mono ?_
      rintro e w' ⟨rfl, rfl⟩
      go_wp2_with fail
      refine KR3.out.mono ?_
      rintro e w' ⟨rfl, rfl⟩
      go_wp2_with fail
      refine KS.out.mono ?_
      rintro e w' ⟨rfl, n, rfl⟩
      go_wp2_with fail
      refine (KL.out n).mono ?_
      rintro e w' ⟨rfl, n2, rfl⟩
      go_wp2_with fail
      refine (awake_w _).mono ?_
      rintro e w1 ⟨rfl, hb⟩
      go_wp2_with fail
      go_ret
      exact ⟨rfl, (below_drewN (Below.refl _ w) (n + n2)).trans hb⟩
    · have hne2 := HNE.out rfl rfl
      go_enter Try.func3, Try.ntmps3
      go_wp2_with fail
      refine KA.out.mono ?_
      rintro e w' ⟨rfl, rfl⟩
      go_wp2_with fail
      refine KB.out.mono ?_
      rintro e w' ⟨rfl, rfl⟩
      go_wp2_with fail
      refine KP.out.mono ?_
      rintro e w' ⟨rfl, rfl⟩
      go_wp2_with fail
      refine KR.out.mono ?_
      rintro e w' ⟨rfl, rfl⟩
      go_wp2_with fail
      refine KR2.out.mono ?_
      rintro e w' ⟨rfl, rfl⟩
      go_wp2_with fail
      refine KR2.out.mono ?_
      rintro e w' ⟨rfl, rfl⟩
      go_wp2_with fail
      refine KR3.out.mono ?_
      rintro e w' ⟨rfl, rfl⟩
      go_wp2_with fail
      refine KS.out.mono ?_
      rintro e w' ⟨rfl, n, rfl⟩
      go_wp2_with fail
      refine (KL.out n).mono ?_
      rintro e w' ⟨rfl, n2, rfl⟩
      go_wp2_with fail
      refine (awake_w _).mono ?_
      rintro e w1 ⟨rfl, hb⟩
      go_wp2_with fail
      go_ret
      exact ⟨rfl, (below_drewN (Below.refl _ w) (n + n2)).trans hb⟩
end Go.Proofs.Ytfcmkhjimgpppaa
