/-
  MatrixKinds: the walk: it returns true and writes nothing that was there. No condition but that the arguments read.
-/
import Derived.Test.YtfcmkhjimgpppaaRefText
import Derived.Test.YtfcmkhjimgpppaaLawR
import Derived.Test.YtfcmkhjimgpppaaLawQ
namespace Go.Proofs.Ytfcmkhjimgpppaa
open Go.RowKit
set_option linter.unusedVariables false
set_option linter.unusedSimpArgs false

theorem Idem_no {P : Nat → Prop} (va : Value) (m : List (List Int)) (w : World) (h : MatR P w va m) (hr : right m = false) :
    Calls Try.prog 23 #[va] w fun e w' => e = .returned (.bool false) ∧ w = w' := by
  have ka := right_w va m w h
  rw [hr] at ka
  have KA := Lib.hid ka
  clear ka h hr
  go_enter Try.func23, Try.ntmps23
  go_wp2_with fail
  refine KA.out.mono ?_
  rintro e w' ⟨rfl, rfl⟩
  go_wp2_with fail
  go_ret
  exact ⟨rfl, rfl⟩
theorem Idem_w (va : Value) (m : List (List Int)) (w : World) (h : MatR (· < w.heap.size) w va m) (hr : right m = true) :
    Calls Try.prog 23 #[va] w fun e w' => e = .returned (.bool (decide (prod m m = m))) ∧ Below w.heap.size w w' := by
  obtain ⟨r, hr'⟩ : ∃ r, r = decide (prod m m = m) := ⟨_, rfl⟩
  rw [← hr']
  have HR' := Lib.hid hr'
  clear hr'
  have ka := right_w va m w h
  rw [hr] at ka
  have kp := product_w va va m m w h h hr hr rfl
  have KA := Lib.hid ka
  have KP := Lib.hid kp
  have H := Lib.hid h
  have HR := Lib.hid hr
  clear ka kp h hr
  go_enter Try.func23, Try.ntmps23
  go_wp2_with fail
  refine KA.out.mono ?_
  rintro e w' ⟨rfl, rfl⟩
  go_wp2_with fail
  refine KP.out.mono ?_
  rintro e w1 ⟨v, rfl, m1, b1⟩
  have ks := Same_w v va (prod m m) m w1 m1 (H.out.on b1)
  rw [eachB_same (right_prod (right_sq HR.out).1) HR.out (prod_len _ _)] at ks
  have KS := Lib.hid ks
  have B1 := Lib.hid b1
  rw [← HR'.out] at KS
  clear ks m1 b1 KA KP H HR HR'
  go_wp2_with fail
  refine KS.out.mono ?_
  rintro e w' ⟨rfl, n, rfl⟩
  go_wp2_with fail
  go_ret
  exact ⟨rfl, below_drewN B1.out n⟩

set_option maxRecDepth 100000 in
set_option maxHeartbeats 8000000 in
theorem kinds_walk (va : Value) (m : List (List Int)) (n : Int) (w : World) (h : MatR (· < w.heap.size) w va m) (wn : (Lit.int .i64 n).wf = true) :
    Calls Try.prog 6 #[va, .int .i64 n] w fun e w' => e = .returned (.bool true) ∧ Below w.heap.size w w' := by
  have k1 := light_w va m w h
  obtain ⟨ao, ca, rfl⟩ := h.shape
  obtain ⟨x1, e1⟩ : ∃ x, x = lightB m := ⟨_, rfl⟩
  rw [← e1] at k1
  have K1 := Lib.hid k1
  have H := Lib.hid h
  clear k1 e1 h wn
  by_cases hn : n < 0 ∨ 24 < n
  · have HN := Lib.hid hn
    have hn2 : n < 0 ∨ (¬ n < 0 ∧ 24 < n) := by omega
    clear hn
    rcases hn2 with hn | ⟨hn, hn3⟩
    all_goals
      go_enter Try.func6, Try.ntmps6
      go_wp2_with fail
      refine K1.out.mono ?_
      rintro e w' ⟨rfl, rfl⟩
      cases x1
      · go_wp2_with fail
        refine (awake_w _).mono ?_
        rintro e w5 ⟨rfl, h5⟩
        go_wp2_with fail
        go_ret
        exact ⟨rfl, h5⟩
      go_wp2_with fail
      refine (unit_no n w HN.out).mono ?_
      rintro e w' ⟨rfl, rfl⟩
      obtain ⟨W, hW⟩ : ∃ W, w = W := ⟨_, rfl⟩
      have HW : Hid (Below w.heap.size w W) := by rw [← hW]; exact Below.refl _ _
      have HM : Hid (MatR (· < W.heap.size) W (.slice ao m.length ca) m) := by rw [← hW]; exact H.out
      rw [show w = W from hW]
      clear hW H K1
      -- (W, HW, HM : the matrix in W, all hidden)
      go_wp2_with fail
      have k2 := refRight_w _ m W HM.out
      obtain ⟨x2, e2⟩ : ∃ x, x = right m := ⟨_, rfl⟩
      rw [← e2] at k2
      have K2 := Lib.hid k2
      have E2 := Lib.hid e2
      clear k2 e2
      refine K2.out.mono ?_
      rintro e w' ⟨rfl, rfl⟩
      clear K2
      cases x2
      · have j1 := Idem_no _ m W HM.out E2.out.symm
        have j2 := Falls_no _ m W HM.out E2.out.symm
        have j3 : Calls Try.prog 25 #[.slice ao m.length ca] W fun e w' => e = .returned (.string ⟨#[]⟩) ∧ W = w' := Text_no _ m W HM.out E2.out.symm
        have J1 := Lib.hid j1
        have J2 := Lib.hid j2
        have J3 := Lib.hid j3
        clear j1 j2 j3
        go_wp2_with fail
        refine J1.out.mono ?_
        rintro e w' ⟨rfl, rfl⟩
        go_wp2_with fail
        refine J2.out.mono ?_
        rintro e w' ⟨rfl, rfl⟩
        go_wp2_with fail
        refine J3.out.mono ?_
        rintro e w' ⟨rfl, rfl⟩
        go_wp2_with fail
        refine (awake_w _).mono ?_
        rintro e w5 ⟨rfl, h5⟩
        go_wp2_with fail
        go_ret
        exact ⟨rfl, HW.out.trans (h5.mono HW.out.size)⟩
      · have j1 := Idem_w _ m W HM.out E2.out.symm
        obtain ⟨r, hr⟩ : ∃ r, r = decide (prod m m = m) := ⟨_, rfl⟩
        rw [← hr] at j1
        have HRR := Lib.hid hr
        have J1 := Lib.hid j1
        clear j1 hr
        go_wp2_with fail
        refine J1.out.mono ?_
        rintro e w1 ⟨rfl, b1⟩
        have HM1 := Lib.hid (HM.out.on b1)
        have HW1 := Lib.hid (HW.out.trans (b1.mono HW.out.size))
        clear b1 J1 HM HW
        go_wp2_with fail
        refine (refproduct_w _ _ m m w1 HM1.out HM1.out E2.out.symm E2.out.symm rfl).mono ?_
        rintro e w2 ⟨v2, rfl, m2, b2⟩
        have HM2 := Lib.hid (HM1.out.on b2)
        have HW2 := Lib.hid (HW1.out.trans (b2.mono HW1.out.size))
        have ks := same_w v2 _ (prod m m) m w2 m2 HM2.out
        rw [← HRR.out] at ks
        have KS := Lib.hid ks
        clear b2 m2 ks HM1 HW1
        go_wp2_with fail
        refine KS.out.mono ?_
        rintro e w' ⟨rfl, q, rfl⟩
        have f1 := Falls_w _ m (w2.drewN q) HM2.out E2.out.symm
        have f2 := refFalls_w _ m (w2.drewN q) HM2.out E2.out.symm
        have f3 := Text_w _ m (w2.drewN q) HM2.out E2.out.symm
        have HM3 : Hid (MatR (· < (w2.drewN q).heap.size) (w2.drewN q) (.slice ao m.length ca) m) := HM2.out
        have HW3 := Lib.hid (below_drewN HW2.out q)
        obtain ⟨fb, hfb⟩ : ∃ fb, fb = fallsB m m.length := ⟨_, rfl⟩
        obtain ⟨tx, htx⟩ : ∃ tx, tx = strOfNums (txt m m.length) := ⟨_, rfl⟩
        rw [← hfb] at f1 f2
        rw [← htx] at f3
        have F1 := Lib.hid f1
        have F2 := Lib.hid f2
        have F3 := Lib.hid f3
        have HTX := Lib.hid htx
        clear f1 f2 f3 hfb htx HM2 HW2 KS
        go_wp2_with fail
        refine F1.out.mono ?_
        rintro e w' ⟨rfl, rfl⟩
        go_wp2_with fail
        refine F2.out.mono ?_
        rintro e w' ⟨rfl, rfl⟩
        go_wp2_with fail
        refine F3.out.mono ?_
        rintro e w3 ⟨rfl, b3⟩
        have f4 := refText_w _ m w3 (HM3.out.on b3) E2.out.symm
        rw [← HTX.out] at f4
        have F4 := Lib.hid f4
        have HW4 := Lib.hid (HW3.out.trans (b3.mono HW3.out.size))
        clear f4 b3 F1 F2 F3 HM3 HW3
        go_wp2_with fail
        refine F4.out.mono ?_
        rintro e w4 ⟨rfl, b4⟩
        have HW5 := Lib.hid (HW4.out.trans (b4.mono HW4.out.size))
        clear b4 F4 HW4
        go_wp2_with fail
        refine (awake_w _).mono ?_
        rintro e w5 ⟨rfl, h5⟩
        go_wp2_with fail
        go_ret
        exact ⟨by simp, HW5.out.trans (h5.mono HW5.out.size)⟩
  · obtain ⟨k, rfl⟩ : ∃ k : Nat, n = k := ⟨n.toNat, by omega⟩
    have hk24 : k ≤ 24 := by omega
    clear hn
    go_enter Try.func6, Try.ntmps6
    go_wp2_with fail
    refine K1.out.mono ?_
    rintro e w' ⟨rfl, rfl⟩
    cases x1
    · go_wp2_with fail
      refine (awake_w _).mono ?_
      rintro e w5 ⟨rfl, h5⟩
      go_wp2_with fail
      go_ret
      exact ⟨rfl, h5⟩
    go_wp2_with fail
    refine (unit_w k w hk24).mono ?_
    rintro e w1 ⟨vu, rfl, mu, bu⟩
    obtain ⟨uo, uc, hvu⟩ := mu.shape
    rw [unit_len] at hvu
    subst hvu
    have MU := Lib.hid mu
    have BU := Lib.hid bu
    have HM1 := Lib.hid (H.out.on bu)
    clear mu bu H K1
    go_wp2_with fail
    go_loop [7] (fun i => ∃ q : Nat, i = .int .i64 q ∧ q ≤ k) (fun i => k - (intOf i).toNat)
    case atStart => exact ⟨0, rfl, Nat.zero_le _⟩
    case round =>
      obtain ⟨i, rfl, hi⟩ := hrel
      by_cases hik : i < k
      · go_wp2_with fail
        go_loop [8] (fun i => ∃ q : Nat, i = .int .i64 q ∧ q ≤ k) (fun i => k - (intOf i).toNat)
        case atStart => exact ⟨0, rfl, Nat.zero_le _⟩
        case round =>
          obtain ⟨j, rfl, hj⟩ := hrel
          by_cases hjk : j < k
          · have hmu : MatR (· < w1.heap.size) w1 (.slice uo (unit k).length uc) (unit k) := by rw [unit_len]; exact MU.out
            obtain ⟨b, off, B, O, C, rfl, hS⟩ := SqR.of hmu (right_unit hk24) (by rw [unit_len]; omega)
            have c1 := hS.row i (by rw [unit_len]; exact hik)
            have c2 := hS.cell i j (by rw [unit_len]; exact hik) (by rw [unit_len]; exact hjk)
            rw [G_unit k i j hik hjk] at c2
            rw [unit_len] at c1
            clear hmu hS
            by_cases hij : j = i
            · subst hij
              rw [if_pos rfl] at c2
              have q1 : ((j : Int) == (j : Int)) = true := by simp
              go_wp2_with fail
              go_round
              case rel => exact ⟨j + 1, by go_num, by omega⟩
              case measure => simp [intOf]; omega
            · rw [if_neg hij] at c2
              have q1 : ((i : Int) == (j : Int)) = false := by simp; omega
              have q2 : ((i : Int) != (j : Int)) = true := by simp; omega
              clear hij
              go_wp2_with fail
              go_round
              case rel => exact ⟨j + 1, by go_num, by omega⟩
              case measure => simp [intOf]; omega
          · go_wp2_with fail
            go_round
            case rel => exact ⟨i + 1, by go_num, by omega⟩
            case measure => simp [intOf]; omega
      · obtain ⟨W, hW⟩ : ∃ W, w1 = W := ⟨_, rfl⟩
        have HW : Hid (Below w.heap.size w W) := by rw [← hW]; exact BU.out
        have HM : Hid (MatR (· < W.heap.size) W (.slice ao m.length ca) m) := by rw [← hW]; exact HM1.out
        rw [show w1 = W from hW]
        clear hW MU BU HM1
        -- (W, HW : Below w W, HM : the matrix in W, all hidden)
        go_wp2_with fail
        have k2 := refRight_w _ m W HM.out
        obtain ⟨x2, e2⟩ : ∃ x, x = right m := ⟨_, rfl⟩
        rw [← e2] at k2
        have K2 := Lib.hid k2
        have E2 := Lib.hid e2
        clear k2 e2
        refine K2.out.mono ?_
        rintro e w' ⟨rfl, rfl⟩
        clear K2
        cases x2
        · have j1 := Idem_no _ m W HM.out E2.out.symm
          have j2 := Falls_no _ m W HM.out E2.out.symm
          have j3 : Calls Try.prog 25 #[.slice ao m.length ca] W fun e w' => e = .returned (.string ⟨#[]⟩) ∧ W = w' := Text_no _ m W HM.out E2.out.symm
          have J1 := Lib.hid j1
          have J2 := Lib.hid j2
          have J3 := Lib.hid j3
          clear j1 j2 j3
          go_wp2_with fail
          refine J1.out.mono ?_
          rintro e w' ⟨rfl, rfl⟩
          go_wp2_with fail
          refine J2.out.mono ?_
          rintro e w' ⟨rfl, rfl⟩
          go_wp2_with fail
          refine J3.out.mono ?_
          rintro e w' ⟨rfl, rfl⟩
          go_wp2_with fail
          refine (awake_w _).mono ?_
          rintro e w5 ⟨rfl, h5⟩
          go_wp2_with fail
          go_ret
          exact ⟨rfl, HW.out.trans (h5.mono HW.out.size)⟩
        · have j1 := Idem_w _ m W HM.out E2.out.symm
          obtain ⟨r, hr⟩ : ∃ r, r = decide (prod m m = m) := ⟨_, rfl⟩
          rw [← hr] at j1
          have HRR := Lib.hid hr
          have J1 := Lib.hid j1
          clear j1 hr
          go_wp2_with fail
          refine J1.out.mono ?_
          rintro e w1 ⟨rfl, b1⟩
          have HM1 := Lib.hid (HM.out.on b1)
          have HW1 := Lib.hid (HW.out.trans (b1.mono HW.out.size))
          clear b1 J1 HM HW
          go_wp2_with fail
          refine (refproduct_w _ _ m m w1 HM1.out HM1.out E2.out.symm E2.out.symm rfl).mono ?_
          rintro e w2 ⟨v2, rfl, m2, b2⟩
          have HM2 := Lib.hid (HM1.out.on b2)
          have HW2 := Lib.hid (HW1.out.trans (b2.mono HW1.out.size))
          have ks := same_w v2 _ (prod m m) m w2 m2 HM2.out
          rw [← HRR.out] at ks
          have KS := Lib.hid ks
          clear b2 m2 ks HM1 HW1
          go_wp2_with fail
          refine KS.out.mono ?_
          rintro e w' ⟨rfl, q, rfl⟩
          have f1 := Falls_w _ m (w2.drewN q) HM2.out E2.out.symm
          have f2 := refFalls_w _ m (w2.drewN q) HM2.out E2.out.symm
          have f3 := Text_w _ m (w2.drewN q) HM2.out E2.out.symm
          have HM3 : Hid (MatR (· < (w2.drewN q).heap.size) (w2.drewN q) (.slice ao m.length ca) m) := HM2.out
          have HW3 := Lib.hid (below_drewN HW2.out q)
          obtain ⟨fb, hfb⟩ : ∃ fb, fb = fallsB m m.length := ⟨_, rfl⟩
          obtain ⟨tx, htx⟩ : ∃ tx, tx = strOfNums (txt m m.length) := ⟨_, rfl⟩
          rw [← hfb] at f1 f2
          rw [← htx] at f3
          have F1 := Lib.hid f1
          have F2 := Lib.hid f2
          have F3 := Lib.hid f3
          have HTX := Lib.hid htx
          clear f1 f2 f3 hfb htx HM2 HW2 KS
          go_wp2_with fail
          refine F1.out.mono ?_
          rintro e w' ⟨rfl, rfl⟩
          go_wp2_with fail
          refine F2.out.mono ?_
          rintro e w' ⟨rfl, rfl⟩
          go_wp2_with fail
          refine F3.out.mono ?_
          rintro e w3 ⟨rfl, b3⟩
          have f4 := refText_w _ m w3 (HM3.out.on b3) E2.out.symm
          rw [← HTX.out] at f4
          have F4 := Lib.hid f4
          have HW4 := Lib.hid (HW3.out.trans (b3.mono HW3.out.size))
          clear f4 b3 F1 F2 F3 HM3 HW3
          go_wp2_with fail
          refine F4.out.mono ?_
          rintro e w4 ⟨rfl, b4⟩
          have HW5 := Lib.hid (HW4.out.trans (b4.mono HW4.out.size))
          clear b4 F4 HW4
          go_wp2_with fail
          refine (awake_w _).mono ?_
          rintro e w5 ⟨rfl, h5⟩
          go_wp2_with fail
          go_ret
          exact ⟨by simp, HW5.out.trans (h5.mono HW5.out.size)⟩

theorem kinds_walk2 (va : Value) (m : List (List Int)) (n : Int) (w : World) (h : MatR (· < w.heap.size) w va m) (wn : (Lit.int .i64 n).wf = true) :
    Calls Try.prog 6 #[va, .int .i64 n] w fun e w' => e = .returned (.bool true) ∧ Below w.heap.size w w' := kinds_walk va m n w h wn
end Go.Proofs.Ytfcmkhjimgpppaa
