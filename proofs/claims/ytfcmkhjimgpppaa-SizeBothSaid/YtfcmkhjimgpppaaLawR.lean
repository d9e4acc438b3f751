/-
  MatrixAssociates: the walk: it returns true and writes nothing that was there. No condition but that the arguments read as matrices.
-/
import Derived.Test.YtfcmkhjimgpppaaUnit
import Derived.Test.YtfcmkhjimgpppaaLawP
namespace Go.Proofs.Ytfcmkhjimgpppaa
open Go.RowKit
set_option linter.unusedVariables false
set_option linter.unusedSimpArgs false

theorem prod_unit_l {a : List (List Int)} (ra : right a = true) : prod (unit a.length) a = a := by
  obtain ⟨r1, r2, r3⟩ := right_sq ra
  refine G_ext (n := a.length) (by rw [prod_len, unit_len]) rfl (fun i hi => by rw [row_prod _ _ i (by rw [unit_len]; exact hi), unit_len]) r2 fun i j hi hj => ?_
  rw [G_prod _ _ i j (by rw [unit_len]; exact hi) (by rw [unit_len]; exact hj), unit_len]
  exact pc_unit_l a a.length i j hi hj (r3 i j hi hj)
theorem prod_unit_r {a : List (List Int)} (ra : right a = true) : prod a (unit a.length) = a := by
  obtain ⟨r1, r2, r3⟩ := right_sq ra
  refine G_ext (n := a.length) (by rw [prod_len]) rfl (fun i hi => row_prod _ _ i hi) r2 fun i j hi hj => ?_
  rw [G_prod _ _ i j hi hj]
  exact pc_unit_r a a.length i j hi hj (r3 i j hi hj)

/-- a reading carried on -/
theorem MatR.on {w w' : World} {v : Value} {m : List (List Int)} (h : MatR (· < w.heap.size) w v m) (hb : Below w.heap.size w w') : MatR (· < w'.heap.size) w' v m :=
  MatR.keep h (fun b hb' => Nat.lt_of_lt_of_le hb' hb.size) fun b hb' => hb.block b hb'

set_option maxRecDepth 100000 in
set_option maxHeartbeats 4000000 in
theorem associates_walk (va : Value) (a : List (List Int)) (vb : Value) (b : List (List Int)) (vc : Value) (c : List (List Int)) (w : World) (ha : MatR (· < w.heap.size) w va a) (hb : MatR (· < w.heap.size) w vb b) (hc : MatR (· < w.heap.size) w vc c) :
    Calls Try.prog 5 #[va, vb, vc] w fun e w' => e = .returned (.bool true) ∧ Below w.heap.size w w' := by
  have k1 := light_w va a w ha
  have k2 := refRight_w va a w ha
  have k3 := refRight_w vb b w hb
  have k4 := refRight_w vc c w hc
  obtain ⟨ao, ca, rfl⟩ := ha.shape
  obtain ⟨bo, cb, rfl⟩ := hb.shape
  obtain ⟨co, cc, rfl⟩ := hc.shape
  obtain ⟨x1, e1⟩ : ∃ x, x = lightB a := ⟨_, rfl⟩
  obtain ⟨x2, e2⟩ : ∃ x, x = right a := ⟨_, rfl⟩
  obtain ⟨x3, e3⟩ : ∃ x, x = right b := ⟨_, rfl⟩
  obtain ⟨x4, e4⟩ : ∃ x, x = right c := ⟨_, rfl⟩
  rw [← e1] at k1
  rw [← e2] at k2
  rw [← e3] at k3
  rw [← e4] at k4
  have K1 := Lib.hid k1
  have K2 := Lib.hid k2
  have K3 := Lib.hid k3
  have K4 := Lib.hid k4
  have E2 := Lib.hid e2
  have E3 := Lib.hid e3
  have E4 := Lib.hid e4
  have HA := Lib.hid ha
  have HB := Lib.hid hb
  have HC := Lib.hid hc
  clear k1 k2 k3 k4 e1 e2 e3 e4 ha hb hc
  go_enter Try.func5, Try.ntmps5
  go_wp2_with fail
  refine K1.out.mono ?_
  rintro e w' ⟨rfl, rfl⟩
  cases x1
  · go_wp2_with fail
    refine (awake_w _).mono ?_
    rintro e w5 ⟨rfl, h5⟩
    go_wp2_with fail
    go_ret
    exact ⟨rfl, h5⟩
  go_wp2_with fail
  refine K2.out.mono ?_
  rintro e w' ⟨rfl, rfl⟩
  cases x2
  · go_wp2_with fail
    refine (awake_w _).mono ?_
    rintro e w5 ⟨rfl, h5⟩
    go_wp2_with fail
    go_ret
    exact ⟨rfl, h5⟩
  go_wp2_with fail
  refine K3.out.mono ?_
  rintro e w' ⟨rfl, rfl⟩
  cases x3
  · go_wp2_with fail
    refine (awake_w _).mono ?_
    rintro e w5 ⟨rfl, h5⟩
    go_wp2_with fail
    go_ret
    exact ⟨rfl, h5⟩
  go_wp2_with fail
  refine K4.out.mono ?_
  rintro e w' ⟨rfl, rfl⟩
  cases x4
  · go_wp2_with fail
    refine (awake_w _).mono ?_
    rintro e w5 ⟨rfl, h5⟩
    go_wp2_with fail
    go_ret
    exact ⟨rfl, h5⟩
  by_cases hab : a.length = b.length
  · by_cases hbc : b.length = c.length
    · have n1 : ((a.length : Int) != (b.length : Int)) = false := by simp [hab]
      have n2 : ((b.length : Int) != (c.length : Int)) = false := by simp [hbc]
      have HAB := Lib.hid hab
      have HBC := Lib.hid hbc
      have r24 := (right_sq E2.out.symm).1
      clear hab hbc K1 K2 K3 K4
      go_wp2_with fail
      refine (Product_yes _ _ a b w HA.out HB.out E2.out.symm E3.out.symm HAB.out).mono ?_
      rintro e w1 ⟨v1, rfl, m1, b1⟩
      have M1 := Lib.hid m1
      have HA1 := Lib.hid (HA.out.on b1)
      have HB1 := Lib.hid (HB.out.on b1)
      have HC1 := Lib.hid (HC.out.on b1)
      have B1 := Lib.hid b1
      clear m1 b1
      go_wp2_with fail
      refine (Product_yes _ _ (prod a b) c w1 M1.out HC1.out (right_prod r24) E4.out.symm (by rw [prod_len, HAB.out, HBC.out])).mono ?_
      rintro e w2 ⟨v2, rfl, m2, b2⟩
      have M2 := Lib.hid m2
      have HA2 := Lib.hid (HA1.out.on b2)
      have HB2 := Lib.hid (HB1.out.on b2)
      have HC2 := Lib.hid (HC1.out.on b2)
      have B2 := Lib.hid (B1.out.trans (b2.mono B1.out.size))
      clear m2 b2 M1 HA1 HB1 HC1 B1
      go_wp2_with fail
      refine (Product_yes _ _ b c w2 HB2.out HC2.out E3.out.symm E4.out.symm HBC.out).mono ?_
      rintro e w3 ⟨v3, rfl, m3, b3⟩
      have M3 := Lib.hid m3
      have M23 := Lib.hid (M2.out.on b3)
      have HA3 := Lib.hid (HA2.out.on b3)
      have B3 := Lib.hid (B2.out.trans (b3.mono B2.out.size))
      clear m3 b3 M2 HA2 HB2 HC2 B2
      go_wp2_with fail
      refine (Product_yes _ _ a (prod b c) w3 HA3.out M3.out E2.out.symm (right_prod (by have := HAB.out; omega)) (by rw [prod_len, HAB.out])).mono ?_
      rintro e w4 ⟨v4, rfl, m4, b4⟩
      have M4 := Lib.hid m4
      have M24 := Lib.hid (M23.out.on b4)
      have HA4 := Lib.hid (HA3.out.on b4)
      have B4 := Lib.hid (B3.out.trans (b4.mono B3.out.size))
      clear m4 b4 M3 M23 HA3 B3
      go_wp2_with fail
      refine (unit_w a.length w4 r24).mono ?_
      rintro e w5 ⟨v5, rfl, m5, b5⟩
      have M5 := Lib.hid m5
      have M45 := Lib.hid (M4.out.on b5)
      have M25 := Lib.hid (M24.out.on b5)
      have HA5 := Lib.hid (HA4.out.on b5)
      have B5 := Lib.hid (B4.out.trans (b5.mono B4.out.size))
      clear m5 b5 M4 M24 HA4 B4
      go_wp2_with fail
      refine (Product_yes _ _ (unit a.length) a w5 M5.out HA5.out (right_unit r24) E2.out.symm (unit_len _)).mono ?_
      rintro e w6 ⟨v6, rfl, m6, b6⟩
      rw [prod_unit_l E2.out.symm] at m6
      have M6 := Lib.hid m6
      have M56 := Lib.hid (M5.out.on b6)
      have M46 := Lib.hid (M45.out.on b6)
      have M26 := Lib.hid (M25.out.on b6)
      have HA6 := Lib.hid (HA5.out.on b6)
      have B6 := Lib.hid (B5.out.trans (b6.mono B5.out.size))
      clear m6 b6 M5 M45 M25 HA5 B5
      go_wp2_with fail
      refine (Product_yes _ _ a (unit a.length) w6 HA6.out M56.out E2.out.symm (right_unit r24) (unit_len _).symm).mono ?_
      rintro e w7 ⟨v7, rfl, m7, b7⟩
      rw [prod_unit_r E2.out.symm] at m7
      have m67 := M6.out.on b7
      have m47 := M46.out.on b7
      have m27 := M26.out.on b7
      have ha7 := HA6.out.on b7
      rw [prod_assoc a b c HAB.out.symm] at m27
      have k1 : Calls Try.prog 19 #[v2, v4] w7 (Drawn w7 true) := by have := same_w v2 v4 _ _ w7 m27 m47; rwa [decide_eq_true rfl] at this
      have k2 : ∀ n, Calls Try.prog 19 #[v6, .slice ao a.length ca] (w7.drewN n) (Drawn (w7.drewN n) true) := fun n => by have := same_w v6 _ a a (w7.drewN n) m67 ha7; rwa [decide_eq_true rfl] at this
      have k3 : ∀ n, Calls Try.prog 19 #[v7, .slice ao a.length ca] (w7.drewN n) (Drawn (w7.drewN n) true) := fun n => by have := same_w v7 _ a a (w7.drewN n) m7 ha7; rwa [decide_eq_true rfl] at this
      have K1 := Lib.hid k1
      have K2 := Lib.hid k2
      have K3 := Lib.hid k3
      have B7 := Lib.hid (B6.out.trans (b7.mono B6.out.size))
      clear k1 k2 k3 m7 b7 m67 m47 m27 ha7 M6 M56 M46 M26 HA6 B6
      go_wp2_with fail
      refine K1.out.mono ?_
      rintro e w' ⟨rfl, n1, rfl⟩
      go_wp2_with fail
      refine (K2.out _).mono ?_
      rintro e w' ⟨rfl, n2, rfl⟩
      rw [dd]
      go_wp2_with fail
      refine (K3.out _).mono ?_
      rintro e w' ⟨rfl, n3, rfl⟩
      rw [dd]
      go_wp2_with fail
      refine (awake_w _).mono ?_
      rintro e w9 ⟨rfl, h9⟩
      go_wp2_with fail
      go_ret
      exact ⟨rfl, (below_drewN B7.out _).trans (h9.mono B7.out.size)⟩
    · have n1 : ((a.length : Int) != (b.length : Int)) = false := by simp [hab]
      have n2 : ((b.length : Int) != (c.length : Int)) = true := by simp; omega
      clear hab hbc K1 K2 K3 K4
      go_wp2_with fail
      refine (awake_w _).mono ?_
      rintro e w5 ⟨rfl, h5⟩
      go_wp2_with fail
      go_ret
      exact ⟨rfl, h5⟩
  · have n1 : ((a.length : Int) != (b.length : Int)) = true := by simp; omega
    clear hab K1 K2 K3 K4
    go_wp2_with fail
    refine (awake_w _).mono ?_
    rintro e w5 ⟨rfl, h5⟩
    go_wp2_with fail
    go_ret
    exact ⟨rfl, h5⟩
end Go.Proofs.Ytfcmkhjimgpppaa
