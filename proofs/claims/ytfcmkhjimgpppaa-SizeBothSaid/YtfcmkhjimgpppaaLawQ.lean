/-
  MatrixProducts, at right matrices of one size: the walk.
-/
import Derived.Test.YtfcmkhjimgpppaaLawP
import Derived.Deep.LoopGhost
namespace Go.Proofs.Ytfcmkhjimgpppaa
open Go.RowKit
set_option linter.unusedVariables false
set_option linter.unusedSimpArgs false

/-- all places ahead of (i, j), in reading order, are at least -/
def leastTo (a b : List (List Int)) (n i j : Nat) : Bool := (List.range i).all (fun i' => (List.range n).all fun j' => cLeast (G a i' j') (G b i' j')) && (List.range j).all fun j' => cLeast (G a i j') (G b i j')
theorem leastTo_zero (a b : List (List Int)) (n : Nat) : leastTo a b n 0 0 = true := rfl
theorem leastTo_step (a b : List (List Int)) (n i j : Nat) : leastTo a b n i (j + 1) = (leastTo a b n i j && cLeast (G a i j) (G b i j)) := by
  unfold leastTo; rw [List.range_succ (n := j), List.all_append, Bool.and_assoc]; simp
theorem leastTo_row (a b : List (List Int)) (n i : Nat) : leastTo a b n i n = leastTo a b n (i + 1) 0 := by
  unfold leastTo; rw [List.range_succ (n := i), List.all_append]; simp
theorem leastTo_all (a b : List (List Int)) (n : Nat) : leastTo a b n n 0 = allB cLeast a b n := by
  unfold leastTo allB; simp

theorem SqR.of {w : World} {ao : Option Addr} {ca : Nat} {m : List (List Int)} {P : Nat → Prop} (h : MatR P w (.slice ao m.length ca) m) (hr : right m = true) (h0 : m.length ≠ 0) :
    ∃ b off B O C, ao = some ⟨b, off, none⟩ ∧ SqR w (.slice ao m.length ca) m m.length b off ca B O C := by
  obtain ⟨r1, r2, r3⟩ := right_sq hr
  obtain ⟨b, off, cap, B, O, C, hS, -, -⟩ := h.sq rfl h0 r2
  have hv := hS.val
  injection hv with q1 q2 q3
  subst q3
  exact ⟨b, off, B, O, C, q1, hS⟩

set_option maxRecDepth 100000 in
set_option maxHeartbeats 4000000 in
theorem products_right (va vb : Value) (a b : List (List Int)) (w : World) (ha : MatR (· < w.heap.size) w va a) (hb : MatR (· < w.heap.size) w vb b) (ra : right a = true) (rb : right b = true) (hl : a.length = b.length) :
    Calls Try.prog 3 #[va, vb] w fun e w' => e = .returned (.bool true) ∧ Below w.heap.size w w' := by
  have ka := light_w va a w ha
  have kb := light_w vb b w hb
  rw [lightB_of_right ra] at ka
  rw [lightB_of_right rb] at kb
  have kp := Product_yes va vb a b w ha hb ra rb hl
  obtain ⟨ao, ca, rfl⟩ := ha.shape
  obtain ⟨bo, cb, rfl⟩ := hb.shape
  have KA := Lib.hid ka
  have KB := Lib.hid kb
  have KP := Lib.hid kp
  have HA := Lib.hid ha
  have HB := Lib.hid hb
  have RA := Lib.hid ra
  have RB := Lib.hid rb
  obtain ⟨r1, r2, r3⟩ := right_sq ra
  have hn : ((a.length : Int) != (b.length : Int)) = false := by simp [hl]
  have HLN := Lib.hid hl
  clear ka kb kp ha hb ra rb hl r2 r3
  go_enter Try.func3, Try.ntmps3
  go_wp2_with fail
  refine KA.out.mono ?_
  rintro e w' ⟨rfl, rfl⟩
  go_wp2_with fail
  refine KB.out.mono ?_
  rintro e w' ⟨rfl, rfl⟩
  go_wp2_with fail
  refine KP.out.mono ?_
  rintro e w1 ⟨v, rfl, hv1, hb1⟩
  have ha1 := MatR.below HA.out hb1
  have hbb1 := MatR.below HB.out hb1
  have kr := right_w _ a w1 ha1
  have kr2 := refRight_w _ a w1 ha1
  have kr3 := refRight_w _ b w1 hbb1
  rw [RA.out] at kr kr2
  rw [RB.out] at kr3
  have KR := Lib.hid kr
  have KR2 := Lib.hid kr2
  have KR3 := Lib.hid kr3
  have HA1 := Lib.hid ha1
  have HB1 := Lib.hid hbb1
  have HV1 := Lib.hid hv1
  have HBL := Lib.hid hb1
  obtain ⟨vo, vc, hvs⟩ := hv1.shape
  subst hvs
  clear kr kr2 kr3 ha1 hbb1 hv1 hb1 KA KB KP HA HB
  go_wp2_with fail
  refine KR.out.mono ?_
  rintro e w' ⟨rfl, rfl⟩
  go_wp2_with fail
  refine KR2.out.mono ?_
  rintro e w' ⟨rfl, rfl⟩
  go_wp2_with fail
  refine KR2.out.mono ?_
  rintro e w' ⟨rfl, rfl⟩
  go_wp2_with fail
  refine KR3.out.mono ?_
  rintro e w' ⟨rfl, rfl⟩
  clear KR KR2 KR3
  go_wp2_with fail
  go_loopw [7, 8] (fun L i wr => ∃ (k m : Nat), L = .bool (leastTo a b a.length k 0) ∧ i = .int .i64 k ∧ k ≤ a.length ∧ wr = w1.drewN m) (fun _ i _ => a.length - (intOf i).toNat)
  case atStart => exact ⟨0, 0, rfl, rfl, Nat.zero_le _, rfl⟩
  case round =>
    obtain ⟨k, m, rfl, rfl, hk, rfl⟩ := hrel
    by_cases hlt : k < a.length
    · go_wp2_with fail
      go_loopw [7, 9] (fun L i wr => ∃ (j m : Nat), L = .bool (leastTo a b a.length k j) ∧ i = .int .i64 j ∧ j ≤ a.length ∧ wr = w1.drewN m) (fun _ i _ => a.length - (intOf i).toNat)
      case atStart => exact ⟨0, _, rfl, rfl, Nat.zero_le _, rfl⟩
      case round =>
        obtain ⟨j, m2, rfl, rfl, hj, rfl⟩ := hrel
        by_cases hjl : j < a.length
        · obtain ⟨ba, oa, A1, A2, A3, rfl, hA⟩ := SqR.of HA1.out RA.out (by omega)
          obtain ⟨bb, ob, B1, B2, B3, rfl, hB⟩ := SqR.of HB1.out RB.out (by have := HLN.out; omega)
          have hln := HLN.out
          have c1 := hA.row k hlt
          have c2 := hA.cell k j hlt hjl
          have c3 := hB.row k (by omega)
          have c4 := hB.cell k j (by omega) (by omega)
          have q1 : (k : Int) < (a.length : Int) := by omega
          have q2 : (j : Int) < (a.length : Int) := by omega
          have q3 : (k : Int) < (b.length : Int) := by omega
          have q4 : (j : Int) < (b.length : Int) := by omega
          have hst := leastTo_step a b a.length k j
          obtain ⟨x, hx⟩ : ∃ x, x = G a k j := ⟨_, rfl⟩
          obtain ⟨y, hy⟩ : ∃ y, y = G b k j := ⟨_, rfl⟩
          rw [← hx] at c2 hst
          rw [← hy] at c4 hst
          obtain ⟨L, hL⟩ : ∃ L, L = leastTo a b a.length k j := ⟨_, rfl⟩
          rw [← hL] at hst ⊢
          have HST := Lib.hid hst
          clear hst hx hy hL hA hB hln
          cases L
          · go_wp2_with fail
            go_quiet (fail)
            go_wp2_with fail
            go_roundw
            case rel => exact ⟨j + 1, _, by rw [HST.out]; rfl, by go_num, by omega, rfl⟩
            case measure => simp [intOf]; omega
          · by_cases hxy : y ≤ x
            · have hd : decide (y ≤ x) = true := decide_eq_true hxy
              go_wp2_with fail
              go_quiet (fail)
              go_wp2_with fail
              go_roundw
              case rel => exact ⟨j + 1, _, by rw [HST.out]; unfold cLeast; rw [decide_eq_true hxy]; rfl, by go_num, by omega, rfl⟩
              case measure => simp [intOf]; omega
            · have hd : decide (y ≤ x) = false := decide_eq_false hxy
              go_wp2_with fail
              go_quiet (fail)
              go_wp2_with fail
              go_roundw
              case rel => exact ⟨j + 1, _, by rw [HST.out]; unfold cLeast; rw [hd]; rfl, by go_num, by omega, rfl⟩
              case measure => simp [intOf]; omega
        · have hjj : j = a.length := by omega
          subst hjj
          go_wp2_with fail
          go_roundw
          case rel => exact ⟨k + 1, _, by rw [leastTo_row], by go_num, by omega, rfl⟩
          case measure => simp [intOf]; omega
    · have hkk : k = a.length := by omega
      subst hkk
      go_wp2_with fail
      obtain ⟨wN, hwN⟩ : ∃ wN, wN = w1.drewN m := ⟨_, rfl⟩
      rw [← hwN]
      have hbN : Below w.heap.size w wN := by rw [hwN]; exact below_drewN HBL.out m
      have haN : MatR (· < wN.heap.size) wN (.slice ao a.length ca) a := by rw [hwN]; exact HA1.out.keep (fun b h => Nat.lt_of_lt_of_le h HBL.out.size) fun _ _ => rfl
      have hbbN : MatR (· < wN.heap.size) wN (.slice bo b.length cb) b := by rw [hwN]; exact HB1.out.keep (fun b h => Nat.lt_of_lt_of_le h HBL.out.size) fun _ _ => rfl
      have hvN : MatR (· < wN.heap.size) wN (.slice vo (prod a b).length vc) (prod a b) := by rw [hwN]; exact HV1.out
      clear HA1 HB1 HV1 HBL hwN
      refine (refproduct_w _ _ a b wN haN hbbN RA.out RB.out HLN.out).mono ?_
      rintro e w2 ⟨v2, rfl, hv2, hb2⟩
      have haM := MatR.below haN hb2
      have hbM := MatR.below hbbN hb2
      have hvM := MatR.below hvN hb2
      have hbW := hbN.trans (hb2.mono hbN.size)
      have k1 := same_w _ v2 _ _ w2 hvM hv2
      rw [decide_eq_true rfl] at k1
      have k2 : ∀ n, Calls Try.prog 17 #[.slice ao a.length ca, .slice bo b.length cb] (w2.drewN n) (Drawn (w2.drewN n) (decide (a = b))) := fun n => by
        have := Same_w _ _ a b (w2.drewN n) haM hbM
        rwa [eachB_same RA.out RB.out HLN.out] at this
      have k3 : ∀ n, Calls Try.prog 19 #[.slice ao a.length ca, .slice bo b.length cb] (w2.drewN n) (Drawn (w2.drewN n) (decide (a = b))) := fun n => same_w _ _ a b (w2.drewN n) haM hbM
      have k4 : ∀ n, Calls Try.prog 18 #[.slice ao a.length ca, .slice bo b.length cb] (w2.drewN n) (Drawn (w2.drewN n) (leastTo a b a.length a.length 0)) := fun n => by
        have := Least_w _ _ a b (w2.drewN n) haM hbM
        rwa [eachB_yes _ ⟨RA.out, RB.out, HLN.out⟩, ← leastTo_all] at this
      have K1 := Lib.hid k1
      have K2 := Lib.hid k2
      have K3 := Lib.hid k3
      have K4 := Lib.hid k4
      have HW := Lib.hid hbW
      obtain ⟨v2o, v2c, hv2s⟩ := hv2.shape
      subst hv2s
      obtain ⟨r, hr⟩ : ∃ r, r = decide (a = b) := ⟨_, rfl⟩
      obtain ⟨L, hL⟩ : ∃ L, L = leastTo a b a.length a.length 0 := ⟨_, rfl⟩
      rw [← hr] at K2 K3
      rw [← hL] at K4 ⊢
      clear k1 k2 k3 k4 hbW haN hbbN hvN haM hbM hvM hbN hv2 hb2 hr hL
      go_wp2_with fail
      refine K1.out.mono ?_
      rintro e w' ⟨rfl, n1, rfl⟩
      go_wp2_with fail
      refine (K2.out _).mono ?_
      rintro e w' ⟨rfl, n2, rfl⟩
      rw [dd]
      go_wp2_with fail
      refine (K3.out _).mono ?_
      rintro e w' ⟨rfl, n3, rfl⟩
      rw [dd]
      go_wp2_with fail
      refine (K4.out _).mono ?_
      rintro e w' ⟨rfl, n4, rfl⟩
      rw [dd]
      go_wp2_with fail
      refine (awake_w _).mono ?_
      rintro e w5 ⟨rfl, h5⟩
      go_wp2_with fail
      go_ret
      exact ⟨by simp, (below_drewN HW.out _).trans (h5.mono HW.out.size)⟩

theorem products_walk (va : Value) (a : List (List Int)) (vb : Value) (b : List (List Int)) (w : World) (ha : MatR (· < w.heap.size) w va a) (hb : MatR (· < w.heap.size) w vb b) :
    Calls Try.prog 3 #[va, vb] w fun e w' => e = .returned (.bool true) ∧ Below w.heap.size w w' := by
  by_cases h : right a = true ∧ right b = true ∧ a.length = b.length
  · exact products_right va vb a b w ha hb h.1 h.2.1 h.2.2
  · by_cases l : lightB a = true ∧ lightB b = true
    · exact products_wrong va vb a b w ha hb l.1 l.2 h
    · refine products_heavy va vb a b w ha hb ?_
      cases h1 : lightB a
      · exact .inl rfl
      · cases h2 : lightB b
        · exact .inr rfl
        · exact absurd ⟨h1, h2⟩ l
end Go.Proofs.Ytfcmkhjimgpppaa
