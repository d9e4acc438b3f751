/-
  MatrixKeeps: the walk: it returns true and writes nothing that was there. No condition but that the arguments read.
-/
import Derived.Test.YtfcmkhjimgpppaaLow
import Derived.Test.YtfcmkhjimgpppaaLawR
import Derived.Deep.RegionWith
namespace Go.Proofs.Ytfcmkhjimgpppaa
open Go.RowKit
set_option linter.unusedVariables false
set_option linter.unusedSimpArgs false

theorem bcell {W w1 : World} (hb : Below W.heap.size W w1) : (∀ b o, b < W.heap.size → w1.cell? ⟨b, o, none⟩ = W.cell? ⟨b, o, none⟩) ∧ (∀ b o, b < W.heap.size → w1.frozen? ⟨b, o, none⟩ = W.frozen? ⟨b, o, none⟩) :=
  ⟨fun b o h => hb.cell (p := ⟨b, o, none⟩) h, fun b o h => hb.frozen (p := ⟨b, o, none⟩) h⟩

theorem least_low {a b a' b' : List (List Int)} (ra : right a = true) (rb : right b = true) (hl : a.length = b.length) (ha : lowMat a a' a.length a.length) (hb : lowMat b b' a.length a.length) : eachB cLeast (prod a b) (prod a' b') = true := by
  obtain ⟨r1, r2, r3⟩ := right_sq ra
  obtain ⟨s1, s2, s3⟩ := right_sq rb
  rw [eachB_yes _ ⟨right_prod r1, right_prod (by rw [ha.1]; exact r1), by rw [prod_len, prod_len, ha.1]⟩, prod_len]
  refine allB_yes fun i j hi hj => ?_
  unfold cLeast
  rw [G_prod a b i j hi hj, G_prod a' b' i j (by rw [ha.1]; exact hi) (by rw [ha.1]; exact hj), ha.1]
  exact decide_eq_true (pc_mono2 a b a' b' i j a.length (fun l hlt => by have := lowMat_G ha i l hi hlt; have := r3 i l hi hlt; omega) (fun l hlt => by have := lowMat_G hb l j hlt hj; have := s3 l j (by omega) (by omega); omega))

set_option maxRecDepth 100000 in
set_option maxHeartbeats 4000000 in
theorem keeps_walk (va : Value) (a : List (List Int)) (vb : Value) (b : List (List Int)) (p q : Int) (w : World) (ha : MatR (· < w.heap.size) w va a) (hb : MatR (· < w.heap.size) w vb b) (hp : 0 ≤ p ∧ p ≤ 65535) (hq : 0 ≤ q ∧ q ≤ 65535) :
    Calls Try.prog 4 #[va, vb, .agg #[.int .u16 p, .int .u16 q]] w fun e w' => e = .returned (.bool true) ∧ Below w.heap.size w w' := by
  have hb0 : Below w.heap.size w (w.alloc (.cells #[.int .u16 p, .int .u16 q] 32)) := (Below.refl _ _).alloc (Nat.le_refl _) _
  obtain ⟨w0, hw0⟩ : ∃ w0, w0 = w.alloc (.cells #[.int .u16 p, .int .u16 q] 32) := ⟨_, rfl⟩
  rw [← hw0] at hb0
  have hbox : w0.heap[w.heap.size]? = some (.cells #[.int .u16 p, .int .u16 q] 32 (0, 0)) := by rw [hw0]; exact heap_new _ _ _ rfl
  have ha0 := ha.on hb0
  have hb0' := hb.on hb0
  have k1 := light_w va a w0 ha0
  have k2 := refRight_w va a w0 ha0
  have k3 := refRight_w vb b w0 hb0'
  obtain ⟨ao, ca, rfl⟩ := ha.shape
  obtain ⟨bo, cb, rfl⟩ := hb.shape
  obtain ⟨x1, e1⟩ : ∃ x, x = lightB a := ⟨_, rfl⟩
  obtain ⟨x2, e2⟩ : ∃ x, x = right a := ⟨_, rfl⟩
  obtain ⟨x3, e3⟩ : ∃ x, x = right b := ⟨_, rfl⟩
  rw [← e1] at k1
  rw [← e2] at k2
  rw [← e3] at k3
  have K1 := Lib.hid k1
  have K2 := Lib.hid k2
  have K3 := Lib.hid k3
  have E2 := Lib.hid e2
  have E3 := Lib.hid e3
  have HA := Lib.hid ha0
  have HB := Lib.hid hb0'
  have HB0 := Lib.hid hb0
  have HBX := Lib.hid hbox
  clear k1 k2 k3 e1 e2 e3 ha hb ha0 hb0' hb0 hbox
  go_enter Try.func4, Try.ntmps4
  go_wp2_with fail
  rw [← hw0]
  clear hw0
  refine K1.out.mono ?_
  rintro e w' ⟨rfl, rfl⟩
  cases x1
  · go_wp2_with fail
    refine (awake_w _).mono ?_
    rintro e w5 ⟨rfl, h5⟩
    go_wp2_with fail
    go_ret
    exact ⟨rfl, HB0.out.trans (h5.mono HB0.out.size)⟩
  go_wp2_with fail
  refine K2.out.mono ?_
  rintro e w' ⟨rfl, rfl⟩
  cases x2
  · go_wp2_with fail
    refine (awake_w _).mono ?_
    rintro e w5 ⟨rfl, h5⟩
    go_wp2_with fail
    go_ret
    exact ⟨rfl, HB0.out.trans (h5.mono HB0.out.size)⟩
  go_wp2_with fail
  refine K3.out.mono ?_
  rintro e w' ⟨rfl, rfl⟩
  cases x3
  · go_wp2_with fail
    refine (awake_w _).mono ?_
    rintro e w5 ⟨rfl, h5⟩
    go_wp2_with fail
    go_ret
    exact ⟨rfl, HB0.out.trans (h5.mono HB0.out.size)⟩
  by_cases hab : a.length = b.length
  · have n1 : ((a.length : Int) != (b.length : Int)) = false := by simp [hab]
    have HAB := Lib.hid hab
    clear hab K1 K2 K3
    go_wp2_with fail
    refine (Product_yes _ _ a b w0 HA.out HB.out E2.out.symm E3.out.symm HAB.out).mono ?_
    rintro e w1 ⟨v1, rfl, m1, b1⟩
    have M1 := Lib.hid m1
    have HA1 := Lib.hid (HA.out.on b1)
    have HB1 := Lib.hid (HB.out.on b1)
    have B1 := Lib.hid (HB0.out.trans (b1.mono HB0.out.size))
    have hwlt : w.heap.size < w0.heap.size := (Array.getElem?_eq_some_iff.1 HBX.out).1
    have hbx1 : w1.heap[w.heap.size]? = some (.cells #[.int .u16 p, .int .u16 q] 32 (0, 0)) := (b1.block _ hwlt).trans HBX.out
    have hwlt1 : w.heap.size < w1.heap.size := (Array.getElem?_eq_some_iff.1 hbx1).1
    have c0 : w1.cell? ⟨w.heap.size, 0, none⟩ = some (.int .u16 p) := by simp [World.cell?, hbx1]
    have c1 : w1.cell? ⟨w.heap.size, 1, none⟩ = some (.int .u16 q) := by simp [World.cell?, hbx1]
    have ka : ∀ W, Below w1.heap.size w1 W → Calls Try.prog 21 #[.slice ao a.length ca, .int .u16 p] W (MadeLow W a a.length) := fun W hW => low_w _ a p W hp (HA1.out.on hW) E2.out.symm
    have kb : ∀ W, Below w1.heap.size w1 W → Calls Try.prog 21 #[.slice bo b.length cb, .int .u16 q] W (MadeLow W b a.length) := fun W hW => by have := low_w _ b q W hq (HB1.out.on hW) E3.out.symm; rwa [← HAB.out] at this ⊢
    have KA := Lib.hid ka
    have KB := Lib.hid kb
    clear m1 b1 HA HB HB0 HBX hwlt hbx1 ka kb
    go_upto_region 4 with fail
    have r24 := (right_sq E2.out.symm).1
    go_cut [9, 10] (fun s9 s10 wx => ∃ a' b', lowMat a a' a.length a.length ∧ lowMat b b' a.length a.length ∧ s10 = .int .i64 0 ∧ MatR (· < wx.heap.size) wx s9 (prod a' b') ∧ Below w1.heap.size w1 wx)
    case first =>
      go_region_with (first | (go_at_call_of 21 (Value.slice ao a.length ca); refine (KA.out w1.drew (Below.refl _ _).drew).mono ?_; rintro e W1 ⟨vx, mx, rfl, lx, Mx, Bx⟩; have d1 : W1.cell? ⟨w.heap.size, 1, none⟩ = some (.int .u16 q) := (Bx.cell (p := ⟨w.heap.size, 1, none⟩) hwlt1).trans c1) | (go_at_call_of 21 (Value.slice bo b.length cb); refine (KB.out W1 ((Below.refl _ _).drew.trans Bx)).mono ?_; rintro e W2 ⟨vy, my, rfl, ly, My, By⟩) | (go_at_call 14; (have hpy := Product_yes vx vy mx my W2 (Mx.on By) My (lowMat_right lx E2.out.symm) (lowMat_right (by rw [← HAB.out]; exact ly) E3.out.symm) (by rw [lx.1, ly.1]); refine hpy.mono ?_; clear hpy; rintro e W3 ⟨vz, rfl, Mz, Bz⟩)))
      all_goals
        go_wp2_with fail
        go_meet
        have hb3 : Below w1.heap.size w1 W3 := (((Below.refl w1.heap.size w1).drew.trans Bx).trans (By.mono Bx.size)).trans (Bz.mono (Nat.le_trans Bx.size By.size))
        exact ⟨mx, my, lx, ly, rfl, Mz, hb3⟩
    case rest =>
      obtain ⟨a', b', la, lb, rfl, mz, bz⟩ := hcut
      have kl := Least_w v1 u9 (prod a b) (prod a' b') wc (M1.out.on bz) mz
      rw [least_low E2.out.symm E3.out.symm HAB.out la lb] at kl
      have KL := Lib.hid kl
      have BZ := Lib.hid (B1.out.trans (bz.mono B1.out.size))
      clear kl mz bz la lb c0 c1 KA KB HA1 HB1 M1
      go_wp2_with fail
      refine KL.out.mono ?_
      rintro e w' ⟨rfl, n2, rfl⟩
      go_wp2_with fail
      refine (awake_w _).mono ?_
      rintro e w9 ⟨rfl, h9⟩
      go_wp2_with fail
      go_ret
      exact ⟨rfl, (below_drewN BZ.out _).trans (h9.mono BZ.out.size)⟩
  · have n1 : ((a.length : Int) != (b.length : Int)) = true := by simp; omega
    clear hab K1 K2 K3
    go_wp2_with fail
    refine (awake_w _).mono ?_
    rintro e w5 ⟨rfl, h5⟩
    go_wp2_with fail
    go_ret
    exact ⟨rfl, HB0.out.trans (h5.mono HB0.out.size)⟩
end Go.Proofs.Ytfcmkhjimgpppaa
