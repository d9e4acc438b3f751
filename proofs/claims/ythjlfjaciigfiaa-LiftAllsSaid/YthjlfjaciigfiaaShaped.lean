/-
  good, term.Shaped: contracts of the walk.
-/
import Derived.Test.YthjlfjaciigfiaaGood
namespace Go.Proofs.Ythjlfjaciigfiaa
open Go.RowKit
set_option linter.unusedVariables false
set_option linter.unusedSimpArgs false

set_option maxHeartbeats 1000000 in
theorem good_w : ∀ (d : Nat) (v : Value) (t : Tm) (w : World), RdN (· < w.heap.size) w d v t →
    Calls Try.prog 112 #[v] w (Ans w (.bool (gd t))) := by
  intro d
  induction d with
  | zero => intro v t w hr; exact absurd hr (fun h => h)
  | succ d ih =>
    rintro v ⟨k, n, l⟩ w hr
    have hr0 := hr
    obtain ⟨ao, cap, rfl, hlm, hk, hn, he⟩ := hr.open
    clear hr
    have H := Lib.hid hr0
    have IH := Lib.hid ih
    have HE := Lib.hid he
    have hbx : ∀ o : Obj, Below w.heap.size w (w.alloc o) := fun o => (Below.refl _ _).alloc (Nat.le_refl _) _
    have HBX := Lib.hid hbx
    clear ih he hk hn hbx hr0
    simp only [gd]
    obtain ⟨b, eb⟩ : ∃ b, b = hd k n l := ⟨_, rfl⟩
    have EB := Lib.hid eb
    rw [← eb]
    clear eb
    go_enter Try.func112, Try.ntmps112
    go_wp2_with fail
    refine (head_w d _ k n l _ (RdN.on H.out (HBX.out _))).mono ?_
    rintro e w1 ⟨rfl, hb⟩
    rw [← EB.out]
    have hb1 := (HBX.out _).trans (hb.mono (HBX.out _).size)
    obtain ⟨e0, e1, e2⟩ := box3 hb
    clear hb
    cases b
    · go_wp2_with fail
      go_ret
      exact ⟨rfl, hb1⟩
    rw [Bool.true_and]
    go_wp2_with fail
    go_loopw [11] (fun i wr => ∃ (j : Nat), i = .int .i64 j ∧ j ≤ l.length ∧ gdL (l.drop j) = gdL l ∧ Below w.heap.size w wr) (fun i _ => l.length - (intOf i).toNat)
    case atStart => exact ⟨0, rfl, Nat.zero_le _, rfl, hb1⟩
    case round =>
      obtain ⟨j, rfl, hj, hsz, hb⟩ := hrel
      have HSZ := Lib.hid hsz
      clear hsz
      by_cases hjl : j < l.length
      · obtain ⟨b, off, k2, n2, ao2, m2, cap2, rfl, hP, h0, h1, h2, hrd⟩ := HE.out j hjl
        have e0 := (hb.cell (p := ⟨b, off + j * 3, none⟩) hP).trans h0
        have e1 := (hb.cell (p := ⟨b, off + j * 3 + 1, none⟩) hP).trans h1
        have e2 := (hb.cell (p := ⟨b, off + j * 3 + 2, none⟩) hP).trans h2
        have hbw : b < wr.heap.size := Nat.lt_of_lt_of_le hP hb.size
        clear h0 h1 h2
        go_wp2_with fail
        refine (IH.out _ l[j] _ (RdN.keep (P := (· < w.heap.size)) (fun b hb' => ?_) (fun b hb' => ?_) d _ _ hrd)).mono ?_
        · exact Nat.lt_of_lt_of_le hb' (hb.alloc hb.size _).size
        · exact (hb.alloc hb.size _).block b hb'
        rintro e w3 ⟨rfl, hb3⟩
        have hb4 := (hb.alloc hb.size _).trans (hb3.mono (hb.alloc hb.size _).size)
        obtain ⟨y, ey⟩ : ∃ y, y = gd l[j] := ⟨_, rfl⟩
        rw [← ey]
        have q := HSZ.out
        rw [List.drop_eq_getElem_cons hjl] at q
        simp only [gdL, ← ey] at q
        have Q := Lib.hid q
        clear q ey
        cases y
        · go_wp2_with fail
          go_ret
          exact ⟨by rw [← Q.out]; rfl, hb4⟩
        · go_wp2_with fail
          go_roundw
          case rel => exact ⟨j + 1, rfl, by omega, Q.out, hb4⟩
          case measure =>
            have q : (intOf (.int .i64 ((j : Int) + 1))).toNat = j + 1 := by show ((j : Int) + 1).toNat = _; omega
            have q2 : (intOf (.int .i64 (j : Int))).toNat = j := by show ((j : Int)).toNat = _; omega
            rw [q, q2]; omega
      · go_wp2_with fail
        go_ret
        have q := HSZ.out
        rw [List.drop_of_length_le (by omega)] at q
        simp only [gdL] at q
        exact ⟨by rw [← q]; rfl, hb⟩

/-- is a term one -/
def Shp (t : Tm) : Bool := decide (depth t ≤ 128) && gd t

set_option maxHeartbeats 1000000 in
theorem Shaped_w (d : Nat) (v : Value) (t : Tm) (w : World) (hr : RdN (· < w.heap.size) w d v t) :
    Calls Try.prog 71 #[v] w (Ans w (.bool (Shp t))) := by
  have hr0 := hr
  obtain ⟨ao, cap, hv, -, -⟩ := hr.shape
  clear hr
  subst hv
  have H := Lib.hid hr0
  clear hr0
  have hbx : ∀ o : Obj, Below w.heap.size w (w.alloc o) := fun o => (Below.refl _ _).alloc (Nat.le_refl _) _
  have HBX := Lib.hid hbx
  clear hbx
  unfold Shp
  go_enter Try.func71, Try.ntmps71
  go_wp2_with fail
  refine (Depth_w d _ t _ (RdN.on H.out (HBX.out _))).mono ?_
  rintro e w1 ⟨rfl, hb⟩
  have hb1 := (HBX.out _).trans (hb.mono (HBX.out _).size)
  obtain ⟨e0, e1, e2⟩ := box3 hb
  have hr1 := RdN.on H.out hb1
  have H1 := Lib.hid hr1
  clear hb hr1
  by_cases hd : depth t ≤ 128
  · have ed : (decide (depth t ≤ 128) && gd t) = gd t := by simp [hd]
    go_wp2_with fail
    refine (good_w d _ t _ H1.out).mono ?_
    rintro e w2 ⟨rfl, hb2⟩
    go_wp2_with fail
    go_ret
    exact ⟨by rw [ed]; rfl, hb1.trans (hb2.mono hb1.size)⟩
  · have ed : (decide (depth t ≤ 128) && gd t) = false := by simp [hd]
    go_wp2_with fail
    go_ret
    exact ⟨by first | rfl | (rw [ed]; rfl), hb1⟩
end Go.Proofs.Ythjlfjaciigfiaa
