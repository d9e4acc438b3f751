/-
  SubstLifted: the walk: it returns true and writes nothing that was there. No condition but that the arguments read as terms.
-/
import Derived.Test.YthjlfjaciigfiaaAwake9
namespace Go.Proofs.Ythjlfjaciigfiaa
open Go.RowKit
set_option linter.unusedVariables false
set_option linter.unusedSimpArgs false

/-- what lifting, and putting in as many, answer -/
theorem lifted_cases {t : Tm} (l : List Tm) (hs : Shp t = true) (hl : l.all Shp = true) (hlen : l.length ≤ 20) : ((liftR t (l.length : Int) 0).2 = 0 ∧ manyR (liftR t (l.length : Int) 0).1 l = (t, 0)) ∨ (liftR t (l.length : Int) 0).2 = 2 := by
  have e := liftR_of (t := t) (k := (l.length : Int)) (n := 0) hs ((fit_iff _).mpr ⟨by omega, by omega⟩) (by decide)
  rw [e]
  by_cases h : gd (mp (Fmv (l.length : Int)) t 0) = true
  · left
    rw [if_pos h]
    refine ⟨rfl, ?_⟩
    have hg := ((Shp_iff t).mp hs).2.2
    unfold manyR subR
    rw [if_pos ⟨mv_shaped hs h, hl⟩]
    simp only []
    rw [my_lifted l t hg, if_pos hs]
  · right; rw [if_neg h]
set_option maxRecDepth 100000 in
set_option maxHeartbeats 4000000 in
theorem substLifted_walk (v : Value) (t : Tm) (vl : Value) (l : List Tm) (w : World) (hr : Rd (· < w.heap.size) w v t) (hl : Ts (· < w.heap.size) w vl l) :
    Calls Try.prog 12 #[v, vl] w fun e w' => e = .returned (.bool true) ∧ Below w.heap.size w w' := by
  obtain ⟨ao, cap, rfl⟩ := hr.shape
  by_cases h20 : 20 < l.length
  · skip
    have hb0 := alloc_bel w (.cells #[.int .i64 t.kind, .int .i64 t.num, .slice ao t.sub.length cap] 24)
    have FB := Lib.hid hb0
    have T := Lib.hid (hr.on hb0)
    have TL := Lib.hid (hl.on hb0)
    have Q := Lib.hid (heap_new w (.cells #[.int .i64 t.kind, .int .i64 t.num, .slice ao t.sub.length cap] 24) _ rfl)
    obtain ⟨aol, capl, rfl, -⟩ := hl
    clear hb0 hr
    go_enter Try.func12, Try.ntmps12
    go_wp2_with fail
    refine (awake49_w _).mono ?_
    rintro e w1 ⟨rfl, hb⟩
    replace FB := Lib.hid (FB.out.trans (hb.mono FB.out.size))
    replace T := Lib.hid (T.out.on hb)
    replace TL := Lib.hid (TL.out.on hb)
    replace Q := Lib.hid ((hb.block _ (blt Q.out)).trans Q.out)
    clear hb
    go_wp2_with fail
    go_ret
    exact ⟨rfl, FB.out⟩
  have hlen : l.length ≤ 20 := by omega
  have hdb : decide ((20 : Int) < (l.length : Int)) = false := by simp; omega
  obtain ⟨y, hy⟩ : ∃ y, y = Shp t := ⟨_, rfl⟩
  have HY := Lib.hid hy
  clear h20 hy
  cases y
  · skip
    have hb0 := alloc_bel w (.cells #[.int .i64 t.kind, .int .i64 t.num, .slice ao t.sub.length cap] 24)
    have FB := Lib.hid hb0
    have T := Lib.hid (hr.on hb0)
    have TL := Lib.hid (hl.on hb0)
    have Q := Lib.hid (heap_new w (.cells #[.int .i64 t.kind, .int .i64 t.num, .slice ao t.sub.length cap] 24) _ rfl)
    obtain ⟨aol, capl, rfl, -⟩ := hl
    clear hb0 hr
    go_enter Try.func12, Try.ntmps12
    have hs := refShaped_r T.out
    rw [← HY.out] at hs
    obtain ⟨Q0, Q1, Q2, Qf, -⟩ := three Q.out
    go_wp2_with fail
    clear Q0 Q1 Q2 Qf
    refine (hs).mono ?_
    rintro e w1 ⟨rfl, hb⟩
    replace FB := Lib.hid (FB.out.trans (hb.mono FB.out.size))
    replace T := Lib.hid (T.out.on hb)
    replace TL := Lib.hid (TL.out.on hb)
    replace Q := Lib.hid ((hb.block _ (blt Q.out)).trans Q.out)
    clear hb
    go_wp2_with fail
    refine (awake49_w _).mono ?_
    rintro e w2 ⟨rfl, hb⟩
    replace FB := Lib.hid (FB.out.trans (hb.mono FB.out.size))
    replace T := Lib.hid (T.out.on hb)
    replace TL := Lib.hid (TL.out.on hb)
    replace Q := Lib.hid ((hb.block _ (blt Q.out)).trans Q.out)
    clear hb
    go_wp2_with fail
    go_ret
    exact ⟨rfl, FB.out⟩
  have hb0 := alloc_bel w (.cells #[.int .i64 t.kind, .int .i64 t.num, .slice ao t.sub.length cap] 24)
  have FB := Lib.hid hb0
  have T := Lib.hid (hr.on hb0)
  have TL := Lib.hid (hl.on hb0)
  have Q := Lib.hid (heap_new w (.cells #[.int .i64 t.kind, .int .i64 t.num, .slice ao t.sub.length cap] 24) _ rfl)
  obtain ⟨aol, capl, rfl, -⟩ := hl
  clear hb0 hr
  go_enter Try.func12, Try.ntmps12
  have hs := refShaped_r T.out
  rw [← HY.out] at hs
  obtain ⟨Q0, Q1, Q2, Qf, -⟩ := three Q.out
  go_wp2_with fail
  clear Q0 Q1 Q2 Qf
  refine (hs).mono ?_
  rintro e w1 ⟨rfl, hb⟩
  replace FB := Lib.hid (FB.out.trans (hb.mono FB.out.size))
  replace T := Lib.hid (T.out.on hb)
  replace TL := Lib.hid (TL.out.on hb)
  replace Q := Lib.hid ((hb.block _ (blt Q.out)).trans Q.out)
  clear hb
  go_wp2_with fail
  have HST := Lib.hid (Below.refl w1.heap.size w1)
  go_loopw [5] (fun i wr => ∃ j : Nat, i = .int .i64 j ∧ j ≤ l.length ∧ (l.drop j).all Shp = l.all Shp ∧ Below w1.heap.size w1 wr) (fun i _ => l.length - (intOf i).toNat)
  case atStart => exact ⟨0, rfl, Nat.zero_le _, rfl, HST.out⟩
  case round =>
    obtain ⟨j, rfl, hj, hall, hb⟩ := hrel
    have HALL := Lib.hid hall
    have HBr := Lib.hid hb
    clear hall HST
    replace FB := Lib.hid (FB.out.trans (hb.mono FB.out.size))
    replace T := Lib.hid (T.out.on hb)
    replace TL := Lib.hid (TL.out.on hb)
    replace Q := Lib.hid ((hb.block _ (blt Q.out)).trans Q.out)
    clear hb
    by_cases hjl : j < l.length
    · skip
      have hTL := TL.out
      obtain ⟨ael, cel, hael, hel1, -, hel⟩ := hTL.elem
      injection hael with hael1 hael2 hael3
      subst hael1; subst hael3
      obtain ⟨be, off, k0, n0, ao0, m0, c0, rfl, hPb, e0, e1, e2, hrd⟩ := hel j hjl
      have HRD := Lib.hid hrd
      clear hel hTL hrd hael2
      obtain ⟨y, hy⟩ : ∃ y, y = Shp l[j] := ⟨_, rfl⟩
      have hs := refShaped_r HRD.out
      rw [← hy] at hs
      have q := HALL.out
      rw [all_drop l j hjl, ← hy] at q
      have HQ := Lib.hid q
      have HS := Lib.hid hs
      clear q hs hy
      have hji : (j : Int) < (l.length : Int) := by omega
      have hj0 : (0 : Int) ≤ (j : Int) := Int.natCast_nonneg _
      go_wp2_with fail
      clear e0 e1 e2
      refine HS.out.mono ?_
      rintro e w2 ⟨rfl, hb⟩
      replace FB := Lib.hid (FB.out.trans (hb.mono FB.out.size))
      replace T := Lib.hid (T.out.on hb)
      replace TL := Lib.hid (TL.out.on hb)
      replace Q := Lib.hid ((hb.block _ (blt Q.out)).trans Q.out)
      replace HBr := Lib.hid (HBr.out.trans (hb.mono HBr.out.size))
      clear hb
      cases y
      · skip
        go_wp2_with fail
        refine (awake49_w _).mono ?_
        rintro e w3 ⟨rfl, hb⟩
        replace FB := Lib.hid (FB.out.trans (hb.mono FB.out.size))
        replace T := Lib.hid (T.out.on hb)
        replace TL := Lib.hid (TL.out.on hb)
        replace Q := Lib.hid ((hb.block _ (blt Q.out)).trans Q.out)
        replace HBr := Lib.hid (HBr.out.trans (hb.mono HBr.out.size))
        clear hb
        go_wp2_with fail
        go_ret
        exact ⟨rfl, FB.out⟩
      · skip
        go_wp2_with fail
        go_roundw
        case rel => exact ⟨j + 1, by go_num, by omega, by have := HQ.out; rwa [Bool.true_and] at this, HBr.out⟩
        case measure =>
          have q : (intOf (.int .i64 ((j : Int) + 1))).toNat = j + 1 := by show ((j : Int) + 1).toNat = _; omega
          have q2 : (intOf (.int .i64 (j : Int))).toNat = j := by show ((j : Int)).toNat = _; omega
          rw [q, q2]; omega
    · skip
      have hallT : l.all Shp = true := by
        have q := HALL.out
        rw [List.drop_of_length_le (by omega)] at q
        exact q.symm
      have hA := lifted_cases l HY.out.symm hallT (by omega)
      obtain ⟨ra, rc, hup⟩ : ∃ a c, liftR t (l.length : Int) 0 = (a, c) := ⟨_, _, rfl⟩
      rw [hup] at hA
      have HUP := Lib.hid hup
      have HA := Lib.hid hA
      have HQ := Lib.hid (And.intro hallT hj)
      clear hallT hup hA
      obtain ⟨Q0, Q1, Q2, Qf, -⟩ := three Q.out
      go_wp2_with fail
      clear Q0 Q1 Q2 Qf
      refine (Up_q HUP.out T.out).mono ?_
      rintro e w4 ⟨k4, n4, ao4, m4, c4, rfl, hb, hr⟩
      obtain ⟨hb4, B4, R4, -⟩ := boxed hb hr
      clear hb hr
      replace FB := Lib.hid (FB.out.trans (hb4.mono FB.out.size))
      replace T := Lib.hid (T.out.on hb4)
      replace TL := Lib.hid (TL.out.on hb4)
      replace Q := Lib.hid ((hb4.block _ (blt Q.out)).trans Q.out)
      replace HBr := Lib.hid (HBr.out.trans (hb4.mono HBr.out.size))
      replace B4 := Lib.hid B4
      replace R4 := Lib.hid R4
      clear hb4
      rcases HA.out with ⟨he, hm⟩ | he
      · skip
        have HM := Lib.hid hm
        subst he
        clear hm
        obtain ⟨B40, B41, B42, B4f, -⟩ := three B4.out
        go_wp2_with fail
        clear B40 B41 B42 B4f
        refine (Many9_q HM.out (by omega) TL.out R4.out).mono ?_
        rintro e w5 ⟨k5, n5, ao5, m5, c5, rfl, hb, hr⟩
        obtain ⟨hb5, B5, R5, -⟩ := boxed hb hr
        clear hb hr
        replace FB := Lib.hid (FB.out.trans (hb5.mono FB.out.size))
        replace T := Lib.hid (T.out.on hb5)
        replace TL := Lib.hid (TL.out.on hb5)
        replace Q := Lib.hid ((hb5.block _ (blt Q.out)).trans Q.out)
        replace HBr := Lib.hid (HBr.out.trans (hb5.mono HBr.out.size))
        replace B4 := Lib.hid ((hb5.block _ (blt B4.out)).trans B4.out)
        replace R4 := Lib.hid (R4.out.on hb5)
        replace B5 := Lib.hid B5
        replace R5 := Lib.hid R5
        clear hb5
        obtain ⟨Q0, Q1, Q2, Qf, -⟩ := three Q.out
        go_wp2_with fail
        clear Q0 Q1 Q2 Qf
        refine (same52_q 0 R5.out T.out).mono ?_
        rintro e w6 ⟨rfl, hb⟩
        replace FB := Lib.hid (FB.out.trans (hb.mono FB.out.size))
        replace T := Lib.hid (T.out.on hb)
        replace TL := Lib.hid (TL.out.on hb)
        replace Q := Lib.hid ((hb.block _ (blt Q.out)).trans Q.out)
        replace HBr := Lib.hid (HBr.out.trans (hb.mono HBr.out.size))
        replace B4 := Lib.hid ((hb.block _ (blt B4.out)).trans B4.out)
        replace R4 := Lib.hid (R4.out.on hb)
        replace B5 := Lib.hid ((hb.block _ (blt B5.out)).trans B5.out)
        replace R5 := Lib.hid (R5.out.on hb)
        clear hb
        go_wp2_with fail
        refine (awake49_w _).mono ?_
        rintro e w7 ⟨rfl, hb⟩
        replace FB := Lib.hid (FB.out.trans (hb.mono FB.out.size))
        replace T := Lib.hid (T.out.on hb)
        replace TL := Lib.hid (TL.out.on hb)
        replace Q := Lib.hid ((hb.block _ (blt Q.out)).trans Q.out)
        replace HBr := Lib.hid (HBr.out.trans (hb.mono HBr.out.size))
        replace B4 := Lib.hid ((hb.block _ (blt B4.out)).trans B4.out)
        replace R4 := Lib.hid (R4.out.on hb)
        replace B5 := Lib.hid ((hb.block _ (blt B5.out)).trans B5.out)
        replace R5 := Lib.hid (R5.out.on hb)
        clear hb
        go_wp2_with fail
        go_ret
        exact ⟨rfl, FB.out⟩
      · skip
        subst he
        go_wp2_with fail
        refine (awake49_w _).mono ?_
        rintro e w5 ⟨rfl, hb⟩
        replace FB := Lib.hid (FB.out.trans (hb.mono FB.out.size))
        replace T := Lib.hid (T.out.on hb)
        replace TL := Lib.hid (TL.out.on hb)
        replace Q := Lib.hid ((hb.block _ (blt Q.out)).trans Q.out)
        replace HBr := Lib.hid (HBr.out.trans (hb.mono HBr.out.size))
        replace B4 := Lib.hid ((hb.block _ (blt B4.out)).trans B4.out)
        replace R4 := Lib.hid (R4.out.on hb)
        clear hb
        go_wp2_with fail
        go_ret
        exact ⟨rfl, FB.out⟩
end Go.Proofs.Ythjlfjaciigfiaa
