/-
  TeleArounds: the walk: it returns true and writes nothing that was there. No condition but that the arguments read as terms.
-/
import Derived.Test.YthjlfjaciigfiaaAwake10
import Derived.Test.YthjlfjaciigfiaaSames
namespace Go.Proofs.Ythjlfjaciigfiaa
open Go.RowKit
set_option linter.unusedVariables false
set_option linter.unusedSimpArgs false

theorem Pis_q {w : World} {vl v : Value} {l : List Tm} {t a : Tm} {c : Int} (hq : aroundR 3 l t = (a, c)) (hl : Ts (· < w.heap.size) w vl l) (h : Rd (· < w.heap.size) w v t) : Calls Try.prog 36 #[vl, v] w (AnsTE w a c) := by
  have := Pis_w vl v l t w hl h; rwa [hq] at this
theorem Lams_q {w : World} {vl v : Value} {l : List Tm} {t a : Tm} {c : Int} (hq : aroundR 4 l t = (a, c)) (hl : Ts (· < w.heap.size) w vl l) (h : Rd (· < w.heap.size) w v t) : Calls Try.prog 38 #[vl, v] w (AnsTE w a c) := by
  have := Lams_w vl v l t w hl h; rwa [hq] at this
theorem refAround_q {w : World} {kd : Int} {vl v : Value} {l : List Tm} {t a : Tm} {c : Int} (hq : aroundR kd l t = (a, c)) (hk : -9223372036854775808 ≤ kd ∧ kd ≤ 9223372036854775807) (hl : Ts (· < w.heap.size) w vl l) (h : Rd (· < w.heap.size) w v t) : Calls Try.prog 37 #[.int .i64 kd, vl, v] w (AnsRE w a c) := by
  have := refAround_w kd hk vl v l t w hl h; rwa [hq] at this
set_option maxRecDepth 100000 in
set_option maxHeartbeats 4000000 in
theorem teleArounds_walk (vl : Value) (l : List Tm) (v : Value) (t : Tm) (w : World) (hl : Ts (· < w.heap.size) w vl l) (hr : Rd (· < w.heap.size) w v t) :
    Calls Try.prog 6 #[vl, v] w fun e w' => e = .returned (.bool true) ∧ Below w.heap.size w w' := by
  obtain ⟨ao, cap, rfl⟩ := hr.shape
  by_cases h60 : 60 < l.length
  · skip
    have hb0 := alloc_bel w (.cells #[.int .i64 t.kind, .int .i64 t.num, .slice ao t.sub.length cap] 24)
    have FB := Lib.hid hb0
    have T := Lib.hid (hr.on hb0)
    have TL := Lib.hid (hl.on hb0)
    have Q := Lib.hid (heap_new w (.cells #[.int .i64 t.kind, .int .i64 t.num, .slice ao t.sub.length cap] 24) _ rfl)
    obtain ⟨aol, capl, rfl, -⟩ := hl
    clear hb0 hr
    go_enter Try.func6, Try.ntmps6
    go_wp2_with fail
    refine (awake35_w _).mono ?_
    rintro e w1 ⟨rfl, hb⟩
    replace FB := Lib.hid (FB.out.trans (hb.mono FB.out.size))
    replace T := Lib.hid (T.out.on hb)
    replace TL := Lib.hid (TL.out.on hb)
    replace Q := Lib.hid ((hb.block _ (blt Q.out)).trans Q.out)
    clear hb
    go_wp2_with fail
    go_ret
    exact ⟨rfl, FB.out⟩
  obtain ⟨ra, rc, hA⟩ : ∃ a c, aroundR 3 l t = (a, c) := ⟨_, _, rfl⟩
  obtain ⟨rb, rd, hB⟩ : ∃ a c, aroundR 4 l t = (a, c) := ⟨_, _, rfl⟩
  have HA := Lib.hid hA
  have HB := Lib.hid hB
  clear hA hB
  have hb0 := alloc_bel w (.cells #[.int .i64 t.kind, .int .i64 t.num, .slice ao t.sub.length cap] 24)
  have FB := Lib.hid hb0
  have T := Lib.hid (hr.on hb0)
  have TL := Lib.hid (hl.on hb0)
  have Q := Lib.hid (heap_new w (.cells #[.int .i64 t.kind, .int .i64 t.num, .slice ao t.sub.length cap] 24) _ rfl)
  obtain ⟨aol, capl, rfl, -⟩ := hl
  clear hb0 hr
  go_enter Try.func6, Try.ntmps6
  go_wp2_with fail
  refine (Pis_q HA.out TL.out T.out).mono ?_
  rintro e w1 ⟨k1, n1, ao1, m1, c1, rfl, hb, hr⟩
  obtain ⟨hb1, B1, R1, -⟩ := boxed hb hr
  clear hb hr
  replace FB := Lib.hid (FB.out.trans (hb1.mono FB.out.size))
  replace T := Lib.hid (T.out.on hb1)
  replace TL := Lib.hid (TL.out.on hb1)
  replace Q := Lib.hid ((hb1.block _ (blt Q.out)).trans Q.out)
  replace B1 := Lib.hid B1
  replace R1 := Lib.hid R1
  clear hb1
  obtain ⟨Q0, Q1, Q2, Qf, -⟩ := three Q.out
  go_wp2_with fail
  clear Q0 Q1 Q2 Qf
  refine (refAround_q HA.out (by omega) TL.out T.out).mono ?_
  rintro e w2 ⟨k2, n2, ao2, m2, c2, rfl, hb, hr⟩
  obtain ⟨hb2, B2, R2, -⟩ := boxedR hb hr
  clear hb hr
  replace FB := Lib.hid (FB.out.trans (hb2.mono FB.out.size))
  replace T := Lib.hid (T.out.on hb2)
  replace TL := Lib.hid (TL.out.on hb2)
  replace Q := Lib.hid ((hb2.block _ (blt Q.out)).trans Q.out)
  replace B1 := Lib.hid ((hb2.block _ (blt B1.out)).trans B1.out)
  replace R1 := Lib.hid (R1.out.on hb2)
  replace B2 := Lib.hid B2
  replace R2 := Lib.hid R2
  clear hb2
  obtain ⟨Q0, Q1, Q2, Qf, -⟩ := three Q.out
  go_wp2_with fail
  clear Q0 Q1 Q2 Qf
  refine (Lams_q HB.out TL.out T.out).mono ?_
  rintro e w3 ⟨k3, n3, ao3, m3, c3, rfl, hb, hr⟩
  obtain ⟨hb3, B3, R3, -⟩ := boxed hb hr
  clear hb hr
  replace FB := Lib.hid (FB.out.trans (hb3.mono FB.out.size))
  replace T := Lib.hid (T.out.on hb3)
  replace TL := Lib.hid (TL.out.on hb3)
  replace Q := Lib.hid ((hb3.block _ (blt Q.out)).trans Q.out)
  replace B1 := Lib.hid ((hb3.block _ (blt B1.out)).trans B1.out)
  replace R1 := Lib.hid (R1.out.on hb3)
  replace B2 := Lib.hid ((hb3.block _ (blt B2.out)).trans B2.out)
  replace R2 := Lib.hid (R2.out.on hb3)
  replace B3 := Lib.hid B3
  replace R3 := Lib.hid R3
  clear hb3
  obtain ⟨Q0, Q1, Q2, Qf, -⟩ := three Q.out
  go_wp2_with fail
  clear Q0 Q1 Q2 Qf
  refine (refAround_q HB.out (by omega) TL.out T.out).mono ?_
  rintro e w4 ⟨k4, n4, ao4, m4, c4, rfl, hb, hr⟩
  obtain ⟨hb4, B4, R4, -⟩ := boxedR hb hr
  clear hb hr
  replace FB := Lib.hid (FB.out.trans (hb4.mono FB.out.size))
  replace T := Lib.hid (T.out.on hb4)
  replace TL := Lib.hid (TL.out.on hb4)
  replace Q := Lib.hid ((hb4.block _ (blt Q.out)).trans Q.out)
  replace B1 := Lib.hid ((hb4.block _ (blt B1.out)).trans B1.out)
  replace R1 := Lib.hid (R1.out.on hb4)
  replace B2 := Lib.hid ((hb4.block _ (blt B2.out)).trans B2.out)
  replace R2 := Lib.hid (R2.out.on hb4)
  replace B3 := Lib.hid ((hb4.block _ (blt B3.out)).trans B3.out)
  replace R3 := Lib.hid (R3.out.on hb4)
  replace B4 := Lib.hid B4
  replace R4 := Lib.hid R4
  clear hb4
  obtain ⟨B10, B11, B12, B1f, -⟩ := three B1.out
  obtain ⟨B20, B21, B22, B2f, -⟩ := three B2.out
  go_wp2_with fail
  clear B10 B11 B12 B1f B20 B21 B22 B2f
  refine (same39_q _ R1.out R2.out).mono ?_
  rintro e w5 ⟨rfl, hb⟩
  replace FB := Lib.hid (FB.out.trans (hb.mono FB.out.size))
  replace T := Lib.hid (T.out.on hb)
  replace TL := Lib.hid (TL.out.on hb)
  replace Q := Lib.hid ((hb.block _ (blt Q.out)).trans Q.out)
  replace B1 := Lib.hid ((hb.block _ (blt B1.out)).trans B1.out)
  replace R1 := Lib.hid (R1.out.on hb)
  replace B2 := Lib.hid ((hb.block _ (blt B2.out)).trans B2.out)
  replace R2 := Lib.hid (R2.out.on hb)
  replace B3 := Lib.hid ((hb.block _ (blt B3.out)).trans B3.out)
  replace R3 := Lib.hid (R3.out.on hb)
  replace B4 := Lib.hid ((hb.block _ (blt B4.out)).trans B4.out)
  replace R4 := Lib.hid (R4.out.on hb)
  clear hb
  obtain ⟨B30, B31, B32, B3f, -⟩ := three B3.out
  obtain ⟨B40, B41, B42, B4f, -⟩ := three B4.out
  go_wp2_with fail
  clear B30 B31 B32 B3f B40 B41 B42 B4f
  refine (same39_q _ R3.out R4.out).mono ?_
  rintro e w6 ⟨rfl, hb⟩
  replace FB := Lib.hid (FB.out.trans (hb.mono FB.out.size))
  replace T := Lib.hid (T.out.on hb)
  replace TL := Lib.hid (TL.out.on hb)
  replace Q := Lib.hid ((hb.block _ (blt Q.out)).trans Q.out)
  replace B1 := Lib.hid ((hb.block _ (blt B1.out)).trans B1.out)
  replace R1 := Lib.hid (R1.out.on hb)
  replace B2 := Lib.hid ((hb.block _ (blt B2.out)).trans B2.out)
  replace R2 := Lib.hid (R2.out.on hb)
  replace B3 := Lib.hid ((hb.block _ (blt B3.out)).trans B3.out)
  replace R3 := Lib.hid (R3.out.on hb)
  replace B4 := Lib.hid ((hb.block _ (blt B4.out)).trans B4.out)
  replace R4 := Lib.hid (R4.out.on hb)
  clear hb
  go_wp2_with fail
  refine (awake35_w _).mono ?_
  rintro e w7 ⟨rfl, hb⟩
  replace FB := Lib.hid (FB.out.trans (hb.mono FB.out.size))
  replace T := Lib.hid (T.out.on hb)
  replace TL := Lib.hid (TL.out.on hb)
  replace Q := Lib.hid ((hb.block _ (blt Q.out)).trans Q.out)
  replace B1 := Lib.hid ((hb.block _ (blt B1.out)).trans B1.out)
  replace R1 := Lib.hid (R1.out.on hb)
  replace B2 := Lib.hid ((hb.block _ (blt B2.out)).trans B2.out)
  replace R2 := Lib.hid (R2.out.on hb)
  replace B3 := Lib.hid ((hb.block _ (blt B3.out)).trans B3.out)
  replace R3 := Lib.hid (R3.out.on hb)
  replace B4 := Lib.hid ((hb.block _ (blt B4.out)).trans B4.out)
  replace R4 := Lib.hid (R4.out.on hb)
  clear hb
  go_wp2_with fail
  go_ret
  exact ⟨rfl, FB.out⟩
end Go.Proofs.Ythjlfjaciigfiaa
