/-
  LiftAdds: the walk: it returns true and writes nothing that was there. No condition but that the argument reads as a term.
-/
import Derived.Test.YthjlfjaciigfiaaQs
namespace Go.Proofs.Ythjlfjaciigfiaa
open Go.RowKit
set_option linter.unusedVariables false
set_option linter.unusedSimpArgs false

set_option maxRecDepth 100000 in
set_option maxHeartbeats 4000000 in
theorem liftAdds_walk (v : Value) (t : Tm) (k m : Int) (w : World) (hr : Rd (· < w.heap.size) w v t) (hk : (Lit.int .u8 k).wf = true) (hm : (Lit.int .u8 m).wf = true) :
    Calls Try.prog 4 #[v, .int .u8 k, .int .u8 m] w fun e w' => e = .returned (.bool true) ∧ Below w.heap.size w w' := by
  obtain ⟨ao, cap, rfl⟩ := hr.shape
  obtain ⟨hk0, hk1⟩ := u8_wf hk
  obtain ⟨hm0, hm1⟩ := u8_wf hm
  clear hk hm
  obtain ⟨y, hy⟩ : ∃ y, y = Shp t := ⟨_, rfl⟩
  have HY := Lib.hid hy
  cases y
  · clear hy
    have hb0 := alloc_bel w (.cells #[.int .i64 t.kind, .int .i64 t.num, .slice ao t.sub.length cap] 24)
    have FB := Lib.hid hb0
    have T := Lib.hid (hr.on hb0)
    have Q := Lib.hid (heap_new w (.cells #[.int .i64 t.kind, .int .i64 t.num, .slice ao t.sub.length cap] 24) _ rfl)
    clear hb0 hr
    go_enter Try.func4, Try.ntmps4
    go_wp2_with fail
    have hs := refShaped_r T.out
    rw [← HY.out] at hs
    refine (hs).mono ?_
    rintro e w1 ⟨rfl, hb⟩
    replace FB := Lib.hid (FB.out.trans (hb.mono FB.out.size))
    replace T := Lib.hid (T.out.on hb)
    replace Q := Lib.hid ((hb.block _ (blt Q.out)).trans Q.out)
    clear hb
    go_wp2_with fail
    refine (awake27_w _).mono ?_
    rintro e w2 ⟨rfl, hb⟩
    replace FB := Lib.hid (FB.out.trans (hb.mono FB.out.size))
    replace T := Lib.hid (T.out.on hb)
    replace Q := Lib.hid ((hb.block _ (blt Q.out)).trans Q.out)
    clear hb
    go_wp2_with fail
    go_ret
    exact ⟨rfl, FB.out⟩
  obtain ⟨hz, hcase⟩ := adds_cases (t := t) (k := k) (m := m) hy.symm ⟨hk0, hk1⟩ ⟨hm0, hm1⟩
  clear hy
  rcases hcase with ⟨hA, hB, hC⟩ | ⟨a, hA, ⟨hB, hC⟩ | ⟨b, hB, hC, hsz, hdp⟩⟩
  · have HZ := Lib.hid hz
    have HA := Lib.hid hA
    have HB := Lib.hid hB
    have HC := Lib.hid hC
    clear hz hA hB hC
    have hb0 := alloc_bel w (.cells #[.int .i64 t.kind, .int .i64 t.num, .slice ao t.sub.length cap] 24)
    have FB := Lib.hid hb0
    have T := Lib.hid (hr.on hb0)
    have Q := Lib.hid (heap_new w (.cells #[.int .i64 t.kind, .int .i64 t.num, .slice ao t.sub.length cap] 24) _ rfl)
    clear hb0 hr
    go_enter Try.func4, Try.ntmps4
    go_wp2_with fail
    have hs := refShaped_r T.out
    rw [← HY.out] at hs
    refine (hs).mono ?_
    rintro e w1 ⟨rfl, hb⟩
    replace FB := Lib.hid (FB.out.trans (hb.mono FB.out.size))
    replace T := Lib.hid (T.out.on hb)
    replace Q := Lib.hid ((hb.block _ (blt Q.out)).trans Q.out)
    clear hb
    obtain ⟨Q0, Q1, Q2, Qf, -⟩ := three Q.out
    go_wp2_with fail
    clear Q0 Q1 Q2 Qf
    refine (Lift_q HZ.out T.out).mono ?_
    rintro e w2 ⟨k2, n2, ao2, m2, c2, rfl, hb, hr⟩
    obtain ⟨hb2, B2, R2, -⟩ := boxed hb hr
    clear hb hr
    replace FB := Lib.hid (FB.out.trans (hb2.mono FB.out.size))
    replace T := Lib.hid (T.out.on hb2)
    replace Q := Lib.hid ((hb2.block _ (blt Q.out)).trans Q.out)
    replace B2 := Lib.hid B2
    replace R2 := Lib.hid R2
    clear hb2
    obtain ⟨Q0, Q1, Q2, Qf, -⟩ := three Q.out
    go_wp2_with fail
    clear Q0 Q1 Q2 Qf
    refine (Lift_q HA.out T.out).mono ?_
    rintro e w3 ⟨k3, n3, ao3, m3, c3, rfl, hb, hr⟩
    obtain ⟨hb3, B3, R3, -⟩ := boxed hb hr
    clear hb hr
    replace FB := Lib.hid (FB.out.trans (hb3.mono FB.out.size))
    replace T := Lib.hid (T.out.on hb3)
    replace Q := Lib.hid ((hb3.block _ (blt Q.out)).trans Q.out)
    replace B2 := Lib.hid ((hb3.block _ (blt B2.out)).trans B2.out)
    replace R2 := Lib.hid (R2.out.on hb3)
    replace B3 := Lib.hid B3
    replace R3 := Lib.hid R3
    clear hb3
    obtain ⟨B30, B31, B32, B3f, -⟩ := three B3.out
    go_wp2_with fail
    clear B30 B31 B32 B3f
    refine (Lift_q HB.out R3.out).mono ?_
    rintro e w4 ⟨k4, n4, ao4, m4, c4, rfl, hb, hr⟩
    obtain ⟨hb4, B4, R4, -⟩ := boxed hb hr
    clear hb hr
    replace FB := Lib.hid (FB.out.trans (hb4.mono FB.out.size))
    replace T := Lib.hid (T.out.on hb4)
    replace Q := Lib.hid ((hb4.block _ (blt Q.out)).trans Q.out)
    replace B2 := Lib.hid ((hb4.block _ (blt B2.out)).trans B2.out)
    replace R2 := Lib.hid (R2.out.on hb4)
    replace B3 := Lib.hid ((hb4.block _ (blt B3.out)).trans B3.out)
    replace R3 := Lib.hid (R3.out.on hb4)
    replace B4 := Lib.hid B4
    replace R4 := Lib.hid R4
    clear hb4
    obtain ⟨Q0, Q1, Q2, Qf, -⟩ := three Q.out
    go_wp2_with fail
    clear Q0 Q1 Q2 Qf
    refine (Lift_q HC.out T.out).mono ?_
    rintro e w5 ⟨k5, n5, ao5, m5, c5, rfl, hb, hr⟩
    obtain ⟨hb5, B5, R5, -⟩ := boxed hb hr
    clear hb hr
    replace FB := Lib.hid (FB.out.trans (hb5.mono FB.out.size))
    replace T := Lib.hid (T.out.on hb5)
    replace Q := Lib.hid ((hb5.block _ (blt Q.out)).trans Q.out)
    replace B2 := Lib.hid ((hb5.block _ (blt B2.out)).trans B2.out)
    replace R2 := Lib.hid (R2.out.on hb5)
    replace B3 := Lib.hid ((hb5.block _ (blt B3.out)).trans B3.out)
    replace R3 := Lib.hid (R3.out.on hb5)
    replace B4 := Lib.hid ((hb5.block _ (blt B4.out)).trans B4.out)
    replace R4 := Lib.hid (R4.out.on hb5)
    replace B5 := Lib.hid B5
    replace R5 := Lib.hid R5
    clear hb5
    obtain ⟨B20, B21, B22, B2f, -⟩ := three B2.out
    obtain ⟨Q0, Q1, Q2, Qf, -⟩ := three Q.out
    go_wp2_with fail
    clear B20 B21 B22 B2f Q0 Q1 Q2 Qf
    have hs2 := same26_r 0 0 R2.out T.out
    rw [sameR_refl] at hs2
    refine (hs2).mono ?_
    rintro e w6 ⟨rfl, hb⟩
    replace FB := Lib.hid (FB.out.trans (hb.mono FB.out.size))
    replace T := Lib.hid (T.out.on hb)
    replace Q := Lib.hid ((hb.block _ (blt Q.out)).trans Q.out)
    replace B2 := Lib.hid ((hb.block _ (blt B2.out)).trans B2.out)
    replace R2 := Lib.hid (R2.out.on hb)
    replace B3 := Lib.hid ((hb.block _ (blt B3.out)).trans B3.out)
    replace R3 := Lib.hid (R3.out.on hb)
    replace B4 := Lib.hid ((hb.block _ (blt B4.out)).trans B4.out)
    replace R4 := Lib.hid (R4.out.on hb)
    replace B5 := Lib.hid ((hb.block _ (blt B5.out)).trans B5.out)
    replace R5 := Lib.hid (R5.out.on hb)
    clear hb
    go_wp2_with fail
    refine (awake27_w _).mono ?_
    rintro e w7 ⟨rfl, hb⟩
    replace FB := Lib.hid (FB.out.trans (hb.mono FB.out.size))
    replace T := Lib.hid (T.out.on hb)
    replace Q := Lib.hid ((hb.block _ (blt Q.out)).trans Q.out)
    replace B2 := Lib.hid ((hb.block _ (blt B2.out)).trans B2.out)
    replace R2 := Lib.hid (R2.out.on hb)
    replace B3 := Lib.hid ((hb.block _ (blt B3.out)).trans B3.out)
    replace R3 := Lib.hid (R3.out.on hb)
    replace B4 := Lib.hid ((hb.block _ (blt B4.out)).trans B4.out)
    replace R4 := Lib.hid (R4.out.on hb)
    replace B5 := Lib.hid ((hb.block _ (blt B5.out)).trans B5.out)
    replace R5 := Lib.hid (R5.out.on hb)
    clear hb
    go_wp2_with fail
    go_ret
    exact ⟨rfl, FB.out⟩
  · have HZ := Lib.hid hz
    have HA := Lib.hid hA
    have HB := Lib.hid hB
    have HC := Lib.hid hC
    clear hz hA hB hC
    have hb0 := alloc_bel w (.cells #[.int .i64 t.kind, .int .i64 t.num, .slice ao t.sub.length cap] 24)
    have FB := Lib.hid hb0
    have T := Lib.hid (hr.on hb0)
    have Q := Lib.hid (heap_new w (.cells #[.int .i64 t.kind, .int .i64 t.num, .slice ao t.sub.length cap] 24) _ rfl)
    clear hb0 hr
    go_enter Try.func4, Try.ntmps4
    go_wp2_with fail
    have hs := refShaped_r T.out
    rw [← HY.out] at hs
    refine (hs).mono ?_
    rintro e w1 ⟨rfl, hb⟩
    replace FB := Lib.hid (FB.out.trans (hb.mono FB.out.size))
    replace T := Lib.hid (T.out.on hb)
    replace Q := Lib.hid ((hb.block _ (blt Q.out)).trans Q.out)
    clear hb
    obtain ⟨Q0, Q1, Q2, Qf, -⟩ := three Q.out
    go_wp2_with fail
    clear Q0 Q1 Q2 Qf
    refine (Lift_q HZ.out T.out).mono ?_
    rintro e w2 ⟨k2, n2, ao2, m2, c2, rfl, hb, hr⟩
    obtain ⟨hb2, B2, R2, -⟩ := boxed hb hr
    clear hb hr
    replace FB := Lib.hid (FB.out.trans (hb2.mono FB.out.size))
    replace T := Lib.hid (T.out.on hb2)
    replace Q := Lib.hid ((hb2.block _ (blt Q.out)).trans Q.out)
    replace B2 := Lib.hid B2
    replace R2 := Lib.hid R2
    clear hb2
    obtain ⟨Q0, Q1, Q2, Qf, -⟩ := three Q.out
    go_wp2_with fail
    clear Q0 Q1 Q2 Qf
    refine (Lift_q HA.out T.out).mono ?_
    rintro e w3 ⟨k3, n3, ao3, m3, c3, rfl, hb, hr⟩
    obtain ⟨hb3, B3, R3, -⟩ := boxed hb hr
    clear hb hr
    replace FB := Lib.hid (FB.out.trans (hb3.mono FB.out.size))
    replace T := Lib.hid (T.out.on hb3)
    replace Q := Lib.hid ((hb3.block _ (blt Q.out)).trans Q.out)
    replace B2 := Lib.hid ((hb3.block _ (blt B2.out)).trans B2.out)
    replace R2 := Lib.hid (R2.out.on hb3)
    replace B3 := Lib.hid B3
    replace R3 := Lib.hid R3
    clear hb3
    obtain ⟨B30, B31, B32, B3f, -⟩ := three B3.out
    go_wp2_with fail
    clear B30 B31 B32 B3f
    refine (Lift_q HB.out R3.out).mono ?_
    rintro e w4 ⟨k4, n4, ao4, m4, c4, rfl, hb, hr⟩
    obtain ⟨hb4, B4, R4, -⟩ := boxed hb hr
    clear hb hr
    replace FB := Lib.hid (FB.out.trans (hb4.mono FB.out.size))
    replace T := Lib.hid (T.out.on hb4)
    replace Q := Lib.hid ((hb4.block _ (blt Q.out)).trans Q.out)
    replace B2 := Lib.hid ((hb4.block _ (blt B2.out)).trans B2.out)
    replace R2 := Lib.hid (R2.out.on hb4)
    replace B3 := Lib.hid ((hb4.block _ (blt B3.out)).trans B3.out)
    replace R3 := Lib.hid (R3.out.on hb4)
    replace B4 := Lib.hid B4
    replace R4 := Lib.hid R4
    clear hb4
    obtain ⟨Q0, Q1, Q2, Qf, -⟩ := three Q.out
    go_wp2_with fail
    clear Q0 Q1 Q2 Qf
    refine (Lift_q HC.out T.out).mono ?_
    rintro e w5 ⟨k5, n5, ao5, m5, c5, rfl, hb, hr⟩
    obtain ⟨hb5, B5, R5, -⟩ := boxed hb hr
    clear hb hr
    replace FB := Lib.hid (FB.out.trans (hb5.mono FB.out.size))
    replace T := Lib.hid (T.out.on hb5)
    replace Q := Lib.hid ((hb5.block _ (blt Q.out)).trans Q.out)
    replace B2 := Lib.hid ((hb5.block _ (blt B2.out)).trans B2.out)
    replace R2 := Lib.hid (R2.out.on hb5)
    replace B3 := Lib.hid ((hb5.block _ (blt B3.out)).trans B3.out)
    replace R3 := Lib.hid (R3.out.on hb5)
    replace B4 := Lib.hid ((hb5.block _ (blt B4.out)).trans B4.out)
    replace R4 := Lib.hid (R4.out.on hb5)
    replace B5 := Lib.hid B5
    replace R5 := Lib.hid R5
    clear hb5
    obtain ⟨B20, B21, B22, B2f, -⟩ := three B2.out
    obtain ⟨Q0, Q1, Q2, Qf, -⟩ := three Q.out
    go_wp2_with fail
    clear B20 B21 B22 B2f Q0 Q1 Q2 Qf
    have hs2 := same26_r 0 0 R2.out T.out
    rw [sameR_refl] at hs2
    refine (hs2).mono ?_
    rintro e w6 ⟨rfl, hb⟩
    replace FB := Lib.hid (FB.out.trans (hb.mono FB.out.size))
    replace T := Lib.hid (T.out.on hb)
    replace Q := Lib.hid ((hb.block _ (blt Q.out)).trans Q.out)
    replace B2 := Lib.hid ((hb.block _ (blt B2.out)).trans B2.out)
    replace R2 := Lib.hid (R2.out.on hb)
    replace B3 := Lib.hid ((hb.block _ (blt B3.out)).trans B3.out)
    replace R3 := Lib.hid (R3.out.on hb)
    replace B4 := Lib.hid ((hb.block _ (blt B4.out)).trans B4.out)
    replace R4 := Lib.hid (R4.out.on hb)
    replace B5 := Lib.hid ((hb.block _ (blt B5.out)).trans B5.out)
    replace R5 := Lib.hid (R5.out.on hb)
    clear hb
    go_wp2_with fail
    refine (awake27_w _).mono ?_
    rintro e w7 ⟨rfl, hb⟩
    replace FB := Lib.hid (FB.out.trans (hb.mono FB.out.size))
    replace T := Lib.hid (T.out.on hb)
    replace Q := Lib.hid ((hb.block _ (blt Q.out)).trans Q.out)
    replace B2 := Lib.hid ((hb.block _ (blt B2.out)).trans B2.out)
    replace R2 := Lib.hid (R2.out.on hb)
    replace B3 := Lib.hid ((hb.block _ (blt B3.out)).trans B3.out)
    replace R3 := Lib.hid (R3.out.on hb)
    replace B4 := Lib.hid ((hb.block _ (blt B4.out)).trans B4.out)
    replace R4 := Lib.hid (R4.out.on hb)
    replace B5 := Lib.hid ((hb.block _ (blt B5.out)).trans B5.out)
    replace R5 := Lib.hid (R5.out.on hb)
    clear hb
    go_wp2_with fail
    go_ret
    exact ⟨rfl, FB.out⟩
  · have HZ := Lib.hid hz
    have HA := Lib.hid hA
    have HB := Lib.hid hB
    have HC := Lib.hid hC
    clear hz hA hB hC
    have HSZ := Lib.hid hsz
    have HDP := Lib.hid hdp
    clear hsz hdp
    have hb0 := alloc_bel w (.cells #[.int .i64 t.kind, .int .i64 t.num, .slice ao t.sub.length cap] 24)
    have FB := Lib.hid hb0
    have T := Lib.hid (hr.on hb0)
    have Q := Lib.hid (heap_new w (.cells #[.int .i64 t.kind, .int .i64 t.num, .slice ao t.sub.length cap] 24) _ rfl)
    clear hb0 hr
    go_enter Try.func4, Try.ntmps4
    go_wp2_with fail
    have hs := refShaped_r T.out
    rw [← HY.out] at hs
    refine (hs).mono ?_
    rintro e w1 ⟨rfl, hb⟩
    replace FB := Lib.hid (FB.out.trans (hb.mono FB.out.size))
    replace T := Lib.hid (T.out.on hb)
    replace Q := Lib.hid ((hb.block _ (blt Q.out)).trans Q.out)
    clear hb
    obtain ⟨Q0, Q1, Q2, Qf, -⟩ := three Q.out
    go_wp2_with fail
    clear Q0 Q1 Q2 Qf
    refine (Lift_q HZ.out T.out).mono ?_
    rintro e w2 ⟨k2, n2, ao2, m2, c2, rfl, hb, hr⟩
    obtain ⟨hb2, B2, R2, -⟩ := boxed hb hr
    clear hb hr
    replace FB := Lib.hid (FB.out.trans (hb2.mono FB.out.size))
    replace T := Lib.hid (T.out.on hb2)
    replace Q := Lib.hid ((hb2.block _ (blt Q.out)).trans Q.out)
    replace B2 := Lib.hid B2
    replace R2 := Lib.hid R2
    clear hb2
    obtain ⟨Q0, Q1, Q2, Qf, -⟩ := three Q.out
    go_wp2_with fail
    clear Q0 Q1 Q2 Qf
    refine (Lift_q HA.out T.out).mono ?_
    rintro e w3 ⟨k3, n3, ao3, m3, c3, rfl, hb, hr⟩
    obtain ⟨hb3, B3, R3, -⟩ := boxed hb hr
    clear hb hr
    replace FB := Lib.hid (FB.out.trans (hb3.mono FB.out.size))
    replace T := Lib.hid (T.out.on hb3)
    replace Q := Lib.hid ((hb3.block _ (blt Q.out)).trans Q.out)
    replace B2 := Lib.hid ((hb3.block _ (blt B2.out)).trans B2.out)
    replace R2 := Lib.hid (R2.out.on hb3)
    replace B3 := Lib.hid B3
    replace R3 := Lib.hid R3
    clear hb3
    obtain ⟨B30, B31, B32, B3f, -⟩ := three B3.out
    go_wp2_with fail
    clear B30 B31 B32 B3f
    refine (Lift_q HB.out R3.out).mono ?_
    rintro e w4 ⟨k4, n4, ao4, m4, c4, rfl, hb, hr⟩
    obtain ⟨hb4, B4, R4, -⟩ := boxed hb hr
    clear hb hr
    replace FB := Lib.hid (FB.out.trans (hb4.mono FB.out.size))
    replace T := Lib.hid (T.out.on hb4)
    replace Q := Lib.hid ((hb4.block _ (blt Q.out)).trans Q.out)
    replace B2 := Lib.hid ((hb4.block _ (blt B2.out)).trans B2.out)
    replace R2 := Lib.hid (R2.out.on hb4)
    replace B3 := Lib.hid ((hb4.block _ (blt B3.out)).trans B3.out)
    replace R3 := Lib.hid (R3.out.on hb4)
    replace B4 := Lib.hid B4
    replace R4 := Lib.hid R4
    clear hb4
    obtain ⟨Q0, Q1, Q2, Qf, -⟩ := three Q.out
    go_wp2_with fail
    clear Q0 Q1 Q2 Qf
    refine (Lift_q HC.out T.out).mono ?_
    rintro e w5 ⟨k5, n5, ao5, m5, c5, rfl, hb, hr⟩
    obtain ⟨hb5, B5, R5, -⟩ := boxed hb hr
    clear hb hr
    replace FB := Lib.hid (FB.out.trans (hb5.mono FB.out.size))
    replace T := Lib.hid (T.out.on hb5)
    replace Q := Lib.hid ((hb5.block _ (blt Q.out)).trans Q.out)
    replace B2 := Lib.hid ((hb5.block _ (blt B2.out)).trans B2.out)
    replace R2 := Lib.hid (R2.out.on hb5)
    replace B3 := Lib.hid ((hb5.block _ (blt B3.out)).trans B3.out)
    replace R3 := Lib.hid (R3.out.on hb5)
    replace B4 := Lib.hid ((hb5.block _ (blt B4.out)).trans B4.out)
    replace R4 := Lib.hid (R4.out.on hb5)
    replace B5 := Lib.hid B5
    replace R5 := Lib.hid R5
    clear hb5
    obtain ⟨B20, B21, B22, B2f, -⟩ := three B2.out
    obtain ⟨Q0, Q1, Q2, Qf, -⟩ := three Q.out
    go_wp2_with fail
    clear B20 B21 B22 B2f Q0 Q1 Q2 Qf
    have hs2 := same26_r 0 0 R2.out T.out
    rw [sameR_refl] at hs2
    refine (hs2).mono ?_
    rintro e w6 ⟨rfl, hb⟩
    replace FB := Lib.hid (FB.out.trans (hb.mono FB.out.size))
    replace T := Lib.hid (T.out.on hb)
    replace Q := Lib.hid ((hb.block _ (blt Q.out)).trans Q.out)
    replace B2 := Lib.hid ((hb.block _ (blt B2.out)).trans B2.out)
    replace R2 := Lib.hid (R2.out.on hb)
    replace B3 := Lib.hid ((hb.block _ (blt B3.out)).trans B3.out)
    replace R3 := Lib.hid (R3.out.on hb)
    replace B4 := Lib.hid ((hb.block _ (blt B4.out)).trans B4.out)
    replace R4 := Lib.hid (R4.out.on hb)
    replace B5 := Lib.hid ((hb.block _ (blt B5.out)).trans B5.out)
    replace R5 := Lib.hid (R5.out.on hb)
    clear hb
    go_wp2_with fail
    have hbd : Below w6.heap.size w6 w6.drew := below_drewN (Below.refl _ _) 1
    replace FB := Lib.hid (FB.out.trans (hbd.mono FB.out.size))
    replace T := Lib.hid (T.out.on hbd)
    replace Q := Lib.hid ((hbd.block _ (blt Q.out)).trans Q.out)
    replace B2 := Lib.hid ((hbd.block _ (blt B2.out)).trans B2.out)
    replace R2 := Lib.hid (R2.out.on hbd)
    replace B3 := Lib.hid ((hbd.block _ (blt B3.out)).trans B3.out)
    replace R3 := Lib.hid (R3.out.on hbd)
    replace B4 := Lib.hid ((hbd.block _ (blt B4.out)).trans B4.out)
    replace R4 := Lib.hid (R4.out.on hbd)
    replace B5 := Lib.hid ((hbd.block _ (blt B5.out)).trans B5.out)
    replace R5 := Lib.hid (R5.out.on hbd)
    clear hbd
    refine wp_region_order [(0, true), (1, true), (2, true), (3, true), (4, false), (5, true), (6, true), (8, true), (7, false), (9, false), (10, true), (11, true), (12, true), (13, true), (15, true), (14, false), (16, false), (17, true), (18, true), (19, true), (20, false), (21, true), (22, false)] (fun w' => (w'.cell? ⟨w4.heap.size, 0, none⟩ = some (.int .i64 k4) ∧ w'.cell? ⟨w4.heap.size, 1, none⟩ = some (.int .i64 n4) ∧ w'.cell? ⟨w4.heap.size, 2, none⟩ = some (.slice ao4 m4 c4)) ∧ (w'.cell? ⟨w5.heap.size, 0, none⟩ = some (.int .i64 k5) ∧ w'.cell? ⟨w5.heap.size, 1, none⟩ = some (.int .i64 n5) ∧ w'.cell? ⟨w5.heap.size, 2, none⟩ = some (.slice ao5 m5 c5)) ∧ (w'.cell? ⟨w.heap.size, 0, none⟩ = some (.int .i64 t.kind) ∧ w'.cell? ⟨w.heap.size, 1, none⟩ = some (.int .i64 t.num) ∧ w'.cell? ⟨w.heap.size, 2, none⟩ = some (.slice ao t.sub.length cap))) (by kernel_rfl) (by kernel_rfl) ⟨⟨(three B4.out).1, (three B4.out).2.1, (three B4.out).2.2.1⟩, ⟨(three B5.out).1, (three B5.out).2.1, (three B5.out).2.2.1⟩, ⟨(three Q.out).1, (three Q.out).2.1, (three Q.out).2.2.1⟩⟩ (fun hHeld => ?_)
    simp only [pickT, List.getElem?_cons_zero, List.getElem?_cons_succ, Option.getD_some]
    repeat (refine wpT_take (v := ?_) (by rfl) (fun w' hSw => ?_) ?_; rotate_left; (go_simp; with_reducible rfl); simp only [Act.put, List.setIfInBounds_toArray, List.set_cons_zero, List.set_cons_succ])
    have hs3 := same26_r 0 0 R4.out R5.out
    rw [sameR_refl] at hs3
    refine wpT_do (fun K hK => ?_)
    go_simp
    go_at_call 26
    refine (hs3).mono ?_
    rintro e w7 ⟨rfl, hb⟩
    replace FB := Lib.hid (FB.out.trans (hb.mono FB.out.size))
    replace T := Lib.hid (T.out.on hb)
    replace Q := Lib.hid ((hb.block _ (blt Q.out)).trans Q.out)
    replace B2 := Lib.hid ((hb.block _ (blt B2.out)).trans B2.out)
    replace R2 := Lib.hid (R2.out.on hb)
    replace B3 := Lib.hid ((hb.block _ (blt B3.out)).trans B3.out)
    replace R3 := Lib.hid (R3.out.on hb)
    replace B4 := Lib.hid ((hb.block _ (blt B4.out)).trans B4.out)
    replace R4 := Lib.hid (R4.out.on hb)
    replace B5 := Lib.hid ((hb.block _ (blt B5.out)).trans B5.out)
    replace R5 := Lib.hid (R5.out.on hb)
    refine hK.out _ _ ⟨⟨(three B4.out).1, (three B4.out).2.1, (three B4.out).2.2.1⟩, ⟨(three B5.out).1, (three B5.out).2.1, (three B5.out).2.2.1⟩, ⟨(three Q.out).1, (three Q.out).2.1, (three Q.out).2.2.1⟩⟩ (fun hHeld => ?_)
    clear hK K hb
    repeat (refine wpT_take (v := ?_) (by rfl) (fun w' hSw => ?_) ?_; rotate_left; (go_simp; with_reducible rfl); simp only [Act.put, List.setIfInBounds_toArray, List.set_cons_zero, List.set_cons_succ])
    have hs4 := refSize_r R5.out
    rw [HSZ.out] at hs4
    refine wpT_do (fun K hK => ?_)
    go_simp
    go_at_call 29
    refine (hs4).mono ?_
    rintro e w8 ⟨rfl, hb⟩
    replace FB := Lib.hid (FB.out.trans (hb.mono FB.out.size))
    replace T := Lib.hid (T.out.on hb)
    replace Q := Lib.hid ((hb.block _ (blt Q.out)).trans Q.out)
    replace B2 := Lib.hid ((hb.block _ (blt B2.out)).trans B2.out)
    replace R2 := Lib.hid (R2.out.on hb)
    replace B3 := Lib.hid ((hb.block _ (blt B3.out)).trans B3.out)
    replace R3 := Lib.hid (R3.out.on hb)
    replace B4 := Lib.hid ((hb.block _ (blt B4.out)).trans B4.out)
    replace R4 := Lib.hid (R4.out.on hb)
    replace B5 := Lib.hid ((hb.block _ (blt B5.out)).trans B5.out)
    replace R5 := Lib.hid (R5.out.on hb)
    refine hK.out _ _ ⟨⟨(three B4.out).1, (three B4.out).2.1, (three B4.out).2.2.1⟩, ⟨(three B5.out).1, (three B5.out).2.1, (three B5.out).2.2.1⟩, ⟨(three Q.out).1, (three Q.out).2.1, (three Q.out).2.2.1⟩⟩ (fun hHeld => ?_)
    clear hK K hb
    repeat (refine wpT_take (v := ?_) (by rfl) (fun w' hSw => ?_) ?_; rotate_left; (go_simp; with_reducible rfl); simp only [Act.put, List.setIfInBounds_toArray, List.set_cons_zero, List.set_cons_succ])
    refine wpT_do (fun K hK => ?_)
    go_simp
    go_at_call 29
    refine (refSize_r T.out).mono ?_
    rintro e w9 ⟨rfl, hb⟩
    replace FB := Lib.hid (FB.out.trans (hb.mono FB.out.size))
    replace T := Lib.hid (T.out.on hb)
    replace Q := Lib.hid ((hb.block _ (blt Q.out)).trans Q.out)
    replace B2 := Lib.hid ((hb.block _ (blt B2.out)).trans B2.out)
    replace R2 := Lib.hid (R2.out.on hb)
    replace B3 := Lib.hid ((hb.block _ (blt B3.out)).trans B3.out)
    replace R3 := Lib.hid (R3.out.on hb)
    replace B4 := Lib.hid ((hb.block _ (blt B4.out)).trans B4.out)
    replace R4 := Lib.hid (R4.out.on hb)
    replace B5 := Lib.hid ((hb.block _ (blt B5.out)).trans B5.out)
    replace R5 := Lib.hid (R5.out.on hb)
    refine hK.out _ _ ⟨⟨(three B4.out).1, (three B4.out).2.1, (three B4.out).2.2.1⟩, ⟨(three B5.out).1, (three B5.out).2.1, (three B5.out).2.2.1⟩, ⟨(three Q.out).1, (three Q.out).2.1, (three Q.out).2.2.1⟩⟩ (fun hHeld => ?_)
    clear hK K hb
    repeat (refine wpT_take (v := ?_) (by rfl) (fun w' hSw => ?_) ?_; rotate_left; (go_simp; with_reducible rfl); simp only [Act.put, List.setIfInBounds_toArray, List.set_cons_zero, List.set_cons_succ])
    have hs5 := refDepth_r R5.out
    rw [HDP.out] at hs5
    refine wpT_do (fun K hK => ?_)
    go_simp
    go_at_call 30
    refine (hs5).mono ?_
    rintro e w10 ⟨rfl, hb⟩
    replace FB := Lib.hid (FB.out.trans (hb.mono FB.out.size))
    replace T := Lib.hid (T.out.on hb)
    replace Q := Lib.hid ((hb.block _ (blt Q.out)).trans Q.out)
    replace B2 := Lib.hid ((hb.block _ (blt B2.out)).trans B2.out)
    replace R2 := Lib.hid (R2.out.on hb)
    replace B3 := Lib.hid ((hb.block _ (blt B3.out)).trans B3.out)
    replace R3 := Lib.hid (R3.out.on hb)
    replace B4 := Lib.hid ((hb.block _ (blt B4.out)).trans B4.out)
    replace R4 := Lib.hid (R4.out.on hb)
    replace B5 := Lib.hid ((hb.block _ (blt B5.out)).trans B5.out)
    replace R5 := Lib.hid (R5.out.on hb)
    refine hK.out _ _ ⟨⟨(three B4.out).1, (three B4.out).2.1, (three B4.out).2.2.1⟩, ⟨(three B5.out).1, (three B5.out).2.1, (three B5.out).2.2.1⟩, ⟨(three Q.out).1, (three Q.out).2.1, (three Q.out).2.2.1⟩⟩ (fun hHeld => ?_)
    clear hK K hb
    repeat (refine wpT_take (v := ?_) (by rfl) (fun w' hSw => ?_) ?_; rotate_left; (go_simp; with_reducible rfl); simp only [Act.put, List.setIfInBounds_toArray, List.set_cons_zero, List.set_cons_succ])
    refine wpT_do (fun K hK => ?_)
    go_simp
    go_at_call 30
    refine (refDepth_r T.out).mono ?_
    rintro e w11 ⟨rfl, hb⟩
    replace FB := Lib.hid (FB.out.trans (hb.mono FB.out.size))
    replace T := Lib.hid (T.out.on hb)
    replace Q := Lib.hid ((hb.block _ (blt Q.out)).trans Q.out)
    replace B2 := Lib.hid ((hb.block _ (blt B2.out)).trans B2.out)
    replace R2 := Lib.hid (R2.out.on hb)
    replace B3 := Lib.hid ((hb.block _ (blt B3.out)).trans B3.out)
    replace R3 := Lib.hid (R3.out.on hb)
    replace B4 := Lib.hid ((hb.block _ (blt B4.out)).trans B4.out)
    replace R4 := Lib.hid (R4.out.on hb)
    replace B5 := Lib.hid ((hb.block _ (blt B5.out)).trans B5.out)
    replace R5 := Lib.hid (R5.out.on hb)
    refine hK.out _ _ ⟨⟨(three B4.out).1, (three B4.out).2.1, (three B4.out).2.2.1⟩, ⟨(three B5.out).1, (three B5.out).2.1, (three B5.out).2.2.1⟩, ⟨(three Q.out).1, (three Q.out).2.1, (three Q.out).2.2.1⟩⟩ (fun hHeld => ?_)
    clear hK K hb
    repeat (refine wpT_take (v := ?_) (by rfl) (fun w' hSw => ?_) ?_; rotate_left; (go_simp; with_reducible rfl); simp only [Act.put, List.setIfInBounds_toArray, List.set_cons_zero, List.set_cons_succ])
    refine wpT_do (fun K hK => ?_)
    go_simp
    go_at_call 27
    refine (awake27_w _).mono ?_
    rintro e w12 ⟨rfl, hb⟩
    replace FB := Lib.hid (FB.out.trans (hb.mono FB.out.size))
    replace T := Lib.hid (T.out.on hb)
    replace Q := Lib.hid ((hb.block _ (blt Q.out)).trans Q.out)
    replace B2 := Lib.hid ((hb.block _ (blt B2.out)).trans B2.out)
    replace R2 := Lib.hid (R2.out.on hb)
    replace B3 := Lib.hid ((hb.block _ (blt B3.out)).trans B3.out)
    replace R3 := Lib.hid (R3.out.on hb)
    replace B4 := Lib.hid ((hb.block _ (blt B4.out)).trans B4.out)
    replace R4 := Lib.hid (R4.out.on hb)
    replace B5 := Lib.hid ((hb.block _ (blt B5.out)).trans B5.out)
    replace R5 := Lib.hid (R5.out.on hb)
    refine hK.out _ _ ⟨⟨(three B4.out).1, (three B4.out).2.1, (three B4.out).2.2.1⟩, ⟨(three B5.out).1, (three B5.out).2.1, (three B5.out).2.2.1⟩, ⟨(three Q.out).1, (three Q.out).2.1, (three Q.out).2.2.1⟩⟩ (fun hHeld => ?_)
    clear hK K hb
    repeat (refine wpT_take (v := ?_) (by rfl) (fun w' hSw => ?_) ?_; rotate_left; (go_simp; with_reducible rfl); simp only [Act.put, List.setIfInBounds_toArray, List.set_cons_zero, List.set_cons_succ])
    refine wpT_last (fun K hK => ?_)
    go_simp
    refine hK.out _ _ ?_
    clear hK K
    go_wp2_with fail
    go_ret
    exact ⟨rfl, FB.out⟩
end Go.Proofs.Ythjlfjaciigfiaa
