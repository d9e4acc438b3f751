/-
  LiftBack: the walk: it returns true and writes nothing that was there. No condition but that the argument reads as a term.
-/
import Derived.Test.YthjlfjaciigfiaaQl
namespace Go.Proofs.Ythjlfjaciigfiaa
open Go.RowKit
set_option linter.unusedVariables false
set_option linter.unusedSimpArgs false

set_option maxRecDepth 100000 in
set_option maxHeartbeats 4000000 in
theorem liftBack_walk (v : Value) (t : Tm) (k n : Int) (w : World) (hr : Rd (· < w.heap.size) w v t) (hk : (Lit.int .u8 k).wf = true) (hn : (Lit.int .u8 n).wf = true) :
    Calls Try.prog 8 #[v, .int .u8 k, .int .u8 n] w fun e w' => e = .returned (.bool true) ∧ Below w.heap.size w w' := by
  obtain ⟨ao, cap, rfl⟩ := hr.shape
  obtain ⟨hk0, hk1⟩ := u8_wf hk
  obtain ⟨hn0, hn1⟩ := u8_wf hn
  clear hk hn
  obtain ⟨ra, rc, hA, hcode⟩ := liftR_code t k n
  obtain ⟨rb, rd, hB, hcode2⟩ := lowerR_code t k n
  have HA := Lib.hid hA
  have HB := Lib.hid hB
  rcases hcode with rfl | ⟨hne, rfl⟩
  · have HA2 := Lib.hid (lift_back hA)
    clear hA
    rcases hcode2 with rfl | ⟨hne2, rfl⟩
    · have HB2 := Lib.hid (lower_back hB)
      clear hB
      have hb0 := alloc_bel w (.cells #[.int .i64 t.kind, .int .i64 t.num, .slice ao t.sub.length cap] 24)
      have FB := Lib.hid hb0
      have T := Lib.hid (hr.on hb0)
      have Q := Lib.hid (heap_new w (.cells #[.int .i64 t.kind, .int .i64 t.num, .slice ao t.sub.length cap] 24) _ rfl)
      clear hb0 hr
      go_enter Try.func8, Try.ntmps8
      go_wp2_with fail
      refine (Lift_q HA.out T.out).mono ?_
      rintro e w1 ⟨k1, n1, ao1, m1, c1, rfl, hb, hr⟩
      obtain ⟨hb1, B1, R1, -⟩ := boxed hb hr
      clear hb hr
      replace FB := Lib.hid (FB.out.trans (hb1.mono FB.out.size))
      replace T := Lib.hid (T.out.on hb1)
      replace Q := Lib.hid ((hb1.block _ (blt Q.out)).trans Q.out)
      replace B1 := Lib.hid B1
      replace R1 := Lib.hid R1
      clear hb1
      obtain ⟨B10, B11, B12, B1f, -⟩ := three B1.out
      go_wp2_with fail
      clear B10 B11 B12 B1f
      refine (Lower_q HA2.out R1.out).mono ?_
      rintro e w2 ⟨k2, n2, ao2, m2, c2, rfl, hb, hr⟩
      obtain ⟨hb2, B2, R2, -⟩ := boxed hb hr
      clear hb hr
      replace FB := Lib.hid (FB.out.trans (hb2.mono FB.out.size))
      replace T := Lib.hid (T.out.on hb2)
      replace Q := Lib.hid ((hb2.block _ (blt Q.out)).trans Q.out)
      replace B1 := Lib.hid ((hb2.block _ (blt B1.out)).trans B1.out)
      replace R1 := Lib.hid (R1.out.on hb2)
      replace B2 := Lib.hid B2
      replace R2 := Lib.hid R2
      clear hb2
      obtain ⟨Q0, Q1, Q2, Qf, -⟩ := three Q.out
      go_wp2_with fail
      clear Q0 Q1 Q2 Qf
      refine (same26_q _ R2.out T.out).mono ?_
      rintro e w3 ⟨rfl, hb⟩
      replace FB := Lib.hid (FB.out.trans (hb.mono FB.out.size))
      replace T := Lib.hid (T.out.on hb)
      replace Q := Lib.hid ((hb.block _ (blt Q.out)).trans Q.out)
      replace B1 := Lib.hid ((hb.block _ (blt B1.out)).trans B1.out)
      replace R1 := Lib.hid (R1.out.on hb)
      replace B2 := Lib.hid ((hb.block _ (blt B2.out)).trans B2.out)
      replace R2 := Lib.hid (R2.out.on hb)
      clear hb
      obtain ⟨Q0, Q1, Q2, Qf, -⟩ := three Q.out
      go_wp2_with fail
      clear Q0 Q1 Q2 Qf
      refine (Lower_q HB.out T.out).mono ?_
      rintro e w4 ⟨k4, n4, ao4, m4, c4, rfl, hb, hr⟩
      obtain ⟨hb4, B4, R4, -⟩ := boxed hb hr
      clear hb hr
      replace FB := Lib.hid (FB.out.trans (hb4.mono FB.out.size))
      replace T := Lib.hid (T.out.on hb4)
      replace Q := Lib.hid ((hb4.block _ (blt Q.out)).trans Q.out)
      replace B1 := Lib.hid ((hb4.block _ (blt B1.out)).trans B1.out)
      replace R1 := Lib.hid (R1.out.on hb4)
      replace B2 := Lib.hid ((hb4.block _ (blt B2.out)).trans B2.out)
      replace R2 := Lib.hid (R2.out.on hb4)
      replace B4 := Lib.hid B4
      replace R4 := Lib.hid R4
      clear hb4
      obtain ⟨B40, B41, B42, B4f, -⟩ := three B4.out
      go_wp2_with fail
      clear B40 B41 B42 B4f
      refine (Lift_q HB2.out R4.out).mono ?_
      rintro e w5 ⟨k5, n5, ao5, m5, c5, rfl, hb, hr⟩
      obtain ⟨hb5, B5, R5, -⟩ := boxed hb hr
      clear hb hr
      replace FB := Lib.hid (FB.out.trans (hb5.mono FB.out.size))
      replace T := Lib.hid (T.out.on hb5)
      replace Q := Lib.hid ((hb5.block _ (blt Q.out)).trans Q.out)
      replace B1 := Lib.hid ((hb5.block _ (blt B1.out)).trans B1.out)
      replace R1 := Lib.hid (R1.out.on hb5)
      replace B2 := Lib.hid ((hb5.block _ (blt B2.out)).trans B2.out)
      replace R2 := Lib.hid (R2.out.on hb5)
      replace B4 := Lib.hid ((hb5.block _ (blt B4.out)).trans B4.out)
      replace R4 := Lib.hid (R4.out.on hb5)
      replace B5 := Lib.hid B5
      replace R5 := Lib.hid R5
      clear hb5
      obtain ⟨Q0, Q1, Q2, Qf, -⟩ := three Q.out
      go_wp2_with fail
      clear Q0 Q1 Q2 Qf
      refine (same26_q _ R5.out T.out).mono ?_
      rintro e w6 ⟨rfl, hb⟩
      replace FB := Lib.hid (FB.out.trans (hb.mono FB.out.size))
      replace T := Lib.hid (T.out.on hb)
      replace Q := Lib.hid ((hb.block _ (blt Q.out)).trans Q.out)
      replace B1 := Lib.hid ((hb.block _ (blt B1.out)).trans B1.out)
      replace R1 := Lib.hid (R1.out.on hb)
      replace B2 := Lib.hid ((hb.block _ (blt B2.out)).trans B2.out)
      replace R2 := Lib.hid (R2.out.on hb)
      replace B4 := Lib.hid ((hb.block _ (blt B4.out)).trans B4.out)
      replace R4 := Lib.hid (R4.out.on hb)
      replace B5 := Lib.hid ((hb.block _ (blt B5.out)).trans B5.out)
      replace R5 := Lib.hid (R5.out.on hb)
      clear hb
      go_wp2_with fail
      refine (awake27_w _).mono ?_
      rintro e w7 ⟨rfl, hb⟩
      replace FB := Lib.hid (FB.out.trans (hb.mono FB.out.size))
      replace T := Lib.hid (T.out.on hb)
      replace Q := Lib.hid ((hb.block _ (blt Q.out)).trans Q.out)
      replace B1 := Lib.hid ((hb.block _ (blt B1.out)).trans B1.out)
      replace R1 := Lib.hid (R1.out.on hb)
      replace B2 := Lib.hid ((hb.block _ (blt B2.out)).trans B2.out)
      replace R2 := Lib.hid (R2.out.on hb)
      replace B4 := Lib.hid ((hb.block _ (blt B4.out)).trans B4.out)
      replace R4 := Lib.hid (R4.out.on hb)
      replace B5 := Lib.hid ((hb.block _ (blt B5.out)).trans B5.out)
      replace R5 := Lib.hid (R5.out.on hb)
      clear hb
      go_wp2_with fail
      go_ret
      exact ⟨rfl, FB.out⟩
    · have hne3 : (rd != 0) = true := by simp [hne2]
      clear hB hne2
      have hb0 := alloc_bel w (.cells #[.int .i64 t.kind, .int .i64 t.num, .slice ao t.sub.length cap] 24)
      have FB := Lib.hid hb0
      have T := Lib.hid (hr.on hb0)
      have Q := Lib.hid (heap_new w (.cells #[.int .i64 t.kind, .int .i64 t.num, .slice ao t.sub.length cap] 24) _ rfl)
      clear hb0 hr
      go_enter Try.func8, Try.ntmps8
      go_wp2_with fail
      refine (Lift_q HA.out T.out).mono ?_
      rintro e w1 ⟨k1, n1, ao1, m1, c1, rfl, hb, hr⟩
      obtain ⟨hb1, B1, R1, -⟩ := boxed hb hr
      clear hb hr
      replace FB := Lib.hid (FB.out.trans (hb1.mono FB.out.size))
      replace T := Lib.hid (T.out.on hb1)
      replace Q := Lib.hid ((hb1.block _ (blt Q.out)).trans Q.out)
      replace B1 := Lib.hid B1
      replace R1 := Lib.hid R1
      clear hb1
      obtain ⟨B10, B11, B12, B1f, -⟩ := three B1.out
      go_wp2_with fail
      clear B10 B11 B12 B1f
      refine (Lower_q HA2.out R1.out).mono ?_
      rintro e w2 ⟨k2, n2, ao2, m2, c2, rfl, hb, hr⟩
      obtain ⟨hb2, B2, R2, -⟩ := boxed hb hr
      clear hb hr
      replace FB := Lib.hid (FB.out.trans (hb2.mono FB.out.size))
      replace T := Lib.hid (T.out.on hb2)
      replace Q := Lib.hid ((hb2.block _ (blt Q.out)).trans Q.out)
      replace B1 := Lib.hid ((hb2.block _ (blt B1.out)).trans B1.out)
      replace R1 := Lib.hid (R1.out.on hb2)
      replace B2 := Lib.hid B2
      replace R2 := Lib.hid R2
      clear hb2
      obtain ⟨Q0, Q1, Q2, Qf, -⟩ := three Q.out
      go_wp2_with fail
      clear Q0 Q1 Q2 Qf
      refine (same26_q _ R2.out T.out).mono ?_
      rintro e w3 ⟨rfl, hb⟩
      replace FB := Lib.hid (FB.out.trans (hb.mono FB.out.size))
      replace T := Lib.hid (T.out.on hb)
      replace Q := Lib.hid ((hb.block _ (blt Q.out)).trans Q.out)
      replace B1 := Lib.hid ((hb.block _ (blt B1.out)).trans B1.out)
      replace R1 := Lib.hid (R1.out.on hb)
      replace B2 := Lib.hid ((hb.block _ (blt B2.out)).trans B2.out)
      replace R2 := Lib.hid (R2.out.on hb)
      clear hb
      obtain ⟨Q0, Q1, Q2, Qf, -⟩ := three Q.out
      go_wp2_with fail
      clear Q0 Q1 Q2 Qf
      refine (Lower_q HB.out T.out).mono ?_
      rintro e w4 ⟨k4, n4, ao4, m4, c4, rfl, hb, hr⟩
      obtain ⟨hb4, B4, R4, -⟩ := boxed hb hr
      clear hb hr
      replace FB := Lib.hid (FB.out.trans (hb4.mono FB.out.size))
      replace T := Lib.hid (T.out.on hb4)
      replace Q := Lib.hid ((hb4.block _ (blt Q.out)).trans Q.out)
      replace B1 := Lib.hid ((hb4.block _ (blt B1.out)).trans B1.out)
      replace R1 := Lib.hid (R1.out.on hb4)
      replace B2 := Lib.hid ((hb4.block _ (blt B2.out)).trans B2.out)
      replace R2 := Lib.hid (R2.out.on hb4)
      replace B4 := Lib.hid B4
      replace R4 := Lib.hid R4
      clear hb4
      go_wp2_with fail
      refine (awake27_w _).mono ?_
      rintro e w5 ⟨rfl, hb⟩
      replace FB := Lib.hid (FB.out.trans (hb.mono FB.out.size))
      replace T := Lib.hid (T.out.on hb)
      replace Q := Lib.hid ((hb.block _ (blt Q.out)).trans Q.out)
      replace B1 := Lib.hid ((hb.block _ (blt B1.out)).trans B1.out)
      replace R1 := Lib.hid (R1.out.on hb)
      replace B2 := Lib.hid ((hb.block _ (blt B2.out)).trans B2.out)
      replace R2 := Lib.hid (R2.out.on hb)
      replace B4 := Lib.hid ((hb.block _ (blt B4.out)).trans B4.out)
      replace R4 := Lib.hid (R4.out.on hb)
      clear hb
      go_wp2_with fail
      go_ret
      exact ⟨rfl, FB.out⟩
  · have hne1 : (rc == 0) = false := by simp [hne]
    clear hA hne
    rcases hcode2 with rfl | ⟨hne2, rfl⟩
    · have HB2 := Lib.hid (lower_back hB)
      clear hB
      have hb0 := alloc_bel w (.cells #[.int .i64 t.kind, .int .i64 t.num, .slice ao t.sub.length cap] 24)
      have FB := Lib.hid hb0
      have T := Lib.hid (hr.on hb0)
      have Q := Lib.hid (heap_new w (.cells #[.int .i64 t.kind, .int .i64 t.num, .slice ao t.sub.length cap] 24) _ rfl)
      clear hb0 hr
      go_enter Try.func8, Try.ntmps8
      go_wp2_with fail
      refine (Lift_q HA.out T.out).mono ?_
      rintro e w1 ⟨k1, n1, ao1, m1, c1, rfl, hb, hr⟩
      obtain ⟨hb1, B1, R1, -⟩ := boxed hb hr
      clear hb hr
      replace FB := Lib.hid (FB.out.trans (hb1.mono FB.out.size))
      replace T := Lib.hid (T.out.on hb1)
      replace Q := Lib.hid ((hb1.block _ (blt Q.out)).trans Q.out)
      replace B1 := Lib.hid B1
      replace R1 := Lib.hid R1
      clear hb1
      obtain ⟨Q0, Q1, Q2, Qf, -⟩ := three Q.out
      go_wp2_with fail
      clear Q0 Q1 Q2 Qf
      refine (Lower_q HB.out T.out).mono ?_
      rintro e w2 ⟨k2, n2, ao2, m2, c2, rfl, hb, hr⟩
      obtain ⟨hb2, B2, R2, -⟩ := boxed hb hr
      clear hb hr
      replace FB := Lib.hid (FB.out.trans (hb2.mono FB.out.size))
      replace T := Lib.hid (T.out.on hb2)
      replace Q := Lib.hid ((hb2.block _ (blt Q.out)).trans Q.out)
      replace B1 := Lib.hid ((hb2.block _ (blt B1.out)).trans B1.out)
      replace R1 := Lib.hid (R1.out.on hb2)
      replace B2 := Lib.hid B2
      replace R2 := Lib.hid R2
      clear hb2
      obtain ⟨B20, B21, B22, B2f, -⟩ := three B2.out
      go_wp2_with fail
      clear B20 B21 B22 B2f
      refine (Lift_q HB2.out R2.out).mono ?_
      rintro e w3 ⟨k3, n3, ao3, m3, c3, rfl, hb, hr⟩
      obtain ⟨hb3, B3, R3, -⟩ := boxed hb hr
      clear hb hr
      replace FB := Lib.hid (FB.out.trans (hb3.mono FB.out.size))
      replace T := Lib.hid (T.out.on hb3)
      replace Q := Lib.hid ((hb3.block _ (blt Q.out)).trans Q.out)
      replace B1 := Lib.hid ((hb3.block _ (blt B1.out)).trans B1.out)
      replace R1 := Lib.hid (R1.out.on hb3)
      replace B2 := Lib.hid ((hb3.block _ (blt B2.out)).trans B2.out)
      replace R2 := Lib.hid (R2.out.on hb3)
      replace B3 := Lib.hid B3
      replace R3 := Lib.hid R3
      clear hb3
      obtain ⟨Q0, Q1, Q2, Qf, -⟩ := three Q.out
      go_wp2_with fail
      clear Q0 Q1 Q2 Qf
      refine (same26_q _ R3.out T.out).mono ?_
      rintro e w4 ⟨rfl, hb⟩
      replace FB := Lib.hid (FB.out.trans (hb.mono FB.out.size))
      replace T := Lib.hid (T.out.on hb)
      replace Q := Lib.hid ((hb.block _ (blt Q.out)).trans Q.out)
      replace B1 := Lib.hid ((hb.block _ (blt B1.out)).trans B1.out)
      replace R1 := Lib.hid (R1.out.on hb)
      replace B2 := Lib.hid ((hb.block _ (blt B2.out)).trans B2.out)
      replace R2 := Lib.hid (R2.out.on hb)
      replace B3 := Lib.hid ((hb.block _ (blt B3.out)).trans B3.out)
      replace R3 := Lib.hid (R3.out.on hb)
      clear hb
      go_wp2_with fail
      refine (awake27_w _).mono ?_
      rintro e w5 ⟨rfl, hb⟩
      replace FB := Lib.hid (FB.out.trans (hb.mono FB.out.size))
      replace T := Lib.hid (T.out.on hb)
      replace Q := Lib.hid ((hb.block _ (blt Q.out)).trans Q.out)
      replace B1 := Lib.hid ((hb.block _ (blt B1.out)).trans B1.out)
      replace R1 := Lib.hid (R1.out.on hb)
      replace B2 := Lib.hid ((hb.block _ (blt B2.out)).trans B2.out)
      replace R2 := Lib.hid (R2.out.on hb)
      replace B3 := Lib.hid ((hb.block _ (blt B3.out)).trans B3.out)
      replace R3 := Lib.hid (R3.out.on hb)
      clear hb
      go_wp2_with fail
      go_ret
      exact ⟨rfl, FB.out⟩
    · have hne3 : (rd != 0) = true := by simp [hne2]
      clear hB hne2
      have hb0 := alloc_bel w (.cells #[.int .i64 t.kind, .int .i64 t.num, .slice ao t.sub.length cap] 24)
      have FB := Lib.hid hb0
      have T := Lib.hid (hr.on hb0)
      have Q := Lib.hid (heap_new w (.cells #[.int .i64 t.kind, .int .i64 t.num, .slice ao t.sub.length cap] 24) _ rfl)
      clear hb0 hr
      go_enter Try.func8, Try.ntmps8
      go_wp2_with fail
      refine (Lift_q HA.out T.out).mono ?_
      rintro e w1 ⟨k1, n1, ao1, m1, c1, rfl, hb, hr⟩
      obtain ⟨hb1, B1, R1, -⟩ := boxed hb hr
      clear hb hr
      replace FB := Lib.hid (FB.out.trans (hb1.mono FB.out.size))
      replace T := Lib.hid (T.out.on hb1)
      replace Q := Lib.hid ((hb1.block _ (blt Q.out)).trans Q.out)
      replace B1 := Lib.hid B1
      replace R1 := Lib.hid R1
      clear hb1
      obtain ⟨Q0, Q1, Q2, Qf, -⟩ := three Q.out
      go_wp2_with fail
      clear Q0 Q1 Q2 Qf
      refine (Lower_q HB.out T.out).mono ?_
      rintro e w2 ⟨k2, n2, ao2, m2, c2, rfl, hb, hr⟩
      obtain ⟨hb2, B2, R2, -⟩ := boxed hb hr
      clear hb hr
      replace FB := Lib.hid (FB.out.trans (hb2.mono FB.out.size))
      replace T := Lib.hid (T.out.on hb2)
      replace Q := Lib.hid ((hb2.block _ (blt Q.out)).trans Q.out)
      replace B1 := Lib.hid ((hb2.block _ (blt B1.out)).trans B1.out)
      replace R1 := Lib.hid (R1.out.on hb2)
      replace B2 := Lib.hid B2
      replace R2 := Lib.hid R2
      clear hb2
      go_wp2_with fail
      refine (awake27_w _).mono ?_
      rintro e w3 ⟨rfl, hb⟩
      replace FB := Lib.hid (FB.out.trans (hb.mono FB.out.size))
      replace T := Lib.hid (T.out.on hb)
      replace Q := Lib.hid ((hb.block _ (blt Q.out)).trans Q.out)
      replace B1 := Lib.hid ((hb.block _ (blt B1.out)).trans B1.out)
      replace R1 := Lib.hid (R1.out.on hb)
      replace B2 := Lib.hid ((hb.block _ (blt B2.out)).trans B2.out)
      replace R2 := Lib.hid (R2.out.on hb)
      clear hb
      go_wp2_with fail
      go_ret
      exact ⟨rfl, FB.out⟩
end Go.Proofs.Ythjlfjaciigfiaa
