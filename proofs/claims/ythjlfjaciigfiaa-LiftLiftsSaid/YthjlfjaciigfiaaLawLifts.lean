/-
  LiftLifts: the walk: it returns true and writes nothing that was there. No condition but that the argument reads as a term.
-/
import Derived.Test.YthjlfjaciigfiaaRs
namespace Go.Proofs.Ythjlfjaciigfiaa
open Go.RowKit
set_option linter.unusedVariables false
set_option linter.unusedSimpArgs false

set_option maxRecDepth 100000 in
set_option maxHeartbeats 4000000 in
theorem liftLifts_walk (v : Value) (t : Tm) (k n : Int) (w : World) (hr : Rd (· < w.heap.size) w v t) (hk : (Lit.int .i64 k).wf = true) (hn : (Lit.int .i64 n).wf = true) :
    Calls Try.prog 3 #[v, .int .i64 k, .int .i64 n] w fun e w' => e = .returned (.bool true) ∧ Below w.heap.size w w' := by
  obtain ⟨ao, cap, rfl⟩ := hr.shape
  have hb0 := alloc_bel w (.cells #[.int .i64 t.kind, .int .i64 t.num, .slice ao t.sub.length cap] 24)
  have FB := Lib.hid hb0
  have T := Lib.hid (hr.on hb0)
  have Q := Lib.hid (heap_new w (.cells #[.int .i64 t.kind, .int .i64 t.num, .slice ao t.sub.length cap] 24) _ rfl)
  clear hb0 hr
  go_enter Try.func3, Try.ntmps3
  go_wp2_with fail
  refine (Lift_r _ _ T.out).mono ?_
  rintro e w1 ⟨k1, n1, ao1, m1, c1, rfl, hb, hr⟩
  obtain ⟨hb1, B1, R1, -⟩ := boxed hb hr
  clear hb hr
  replace FB := Lib.hid (FB.out.trans (hb1.mono FB.out.size))
  replace T := Lib.hid (T.out.on hb1)
  replace Q := Lib.hid ((hb1.block _ (blt Q.out)).trans Q.out)
  replace B1 := Lib.hid B1
  replace R1 := Lib.hid R1
  clear hb1
  obtain ⟨Q0, Q1, Q2, Qf, -⟩ := three Q.out
  go_wp2_with fail
  clear Q0 Q1 Q2 Qf
  refine (refLift_r _ _ T.out).mono ?_
  rintro e w2 ⟨k2, n2, ao2, m2, c2, rfl, hb, hr⟩
  obtain ⟨hb2, B2, R2, -⟩ := boxed hb hr
  clear hb hr
  replace FB := Lib.hid (FB.out.trans (hb2.mono FB.out.size))
  replace T := Lib.hid (T.out.on hb2)
  replace Q := Lib.hid ((hb2.block _ (blt Q.out)).trans Q.out)
  replace B1 := Lib.hid ((hb2.block _ (blt B1.out)).trans B1.out)
  replace R1 := Lib.hid (R1.out.on hb2)
  replace B2 := Lib.hid B2
  replace R2 := Lib.hid R2
  clear hb2
  obtain ⟨Q0, Q1, Q2, Qf, -⟩ := three Q.out
  go_wp2_with fail
  clear Q0 Q1 Q2 Qf
  refine (Up_r _ T.out).mono ?_
  rintro e w3 ⟨k3, n3, ao3, m3, c3, rfl, hb, hr⟩
  obtain ⟨hb3, B3, R3, -⟩ := boxed hb hr
  clear hb hr
  replace FB := Lib.hid (FB.out.trans (hb3.mono FB.out.size))
  replace T := Lib.hid (T.out.on hb3)
  replace Q := Lib.hid ((hb3.block _ (blt Q.out)).trans Q.out)
  replace B1 := Lib.hid ((hb3.block _ (blt B1.out)).trans B1.out)
  replace R1 := Lib.hid (R1.out.on hb3)
  replace B2 := Lib.hid ((hb3.block _ (blt B2.out)).trans B2.out)
  replace R2 := Lib.hid (R2.out.on hb3)
  replace B3 := Lib.hid B3
  replace R3 := Lib.hid R3
  clear hb3
  obtain ⟨Q0, Q1, Q2, Qf, -⟩ := three Q.out
  go_wp2_with fail
  clear Q0 Q1 Q2 Qf
  refine (refLift_r _ _ T.out).mono ?_
  rintro e w4 ⟨k4, n4, ao4, m4, c4, rfl, hb, hr⟩
  obtain ⟨hb4, B4, R4, -⟩ := boxed hb hr
  clear hb hr
  replace FB := Lib.hid (FB.out.trans (hb4.mono FB.out.size))
  replace T := Lib.hid (T.out.on hb4)
  replace Q := Lib.hid ((hb4.block _ (blt Q.out)).trans Q.out)
  replace B1 := Lib.hid ((hb4.block _ (blt B1.out)).trans B1.out)
  replace R1 := Lib.hid (R1.out.on hb4)
  replace B2 := Lib.hid ((hb4.block _ (blt B2.out)).trans B2.out)
  replace R2 := Lib.hid (R2.out.on hb4)
  replace B3 := Lib.hid ((hb4.block _ (blt B3.out)).trans B3.out)
  replace R3 := Lib.hid (R3.out.on hb4)
  replace B4 := Lib.hid B4
  replace R4 := Lib.hid R4
  clear hb4
  obtain ⟨B10, B11, B12, B1f, -⟩ := three B1.out
  obtain ⟨B20, B21, B22, B2f, -⟩ := three B2.out
  go_wp2_with fail
  clear B10 B11 B12 B1f B20 B21 B22 B2f
  have hs := same26_r (liftR t k n).2 (liftR t k n).2 R1.out R2.out
  rw [sameR_refl] at hs
  refine (hs).mono ?_
  rintro e w5 ⟨rfl, hb⟩
  replace FB := Lib.hid (FB.out.trans (hb.mono FB.out.size))
  replace T := Lib.hid (T.out.on hb)
  replace Q := Lib.hid ((hb.block _ (blt Q.out)).trans Q.out)
  replace B1 := Lib.hid ((hb.block _ (blt B1.out)).trans B1.out)
  replace R1 := Lib.hid (R1.out.on hb)
  replace B2 := Lib.hid ((hb.block _ (blt B2.out)).trans B2.out)
  replace R2 := Lib.hid (R2.out.on hb)
  replace B3 := Lib.hid ((hb.block _ (blt B3.out)).trans B3.out)
  replace R3 := Lib.hid (R3.out.on hb)
  replace B4 := Lib.hid ((hb.block _ (blt B4.out)).trans B4.out)
  replace R4 := Lib.hid (R4.out.on hb)
  clear hb
  obtain ⟨B30, B31, B32, B3f, -⟩ := three B3.out
  obtain ⟨B40, B41, B42, B4f, -⟩ := three B4.out
  go_wp2_with fail
  clear B30 B31 B32 B3f B40 B41 B42 B4f
  have hs2 := same26_r (liftR t k 0).2 (liftR t k 0).2 R3.out R4.out
  rw [sameR_refl] at hs2
  refine (hs2).mono ?_
  rintro e w6 ⟨rfl, hb⟩
  replace FB := Lib.hid (FB.out.trans (hb.mono FB.out.size))
  replace T := Lib.hid (T.out.on hb)
  replace Q := Lib.hid ((hb.block _ (blt Q.out)).trans Q.out)
  replace B1 := Lib.hid ((hb.block _ (blt B1.out)).trans B1.out)
  replace R1 := Lib.hid (R1.out.on hb)
  replace B2 := Lib.hid ((hb.block _ (blt B2.out)).trans B2.out)
  replace R2 := Lib.hid (R2.out.on hb)
  replace B3 := Lib.hid ((hb.block _ (blt B3.out)).trans B3.out)
  replace R3 := Lib.hid (R3.out.on hb)
  replace B4 := Lib.hid ((hb.block _ (blt B4.out)).trans B4.out)
  replace R4 := Lib.hid (R4.out.on hb)
  clear hb
  go_wp2_with fail
  refine (awake27_w _).mono ?_
  rintro e w7 ⟨rfl, hb⟩
  replace FB := Lib.hid (FB.out.trans (hb.mono FB.out.size))
  replace T := Lib.hid (T.out.on hb)
  replace Q := Lib.hid ((hb.block _ (blt Q.out)).trans Q.out)
  replace B1 := Lib.hid ((hb.block _ (blt B1.out)).trans B1.out)
  replace R1 := Lib.hid (R1.out.on hb)
  replace B2 := Lib.hid ((hb.block _ (blt B2.out)).trans B2.out)
  replace R2 := Lib.hid (R2.out.on hb)
  replace B3 := Lib.hid ((hb.block _ (blt B3.out)).trans B3.out)
  replace R3 := Lib.hid (R3.out.on hb)
  replace B4 := Lib.hid ((hb.block _ (blt B4.out)).trans B4.out)
  replace R4 := Lib.hid (R4.out.on hb)
  clear hb
  go_wp2_with fail
  go_ret
  exact ⟨rfl, FB.out⟩
end Go.Proofs.Ythjlfjaciigfiaa
