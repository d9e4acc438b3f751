/-
  LiftSwaps: the walk: it returns true and writes nothing that was there. No condition but that the argument reads as a term.
-/
import Derived.Test.YthjlfjaciigfiaaQl
namespace Go.Proofs.Ythjlfjaciigfiaa
open Go.RowKit
set_option linter.unusedVariables false
set_option linter.unusedSimpArgs false

set_option maxRecDepth 100000 in
set_option maxHeartbeats 4000000 in
theorem liftSwaps_walk (v : Value) (t : Tm) (n : Int) (w : World) (hr : Rd (· < w.heap.size) w v t) (hn : (Lit.int .i64 n).wf = true) :
    Calls Try.prog 9 #[v, .int .i64 n] w fun e w' => e = .returned (.bool true) ∧ Below w.heap.size w w' := by
  obtain ⟨ao, cap, rfl⟩ := hr.shape
  obtain ⟨ra, rc, hA, hcode⟩ := swapR_code t n
  have HA := Lib.hid hA
  clear hn
  rcases hcode with rfl | ⟨hne, rfl⟩
  · have HB := Lib.hid (swap_back hA)
    clear hA
    have hb0 := alloc_bel w (.cells #[.int .i64 t.kind, .int .i64 t.num, .slice ao t.sub.length cap] 24)
    have FB := Lib.hid hb0
    have T := Lib.hid (hr.on hb0)
    have Q := Lib.hid (heap_new w (.cells #[.int .i64 t.kind, .int .i64 t.num, .slice ao t.sub.length cap] 24) _ rfl)
    clear hb0 hr
    go_enter Try.func9, Try.ntmps9
    go_wp2_with fail
    refine (Swap_q HA.out T.out).mono ?_
    rintro e w1 ⟨k1, n1, ao1, m1, c1, rfl, hb, hr⟩
    obtain ⟨hb1, B1, R1, -⟩ := boxed hb hr
    clear hb hr
    replace FB := Lib.hid (FB.out.trans (hb1.mono FB.out.size))
    replace T := Lib.hid (T.out.on hb1)
    replace Q := Lib.hid ((hb1.block _ (blt Q.out)).trans Q.out)
    replace B1 := Lib.hid B1
    replace R1 := Lib.hid R1
    clear hb1
    obtain ⟨Q0, Q1, Q2, Qf, -⟩ := three Q.out
    go_wp2_with fail
    clear Q0 Q1 Q2 Qf
    refine (refSwap_q HA.out T.out).mono ?_
    rintro e w2 ⟨k2, n2, ao2, m2, c2, rfl, hb, hr⟩
    obtain ⟨hb2, B2, R2, -⟩ := boxed hb hr
    clear hb hr
    replace FB := Lib.hid (FB.out.trans (hb2.mono FB.out.size))
    replace T := Lib.hid (T.out.on hb2)
    replace Q := Lib.hid ((hb2.block _ (blt Q.out)).trans Q.out)
    replace B1 := Lib.hid ((hb2.block _ (blt B1.out)).trans B1.out)
    replace R1 := Lib.hid (R1.out.on hb2)
    replace B2 := Lib.hid B2
    replace R2 := Lib.hid R2
    clear hb2
    obtain ⟨B10, B11, B12, B1f, -⟩ := three B1.out
    go_wp2_with fail
    clear B10 B11 B12 B1f
    refine (same26_q _ R1.out R2.out).mono ?_
    rintro e w3 ⟨rfl, hb⟩
    replace FB := Lib.hid (FB.out.trans (hb.mono FB.out.size))
    replace T := Lib.hid (T.out.on hb)
    replace Q := Lib.hid ((hb.block _ (blt Q.out)).trans Q.out)
    replace B1 := Lib.hid ((hb.block _ (blt B1.out)).trans B1.out)
    replace R1 := Lib.hid (R1.out.on hb)
    replace B2 := Lib.hid ((hb.block _ (blt B2.out)).trans B2.out)
    replace R2 := Lib.hid (R2.out.on hb)
    clear hb
    obtain ⟨B10, B11, B12, B1f, -⟩ := three B1.out
    go_wp2_with fail
    clear B10 B11 B12 B1f
    refine (Swap_q HB.out R1.out).mono ?_
    rintro e w4 ⟨k4, n4, ao4, m4, c4, rfl, hb, hr⟩
    obtain ⟨hb4, B4, R4, -⟩ := boxed hb hr
    clear hb hr
    replace FB := Lib.hid (FB.out.trans (hb4.mono FB.out.size))
    replace T := Lib.hid (T.out.on hb4)
    replace Q := Lib.hid ((hb4.block _ (blt Q.out)).trans Q.out)
    replace B1 := Lib.hid ((hb4.block _ (blt B1.out)).trans B1.out)
    replace R1 := Lib.hid (R1.out.on hb4)
    replace B2 := Lib.hid ((hb4.block _ (blt B2.out)).trans B2.out)
    replace R2 := Lib.hid (R2.out.on hb4)
    replace B4 := Lib.hid B4
    replace R4 := Lib.hid R4
    clear hb4
    obtain ⟨Q0, Q1, Q2, Qf, -⟩ := three Q.out
    go_wp2_with fail
    clear Q0 Q1 Q2 Qf
    refine (same26_q _ R4.out T.out).mono ?_
    rintro e w5 ⟨rfl, hb⟩
    replace FB := Lib.hid (FB.out.trans (hb.mono FB.out.size))
    replace T := Lib.hid (T.out.on hb)
    replace Q := Lib.hid ((hb.block _ (blt Q.out)).trans Q.out)
    replace B1 := Lib.hid ((hb.block _ (blt B1.out)).trans B1.out)
    replace R1 := Lib.hid (R1.out.on hb)
    replace B2 := Lib.hid ((hb.block _ (blt B2.out)).trans B2.out)
    replace R2 := Lib.hid (R2.out.on hb)
    replace B4 := Lib.hid ((hb.block _ (blt B4.out)).trans B4.out)
    replace R4 := Lib.hid (R4.out.on hb)
    clear hb
    go_wp2_with fail
    refine (awake27_w _).mono ?_
    rintro e w6 ⟨rfl, hb⟩
    replace FB := Lib.hid (FB.out.trans (hb.mono FB.out.size))
    replace T := Lib.hid (T.out.on hb)
    replace Q := Lib.hid ((hb.block _ (blt Q.out)).trans Q.out)
    replace B1 := Lib.hid ((hb.block _ (blt B1.out)).trans B1.out)
    replace R1 := Lib.hid (R1.out.on hb)
    replace B2 := Lib.hid ((hb.block _ (blt B2.out)).trans B2.out)
    replace R2 := Lib.hid (R2.out.on hb)
    replace B4 := Lib.hid ((hb.block _ (blt B4.out)).trans B4.out)
    replace R4 := Lib.hid (R4.out.on hb)
    clear hb
    go_wp2_with fail
    go_ret
    exact ⟨rfl, FB.out⟩
  · have hne2 : (rc != 0) = true := by simp [hne]
    clear hA hne
    have hb0 := alloc_bel w (.cells #[.int .i64 t.kind, .int .i64 t.num, .slice ao t.sub.length cap] 24)
    have FB := Lib.hid hb0
    have T := Lib.hid (hr.on hb0)
    have Q := Lib.hid (heap_new w (.cells #[.int .i64 t.kind, .int .i64 t.num, .slice ao t.sub.length cap] 24) _ rfl)
    clear hb0 hr
    go_enter Try.func9, Try.ntmps9
    go_wp2_with fail
    refine (Swap_q HA.out T.out).mono ?_
    rintro e w1 ⟨k1, n1, ao1, m1, c1, rfl, hb, hr⟩
    obtain ⟨hb1, B1, R1, -⟩ := boxed hb hr
    clear hb hr
    replace FB := Lib.hid (FB.out.trans (hb1.mono FB.out.size))
    replace T := Lib.hid (T.out.on hb1)
    replace Q := Lib.hid ((hb1.block _ (blt Q.out)).trans Q.out)
    replace B1 := Lib.hid B1
    replace R1 := Lib.hid R1
    clear hb1
    obtain ⟨Q0, Q1, Q2, Qf, -⟩ := three Q.out
    go_wp2_with fail
    clear Q0 Q1 Q2 Qf
    refine (refSwap_q HA.out T.out).mono ?_
    rintro e w2 ⟨k2, n2, ao2, m2, c2, rfl, hb, hr⟩
    obtain ⟨hb2, B2, R2, -⟩ := boxed hb hr
    clear hb hr
    replace FB := Lib.hid (FB.out.trans (hb2.mono FB.out.size))
    replace T := Lib.hid (T.out.on hb2)
    replace Q := Lib.hid ((hb2.block _ (blt Q.out)).trans Q.out)
    replace B1 := Lib.hid ((hb2.block _ (blt B1.out)).trans B1.out)
    replace R1 := Lib.hid (R1.out.on hb2)
    replace B2 := Lib.hid B2
    replace R2 := Lib.hid R2
    clear hb2
    obtain ⟨B10, B11, B12, B1f, -⟩ := three B1.out
    go_wp2_with fail
    clear B10 B11 B12 B1f
    refine (same26_q _ R1.out R2.out).mono ?_
    rintro e w3 ⟨rfl, hb⟩
    replace FB := Lib.hid (FB.out.trans (hb.mono FB.out.size))
    replace T := Lib.hid (T.out.on hb)
    replace Q := Lib.hid ((hb.block _ (blt Q.out)).trans Q.out)
    replace B1 := Lib.hid ((hb.block _ (blt B1.out)).trans B1.out)
    replace R1 := Lib.hid (R1.out.on hb)
    replace B2 := Lib.hid ((hb.block _ (blt B2.out)).trans B2.out)
    replace R2 := Lib.hid (R2.out.on hb)
    clear hb
    go_wp2_with fail
    refine (awake27_w _).mono ?_
    rintro e w4 ⟨rfl, hb⟩
    replace FB := Lib.hid (FB.out.trans (hb.mono FB.out.size))
    replace T := Lib.hid (T.out.on hb)
    replace Q := Lib.hid ((hb.block _ (blt Q.out)).trans Q.out)
    replace B1 := Lib.hid ((hb.block _ (blt B1.out)).trans B1.out)
    replace R1 := Lib.hid (R1.out.on hb)
    replace B2 := Lib.hid ((hb.block _ (blt B2.out)).trans B2.out)
    replace R2 := Lib.hid (R2.out.on hb)
    clear hb
    go_wp2_with fail
    go_ret
    exact ⟨rfl, FB.out⟩
end Go.Proofs.Ythjlfjaciigfiaa
