/-
  SubstNames: the walk: it returns true and writes nothing that was there. No condition but that the arguments read as terms.
-/
import Derived.Test.YthjlfjaciigfiaaOpen9
namespace Go.Proofs.Ythjlfjaciigfiaa
open Go.RowKit
set_option linter.unusedVariables false
set_option linter.unusedSimpArgs false

set_option maxRecDepth 100000 in
set_option maxHeartbeats 4000000 in
theorem substNames_walk (v : Value) (t : Tm) (vx : Value) (x : Tm) (n : Int) (w : World) (hr : Rd (· < w.heap.size) w v t) (hx : Rd (· < w.heap.size) w vx x) (hn : (Lit.int .i64 n).wf = true) :
    Calls Try.prog 18 #[v, vx, .int .i64 n] w fun e w' => e = .returned (.bool true) ∧ Below w.heap.size w w' := by
  obtain ⟨ra, rc, hA⟩ : ∃ a c, namedR t x n = (a, c) := ⟨_, _, rfl⟩
  obtain ⟨rb, rd, hB⟩ : ∃ a c, bindR t n = (a, c) := ⟨_, _, rfl⟩
  obtain ⟨ro, re, hO⟩ : ∃ a c, manyR t [free n] = (a, c) := ⟨_, _, rfl⟩
  have hn2 : -9223372036854775808 ≤ n ∧ n ≤ 9223372036854775807 := by
    simp [Lit.wf, show IntKind.i64.min = -9223372036854775808 from rfl] at hn; exact hn
  have HN := Lib.hid hn2
  have HA := Lib.hid hA
  have HB := Lib.hid hB
  have HO := Lib.hid hO
  clear hA hB hO hn hn2
  obtain ⟨ot, cot, rfl⟩ := hr.shape
  obtain ⟨ox, cox, rfl⟩ := hx.shape
  obtain ⟨W, hW⟩ : ∃ W, W = (w.alloc (.cells #[.int .i64 t.kind, .int .i64 t.num, .slice ot t.sub.length cot] 24)).alloc (.cells #[.int .i64 x.kind, .int .i64 x.num, .slice ox x.sub.length cox] 24) := ⟨_, rfl⟩
  have hb0 : Below w.heap.size w W := by rw [hW]; exact (((Below.refl _ _).alloc (Nat.le_refl _) _).alloc (by simp only [World.size_alloc]; omega) _)
  have FB := Lib.hid hb0
  have Qt := Lib.hid (show W.heap[w.heap.size]? = some (.cells #[.int .i64 t.kind, .int .i64 t.num, .slice ot t.sub.length cot] 24) by rw [hW]; exact (Below.heap_alloc _ _ _ (by simp only [World.size_alloc]; omega)).trans (heap_new _ _ _ (by first | rfl | simp only [World.size_alloc])))
  have Tt := Lib.hid (hr.on hb0)
  clear hr
  have Qx := Lib.hid (show W.heap[w.heap.size + 1]? = some (.cells #[.int .i64 x.kind, .int .i64 x.num, .slice ox x.sub.length cox] 24) by rw [hW]; exact heap_new _ _ _ (by first | rfl | simp only [World.size_alloc]))
  have Tx := Lib.hid (hx.on hb0)
  clear hx
  have HW := Lib.hid hW
  clear hb0 hW
  go_enter Try.func18, Try.ntmps18
  go_wp2_with fail
  rw [← HW.out]
  refine (Named_q HA.out Tx.out Tt.out).mono ?_
  rintro e w1 ⟨k1, n1, ao1, m1, c1, rfl, hb, hr⟩
  obtain ⟨hb1, B1, R1, -⟩ := boxed hb hr
  clear hb hr
  replace FB := Lib.hid (FB.out.trans (hb1.mono FB.out.size))
  replace Qt := Lib.hid ((hb1.block _ (blt Qt.out)).trans Qt.out)
  replace Tt := Lib.hid (Tt.out.on hb1)
  replace Qx := Lib.hid ((hb1.block _ (blt Qx.out)).trans Qx.out)
  replace Tx := Lib.hid (Tx.out.on hb1)
  replace B1 := Lib.hid B1
  replace R1 := Lib.hid R1
  clear hb1
  obtain ⟨Qt0, Qt1, Qt2, Qtf, -⟩ := three Qt.out
  obtain ⟨Qx0, Qx1, Qx2, Qxf, -⟩ := three Qx.out
  go_wp2_with fail
  clear Qt0 Qt1 Qt2 Qtf Qx0 Qx1 Qx2 Qxf
  refine (refNamed_q HA.out Tx.out Tt.out).mono ?_
  rintro e w2 ⟨k2, n2, ao2, m2, c2, rfl, hb, hr⟩
  obtain ⟨hb2, B2, R2, -⟩ := boxed hb hr
  clear hb hr
  replace FB := Lib.hid (FB.out.trans (hb2.mono FB.out.size))
  replace Qt := Lib.hid ((hb2.block _ (blt Qt.out)).trans Qt.out)
  replace Tt := Lib.hid (Tt.out.on hb2)
  replace Qx := Lib.hid ((hb2.block _ (blt Qx.out)).trans Qx.out)
  replace Tx := Lib.hid (Tx.out.on hb2)
  replace B1 := Lib.hid ((hb2.block _ (blt B1.out)).trans B1.out)
  replace R1 := Lib.hid (R1.out.on hb2)
  replace B2 := Lib.hid B2
  replace R2 := Lib.hid R2
  clear hb2
  obtain ⟨Qt0, Qt1, Qt2, Qtf, -⟩ := three Qt.out
  go_wp2_with fail
  clear Qt0 Qt1 Qt2 Qtf
  refine (Bind_q HB.out Tt.out).mono ?_
  rintro e w3 ⟨k3, n3, ao3, m3, c3, rfl, hb, hr⟩
  obtain ⟨hb3, B3, R3, -⟩ := boxed hb hr
  clear hb hr
  replace FB := Lib.hid (FB.out.trans (hb3.mono FB.out.size))
  replace Qt := Lib.hid ((hb3.block _ (blt Qt.out)).trans Qt.out)
  replace Tt := Lib.hid (Tt.out.on hb3)
  replace Qx := Lib.hid ((hb3.block _ (blt Qx.out)).trans Qx.out)
  replace Tx := Lib.hid (Tx.out.on hb3)
  replace B1 := Lib.hid ((hb3.block _ (blt B1.out)).trans B1.out)
  replace R1 := Lib.hid (R1.out.on hb3)
  replace B2 := Lib.hid ((hb3.block _ (blt B2.out)).trans B2.out)
  replace R2 := Lib.hid (R2.out.on hb3)
  replace B3 := Lib.hid B3
  replace R3 := Lib.hid R3
  clear hb3
  obtain ⟨Qt0, Qt1, Qt2, Qtf, -⟩ := three Qt.out
  go_wp2_with fail
  clear Qt0 Qt1 Qt2 Qtf
  refine (refBind_q HB.out Tt.out).mono ?_
  rintro e w4 ⟨k4, n4, ao4, m4, c4, rfl, hb, hr⟩
  obtain ⟨hb4, B4, R4, -⟩ := boxed hb hr
  clear hb hr
  replace FB := Lib.hid (FB.out.trans (hb4.mono FB.out.size))
  replace Qt := Lib.hid ((hb4.block _ (blt Qt.out)).trans Qt.out)
  replace Tt := Lib.hid (Tt.out.on hb4)
  replace Qx := Lib.hid ((hb4.block _ (blt Qx.out)).trans Qx.out)
  replace Tx := Lib.hid (Tx.out.on hb4)
  replace B1 := Lib.hid ((hb4.block _ (blt B1.out)).trans B1.out)
  replace R1 := Lib.hid (R1.out.on hb4)
  replace B2 := Lib.hid ((hb4.block _ (blt B2.out)).trans B2.out)
  replace R2 := Lib.hid (R2.out.on hb4)
  replace B3 := Lib.hid ((hb4.block _ (blt B3.out)).trans B3.out)
  replace R3 := Lib.hid (R3.out.on hb4)
  replace B4 := Lib.hid B4
  replace R4 := Lib.hid R4
  clear hb4
  obtain ⟨Qt0, Qt1, Qt2, Qtf, -⟩ := three Qt.out
  go_wp2_with fail
  clear Qt0 Qt1 Qt2 Qtf
  refine (Open_q HO.out HN.out Tt.out).mono ?_
  rintro e w5 ⟨k5, n5, ao5, m5, c5, rfl, hb, hr⟩
  obtain ⟨hb5, B5, R5, -⟩ := boxed hb hr
  clear hb hr
  replace FB := Lib.hid (FB.out.trans (hb5.mono FB.out.size))
  replace Qt := Lib.hid ((hb5.block _ (blt Qt.out)).trans Qt.out)
  replace Tt := Lib.hid (Tt.out.on hb5)
  replace Qx := Lib.hid ((hb5.block _ (blt Qx.out)).trans Qx.out)
  replace Tx := Lib.hid (Tx.out.on hb5)
  replace B1 := Lib.hid ((hb5.block _ (blt B1.out)).trans B1.out)
  replace R1 := Lib.hid (R1.out.on hb5)
  replace B2 := Lib.hid ((hb5.block _ (blt B2.out)).trans B2.out)
  replace R2 := Lib.hid (R2.out.on hb5)
  replace B3 := Lib.hid ((hb5.block _ (blt B3.out)).trans B3.out)
  replace R3 := Lib.hid (R3.out.on hb5)
  replace B4 := Lib.hid ((hb5.block _ (blt B4.out)).trans B4.out)
  replace R4 := Lib.hid (R4.out.on hb5)
  replace B5 := Lib.hid B5
  replace R5 := Lib.hid R5
  clear hb5
  obtain ⟨Qt0, Qt1, Qt2, Qtf, -⟩ := three Qt.out
  go_wp2_with fail
  clear Qt0 Qt1 Qt2 Qtf
  have hal := alloc_bel (w5.alloc (.cells #[.int .i64 k5, .int .i64 n5, .slice ao5 m5 c5] 24)) (.cells #[.int .i64 8, .int .i64 n, .slice none 0 0] 24)
  replace FB := Lib.hid (FB.out.trans (hal.mono FB.out.size))
  replace Qt := Lib.hid ((hal.block _ (blt Qt.out)).trans Qt.out)
  replace Tt := Lib.hid (Tt.out.on hal)
  replace Qx := Lib.hid ((hal.block _ (blt Qx.out)).trans Qx.out)
  replace Tx := Lib.hid (Tx.out.on hal)
  replace B1 := Lib.hid ((hal.block _ (blt B1.out)).trans B1.out)
  replace R1 := Lib.hid (R1.out.on hal)
  replace B2 := Lib.hid ((hal.block _ (blt B2.out)).trans B2.out)
  replace R2 := Lib.hid (R2.out.on hal)
  replace B3 := Lib.hid ((hal.block _ (blt B3.out)).trans B3.out)
  replace R3 := Lib.hid (R3.out.on hal)
  replace B4 := Lib.hid ((hal.block _ (blt B4.out)).trans B4.out)
  replace R4 := Lib.hid (R4.out.on hal)
  replace B5 := Lib.hid ((hal.block _ (blt B5.out)).trans B5.out)
  replace R5 := Lib.hid (R5.out.on hal)
  have TF := Lib.hid (one_ts (t := free n) (heap_new (w5.alloc (.cells #[.int .i64 k5, .int .i64 n5, .slice ao5 m5 c5] 24)) (.cells #[.int .i64 8, .int .i64 n, .slice none 0 0] 24) (w5.heap.size + 1) (by simp only [World.size_alloc])) (Rd.leaf _ _ 8 n none 0 (Nat.zero_le _) (by omega) HN.out))
  clear hal
  refine (refMany9_q HO.out (by simp) TF.out Tt.out).mono ?_
  rintro e w6 ⟨k6, n6, ao6, m6, c6, rfl, hb, hr⟩
  obtain ⟨hb6, B6, R6, -⟩ := boxed hb hr
  clear hb hr
  replace FB := Lib.hid (FB.out.trans (hb6.mono FB.out.size))
  replace Qt := Lib.hid ((hb6.block _ (blt Qt.out)).trans Qt.out)
  replace Tt := Lib.hid (Tt.out.on hb6)
  replace Qx := Lib.hid ((hb6.block _ (blt Qx.out)).trans Qx.out)
  replace Tx := Lib.hid (Tx.out.on hb6)
  replace B1 := Lib.hid ((hb6.block _ (blt B1.out)).trans B1.out)
  replace R1 := Lib.hid (R1.out.on hb6)
  replace B2 := Lib.hid ((hb6.block _ (blt B2.out)).trans B2.out)
  replace R2 := Lib.hid (R2.out.on hb6)
  replace B3 := Lib.hid ((hb6.block _ (blt B3.out)).trans B3.out)
  replace R3 := Lib.hid (R3.out.on hb6)
  replace B4 := Lib.hid ((hb6.block _ (blt B4.out)).trans B4.out)
  replace R4 := Lib.hid (R4.out.on hb6)
  replace B5 := Lib.hid ((hb6.block _ (blt B5.out)).trans B5.out)
  replace R5 := Lib.hid (R5.out.on hb6)
  replace B6 := Lib.hid B6
  replace R6 := Lib.hid R6
  clear hb6
  obtain ⟨B10, B11, B12, B1f, -⟩ := three B1.out
  obtain ⟨B20, B21, B22, B2f, -⟩ := three B2.out
  go_wp2_with fail
  clear B10 B11 B12 B1f B20 B21 B22 B2f
  refine (same52_q _ R1.out R2.out).mono ?_
  rintro e w7 ⟨rfl, hb⟩
  replace FB := Lib.hid (FB.out.trans (hb.mono FB.out.size))
  replace Qt := Lib.hid ((hb.block _ (blt Qt.out)).trans Qt.out)
  replace Tt := Lib.hid (Tt.out.on hb)
  replace Qx := Lib.hid ((hb.block _ (blt Qx.out)).trans Qx.out)
  replace Tx := Lib.hid (Tx.out.on hb)
  replace B1 := Lib.hid ((hb.block _ (blt B1.out)).trans B1.out)
  replace R1 := Lib.hid (R1.out.on hb)
  replace B2 := Lib.hid ((hb.block _ (blt B2.out)).trans B2.out)
  replace R2 := Lib.hid (R2.out.on hb)
  replace B3 := Lib.hid ((hb.block _ (blt B3.out)).trans B3.out)
  replace R3 := Lib.hid (R3.out.on hb)
  replace B4 := Lib.hid ((hb.block _ (blt B4.out)).trans B4.out)
  replace R4 := Lib.hid (R4.out.on hb)
  replace B5 := Lib.hid ((hb.block _ (blt B5.out)).trans B5.out)
  replace R5 := Lib.hid (R5.out.on hb)
  replace B6 := Lib.hid ((hb.block _ (blt B6.out)).trans B6.out)
  replace R6 := Lib.hid (R6.out.on hb)
  clear hb
  obtain ⟨B30, B31, B32, B3f, -⟩ := three B3.out
  obtain ⟨B40, B41, B42, B4f, -⟩ := three B4.out
  go_wp2_with fail
  clear B30 B31 B32 B3f B40 B41 B42 B4f
  refine (same52_q _ R3.out R4.out).mono ?_
  rintro e w8 ⟨rfl, hb⟩
  replace FB := Lib.hid (FB.out.trans (hb.mono FB.out.size))
  replace Qt := Lib.hid ((hb.block _ (blt Qt.out)).trans Qt.out)
  replace Tt := Lib.hid (Tt.out.on hb)
  replace Qx := Lib.hid ((hb.block _ (blt Qx.out)).trans Qx.out)
  replace Tx := Lib.hid (Tx.out.on hb)
  replace B1 := Lib.hid ((hb.block _ (blt B1.out)).trans B1.out)
  replace R1 := Lib.hid (R1.out.on hb)
  replace B2 := Lib.hid ((hb.block _ (blt B2.out)).trans B2.out)
  replace R2 := Lib.hid (R2.out.on hb)
  replace B3 := Lib.hid ((hb.block _ (blt B3.out)).trans B3.out)
  replace R3 := Lib.hid (R3.out.on hb)
  replace B4 := Lib.hid ((hb.block _ (blt B4.out)).trans B4.out)
  replace R4 := Lib.hid (R4.out.on hb)
  replace B5 := Lib.hid ((hb.block _ (blt B5.out)).trans B5.out)
  replace R5 := Lib.hid (R5.out.on hb)
  replace B6 := Lib.hid ((hb.block _ (blt B6.out)).trans B6.out)
  replace R6 := Lib.hid (R6.out.on hb)
  clear hb
  obtain ⟨B50, B51, B52, B5f, -⟩ := three B5.out
  obtain ⟨B60, B61, B62, B6f, -⟩ := three B6.out
  go_wp2_with fail
  clear B50 B51 B52 B5f B60 B61 B62 B6f
  refine (same52_q _ R5.out R6.out).mono ?_
  rintro e w9 ⟨rfl, hb⟩
  replace FB := Lib.hid (FB.out.trans (hb.mono FB.out.size))
  replace Qt := Lib.hid ((hb.block _ (blt Qt.out)).trans Qt.out)
  replace Tt := Lib.hid (Tt.out.on hb)
  replace Qx := Lib.hid ((hb.block _ (blt Qx.out)).trans Qx.out)
  replace Tx := Lib.hid (Tx.out.on hb)
  replace B1 := Lib.hid ((hb.block _ (blt B1.out)).trans B1.out)
  replace R1 := Lib.hid (R1.out.on hb)
  replace B2 := Lib.hid ((hb.block _ (blt B2.out)).trans B2.out)
  replace R2 := Lib.hid (R2.out.on hb)
  replace B3 := Lib.hid ((hb.block _ (blt B3.out)).trans B3.out)
  replace R3 := Lib.hid (R3.out.on hb)
  replace B4 := Lib.hid ((hb.block _ (blt B4.out)).trans B4.out)
  replace R4 := Lib.hid (R4.out.on hb)
  replace B5 := Lib.hid ((hb.block _ (blt B5.out)).trans B5.out)
  replace R5 := Lib.hid (R5.out.on hb)
  replace B6 := Lib.hid ((hb.block _ (blt B6.out)).trans B6.out)
  replace R6 := Lib.hid (R6.out.on hb)
  clear hb
  go_wp2_with fail
  refine (awake49_w _).mono ?_
  rintro e w10 ⟨rfl, hb⟩
  replace FB := Lib.hid (FB.out.trans (hb.mono FB.out.size))
  replace Qt := Lib.hid ((hb.block _ (blt Qt.out)).trans Qt.out)
  replace Tt := Lib.hid (Tt.out.on hb)
  replace Qx := Lib.hid ((hb.block _ (blt Qx.out)).trans Qx.out)
  replace Tx := Lib.hid (Tx.out.on hb)
  replace B1 := Lib.hid ((hb.block _ (blt B1.out)).trans B1.out)
  replace R1 := Lib.hid (R1.out.on hb)
  replace B2 := Lib.hid ((hb.block _ (blt B2.out)).trans B2.out)
  replace R2 := Lib.hid (R2.out.on hb)
  replace B3 := Lib.hid ((hb.block _ (blt B3.out)).trans B3.out)
  replace R3 := Lib.hid (R3.out.on hb)
  replace B4 := Lib.hid ((hb.block _ (blt B4.out)).trans B4.out)
  replace R4 := Lib.hid (R4.out.on hb)
  replace B5 := Lib.hid ((hb.block _ (blt B5.out)).trans B5.out)
  replace R5 := Lib.hid (R5.out.on hb)
  replace B6 := Lib.hid ((hb.block _ (blt B6.out)).trans B6.out)
  replace R6 := Lib.hid (R6.out.on hb)
  clear hb
  go_wp2_with fail
  go_ret
  exact ⟨rfl, FB.out⟩
end Go.Proofs.Ythjlfjaciigfiaa
