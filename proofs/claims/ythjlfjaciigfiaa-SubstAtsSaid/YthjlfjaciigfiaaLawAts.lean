/-
  SubstAts: the walk: it returns true and writes nothing that was there. No condition but that the arguments read as terms.
-/
import Derived.Test.YthjlfjaciigfiaaOpen9
namespace Go.Proofs.Ythjlfjaciigfiaa
open Go.RowKit
set_option linter.unusedVariables false
set_option linter.unusedSimpArgs false

set_option maxRecDepth 100000 in
set_option maxHeartbeats 4000000 in
theorem substAts_walk (v : Value) (t : Tm) (vx : Value) (x : Tm) (n : Int) (w : World) (hr : Rd (· < w.heap.size) w v t) (hx : Rd (· < w.heap.size) w vx x) (hn : (Lit.int .i64 n).wf = true) :
    Calls Try.prog 15 #[v, vx, .int .i64 n] w fun e w' => e = .returned (.bool true) ∧ Below w.heap.size w w' := by
  obtain ⟨ra, rc, hA⟩ : ∃ a c, atR t x n = (a, c) := ⟨_, _, rfl⟩
  have HA := Lib.hid hA
  clear hA
  obtain ⟨ot, cot, rfl⟩ := hr.shape
  obtain ⟨ox, cox, rfl⟩ := hx.shape
  obtain ⟨W, hW⟩ : ∃ W, W = (w.alloc (.cells #[.int .i64 t.kind, .int .i64 t.num, .slice ot t.sub.length cot] 24)).alloc (.cells #[.int .i64 x.kind, .int .i64 x.num, .slice ox x.sub.length cox] 24) := ⟨_, rfl⟩
  have hb0 : Below w.heap.size w W := by rw [hW]; exact (((Below.refl _ _).alloc (Nat.le_refl _) _).alloc (by simp only [World.size_alloc]; omega) _)
  have FB := Lib.hid hb0
  have Qt := Lib.hid (show W.heap[w.heap.size]? = some (.cells #[.int .i64 t.kind, .int .i64 t.num, .slice ot t.sub.length cot] 24) by rw [hW]; exact (Below.heap_alloc _ _ _ (by simp only [World.size_alloc]; omega)).trans (heap_new _ _ _ (by first | rfl | simp only [World.size_alloc])))
  have Tt := Lib.hid (hr.on hb0)
  clear hr
  have Qx := Lib.hid (show W.heap[w.heap.size + 1]? = some (.cells #[.int .i64 x.kind, .int .i64 x.num, .slice ox x.sub.length cox] 24) by rw [hW]; exact heap_new _ _ _ (by first | rfl | simp only [World.size_alloc]))
  have Tx := Lib.hid (hx.on hb0)
  clear hx
  have HW := Lib.hid hW
  clear hb0 hW
  go_enter Try.func15, Try.ntmps15
  go_wp2_with fail
  rw [← HW.out]
  refine (At_q HA.out Tx.out Tt.out).mono ?_
  rintro e w1 ⟨k1, n1, ao1, m1, c1, rfl, hb, hr⟩
  obtain ⟨hb1, B1, R1, -⟩ := boxed hb hr
  clear hb hr
  replace FB := Lib.hid (FB.out.trans (hb1.mono FB.out.size))
  replace Qt := Lib.hid ((hb1.block _ (blt Qt.out)).trans Qt.out)
  replace Tt := Lib.hid (Tt.out.on hb1)
  replace Qx := Lib.hid ((hb1.block _ (blt Qx.out)).trans Qx.out)
  replace Tx := Lib.hid (Tx.out.on hb1)
  replace B1 := Lib.hid B1
  replace R1 := Lib.hid R1
  clear hb1
  obtain ⟨Qt0, Qt1, Qt2, Qtf, -⟩ := three Qt.out
  obtain ⟨Qx0, Qx1, Qx2, Qxf, -⟩ := three Qx.out
  go_wp2_with fail
  clear Qt0 Qt1 Qt2 Qtf Qx0 Qx1 Qx2 Qxf
  refine (refAt_q HA.out Tx.out Tt.out).mono ?_
  rintro e w2 ⟨k2, n2, ao2, m2, c2, rfl, hb, hr⟩
  obtain ⟨hb2, B2, R2, -⟩ := boxed hb hr
  clear hb hr
  replace FB := Lib.hid (FB.out.trans (hb2.mono FB.out.size))
  replace Qt := Lib.hid ((hb2.block _ (blt Qt.out)).trans Qt.out)
  replace Tt := Lib.hid (Tt.out.on hb2)
  replace Qx := Lib.hid ((hb2.block _ (blt Qx.out)).trans Qx.out)
  replace Tx := Lib.hid (Tx.out.on hb2)
  replace B1 := Lib.hid ((hb2.block _ (blt B1.out)).trans B1.out)
  replace R1 := Lib.hid (R1.out.on hb2)
  replace B2 := Lib.hid B2
  replace R2 := Lib.hid R2
  clear hb2
  obtain ⟨B10, B11, B12, B1f, -⟩ := three B1.out
  obtain ⟨B20, B21, B22, B2f, -⟩ := three B2.out
  go_wp2_with fail
  clear B10 B11 B12 B1f B20 B21 B22 B2f
  refine (same52_q _ R1.out R2.out).mono ?_
  rintro e w3 ⟨rfl, hb⟩
  replace FB := Lib.hid (FB.out.trans (hb.mono FB.out.size))
  replace Qt := Lib.hid ((hb.block _ (blt Qt.out)).trans Qt.out)
  replace Tt := Lib.hid (Tt.out.on hb)
  replace Qx := Lib.hid ((hb.block _ (blt Qx.out)).trans Qx.out)
  replace Tx := Lib.hid (Tx.out.on hb)
  replace B1 := Lib.hid ((hb.block _ (blt B1.out)).trans B1.out)
  replace R1 := Lib.hid (R1.out.on hb)
  replace B2 := Lib.hid ((hb.block _ (blt B2.out)).trans B2.out)
  replace R2 := Lib.hid (R2.out.on hb)
  clear hb
  go_wp2_with fail
  refine (awake49_w _).mono ?_
  rintro e w4 ⟨rfl, hb⟩
  replace FB := Lib.hid (FB.out.trans (hb.mono FB.out.size))
  replace Qt := Lib.hid ((hb.block _ (blt Qt.out)).trans Qt.out)
  replace Tt := Lib.hid (Tt.out.on hb)
  replace Qx := Lib.hid ((hb.block _ (blt Qx.out)).trans Qx.out)
  replace Tx := Lib.hid (Tx.out.on hb)
  replace B1 := Lib.hid ((hb.block _ (blt B1.out)).trans B1.out)
  replace R1 := Lib.hid (R1.out.on hb)
  replace B2 := Lib.hid ((hb.block _ (blt B2.out)).trans B2.out)
  replace R2 := Lib.hid (R2.out.on hb)
  clear hb
  go_wp2_with fail
  go_ret
  exact ⟨rfl, FB.out⟩
end Go.Proofs.Ythjlfjaciigfiaa
