/-
  SubstManies: the walk: it returns true and writes nothing that was there. No condition but that the arguments read as terms.
-/
import Derived.Test.YthjlfjaciigfiaaAwake9
import Derived.Test.YthjlfjaciigfiaaOrdT
namespace Go.Proofs.Ythjlfjaciigfiaa
open Go.RowKit
set_option linter.unusedVariables false
set_option linter.unusedSimpArgs false

set_option maxRecDepth 100000 in
set_option maxHeartbeats 4000000 in
theorem substManies_walk (v : Value) (t : Tm) (vl : Value) (l : List Tm) (w : World) (hr : Rd (· < w.heap.size) w v t) (hl : Ts (· < w.heap.size) w vl l) :
    Calls Try.prog 11 #[v, vl] w fun e w' => e = .returned (.bool true) ∧ Below w.heap.size w w' := by
  obtain ⟨ao, cap, rfl⟩ := hr.shape
  by_cases h20 : 20 < l.length
  · skip
    have hb0 := alloc_bel w (.cells #[.int .i64 t.kind, .int .i64 t.num, .slice ao t.sub.length cap] 24)
    have FB := Lib.hid hb0
    have T := Lib.hid (hr.on hb0)
    have TL := Lib.hid (hl.on hb0)
    have Q := Lib.hid (heap_new w (.cells #[.int .i64 t.kind, .int .i64 t.num, .slice ao t.sub.length cap] 24) _ rfl)
    obtain ⟨aol, capl, rfl, -⟩ := hl
    clear hb0 hr
    go_enter Try.func11, Try.ntmps11
    go_wp2_with fail
    refine (awake49_w _).mono ?_
    rintro e w1 ⟨rfl, hb⟩
    replace FB := Lib.hid (FB.out.trans (hb.mono FB.out.size))
    replace T := Lib.hid (T.out.on hb)
    replace TL := Lib.hid (TL.out.on hb)
    replace Q := Lib.hid ((hb.block _ (blt Q.out)).trans Q.out)
    clear hb
    go_wp2_with fail
    go_ret
    exact ⟨rfl, FB.out⟩
  obtain ⟨ra, rc, hA⟩ : ∃ a c, manyR t l = (a, c) := ⟨_, _, rfl⟩
  have HA := Lib.hid hA
  have hlen : l.length ≤ 1000000 := by omega
  clear hA
  by_cases h1 : l.length = 1
  · skip
    obtain ⟨x, hx⟩ : ∃ x, l = [x] := List.length_eq_one_iff.mp h1
    subst hx
    clear h1
    have hb0 := alloc_bel w (.cells #[.int .i64 t.kind, .int .i64 t.num, .slice ao t.sub.length cap] 24)
    have FB := Lib.hid hb0
    have T := Lib.hid (hr.on hb0)
    have TL := Lib.hid (hl.on hb0)
    have Q := Lib.hid (heap_new w (.cells #[.int .i64 t.kind, .int .i64 t.num, .slice ao t.sub.length cap] 24) _ rfl)
    obtain ⟨aol, capl, rfl, -⟩ := hl
    clear hb0 hr
    go_enter Try.func11, Try.ntmps11
    go_wp2_with fail
    refine (Many9_q HA.out hlen TL.out T.out).mono ?_
    rintro e w1 ⟨k1, n1, ao1, m1, c1, rfl, hb, hr⟩
    obtain ⟨hb1, B1, R1, -⟩ := boxed hb hr
    clear hb hr
    replace FB := Lib.hid (FB.out.trans (hb1.mono FB.out.size))
    replace T := Lib.hid (T.out.on hb1)
    replace TL := Lib.hid (TL.out.on hb1)
    replace Q := Lib.hid ((hb1.block _ (blt Q.out)).trans Q.out)
    replace B1 := Lib.hid B1
    replace R1 := Lib.hid R1
    clear hb1
    obtain ⟨Q0, Q1, Q2, Qf, -⟩ := three Q.out
    go_wp2_with fail
    clear Q0 Q1 Q2 Qf
    refine (refMany9_q HA.out hlen TL.out T.out).mono ?_
    rintro e w2 ⟨k2, n2, ao2, m2, c2, rfl, hb, hr⟩
    obtain ⟨hb2, B2, R2, -⟩ := boxed hb hr
    clear hb hr
    replace FB := Lib.hid (FB.out.trans (hb2.mono FB.out.size))
    replace T := Lib.hid (T.out.on hb2)
    replace TL := Lib.hid (TL.out.on hb2)
    replace Q := Lib.hid ((hb2.block _ (blt Q.out)).trans Q.out)
    replace B1 := Lib.hid ((hb2.block _ (blt B1.out)).trans B1.out)
    replace R1 := Lib.hid (R1.out.on hb2)
    replace B2 := Lib.hid B2
    replace R2 := Lib.hid R2
    clear hb2
    obtain ⟨B10, B11, B12, B1f, -⟩ := three B1.out
    obtain ⟨B20, B21, B22, B2f, -⟩ := three B2.out
    go_wp2_with fail
    clear B10 B11 B12 B1f B20 B21 B22 B2f
    refine (same52_q _ R1.out R2.out).mono ?_
    rintro e w3 ⟨rfl, hb⟩
    replace FB := Lib.hid (FB.out.trans (hb.mono FB.out.size))
    replace T := Lib.hid (T.out.on hb)
    replace TL := Lib.hid (TL.out.on hb)
    replace Q := Lib.hid ((hb.block _ (blt Q.out)).trans Q.out)
    replace B1 := Lib.hid ((hb.block _ (blt B1.out)).trans B1.out)
    replace R1 := Lib.hid (R1.out.on hb)
    replace B2 := Lib.hid ((hb.block _ (blt B2.out)).trans B2.out)
    replace R2 := Lib.hid (R2.out.on hb)
    clear hb
    obtain ⟨Q0, Q1, Q2, Qf, -⟩ := three Q.out
    have Qb := blt Q.out
    have hTL := TL.out
    obtain ⟨ael, cel, hael, hel1, -, hel⟩ := hTL.elem
    injection hael with hael1 hael2 hael3
    subst hael1; subst hael3
    obtain ⟨be, off, k0, n0, ao0, m0, c0, rfl, hPb, e0, e1, e2, hrd⟩ := hel 0 (by simp)
    rw [Nat.zero_mul, Nat.add_zero] at e0 e1 e2
    have HRD := Lib.hid hrd
    clear hel hTL hrd
    go_wp2_with fail
    clear hael2
    have hdr : Below w3.heap.size w3 w3.drew := below_drewN (Below.refl _ _) 1
    refine wp_region_tree (.one 0 true (.one 1 true (.one 2 true (.one 3 true (.two 4 (.rest [(5, true), (6, true), (7, true), (8, false), (9, false), (10, false)]) 8 (.rest [(4, false), (5, true), (6, true), (7, true), (9, false), (10, false)])))))) (fun w' => w'.cell? ⟨w.heap.size, 0, none⟩ = some (.int .i64 t.kind) ∧ w'.cell? ⟨w.heap.size, 1, none⟩ = some (.int .i64 t.num) ∧ w'.cell? ⟨w.heap.size, 2, none⟩ = some (.slice ao t.sub.length cap) ∧ w'.cell? ⟨be, off, none⟩ = some (.int .i64 k0) ∧ w'.cell? ⟨be, off + 1, none⟩ = some (.int .i64 n0) ∧ w'.cell? ⟨be, off + 2, none⟩ = some (.slice ao0 m0 c0)) (by kernel_rfl) (by kernel_rfl) ⟨Q0, Q1, Q2, e0, e1, e2⟩ (fun hHeld => ?_)
    simp only [pickR, pickT, opIn, List.getElem?_cons_zero, List.getElem?_cons_succ, Option.getD_some]
    repeat (refine wpR_take (v := ?_) (by rfl) (fun w' hSw => ?_) ?_; rotate_left; (go_simp; with_reducible rfl); simp only [Act.put, List.setIfInBounds_toArray, List.set_cons_zero, List.set_cons_succ])
    refine wpR_two ?_ ?_
    · skip
      have hcon := One_q HA.out (HRD.out.on hdr) (T.out.on hdr)
      have HCON := Lib.hid hcon
      clear hcon
      refine wpR_do (fun K hK => ?_)
      go_simp
      refine HCON.out.mono ?_
      rintro e w4 ⟨k4, n4, ao4, m4, c4, rfl, hb, hr⟩
      have hb' := hdr.trans (hb.mono hdr.size)
      refine hK.out _ _ ⟨((hb').cell (p := ⟨w.heap.size, 0, none⟩) (by first | exact Qb | (show _ < w3.heap.size; exact Qb))).trans Q0, ((hb').cell (p := ⟨w.heap.size, 1, none⟩) (by first | exact Qb | (show _ < w3.heap.size; exact Qb))).trans Q1, ((hb').cell (p := ⟨w.heap.size, 2, none⟩) (by first | exact Qb | (show _ < w3.heap.size; exact Qb))).trans Q2, ((hb').cell (p := ⟨be, off, none⟩) (by first | exact hPb | (show _ < w3.heap.size; exact hPb))).trans e0, ((hb').cell (p := ⟨be, off + 1, none⟩) (by first | exact hPb | (show _ < w3.heap.size; exact hPb))).trans e1, ((hb').cell (p := ⟨be, off + 2, none⟩) (by first | exact hPb | (show _ < w3.heap.size; exact hPb))).trans e2⟩ (fun hHeld => ?_)
      clear hK K
      refine wpR_rest ?_
      repeat (refine wpT_take (v := ?_) (by rfl) (fun w' hSw => ?_) ?_; rotate_left; (go_simp; with_reducible rfl); simp only [Act.put, List.setIfInBounds_toArray, List.set_cons_zero, List.set_cons_succ])
      have hal := alloc_bel w4 (.cells #[.int .i64 0, .int .i64 0, .slice none 0 0] 24)
      have hbA := hb'.trans (hal.mono hb'.size)
      have hx := heap_new w4 (.cells #[.int .i64 0, .int .i64 0, .slice none 0 0] 24) _ rfl
      have hXl : w3.heap.size ≤ w4.heap.size := hb'.size
      have hrX := hr.keep (w' := w4.alloc (.cells #[.int .i64 0, .int .i64 0, .slice none 0 0] 24)) (P' := fun q => q ≠ w4.heap.size ∧ q < (w4.alloc (.cells #[.int .i64 0, .int .i64 0, .slice none 0 0] 24)).heap.size) (fun q hq => ⟨Nat.ne_of_lt hq.2, Nat.lt_of_lt_of_le hq.2 hal.size⟩) fun q hq => hal.block q hq.2
      refine wpT_do (fun K hK => ?_)
      go_simp
      clear hal hb' hb hr HCON
      generalize w4.alloc (.cells #[.int .i64 0, .int .i64 0, .slice none 0 0] 24) = wA at hbA hx hrX ⊢
      refine hK.out _ _ ⟨((hbA).cell (p := ⟨w.heap.size, 0, none⟩) (by first | exact Qb | (show _ < w3.heap.size; exact Qb))).trans Q0, ((hbA).cell (p := ⟨w.heap.size, 1, none⟩) (by first | exact Qb | (show _ < w3.heap.size; exact Qb))).trans Q1, ((hbA).cell (p := ⟨w.heap.size, 2, none⟩) (by first | exact Qb | (show _ < w3.heap.size; exact Qb))).trans Q2, ((hbA).cell (p := ⟨be, off, none⟩) (by first | exact hPb | (show _ < w3.heap.size; exact hPb))).trans e0, ((hbA).cell (p := ⟨be, off + 1, none⟩) (by first | exact hPb | (show _ < w3.heap.size; exact hPb))).trans e1, ((hbA).cell (p := ⟨be, off + 2, none⟩) (by first | exact hPb | (show _ < w3.heap.size; exact hPb))).trans e2⟩ (fun hHeld => ?_)
      clear hK K hHeld
      obtain ⟨x0, x1, x2, xf, xl⟩ := three hx
      have xf0 := xf 0
      have xf1 := xf 1
      have xf2 := xf 2
      obtain ⟨hbS, hxS, hrS⟩ := put3 (a := .int .i64 k4) (b := .int .i64 n4) (c := .slice ao4 m4 c4) hbA hx hXl
      have hr4 := hrS _ _ hrX
      refine wpT_do (fun K hK => ?_)
      go_simp
      clear x0 x1 x2 xf xf0 xf1 xf2 xl hrS hbA hx hrX
      generalize (((wA).setCell ⟨w4.heap.size, 0, none⟩ (.int .i64 k4)).setCell ⟨w4.heap.size, 1, none⟩ (.int .i64 n4)).setCell ⟨w4.heap.size, 2, none⟩ (.slice ao4 m4 c4) = wS at hbS hxS hr4 ⊢
      refine hK.out _ _ ⟨((hbS).cell (p := ⟨w.heap.size, 0, none⟩) (by first | exact Qb | (show _ < w3.heap.size; exact Qb))).trans Q0, ((hbS).cell (p := ⟨w.heap.size, 1, none⟩) (by first | exact Qb | (show _ < w3.heap.size; exact Qb))).trans Q1, ((hbS).cell (p := ⟨w.heap.size, 2, none⟩) (by first | exact Qb | (show _ < w3.heap.size; exact Qb))).trans Q2, ((hbS).cell (p := ⟨be, off, none⟩) (by first | exact hPb | (show _ < w3.heap.size; exact hPb))).trans e0, ((hbS).cell (p := ⟨be, off + 1, none⟩) (by first | exact hPb | (show _ < w3.heap.size; exact hPb))).trans e1, ((hbS).cell (p := ⟨be, off + 2, none⟩) (by first | exact hPb | (show _ < w3.heap.size; exact hPb))).trans e2⟩ (fun hHeld => ?_)
      clear hK K hHeld
      refine wpT_last (fun K hK => ?_)
      go_simp
      refine hK.out _ _ ?_
      clear hK K
      generalize w4.heap.size = X4 at hxS hXl ⊢
      have R4 := Lib.hid hr4
      have B4 := Lib.hid hxS
      clear hr4 hxS hXl hdr
      clear Q0 Q1 Q2 e0 e1 e2
      replace FB := Lib.hid (FB.out.trans (hbS.mono FB.out.size))
      replace T := Lib.hid (T.out.on hbS)
      replace TL := Lib.hid (TL.out.on hbS)
      replace Q := Lib.hid ((hbS.block _ (blt Q.out)).trans Q.out)
      replace B1 := Lib.hid ((hbS.block _ (blt B1.out)).trans B1.out)
      replace R1 := Lib.hid (R1.out.on hbS)
      replace B2 := Lib.hid ((hbS.block _ (blt B2.out)).trans B2.out)
      replace R2 := Lib.hid (R2.out.on hbS)
      clear hbS
      clear Qf Qb hPb HRD
      obtain ⟨B40, B41, B42, B4f, -⟩ := three B4.out
      obtain ⟨B20, B21, B22, B2f, -⟩ := three B2.out
      go_wp2_with fail
      clear B40 B41 B42 B4f B20 B21 B22 B2f
      refine (same52_q _ R4.out R2.out).mono ?_
      rintro e w5 ⟨rfl, hb⟩
      replace FB := Lib.hid (FB.out.trans (hb.mono FB.out.size))
      replace T := Lib.hid (T.out.on hb)
      replace TL := Lib.hid (TL.out.on hb)
      replace Q := Lib.hid ((hb.block _ (blt Q.out)).trans Q.out)
      replace B1 := Lib.hid ((hb.block _ (blt B1.out)).trans B1.out)
      replace R1 := Lib.hid (R1.out.on hb)
      replace B2 := Lib.hid ((hb.block _ (blt B2.out)).trans B2.out)
      replace R2 := Lib.hid (R2.out.on hb)
      replace B4 := Lib.hid ((hb.block _ (blt B4.out)).trans B4.out)
      replace R4 := Lib.hid (R4.out.on hb)
      clear hb
      go_wp2_with fail
      refine (awake49_w _).mono ?_
      rintro e w6 ⟨rfl, hb⟩
      replace FB := Lib.hid (FB.out.trans (hb.mono FB.out.size))
      replace T := Lib.hid (T.out.on hb)
      replace TL := Lib.hid (TL.out.on hb)
      replace Q := Lib.hid ((hb.block _ (blt Q.out)).trans Q.out)
      replace B1 := Lib.hid ((hb.block _ (blt B1.out)).trans B1.out)
      replace R1 := Lib.hid (R1.out.on hb)
      replace B2 := Lib.hid ((hb.block _ (blt B2.out)).trans B2.out)
      replace R2 := Lib.hid (R2.out.on hb)
      replace B4 := Lib.hid ((hb.block _ (blt B4.out)).trans B4.out)
      replace R4 := Lib.hid (R4.out.on hb)
      clear hb
      go_wp2_with fail
      go_ret
      exact ⟨rfl, FB.out⟩
    · skip
      have hal : Below w3.heap.size w3 (w3.alloc (.cells #[.int .i64 0, .int .i64 0, .slice none 0 0] 24)).drew := below_drewN (alloc_bel w3 (.cells #[.int .i64 0, .int .i64 0, .slice none 0 0] 24)) 1
      have hx0 : (w3.alloc (.cells #[.int .i64 0, .int .i64 0, .slice none 0 0] 24)).drew.heap[w3.heap.size]? = some (.cells #[.int .i64 0, .int .i64 0, .slice none 0 0] 24) := heap_new w3 (.cells #[.int .i64 0, .int .i64 0, .slice none 0 0] 24) _ rfl
      have hcon := One_q HA.out (HRD.out.on hal) (T.out.on hal)
      have HCON := Lib.hid hcon
      clear hcon
      refine wpR_do (fun K hK => ?_)
      go_simp
      refine hK.out _ _ ⟨((hal).cell (p := ⟨w.heap.size, 0, none⟩) (by first | exact Qb | (show _ < w3.heap.size; exact Qb))).trans Q0, ((hal).cell (p := ⟨w.heap.size, 1, none⟩) (by first | exact Qb | (show _ < w3.heap.size; exact Qb))).trans Q1, ((hal).cell (p := ⟨w.heap.size, 2, none⟩) (by first | exact Qb | (show _ < w3.heap.size; exact Qb))).trans Q2, ((hal).cell (p := ⟨be, off, none⟩) (by first | exact hPb | (show _ < w3.heap.size; exact hPb))).trans e0, ((hal).cell (p := ⟨be, off + 1, none⟩) (by first | exact hPb | (show _ < w3.heap.size; exact hPb))).trans e1, ((hal).cell (p := ⟨be, off + 2, none⟩) (by first | exact hPb | (show _ < w3.heap.size; exact hPb))).trans e2⟩ (fun hHeld => ?_)
      clear hK K hHeld
      refine wpR_rest ?_
      refine wpT_do (fun K hK => ?_)
      go_simp
      refine HCON.out.mono ?_
      rintro e w4 ⟨k4, n4, ao4, m4, c4, rfl, hb, hr⟩
      have hbA := hal.trans (hb.mono hal.size)
      have hx := (hb.block _ (blt hx0)).trans hx0
      have hXl : w3.heap.size ≤ w3.heap.size := Nat.le_refl _
      have hrX := hr.keep (P' := fun q => q ≠ w3.heap.size ∧ q < w4.heap.size) (fun q hq => ⟨by have h1 := hq.1; have h2 := blt hx0; omega, hq.2⟩) fun _ _ => rfl
      refine hK.out _ _ ⟨((hbA).cell (p := ⟨w.heap.size, 0, none⟩) (by first | exact Qb | (show _ < w3.heap.size; exact Qb))).trans Q0, ((hbA).cell (p := ⟨w.heap.size, 1, none⟩) (by first | exact Qb | (show _ < w3.heap.size; exact Qb))).trans Q1, ((hbA).cell (p := ⟨w.heap.size, 2, none⟩) (by first | exact Qb | (show _ < w3.heap.size; exact Qb))).trans Q2, ((hbA).cell (p := ⟨be, off, none⟩) (by first | exact hPb | (show _ < w3.heap.size; exact hPb))).trans e0, ((hbA).cell (p := ⟨be, off + 1, none⟩) (by first | exact hPb | (show _ < w3.heap.size; exact hPb))).trans e1, ((hbA).cell (p := ⟨be, off + 2, none⟩) (by first | exact hPb | (show _ < w3.heap.size; exact hPb))).trans e2⟩ (fun hHeld => ?_)
      clear hK K hHeld hal hb hr HCON hx0
      repeat (refine wpT_take (v := ?_) (by rfl) (fun w' hSw => ?_) ?_; rotate_left; (go_simp; with_reducible rfl); simp only [Act.put, List.setIfInBounds_toArray, List.set_cons_zero, List.set_cons_succ])
      obtain ⟨x0, x1, x2, xf, xl⟩ := three hx
      have xf0 := xf 0
      have xf1 := xf 1
      have xf2 := xf 2
      obtain ⟨hbS, hxS, hrS⟩ := put3 (a := .int .i64 k4) (b := .int .i64 n4) (c := .slice ao4 m4 c4) hbA hx hXl
      have hr4 := hrS _ _ hrX
      refine wpT_do (fun K hK => ?_)
      go_simp
      clear x0 x1 x2 xf xf0 xf1 xf2 xl hrS hbA hx hrX
      generalize (((w4).setCell ⟨w3.heap.size, 0, none⟩ (.int .i64 k4)).setCell ⟨w3.heap.size, 1, none⟩ (.int .i64 n4)).setCell ⟨w3.heap.size, 2, none⟩ (.slice ao4 m4 c4) = wS at hbS hxS hr4 ⊢
      refine hK.out _ _ ⟨((hbS).cell (p := ⟨w.heap.size, 0, none⟩) (by first | exact Qb | (show _ < w3.heap.size; exact Qb))).trans Q0, ((hbS).cell (p := ⟨w.heap.size, 1, none⟩) (by first | exact Qb | (show _ < w3.heap.size; exact Qb))).trans Q1, ((hbS).cell (p := ⟨w.heap.size, 2, none⟩) (by first | exact Qb | (show _ < w3.heap.size; exact Qb))).trans Q2, ((hbS).cell (p := ⟨be, off, none⟩) (by first | exact hPb | (show _ < w3.heap.size; exact hPb))).trans e0, ((hbS).cell (p := ⟨be, off + 1, none⟩) (by first | exact hPb | (show _ < w3.heap.size; exact hPb))).trans e1, ((hbS).cell (p := ⟨be, off + 2, none⟩) (by first | exact hPb | (show _ < w3.heap.size; exact hPb))).trans e2⟩ (fun hHeld => ?_)
      clear hK K hHeld
      refine wpT_last (fun K hK => ?_)
      go_simp
      refine hK.out _ _ ?_
      clear hK K
      generalize w3.heap.size = X4 at hxS hXl ⊢
      have R4 := Lib.hid hr4
      have B4 := Lib.hid hxS
      clear hr4 hxS hXl hdr
      clear Q0 Q1 Q2 e0 e1 e2
      replace FB := Lib.hid (FB.out.trans (hbS.mono FB.out.size))
      replace T := Lib.hid (T.out.on hbS)
      replace TL := Lib.hid (TL.out.on hbS)
      replace Q := Lib.hid ((hbS.block _ (blt Q.out)).trans Q.out)
      replace B1 := Lib.hid ((hbS.block _ (blt B1.out)).trans B1.out)
      replace R1 := Lib.hid (R1.out.on hbS)
      replace B2 := Lib.hid ((hbS.block _ (blt B2.out)).trans B2.out)
      replace R2 := Lib.hid (R2.out.on hbS)
      clear hbS
      clear Qf Qb hPb HRD
      obtain ⟨B40, B41, B42, B4f, -⟩ := three B4.out
      obtain ⟨B20, B21, B22, B2f, -⟩ := three B2.out
      go_wp2_with fail
      clear B40 B41 B42 B4f B20 B21 B22 B2f
      refine (same52_q _ R4.out R2.out).mono ?_
      rintro e w5 ⟨rfl, hb⟩
      replace FB := Lib.hid (FB.out.trans (hb.mono FB.out.size))
      replace T := Lib.hid (T.out.on hb)
      replace TL := Lib.hid (TL.out.on hb)
      replace Q := Lib.hid ((hb.block _ (blt Q.out)).trans Q.out)
      replace B1 := Lib.hid ((hb.block _ (blt B1.out)).trans B1.out)
      replace R1 := Lib.hid (R1.out.on hb)
      replace B2 := Lib.hid ((hb.block _ (blt B2.out)).trans B2.out)
      replace R2 := Lib.hid (R2.out.on hb)
      replace B4 := Lib.hid ((hb.block _ (blt B4.out)).trans B4.out)
      replace R4 := Lib.hid (R4.out.on hb)
      clear hb
      go_wp2_with fail
      refine (awake49_w _).mono ?_
      rintro e w6 ⟨rfl, hb⟩
      replace FB := Lib.hid (FB.out.trans (hb.mono FB.out.size))
      replace T := Lib.hid (T.out.on hb)
      replace TL := Lib.hid (TL.out.on hb)
      replace Q := Lib.hid ((hb.block _ (blt Q.out)).trans Q.out)
      replace B1 := Lib.hid ((hb.block _ (blt B1.out)).trans B1.out)
      replace R1 := Lib.hid (R1.out.on hb)
      replace B2 := Lib.hid ((hb.block _ (blt B2.out)).trans B2.out)
      replace R2 := Lib.hid (R2.out.on hb)
      replace B4 := Lib.hid ((hb.block _ (blt B4.out)).trans B4.out)
      replace R4 := Lib.hid (R4.out.on hb)
      clear hb
      go_wp2_with fail
      go_ret
      exact ⟨rfl, FB.out⟩
  have hb0 := alloc_bel w (.cells #[.int .i64 t.kind, .int .i64 t.num, .slice ao t.sub.length cap] 24)
  have FB := Lib.hid hb0
  have T := Lib.hid (hr.on hb0)
  have TL := Lib.hid (hl.on hb0)
  have Q := Lib.hid (heap_new w (.cells #[.int .i64 t.kind, .int .i64 t.num, .slice ao t.sub.length cap] 24) _ rfl)
  obtain ⟨aol, capl, rfl, -⟩ := hl
  clear hb0 hr
  go_enter Try.func11, Try.ntmps11
  go_wp2_with fail
  refine (Many9_q HA.out hlen TL.out T.out).mono ?_
  rintro e w1 ⟨k1, n1, ao1, m1, c1, rfl, hb, hr⟩
  obtain ⟨hb1, B1, R1, -⟩ := boxed hb hr
  clear hb hr
  replace FB := Lib.hid (FB.out.trans (hb1.mono FB.out.size))
  replace T := Lib.hid (T.out.on hb1)
  replace TL := Lib.hid (TL.out.on hb1)
  replace Q := Lib.hid ((hb1.block _ (blt Q.out)).trans Q.out)
  replace B1 := Lib.hid B1
  replace R1 := Lib.hid R1
  clear hb1
  obtain ⟨Q0, Q1, Q2, Qf, -⟩ := three Q.out
  go_wp2_with fail
  clear Q0 Q1 Q2 Qf
  refine (refMany9_q HA.out hlen TL.out T.out).mono ?_
  rintro e w2 ⟨k2, n2, ao2, m2, c2, rfl, hb, hr⟩
  obtain ⟨hb2, B2, R2, -⟩ := boxed hb hr
  clear hb hr
  replace FB := Lib.hid (FB.out.trans (hb2.mono FB.out.size))
  replace T := Lib.hid (T.out.on hb2)
  replace TL := Lib.hid (TL.out.on hb2)
  replace Q := Lib.hid ((hb2.block _ (blt Q.out)).trans Q.out)
  replace B1 := Lib.hid ((hb2.block _ (blt B1.out)).trans B1.out)
  replace R1 := Lib.hid (R1.out.on hb2)
  replace B2 := Lib.hid B2
  replace R2 := Lib.hid R2
  clear hb2
  obtain ⟨B10, B11, B12, B1f, -⟩ := three B1.out
  obtain ⟨B20, B21, B22, B2f, -⟩ := three B2.out
  go_wp2_with fail
  clear B10 B11 B12 B1f B20 B21 B22 B2f
  refine (same52_q _ R1.out R2.out).mono ?_
  rintro e w3 ⟨rfl, hb⟩
  replace FB := Lib.hid (FB.out.trans (hb.mono FB.out.size))
  replace T := Lib.hid (T.out.on hb)
  replace TL := Lib.hid (TL.out.on hb)
  replace Q := Lib.hid ((hb.block _ (blt Q.out)).trans Q.out)
  replace B1 := Lib.hid ((hb.block _ (blt B1.out)).trans B1.out)
  replace R1 := Lib.hid (R1.out.on hb)
  replace B2 := Lib.hid ((hb.block _ (blt B2.out)).trans B2.out)
  replace R2 := Lib.hid (R2.out.on hb)
  clear hb
  go_wp2_with fail
  refine (awake49_w _).mono ?_
  rintro e w4 ⟨rfl, hb⟩
  replace FB := Lib.hid (FB.out.trans (hb.mono FB.out.size))
  replace T := Lib.hid (T.out.on hb)
  replace TL := Lib.hid (TL.out.on hb)
  replace Q := Lib.hid ((hb.block _ (blt Q.out)).trans Q.out)
  replace B1 := Lib.hid ((hb.block _ (blt B1.out)).trans B1.out)
  replace R1 := Lib.hid (R1.out.on hb)
  replace B2 := Lib.hid ((hb.block _ (blt B2.out)).trans B2.out)
  replace R2 := Lib.hid (R2.out.on hb)
  clear hb
  go_wp2_with fail
  go_ret
  exact ⟨rfl, FB.out⟩
end Go.Proofs.Ythjlfjaciigfiaa
