/-
  TeleTypes: the walk: it returns true and writes nothing that was there. No condition but that the arguments read as terms.
-/
import Derived.Test.YthjlfjaciigfiaaTypes
import Derived.Test.YthjlfjaciigfiaaOrdT
import Derived.Test.YthjlfjaciigfiaaAwake10
namespace Go.Proofs.Ythjlfjaciigfiaa
open Go.RowKit
set_option linter.unusedVariables false
set_option linter.unusedSimpArgs false

theorem typesR_ok {ts l : List Tm} (he : ts.length = l.length) (h : firstI (fillI l) 0 ts = 0) : typesR ts l = (ts.mapIdx fun i t => (fillI l i t).1, 0) := by unfold typesR allI; rw [if_pos he, if_pos h]
theorem typesR_no {ts l : List Tm} (he : ts.length = l.length) (h : firstI (fillI l) 0 ts ≠ 0) : typesR ts l = ([], firstI (fillI l) 0 ts) := by unfold typesR allI; rw [if_pos he, if_neg h]
set_option maxRecDepth 100000 in
set_option maxHeartbeats 4000000 in
theorem teleTypes_walk (vts : Value) (ts : List Tm) (vl : Value) (l : List Tm) (v : Value) (t : Tm) (w : World) (hts : Ts (· < w.heap.size) w vts ts) (hl : Ts (· < w.heap.size) w vl l) (hr : Rd (· < w.heap.size) w v t) :
    Calls Try.prog 21 #[vts, vl, v] w fun e w' => e = .returned (.bool true) ∧ Below w.heap.size w w' := by
  obtain ⟨ao, cap, rfl⟩ := hr.shape
  have hb0 := alloc_bel w (.cells #[.int .i64 t.kind, .int .i64 t.num, .slice ao t.sub.length cap] 24)
  have FB := Lib.hid hb0
  have T := Lib.hid (hr.on hb0)
  have Q := Lib.hid (heap_new w (.cells #[.int .i64 t.kind, .int .i64 t.num, .slice ao t.sub.length cap] 24) _ rfl)
  have TS := Lib.hid (hts.on hb0)
  have TL := Lib.hid (hl.on hb0)
  obtain ⟨aot, capt, rfl, hlt, hlt2, he⟩ := hts.elem
  obtain ⟨aol, capl, rfl, hlc, hlc2, -⟩ := hl.elem
  have HE := Lib.hid he
  clear hts hl he hb0 hr
  by_cases h20 : 20 < ts.length
  · skip
    go_enter Try.func21, Try.ntmps21
    go_wp2_with fail
    refine (awake35_w _).mono ?_
    rintro e w1 ⟨rfl, hb⟩
    replace FB := Lib.hid (FB.out.trans (hb.mono FB.out.size))
    replace TS := Lib.hid (TS.out.on hb)
    replace TL := Lib.hid (TL.out.on hb)
    replace T := Lib.hid (T.out.on hb)
    replace Q := Lib.hid ((hb.block _ (blt Q.out)).trans Q.out)
    clear hb
    go_wp2_with fail
    go_ret
    exact ⟨rfl, FB.out⟩
  have hdb : decide ((20 : Int) < (ts.length : Int)) = false := by simp; omega
  by_cases h21 : 20 < l.length
  · skip
    go_enter Try.func21, Try.ntmps21
    go_wp2_with fail
    refine (awake35_w _).mono ?_
    rintro e w1 ⟨rfl, hb⟩
    replace FB := Lib.hid (FB.out.trans (hb.mono FB.out.size))
    replace TS := Lib.hid (TS.out.on hb)
    replace TL := Lib.hid (TL.out.on hb)
    replace T := Lib.hid (T.out.on hb)
    replace Q := Lib.hid ((hb.block _ (blt Q.out)).trans Q.out)
    clear hb
    go_wp2_with fail
    go_ret
    exact ⟨rfl, FB.out⟩
  have hdb2 : decide ((20 : Int) < (l.length : Int)) = false := by simp; omega
  have hlt20 : ts.length ≤ 20 := by omega
  have hll20 : l.length ≤ 20 := by omega
  obtain ⟨fx, fc, hF⟩ : ∃ x c, manyR t l.reverse = (x, c) := ⟨_, _, rfl⟩
  have HF := Lib.hid hF
  clear h20 h21 hF
  by_cases hee : ts.length = l.length
  rotate_left
  · skip
    have e : typesR ts l = ([], 5) := by unfold typesR; rw [if_neg hee]
    have HR := Lib.hid e
    have hnn : ((ts.length : Int) != (l.length : Int)) = true := by simp; omega
    have HEE := Lib.hid hee
    clear e hee
    go_enter Try.func21, Try.ntmps21
    go_wp2_with fail
    refine (Fill_q HF.out (by omega) TL.out T.out).mono ?_
    rintro e w1 ⟨k1, n1, ao1, m1, c1, rfl, hb, hr⟩
    obtain ⟨hb1, B1, R1, -⟩ := boxed hb hr
    clear hb hr
    replace FB := Lib.hid (FB.out.trans (hb1.mono FB.out.size))
    replace TS := Lib.hid (TS.out.on hb1)
    replace TL := Lib.hid (TL.out.on hb1)
    replace T := Lib.hid (T.out.on hb1)
    replace Q := Lib.hid ((hb1.block _ (blt Q.out)).trans Q.out)
    replace B1 := Lib.hid B1
    replace R1 := Lib.hid R1
    clear hb1
    obtain ⟨Q0, Q1, Q2, Qf, -⟩ := three Q.out
    go_wp2_with fail
    clear Q0 Q1 Q2 Qf
    refine (refFill_q HF.out (by omega) TL.out T.out).mono ?_
    rintro e w2 ⟨k2, n2, ao2, m2, c2, rfl, hb, hr⟩
    obtain ⟨hb2, B2, R2, -⟩ := boxed hb hr
    clear hb hr
    replace FB := Lib.hid (FB.out.trans (hb2.mono FB.out.size))
    replace TS := Lib.hid (TS.out.on hb2)
    replace TL := Lib.hid (TL.out.on hb2)
    replace T := Lib.hid (T.out.on hb2)
    replace Q := Lib.hid ((hb2.block _ (blt Q.out)).trans Q.out)
    replace B1 := Lib.hid ((hb2.block _ (blt B1.out)).trans B1.out)
    replace R1 := Lib.hid (R1.out.on hb2)
    replace B2 := Lib.hid B2
    replace R2 := Lib.hid R2
    clear hb2
    obtain ⟨B10, B11, B12, B1f, -⟩ := three B1.out
    obtain ⟨B20, B21, B22, B2f, -⟩ := three B2.out
    go_wp2_with fail
    clear B10 B11 B12 B1f B20 B21 B22 B2f
    refine (same39_q _ R1.out R2.out).mono ?_
    rintro e w3 ⟨rfl, hb⟩
    replace FB := Lib.hid (FB.out.trans (hb.mono FB.out.size))
    replace TS := Lib.hid (TS.out.on hb)
    replace TL := Lib.hid (TL.out.on hb)
    replace T := Lib.hid (T.out.on hb)
    replace Q := Lib.hid ((hb.block _ (blt Q.out)).trans Q.out)
    replace B1 := Lib.hid ((hb.block _ (blt B1.out)).trans B1.out)
    replace R1 := Lib.hid (R1.out.on hb)
    replace B2 := Lib.hid ((hb.block _ (blt B2.out)).trans B2.out)
    replace R2 := Lib.hid (R2.out.on hb)
    clear hb
    go_wp2_with fail
    refine (Types_q HR.out (by omega) (by omega) TS.out TL.out).mono ?_
    rintro e w9 ⟨a1, m1, c1, rfl, hb, hto⟩
    obtain ⟨a1', c1', hv1, ho1, ho2, heo⟩ := hto.elem
    injection hv1 with hv1 hv2 hv3
    subst hv1; subst hv3
    simp only [List.length_nil] at hv2 ho1
    subst hv2
    clear hto heo
    replace FB := Lib.hid (FB.out.trans (hb.mono FB.out.size))
    replace TS := Lib.hid (TS.out.on hb)
    replace TL := Lib.hid (TL.out.on hb)
    replace T := Lib.hid (T.out.on hb)
    replace Q := Lib.hid ((hb.block _ (blt Q.out)).trans Q.out)
    replace B1 := Lib.hid ((hb.block _ (blt B1.out)).trans B1.out)
    replace R1 := Lib.hid (R1.out.on hb)
    replace B2 := Lib.hid ((hb.block _ (blt B2.out)).trans B2.out)
    replace R2 := Lib.hid (R2.out.on hb)
    clear hb
    go_wp2_with fail
    refine (awake35_w _).mono ?_
    rintro e w4 ⟨rfl, hb⟩
    replace FB := Lib.hid (FB.out.trans (hb.mono FB.out.size))
    replace TS := Lib.hid (TS.out.on hb)
    replace TL := Lib.hid (TL.out.on hb)
    replace T := Lib.hid (T.out.on hb)
    replace Q := Lib.hid ((hb.block _ (blt Q.out)).trans Q.out)
    replace B1 := Lib.hid ((hb.block _ (blt B1.out)).trans B1.out)
    replace R1 := Lib.hid (R1.out.on hb)
    replace B2 := Lib.hid ((hb.block _ (blt B2.out)).trans B2.out)
    replace R2 := Lib.hid (R2.out.on hb)
    clear hb
    go_wp2_with fail
    go_ret
    exact ⟨rfl, FB.out⟩
  have hnn : ((ts.length : Int) != (l.length : Int)) = false := by simp [hee]
  by_cases hz : firstI (fillI l) 0 ts = 0
  · skip
    have HR := Lib.hid (typesR_ok hee hz)
    have HZ := Lib.hid hz
    have HEE := Lib.hid hee
    clear hz hee
    go_enter Try.func21, Try.ntmps21
    go_wp2_with fail
    refine (Fill_q HF.out (by omega) TL.out T.out).mono ?_
    rintro e w1 ⟨k1, n1, ao1, m1, c1, rfl, hb, hr⟩
    obtain ⟨hb1, B1, R1, -⟩ := boxed hb hr
    clear hb hr
    replace FB := Lib.hid (FB.out.trans (hb1.mono FB.out.size))
    replace TS := Lib.hid (TS.out.on hb1)
    replace TL := Lib.hid (TL.out.on hb1)
    replace T := Lib.hid (T.out.on hb1)
    replace Q := Lib.hid ((hb1.block _ (blt Q.out)).trans Q.out)
    replace B1 := Lib.hid B1
    replace R1 := Lib.hid R1
    clear hb1
    obtain ⟨Q0, Q1, Q2, Qf, -⟩ := three Q.out
    go_wp2_with fail
    clear Q0 Q1 Q2 Qf
    refine (refFill_q HF.out (by omega) TL.out T.out).mono ?_
    rintro e w2 ⟨k2, n2, ao2, m2, c2, rfl, hb, hr⟩
    obtain ⟨hb2, B2, R2, -⟩ := boxed hb hr
    clear hb hr
    replace FB := Lib.hid (FB.out.trans (hb2.mono FB.out.size))
    replace TS := Lib.hid (TS.out.on hb2)
    replace TL := Lib.hid (TL.out.on hb2)
    replace T := Lib.hid (T.out.on hb2)
    replace Q := Lib.hid ((hb2.block _ (blt Q.out)).trans Q.out)
    replace B1 := Lib.hid ((hb2.block _ (blt B1.out)).trans B1.out)
    replace R1 := Lib.hid (R1.out.on hb2)
    replace B2 := Lib.hid B2
    replace R2 := Lib.hid R2
    clear hb2
    obtain ⟨B10, B11, B12, B1f, -⟩ := three B1.out
    obtain ⟨B20, B21, B22, B2f, -⟩ := three B2.out
    go_wp2_with fail
    clear B10 B11 B12 B1f B20 B21 B22 B2f
    refine (same39_q _ R1.out R2.out).mono ?_
    rintro e w3 ⟨rfl, hb⟩
    replace FB := Lib.hid (FB.out.trans (hb.mono FB.out.size))
    replace TS := Lib.hid (TS.out.on hb)
    replace TL := Lib.hid (TL.out.on hb)
    replace T := Lib.hid (T.out.on hb)
    replace Q := Lib.hid ((hb.block _ (blt Q.out)).trans Q.out)
    replace B1 := Lib.hid ((hb.block _ (blt B1.out)).trans B1.out)
    replace R1 := Lib.hid (R1.out.on hb)
    replace B2 := Lib.hid ((hb.block _ (blt B2.out)).trans B2.out)
    replace R2 := Lib.hid (R2.out.on hb)
    clear hb
    go_wp2_with fail
    refine (Types_q HR.out (by omega) (by omega) TS.out TL.out).mono ?_
    rintro e w9 ⟨a1, m1, c1, rfl, hb, hto⟩
    obtain ⟨a1', c1', hv1, ho1, ho2, heo⟩ := hto.elem
    injection hv1 with hv1 hv2 hv3
    subst hv1; subst hv3
    simp only [List.length_mapIdx] at hv2 ho1
    subst hv2
    have HEO := Lib.hid heo
    have HB1 := Lib.hid hb
    have hsz1 : w3.heap.size ≤ w9.heap.size := hb.size
    clear hto heo
    replace FB := Lib.hid (FB.out.trans (hb.mono FB.out.size))
    replace TS := Lib.hid (TS.out.on hb)
    replace TL := Lib.hid (TL.out.on hb)
    replace T := Lib.hid (T.out.on hb)
    replace Q := Lib.hid ((hb.block _ (blt Q.out)).trans Q.out)
    replace B1 := Lib.hid ((hb.block _ (blt B1.out)).trans B1.out)
    replace R1 := Lib.hid (R1.out.on hb)
    replace B2 := Lib.hid ((hb.block _ (blt B2.out)).trans B2.out)
    replace R2 := Lib.hid (R2.out.on hb)
    clear hb
    go_wp2_with fail
    have HST := Lib.hid (Below.refl w9.heap.size w9)
    go_loopw [13] (fun i wr => ∃ j : Nat, i = .int .i64 j ∧ j ≤ ts.length ∧ firstI (fillI l) j (ts.drop j) = firstI (fillI l) 0 ts ∧ Below w9.heap.size w9 wr) (fun i _ => ts.length - (intOf i).toNat)
    case atStart => exact ⟨0, rfl, Nat.zero_le _, rfl, HST.out⟩
    case round =>
      obtain ⟨j, rfl, hj, herr, hb⟩ := hrel
      have HERR := Lib.hid herr
      have HBr := Lib.hid hb
      clear herr HST
      replace FB := Lib.hid (FB.out.trans (hb.mono FB.out.size))
      replace TS := Lib.hid (TS.out.on hb)
      replace TL := Lib.hid (TL.out.on hb)
      replace T := Lib.hid (T.out.on hb)
      replace Q := Lib.hid ((hb.block _ (blt Q.out)).trans Q.out)
      replace B1 := Lib.hid ((hb.block _ (blt B1.out)).trans B1.out)
      replace R1 := Lib.hid (R1.out.on hb)
      replace B2 := Lib.hid ((hb.block _ (blt B2.out)).trans B2.out)
      replace R2 := Lib.hid (R2.out.on hb)
      clear hb
      by_cases hjl : j < ts.length
      · skip
        obtain ⟨be, off, k0, n0, ao0, m0, c0, rfl, hPb, h0, h1, h2, hrd⟩ := HE.out j hjl
        have e0 := (FB.out.cell (p := ⟨be, off + j * 3, none⟩) hPb).trans h0
        have e1 := (FB.out.cell (p := ⟨be, off + j * 3 + 1, none⟩) hPb).trans h1
        have e2 := (FB.out.cell (p := ⟨be, off + j * 3 + 2, none⟩) hPb).trans h2
        have hbw : be < wr.heap.size := Nat.lt_of_lt_of_le hPb FB.out.size
        have HRD := Lib.hid (hrd.keep (P' := (· < wr.heap.size)) (w' := wr) (fun q hq => Nat.lt_of_lt_of_le hq FB.out.size) fun q hq => FB.out.block q hq)
        have hji : (j : Int) < (ts.length : Int) := by omega
        have hj0 : (0 : Int) ≤ (j : Int) := Int.natCast_nonneg _
        have hic : j ≤ capl := by have := HEE.out; omega
        have hic2 : (j : Int) ≤ (capl : Int) := by omega
        have hjl2 : j ≤ l.length := by have := HEE.out; omega
        obtain ⟨x, c, hx⟩ : ∃ x c, manyR ts[j] (l.take j).reverse = (x, c) := ⟨_, _, rfl⟩
        have hd := firstI_drop (fillI l) ts j hjl
        rw [show fillI l j ts[j] = (x, c) from hx] at hd
        simp only [] at hd
        rw [HERR.out] at hd
        have HX := Lib.hid hx
        have HD := Lib.hid hd
        clear h0 h1 h2 hrd hx hd
        go_wp2_with fail
        have hc0 : c = 0 := by
          have h1 := HD.out
          rw [HZ.out] at h1
          by_cases h : c = 0
          · exact h
          · rw [if_neg h] at h1; exact absurd h1.symm h
        subst hc0
        have hdr : Below wr.heap.size wr wr.drew := below_drewN (Below.refl _ _) 1
        refine wp_region_tree (.one 0 true (.one 1 true (.one 2 true (.one 3 true (.one 4 true (.one 5 true (.one 6 true (.two 7 (.rest [(8, true), (9, true), (10, true), (11, false), (12, false), (13, false)]) 11 (.rest [(7, false), (8, true), (9, true), (10, true), (12, false), (13, false)]))))))))) (fun w' => w'.cell? ⟨be, off + j * 3, none⟩ = some (.int .i64 k0) ∧ w'.cell? ⟨be, off + j * 3 + 1, none⟩ = some (.int .i64 n0) ∧ w'.cell? ⟨be, off + j * 3 + 2, none⟩ = some (.slice ao0 m0 c0)) (by kernel_rfl) (by kernel_rfl) ⟨e0, e1, e2⟩ (fun hHeld => ?_)
        simp only [pickR, pickT, opIn, List.getElem?_cons_zero, List.getElem?_cons_succ, Option.getD_some]
        repeat (refine wpR_take (v := ?_) (by rfl) (fun w' hSw => ?_) ?_; rotate_left; (go_simp; with_reducible rfl); simp only [Act.put, List.setIfInBounds_toArray, List.set_cons_zero, List.set_cons_succ])
        refine wpR_two ?_ ?_
        · skip
          have hcon := refFill_q HX.out (by rw [List.length_take]; omega) ((TL.out.take j hjl2).on hdr) (HRD.out.on hdr)
          have HCON := Lib.hid hcon
          clear hcon
          refine wpR_do (fun K hK => ?_)
          go_simp
          refine HCON.out.mono ?_
          rintro e w5 ⟨k5, n5, ao5, m5, c5, rfl, hb, hr⟩
          have hb' := hdr.trans (hb.mono hdr.size)
          refine hK.out _ _ ⟨((hb').cell (p := ⟨be, off + j * 3, none⟩) (by first | exact hbw | (show _ < wr.heap.size; exact hbw))).trans e0, ((hb').cell (p := ⟨be, off + j * 3 + 1, none⟩) (by first | exact hbw | (show _ < wr.heap.size; exact hbw))).trans e1, ((hb').cell (p := ⟨be, off + j * 3 + 2, none⟩) (by first | exact hbw | (show _ < wr.heap.size; exact hbw))).trans e2⟩ (fun hHeld => ?_)
          clear hK K
          refine wpR_rest ?_
          repeat (refine wpT_take (v := ?_) (by rfl) (fun w' hSw => ?_) ?_; rotate_left; (go_simp; with_reducible rfl); simp only [Act.put, List.setIfInBounds_toArray, List.set_cons_zero, List.set_cons_succ])
          have hal := alloc_bel w5 (.cells #[.int .i64 0, .int .i64 0, .slice none 0 0] 24)
          have hbA := hb'.trans (hal.mono hb'.size)
          have hx := heap_new w5 (.cells #[.int .i64 0, .int .i64 0, .slice none 0 0] 24) _ rfl
          have hXl : wr.heap.size ≤ w5.heap.size := hb'.size
          have hrX := hr.keep (w' := w5.alloc (.cells #[.int .i64 0, .int .i64 0, .slice none 0 0] 24)) (P' := fun q => q ≠ w5.heap.size ∧ q < (w5.alloc (.cells #[.int .i64 0, .int .i64 0, .slice none 0 0] 24)).heap.size) (fun q hq => ⟨Nat.ne_of_lt hq.2, Nat.lt_of_lt_of_le hq.2 hal.size⟩) fun q hq => hal.block q hq.2
          refine wpT_do (fun K hK => ?_)
          go_simp
          clear hal hb' hb hr HCON
          generalize w5.alloc (.cells #[.int .i64 0, .int .i64 0, .slice none 0 0] 24) = wA at hbA hx hrX ⊢
          refine hK.out _ _ ⟨((hbA).cell (p := ⟨be, off + j * 3, none⟩) (by first | exact hbw | (show _ < wr.heap.size; exact hbw))).trans e0, ((hbA).cell (p := ⟨be, off + j * 3 + 1, none⟩) (by first | exact hbw | (show _ < wr.heap.size; exact hbw))).trans e1, ((hbA).cell (p := ⟨be, off + j * 3 + 2, none⟩) (by first | exact hbw | (show _ < wr.heap.size; exact hbw))).trans e2⟩ (fun hHeld => ?_)
          clear hK K hHeld
          obtain ⟨x0, x1, x2, xf, xl⟩ := three hx
          have xf0 := xf 0
          have xf1 := xf 1
          have xf2 := xf 2
          obtain ⟨hbS, hxS, hrS⟩ := put3 (a := .int .i64 k5) (b := .int .i64 n5) (c := .slice ao5 m5 c5) hbA hx hXl
          have hr5 := hrS _ _ hrX
          refine wpT_do (fun K hK => ?_)
          go_simp
          clear x0 x1 x2 xf xf0 xf1 xf2 xl hrS hbA hx hrX
          generalize (((wA).setCell ⟨w5.heap.size, 0, none⟩ (.int .i64 k5)).setCell ⟨w5.heap.size, 1, none⟩ (.int .i64 n5)).setCell ⟨w5.heap.size, 2, none⟩ (.slice ao5 m5 c5) = wS at hbS hxS hr5 ⊢
          refine hK.out _ _ ⟨((hbS).cell (p := ⟨be, off + j * 3, none⟩) (by first | exact hbw | (show _ < wr.heap.size; exact hbw))).trans e0, ((hbS).cell (p := ⟨be, off + j * 3 + 1, none⟩) (by first | exact hbw | (show _ < wr.heap.size; exact hbw))).trans e1, ((hbS).cell (p := ⟨be, off + j * 3 + 2, none⟩) (by first | exact hbw | (show _ < wr.heap.size; exact hbw))).trans e2⟩ (fun hHeld => ?_)
          clear hK K hHeld
          refine wpT_last (fun K hK => ?_)
          go_simp
          refine hK.out _ _ ?_
          clear hK K
          generalize w5.heap.size = X5 at hxS hXl ⊢
          have R5 := Lib.hid hr5
          have B5 := Lib.hid hxS
          clear hr5 hxS hXl hdr
          clear e0 e1 e2
          replace FB := Lib.hid (FB.out.trans (hbS.mono FB.out.size))
          replace TS := Lib.hid (TS.out.on hbS)
          replace TL := Lib.hid (TL.out.on hbS)
          replace T := Lib.hid (T.out.on hbS)
          replace Q := Lib.hid ((hbS.block _ (blt Q.out)).trans Q.out)
          replace B1 := Lib.hid ((hbS.block _ (blt B1.out)).trans B1.out)
          replace R1 := Lib.hid (R1.out.on hbS)
          replace B2 := Lib.hid ((hbS.block _ (blt B2.out)).trans B2.out)
          replace R2 := Lib.hid (R2.out.on hbS)
          replace HBr := Lib.hid (HBr.out.trans (hbS.mono HBr.out.size))
          clear hbS
          go_wp2_with fail
          obtain ⟨bo, offo, ko, no, aoo, mo, co, rfl, hPo, g0, g1, g2, hro⟩ := HEO.out j (by simpa using hjl)
          have hPo2 := hPo.2
          have hbo : bo < wS.heap.size := Nat.lt_of_lt_of_le hPo2 HBr.out.size
          have f0 := (HBr.out.cell (p := ⟨bo, offo + j * 3, none⟩) hPo2).trans g0
          have f1 := (HBr.out.cell (p := ⟨bo, offo + j * 3 + 1, none⟩) hPo2).trans g1
          have f2 := (HBr.out.cell (p := ⟨bo, offo + j * 3 + 2, none⟩) hPo2).trans g2
          rw [List.getElem_mapIdx] at hro
          have hxx : (fillI l j ts[j]).1 = x := by show (manyR ts[j] (l.take j).reverse).1 = x; rw [HX.out]
          simp only [hxx] at hro
          have HRO := Lib.hid (hro.keep (P' := (· < wS.heap.size)) (w' := wS) (fun q hq => Nat.lt_of_lt_of_le hq.2 HBr.out.size) fun q hq => HBr.out.block q hq.2)
          obtain ⟨x0, x1, x2, -, xl⟩ := three B5.out
          have hs := Equal_r (HRO.out.keep (w' := wS.drew) (P' := (· < wS.drew.heap.size)) (fun q hq => hq) fun _ _ => rfl) (R5.out.keep (w' := wS.drew) (P' := (· < wS.drew.heap.size)) (fun q hq => hq) fun _ _ => rfl)
          rw [eqT_refl] at hs
          have HS := Lib.hid hs
          clear g0 g1 g2 hro hs
          have hge : decide ((ts.length : Int) ≤ (j : Int)) = false := by simp; omega
          have hge2 : decide (ts.length ≤ j) = false := by simp; omega
          have hge3 : ¬ ((ts.length : Int) ≤ (j : Int)) := by omega
          have hge4 : ¬ (ts.length ≤ j) := by omega
          refine wp_region_order [(0, true), (1, true), (2, true), (3, true), (4, true), (5, true), (6, true), (7, true), (8, true), (9, true), (10, true), (11, true), (12, true), (13, false), (14, true), (15, true), (16, false)]
            (fun w' => (w'.cell? ⟨bo, offo + j * 3, none⟩ = some (.int .i64 ko) ∧ w'.cell? ⟨bo, offo + j * 3 + 1, none⟩ = some (.int .i64 no) ∧ w'.cell? ⟨bo, offo + j * 3 + 2, none⟩ = some (.slice aoo mo co)) ∧
              (w'.cell? ⟨X5, 0, none⟩ = some (.int .i64 k5) ∧ w'.cell? ⟨X5, 1, none⟩ = some (.int .i64 n5) ∧ w'.cell? ⟨X5, 2, none⟩ = some (.slice ao5 m5 c5)))
            (by kernel_rfl) (by kernel_rfl) ⟨⟨f0, f1, f2⟩, ⟨x0, x1, x2⟩⟩ (fun hHeld => ?_)
          simp only [pickT, List.getElem?_cons_zero, List.getElem?_cons_succ, Option.getD_some]
          repeat (refine wpT_take (v := ?_) (by rfl) (fun w' hSw => ?_) ?_; rotate_left; (go_simp; with_reducible rfl); simp only [Act.put, List.setIfInBounds_toArray, List.set_cons_zero, List.set_cons_succ])
          refine wpT_do (fun K hK => ?_)
          go_simp
          go_at_call 46
          refine HS.out.mono ?_
          rintro e w9 ⟨rfl, hb⟩
          replace hb : Below wS.heap.size wS w9 := (below_drewN (Below.refl _ _) 1).trans hb
          have S9 := And.intro (And.intro ((hb.cell (p := ⟨bo, offo + j * 3, none⟩) hbo).trans f0) (And.intro ((hb.cell (p := ⟨bo, offo + j * 3 + 1, none⟩) hbo).trans f1) ((hb.cell (p := ⟨bo, offo + j * 3 + 2, none⟩) hbo).trans f2))) (And.intro ((hb.cell (p := ⟨X5, 0, none⟩) xl).trans x0) (And.intro ((hb.cell (p := ⟨X5, 1, none⟩) xl).trans x1) ((hb.cell (p := ⟨X5, 2, none⟩) xl).trans x2)))
          refine hK.out _ _ S9 (fun hHeld => ?_)
          clear hK K hHeld S9 f0 f1 f2 x0 x1 x2
          replace FB := Lib.hid (FB.out.trans (hb.mono FB.out.size))
          replace TS := Lib.hid (TS.out.on hb)
          replace TL := Lib.hid (TL.out.on hb)
          replace T := Lib.hid (T.out.on hb)
          replace Q := Lib.hid ((hb.block _ (blt Q.out)).trans Q.out)
          replace B1 := Lib.hid ((hb.block _ (blt B1.out)).trans B1.out)
          replace R1 := Lib.hid (R1.out.on hb)
          replace B2 := Lib.hid ((hb.block _ (blt B2.out)).trans B2.out)
          replace R2 := Lib.hid (R2.out.on hb)
          replace HBr := Lib.hid (HBr.out.trans (hb.mono HBr.out.size))
          replace B5 := Lib.hid ((hb.block _ (blt B5.out)).trans B5.out)
          replace R5 := Lib.hid (R5.out.on hb)
          clear hb
          repeat (refine wpT_take (v := ?_) (by rfl) (fun w' hSw => ?_) ?_; rotate_left; (go_simp; with_reducible rfl); simp only [Act.put, List.setIfInBounds_toArray, List.set_cons_zero, List.set_cons_succ])
          refine wpT_last (fun K hK => ?_)
          go_simp
          refine hK.out _ _ ?_
          clear hK K
          go_wp2_with fail
          go_roundw
          case rel =>
            refine ⟨j + 1, by go_num, by omega, ?_, HBr.out⟩
            have h1 := HD.out
            simp only [↓reduceIte] at h1
            rw [← h1]
          case measure =>
            have q : (intOf (.int .i64 ((j : Int) + 1))).toNat = j + 1 := by show ((j : Int) + 1).toNat = _; omega
            have q2 : (intOf (.int .i64 (j : Int))).toNat = j := by show ((j : Int)).toNat = _; omega
            rw [q, q2]; omega
        · skip
          have hal : Below wr.heap.size wr (wr.alloc (.cells #[.int .i64 0, .int .i64 0, .slice none 0 0] 24)).drew := below_drewN (alloc_bel wr (.cells #[.int .i64 0, .int .i64 0, .slice none 0 0] 24)) 1
          have hx0 : (wr.alloc (.cells #[.int .i64 0, .int .i64 0, .slice none 0 0] 24)).drew.heap[wr.heap.size]? = some (.cells #[.int .i64 0, .int .i64 0, .slice none 0 0] 24) := heap_new wr (.cells #[.int .i64 0, .int .i64 0, .slice none 0 0] 24) _ rfl
          have hcon := refFill_q HX.out (by rw [List.length_take]; omega) ((TL.out.take j hjl2).on hal) (HRD.out.on hal)
          have HCON := Lib.hid hcon
          clear hcon
          refine wpR_do (fun K hK => ?_)
          go_simp
          refine hK.out _ _ ⟨((hal).cell (p := ⟨be, off + j * 3, none⟩) (by first | exact hbw | (show _ < wr.heap.size; exact hbw))).trans e0, ((hal).cell (p := ⟨be, off + j * 3 + 1, none⟩) (by first | exact hbw | (show _ < wr.heap.size; exact hbw))).trans e1, ((hal).cell (p := ⟨be, off + j * 3 + 2, none⟩) (by first | exact hbw | (show _ < wr.heap.size; exact hbw))).trans e2⟩ (fun hHeld => ?_)
          clear hK K hHeld
          refine wpR_rest ?_
          refine wpT_do (fun K hK => ?_)
          go_simp
          refine HCON.out.mono ?_
          rintro e w5 ⟨k5, n5, ao5, m5, c5, rfl, hb, hr⟩
          have hbA := hal.trans (hb.mono hal.size)
          have hx := (hb.block _ (blt hx0)).trans hx0
          have hXl : wr.heap.size ≤ wr.heap.size := Nat.le_refl _
          have hrX := hr.keep (P' := fun q => q ≠ wr.heap.size ∧ q < w5.heap.size) (fun q hq => ⟨by have h1 := hq.1; have h2 := blt hx0; omega, hq.2⟩) fun _ _ => rfl
          refine hK.out _ _ ⟨((hbA).cell (p := ⟨be, off + j * 3, none⟩) (by first | exact hbw | (show _ < wr.heap.size; exact hbw))).trans e0, ((hbA).cell (p := ⟨be, off + j * 3 + 1, none⟩) (by first | exact hbw | (show _ < wr.heap.size; exact hbw))).trans e1, ((hbA).cell (p := ⟨be, off + j * 3 + 2, none⟩) (by first | exact hbw | (show _ < wr.heap.size; exact hbw))).trans e2⟩ (fun hHeld => ?_)
          clear hK K hHeld hal hb hr HCON hx0
          repeat (refine wpT_take (v := ?_) (by rfl) (fun w' hSw => ?_) ?_; rotate_left; (go_simp; with_reducible rfl); simp only [Act.put, List.setIfInBounds_toArray, List.set_cons_zero, List.set_cons_succ])
          obtain ⟨x0, x1, x2, xf, xl⟩ := three hx
          have xf0 := xf 0
          have xf1 := xf 1
          have xf2 := xf 2
          obtain ⟨hbS, hxS, hrS⟩ := put3 (a := .int .i64 k5) (b := .int .i64 n5) (c := .slice ao5 m5 c5) hbA hx hXl
          have hr5 := hrS _ _ hrX
          refine wpT_do (fun K hK => ?_)
          go_simp
          clear x0 x1 x2 xf xf0 xf1 xf2 xl hrS hbA hx hrX
          generalize (((w5).setCell ⟨wr.heap.size, 0, none⟩ (.int .i64 k5)).setCell ⟨wr.heap.size, 1, none⟩ (.int .i64 n5)).setCell ⟨wr.heap.size, 2, none⟩ (.slice ao5 m5 c5) = wS at hbS hxS hr5 ⊢
          refine hK.out _ _ ⟨((hbS).cell (p := ⟨be, off + j * 3, none⟩) (by first | exact hbw | (show _ < wr.heap.size; exact hbw))).trans e0, ((hbS).cell (p := ⟨be, off + j * 3 + 1, none⟩) (by first | exact hbw | (show _ < wr.heap.size; exact hbw))).trans e1, ((hbS).cell (p := ⟨be, off + j * 3 + 2, none⟩) (by first | exact hbw | (show _ < wr.heap.size; exact hbw))).trans e2⟩ (fun hHeld => ?_)
          clear hK K hHeld
          refine wpT_last (fun K hK => ?_)
          go_simp
          refine hK.out _ _ ?_
          clear hK K
          generalize wr.heap.size = X5 at hxS hXl ⊢
          have R5 := Lib.hid hr5
          have B5 := Lib.hid hxS
          clear hr5 hxS hXl hdr
          clear e0 e1 e2
          replace FB := Lib.hid (FB.out.trans (hbS.mono FB.out.size))
          replace TS := Lib.hid (TS.out.on hbS)
          replace TL := Lib.hid (TL.out.on hbS)
          replace T := Lib.hid (T.out.on hbS)
          replace Q := Lib.hid ((hbS.block _ (blt Q.out)).trans Q.out)
          replace B1 := Lib.hid ((hbS.block _ (blt B1.out)).trans B1.out)
          replace R1 := Lib.hid (R1.out.on hbS)
          replace B2 := Lib.hid ((hbS.block _ (blt B2.out)).trans B2.out)
          replace R2 := Lib.hid (R2.out.on hbS)
          replace HBr := Lib.hid (HBr.out.trans (hbS.mono HBr.out.size))
          clear hbS
          go_wp2_with fail
          obtain ⟨bo, offo, ko, no, aoo, mo, co, rfl, hPo, g0, g1, g2, hro⟩ := HEO.out j (by simpa using hjl)
          have hPo2 := hPo.2
          have hbo : bo < wS.heap.size := Nat.lt_of_lt_of_le hPo2 HBr.out.size
          have f0 := (HBr.out.cell (p := ⟨bo, offo + j * 3, none⟩) hPo2).trans g0
          have f1 := (HBr.out.cell (p := ⟨bo, offo + j * 3 + 1, none⟩) hPo2).trans g1
          have f2 := (HBr.out.cell (p := ⟨bo, offo + j * 3 + 2, none⟩) hPo2).trans g2
          rw [List.getElem_mapIdx] at hro
          have hxx : (fillI l j ts[j]).1 = x := by show (manyR ts[j] (l.take j).reverse).1 = x; rw [HX.out]
          simp only [hxx] at hro
          have HRO := Lib.hid (hro.keep (P' := (· < wS.heap.size)) (w' := wS) (fun q hq => Nat.lt_of_lt_of_le hq.2 HBr.out.size) fun q hq => HBr.out.block q hq.2)
          obtain ⟨x0, x1, x2, -, xl⟩ := three B5.out
          have hs := Equal_r (HRO.out.keep (w' := wS.drew) (P' := (· < wS.drew.heap.size)) (fun q hq => hq) fun _ _ => rfl) (R5.out.keep (w' := wS.drew) (P' := (· < wS.drew.heap.size)) (fun q hq => hq) fun _ _ => rfl)
          rw [eqT_refl] at hs
          have HS := Lib.hid hs
          clear g0 g1 g2 hro hs
          have hge : decide ((ts.length : Int) ≤ (j : Int)) = false := by simp; omega
          have hge2 : decide (ts.length ≤ j) = false := by simp; omega
          have hge3 : ¬ ((ts.length : Int) ≤ (j : Int)) := by omega
          have hge4 : ¬ (ts.length ≤ j) := by omega
          refine wp_region_order [(0, true), (1, true), (2, true), (3, true), (4, true), (5, true), (6, true), (7, true), (8, true), (9, true), (10, true), (11, true), (12, true), (13, false), (14, true), (15, true), (16, false)]
            (fun w' => (w'.cell? ⟨bo, offo + j * 3, none⟩ = some (.int .i64 ko) ∧ w'.cell? ⟨bo, offo + j * 3 + 1, none⟩ = some (.int .i64 no) ∧ w'.cell? ⟨bo, offo + j * 3 + 2, none⟩ = some (.slice aoo mo co)) ∧
              (w'.cell? ⟨X5, 0, none⟩ = some (.int .i64 k5) ∧ w'.cell? ⟨X5, 1, none⟩ = some (.int .i64 n5) ∧ w'.cell? ⟨X5, 2, none⟩ = some (.slice ao5 m5 c5)))
            (by kernel_rfl) (by kernel_rfl) ⟨⟨f0, f1, f2⟩, ⟨x0, x1, x2⟩⟩ (fun hHeld => ?_)
          simp only [pickT, List.getElem?_cons_zero, List.getElem?_cons_succ, Option.getD_some]
          repeat (refine wpT_take (v := ?_) (by rfl) (fun w' hSw => ?_) ?_; rotate_left; (go_simp; with_reducible rfl); simp only [Act.put, List.setIfInBounds_toArray, List.set_cons_zero, List.set_cons_succ])
          refine wpT_do (fun K hK => ?_)
          go_simp
          go_at_call 46
          refine HS.out.mono ?_
          rintro e w9 ⟨rfl, hb⟩
          replace hb : Below wS.heap.size wS w9 := (below_drewN (Below.refl _ _) 1).trans hb
          have S9 := And.intro (And.intro ((hb.cell (p := ⟨bo, offo + j * 3, none⟩) hbo).trans f0) (And.intro ((hb.cell (p := ⟨bo, offo + j * 3 + 1, none⟩) hbo).trans f1) ((hb.cell (p := ⟨bo, offo + j * 3 + 2, none⟩) hbo).trans f2))) (And.intro ((hb.cell (p := ⟨X5, 0, none⟩) xl).trans x0) (And.intro ((hb.cell (p := ⟨X5, 1, none⟩) xl).trans x1) ((hb.cell (p := ⟨X5, 2, none⟩) xl).trans x2)))
          refine hK.out _ _ S9 (fun hHeld => ?_)
          clear hK K hHeld S9 f0 f1 f2 x0 x1 x2
          replace FB := Lib.hid (FB.out.trans (hb.mono FB.out.size))
          replace TS := Lib.hid (TS.out.on hb)
          replace TL := Lib.hid (TL.out.on hb)
          replace T := Lib.hid (T.out.on hb)
          replace Q := Lib.hid ((hb.block _ (blt Q.out)).trans Q.out)
          replace B1 := Lib.hid ((hb.block _ (blt B1.out)).trans B1.out)
          replace R1 := Lib.hid (R1.out.on hb)
          replace B2 := Lib.hid ((hb.block _ (blt B2.out)).trans B2.out)
          replace R2 := Lib.hid (R2.out.on hb)
          replace HBr := Lib.hid (HBr.out.trans (hb.mono HBr.out.size))
          replace B5 := Lib.hid ((hb.block _ (blt B5.out)).trans B5.out)
          replace R5 := Lib.hid (R5.out.on hb)
          clear hb
          repeat (refine wpT_take (v := ?_) (by rfl) (fun w' hSw => ?_) ?_; rotate_left; (go_simp; with_reducible rfl); simp only [Act.put, List.setIfInBounds_toArray, List.set_cons_zero, List.set_cons_succ])
          refine wpT_last (fun K hK => ?_)
          go_simp
          refine hK.out _ _ ?_
          clear hK K
          go_wp2_with fail
          go_roundw
          case rel =>
            refine ⟨j + 1, by go_num, by omega, ?_, HBr.out⟩
            have h1 := HD.out
            simp only [↓reduceIte] at h1
            rw [← h1]
          case measure =>
            have q : (intOf (.int .i64 ((j : Int) + 1))).toNat = j + 1 := by show ((j : Int) + 1).toNat = _; omega
            have q2 : (intOf (.int .i64 (j : Int))).toNat = j := by show ((j : Int)).toNat = _; omega
            rw [q, q2]; omega
      · skip
        have hjj : j = ts.length := by omega
        go_wp2_with fail
        refine (awake35_w _).mono ?_
        rintro e w6 ⟨rfl, hb⟩
        replace FB := Lib.hid (FB.out.trans (hb.mono FB.out.size))
        replace TS := Lib.hid (TS.out.on hb)
        replace TL := Lib.hid (TL.out.on hb)
        replace T := Lib.hid (T.out.on hb)
        replace Q := Lib.hid ((hb.block _ (blt Q.out)).trans Q.out)
        replace B1 := Lib.hid ((hb.block _ (blt B1.out)).trans B1.out)
        replace R1 := Lib.hid (R1.out.on hb)
        replace B2 := Lib.hid ((hb.block _ (blt B2.out)).trans B2.out)
        replace R2 := Lib.hid (R2.out.on hb)
        replace HBr := Lib.hid (HBr.out.trans (hb.mono HBr.out.size))
        clear hb
        go_wp2_with fail
        go_ret
        exact ⟨rfl, FB.out⟩
  · skip
    have HR := Lib.hid (typesR_no hee hz)
    have HZ := Lib.hid hz
    have HEE := Lib.hid hee
    clear hz hee
    go_enter Try.func21, Try.ntmps21
    go_wp2_with fail
    refine (Fill_q HF.out (by omega) TL.out T.out).mono ?_
    rintro e w1 ⟨k1, n1, ao1, m1, c1, rfl, hb, hr⟩
    obtain ⟨hb1, B1, R1, -⟩ := boxed hb hr
    clear hb hr
    replace FB := Lib.hid (FB.out.trans (hb1.mono FB.out.size))
    replace TS := Lib.hid (TS.out.on hb1)
    replace TL := Lib.hid (TL.out.on hb1)
    replace T := Lib.hid (T.out.on hb1)
    replace Q := Lib.hid ((hb1.block _ (blt Q.out)).trans Q.out)
    replace B1 := Lib.hid B1
    replace R1 := Lib.hid R1
    clear hb1
    obtain ⟨Q0, Q1, Q2, Qf, -⟩ := three Q.out
    go_wp2_with fail
    clear Q0 Q1 Q2 Qf
    refine (refFill_q HF.out (by omega) TL.out T.out).mono ?_
    rintro e w2 ⟨k2, n2, ao2, m2, c2, rfl, hb, hr⟩
    obtain ⟨hb2, B2, R2, -⟩ := boxed hb hr
    clear hb hr
    replace FB := Lib.hid (FB.out.trans (hb2.mono FB.out.size))
    replace TS := Lib.hid (TS.out.on hb2)
    replace TL := Lib.hid (TL.out.on hb2)
    replace T := Lib.hid (T.out.on hb2)
    replace Q := Lib.hid ((hb2.block _ (blt Q.out)).trans Q.out)
    replace B1 := Lib.hid ((hb2.block _ (blt B1.out)).trans B1.out)
    replace R1 := Lib.hid (R1.out.on hb2)
    replace B2 := Lib.hid B2
    replace R2 := Lib.hid R2
    clear hb2
    obtain ⟨B10, B11, B12, B1f, -⟩ := three B1.out
    obtain ⟨B20, B21, B22, B2f, -⟩ := three B2.out
    go_wp2_with fail
    clear B10 B11 B12 B1f B20 B21 B22 B2f
    refine (same39_q _ R1.out R2.out).mono ?_
    rintro e w3 ⟨rfl, hb⟩
    replace FB := Lib.hid (FB.out.trans (hb.mono FB.out.size))
    replace TS := Lib.hid (TS.out.on hb)
    replace TL := Lib.hid (TL.out.on hb)
    replace T := Lib.hid (T.out.on hb)
    replace Q := Lib.hid ((hb.block _ (blt Q.out)).trans Q.out)
    replace B1 := Lib.hid ((hb.block _ (blt B1.out)).trans B1.out)
    replace R1 := Lib.hid (R1.out.on hb)
    replace B2 := Lib.hid ((hb.block _ (blt B2.out)).trans B2.out)
    replace R2 := Lib.hid (R2.out.on hb)
    clear hb
    go_wp2_with fail
    refine (Types_q HR.out (by omega) (by omega) TS.out TL.out).mono ?_
    rintro e w9 ⟨a1, m1, c1, rfl, hb, hto⟩
    obtain ⟨a1', c1', hv1, ho1, ho2, heo⟩ := hto.elem
    injection hv1 with hv1 hv2 hv3
    subst hv1; subst hv3
    simp only [List.length_nil] at hv2 ho1
    subst hv2
    have HEO := Lib.hid heo
    have HB1 := Lib.hid hb
    have hsz1 : w3.heap.size ≤ w9.heap.size := hb.size
    clear hto heo
    replace FB := Lib.hid (FB.out.trans (hb.mono FB.out.size))
    replace TS := Lib.hid (TS.out.on hb)
    replace TL := Lib.hid (TL.out.on hb)
    replace T := Lib.hid (T.out.on hb)
    replace Q := Lib.hid ((hb.block _ (blt Q.out)).trans Q.out)
    replace B1 := Lib.hid ((hb.block _ (blt B1.out)).trans B1.out)
    replace R1 := Lib.hid (R1.out.on hb)
    replace B2 := Lib.hid ((hb.block _ (blt B2.out)).trans B2.out)
    replace R2 := Lib.hid (R2.out.on hb)
    clear hb
    obtain ⟨cz, hcz⟩ : ∃ cz, cz = firstI (fillI l) 0 ts := ⟨_, rfl⟩
    have HCZ := Lib.hid hcz
    rw [← hcz]
    have hzb : (cz == 0) = false := by simp; rw [hcz]; exact HZ.out
    clear hcz
    go_wp2_with fail
    have HST := Lib.hid (Below.refl w9.heap.size w9)
    go_loopw [13] (fun i wr => ∃ j : Nat, i = .int .i64 j ∧ j ≤ ts.length ∧ firstI (fillI l) j (ts.drop j) = firstI (fillI l) 0 ts ∧ Below w9.heap.size w9 wr) (fun i _ => ts.length - (intOf i).toNat)
    case atStart => exact ⟨0, rfl, Nat.zero_le _, rfl, HST.out⟩
    case round =>
      obtain ⟨j, rfl, hj, herr, hb⟩ := hrel
      have HERR := Lib.hid herr
      have HBr := Lib.hid hb
      clear herr HST
      replace FB := Lib.hid (FB.out.trans (hb.mono FB.out.size))
      replace TS := Lib.hid (TS.out.on hb)
      replace TL := Lib.hid (TL.out.on hb)
      replace T := Lib.hid (T.out.on hb)
      replace Q := Lib.hid ((hb.block _ (blt Q.out)).trans Q.out)
      replace B1 := Lib.hid ((hb.block _ (blt B1.out)).trans B1.out)
      replace R1 := Lib.hid (R1.out.on hb)
      replace B2 := Lib.hid ((hb.block _ (blt B2.out)).trans B2.out)
      replace R2 := Lib.hid (R2.out.on hb)
      clear hb
      by_cases hjl : j < ts.length
      · skip
        obtain ⟨be, off, k0, n0, ao0, m0, c0, rfl, hPb, h0, h1, h2, hrd⟩ := HE.out j hjl
        have e0 := (FB.out.cell (p := ⟨be, off + j * 3, none⟩) hPb).trans h0
        have e1 := (FB.out.cell (p := ⟨be, off + j * 3 + 1, none⟩) hPb).trans h1
        have e2 := (FB.out.cell (p := ⟨be, off + j * 3 + 2, none⟩) hPb).trans h2
        have hbw : be < wr.heap.size := Nat.lt_of_lt_of_le hPb FB.out.size
        have HRD := Lib.hid (hrd.keep (P' := (· < wr.heap.size)) (w' := wr) (fun q hq => Nat.lt_of_lt_of_le hq FB.out.size) fun q hq => FB.out.block q hq)
        have hji : (j : Int) < (ts.length : Int) := by omega
        have hj0 : (0 : Int) ≤ (j : Int) := Int.natCast_nonneg _
        have hic : j ≤ capl := by have := HEE.out; omega
        have hic2 : (j : Int) ≤ (capl : Int) := by omega
        have hjl2 : j ≤ l.length := by have := HEE.out; omega
        obtain ⟨x, c, hx⟩ : ∃ x c, manyR ts[j] (l.take j).reverse = (x, c) := ⟨_, _, rfl⟩
        have hd := firstI_drop (fillI l) ts j hjl
        rw [show fillI l j ts[j] = (x, c) from hx] at hd
        simp only [] at hd
        rw [HERR.out] at hd
        have HX := Lib.hid hx
        have HD := Lib.hid hd
        clear h0 h1 h2 hrd hx hd
        go_wp2_with fail
        by_cases hc : c = 0
        · skip
          subst hc
          have hdr : Below wr.heap.size wr wr.drew := below_drewN (Below.refl _ _) 1
          refine wp_region_tree (.one 0 true (.one 1 true (.one 2 true (.one 3 true (.one 4 true (.one 5 true (.one 6 true (.two 7 (.rest [(8, true), (9, true), (10, true), (11, false), (12, false), (13, false)]) 11 (.rest [(7, false), (8, true), (9, true), (10, true), (12, false), (13, false)]))))))))) (fun w' => w'.cell? ⟨be, off + j * 3, none⟩ = some (.int .i64 k0) ∧ w'.cell? ⟨be, off + j * 3 + 1, none⟩ = some (.int .i64 n0) ∧ w'.cell? ⟨be, off + j * 3 + 2, none⟩ = some (.slice ao0 m0 c0)) (by kernel_rfl) (by kernel_rfl) ⟨e0, e1, e2⟩ (fun hHeld => ?_)
          simp only [pickR, pickT, opIn, List.getElem?_cons_zero, List.getElem?_cons_succ, Option.getD_some]
          repeat (refine wpR_take (v := ?_) (by rfl) (fun w' hSw => ?_) ?_; rotate_left; (go_simp; with_reducible rfl); simp only [Act.put, List.setIfInBounds_toArray, List.set_cons_zero, List.set_cons_succ])
          refine wpR_two ?_ ?_
          · skip
            have hcon := refFill_q HX.out (by rw [List.length_take]; omega) ((TL.out.take j hjl2).on hdr) (HRD.out.on hdr)
            have HCON := Lib.hid hcon
            clear hcon
            refine wpR_do (fun K hK => ?_)
            go_simp
            refine HCON.out.mono ?_
            rintro e w5 ⟨k5, n5, ao5, m5, c5, rfl, hb, hr⟩
            have hb' := hdr.trans (hb.mono hdr.size)
            refine hK.out _ _ ⟨((hb').cell (p := ⟨be, off + j * 3, none⟩) (by first | exact hbw | (show _ < wr.heap.size; exact hbw))).trans e0, ((hb').cell (p := ⟨be, off + j * 3 + 1, none⟩) (by first | exact hbw | (show _ < wr.heap.size; exact hbw))).trans e1, ((hb').cell (p := ⟨be, off + j * 3 + 2, none⟩) (by first | exact hbw | (show _ < wr.heap.size; exact hbw))).trans e2⟩ (fun hHeld => ?_)
            clear hK K
            refine wpR_rest ?_
            repeat (refine wpT_take (v := ?_) (by rfl) (fun w' hSw => ?_) ?_; rotate_left; (go_simp; with_reducible rfl); simp only [Act.put, List.setIfInBounds_toArray, List.set_cons_zero, List.set_cons_succ])
            have hal := alloc_bel w5 (.cells #[.int .i64 0, .int .i64 0, .slice none 0 0] 24)
            have hbA := hb'.trans (hal.mono hb'.size)
            have hx := heap_new w5 (.cells #[.int .i64 0, .int .i64 0, .slice none 0 0] 24) _ rfl
            have hXl : wr.heap.size ≤ w5.heap.size := hb'.size
            have hrX := hr.keep (w' := w5.alloc (.cells #[.int .i64 0, .int .i64 0, .slice none 0 0] 24)) (P' := fun q => q ≠ w5.heap.size ∧ q < (w5.alloc (.cells #[.int .i64 0, .int .i64 0, .slice none 0 0] 24)).heap.size) (fun q hq => ⟨Nat.ne_of_lt hq.2, Nat.lt_of_lt_of_le hq.2 hal.size⟩) fun q hq => hal.block q hq.2
            refine wpT_do (fun K hK => ?_)
            go_simp
            clear hal hb' hb hr HCON
            generalize w5.alloc (.cells #[.int .i64 0, .int .i64 0, .slice none 0 0] 24) = wA at hbA hx hrX ⊢
            refine hK.out _ _ ⟨((hbA).cell (p := ⟨be, off + j * 3, none⟩) (by first | exact hbw | (show _ < wr.heap.size; exact hbw))).trans e0, ((hbA).cell (p := ⟨be, off + j * 3 + 1, none⟩) (by first | exact hbw | (show _ < wr.heap.size; exact hbw))).trans e1, ((hbA).cell (p := ⟨be, off + j * 3 + 2, none⟩) (by first | exact hbw | (show _ < wr.heap.size; exact hbw))).trans e2⟩ (fun hHeld => ?_)
            clear hK K hHeld
            obtain ⟨x0, x1, x2, xf, xl⟩ := three hx
            have xf0 := xf 0
            have xf1 := xf 1
            have xf2 := xf 2
            obtain ⟨hbS, hxS, hrS⟩ := put3 (a := .int .i64 k5) (b := .int .i64 n5) (c := .slice ao5 m5 c5) hbA hx hXl
            have hr5 := hrS _ _ hrX
            refine wpT_do (fun K hK => ?_)
            go_simp
            clear x0 x1 x2 xf xf0 xf1 xf2 xl hrS hbA hx hrX
            generalize (((wA).setCell ⟨w5.heap.size, 0, none⟩ (.int .i64 k5)).setCell ⟨w5.heap.size, 1, none⟩ (.int .i64 n5)).setCell ⟨w5.heap.size, 2, none⟩ (.slice ao5 m5 c5) = wS at hbS hxS hr5 ⊢
            refine hK.out _ _ ⟨((hbS).cell (p := ⟨be, off + j * 3, none⟩) (by first | exact hbw | (show _ < wr.heap.size; exact hbw))).trans e0, ((hbS).cell (p := ⟨be, off + j * 3 + 1, none⟩) (by first | exact hbw | (show _ < wr.heap.size; exact hbw))).trans e1, ((hbS).cell (p := ⟨be, off + j * 3 + 2, none⟩) (by first | exact hbw | (show _ < wr.heap.size; exact hbw))).trans e2⟩ (fun hHeld => ?_)
            clear hK K hHeld
            refine wpT_last (fun K hK => ?_)
            go_simp
            refine hK.out _ _ ?_
            clear hK K
            generalize w5.heap.size = X5 at hxS hXl ⊢
            have R5 := Lib.hid hr5
            have B5 := Lib.hid hxS
            clear hr5 hxS hXl hdr
            clear e0 e1 e2
            replace FB := Lib.hid (FB.out.trans (hbS.mono FB.out.size))
            replace TS := Lib.hid (TS.out.on hbS)
            replace TL := Lib.hid (TL.out.on hbS)
            replace T := Lib.hid (T.out.on hbS)
            replace Q := Lib.hid ((hbS.block _ (blt Q.out)).trans Q.out)
            replace B1 := Lib.hid ((hbS.block _ (blt B1.out)).trans B1.out)
            replace R1 := Lib.hid (R1.out.on hbS)
            replace B2 := Lib.hid ((hbS.block _ (blt B2.out)).trans B2.out)
            replace R2 := Lib.hid (R2.out.on hbS)
            replace HBr := Lib.hid (HBr.out.trans (hbS.mono HBr.out.size))
            clear hbS
            go_wp2_with fail
            refine wp_region_order [(0, true), (1, true), (2, true), (3, true), (4, true), (5, true), (6, true), (7, true), (8, true), (9, true), (10, true), (11, true), (12, true), (13, false), (14, true), (15, true), (16, false)]
              (fun _ => True) (by kernel_rfl) (by kernel_rfl) trivial (fun hHeld => ?_)
            simp only [pickT, List.getElem?_cons_zero, List.getElem?_cons_succ, Option.getD_some]
            repeat (refine wpT_take (v := ?_) (by rfl) (fun w' hSw => ?_) ?_; rotate_left; (go_simp; with_reducible rfl); simp only [Act.put, List.setIfInBounds_toArray, List.set_cons_zero, List.set_cons_succ])
            repeat (refine wpT_skip (by rfl) ?_; simp only [Act.put, List.setIfInBounds_toArray, List.set_cons_zero, List.set_cons_succ])
            refine wpT_do (fun K hK => ?_)
            go_simp
            refine hK.out _ _ trivial (fun hHeld => ?_)
            clear hK K hHeld
            repeat (refine wpT_skip (by rfl) ?_; simp only [Act.put, List.setIfInBounds_toArray, List.set_cons_zero, List.set_cons_succ])
            refine wpT_last (fun K hK => ?_)
            go_simp
            refine hK.out _ _ ?_
            clear hK K
            have hbd : Below wS.heap.size wS wS.drew := below_drewN (Below.refl _ _) 1
            replace FB := Lib.hid (FB.out.trans (hbd.mono FB.out.size))
            replace TS := Lib.hid (TS.out.on hbd)
            replace TL := Lib.hid (TL.out.on hbd)
            replace T := Lib.hid (T.out.on hbd)
            replace Q := Lib.hid ((hbd.block _ (blt Q.out)).trans Q.out)
            replace B1 := Lib.hid ((hbd.block _ (blt B1.out)).trans B1.out)
            replace R1 := Lib.hid (R1.out.on hbd)
            replace B2 := Lib.hid ((hbd.block _ (blt B2.out)).trans B2.out)
            replace R2 := Lib.hid (R2.out.on hbd)
            replace HBr := Lib.hid (HBr.out.trans (hbd.mono HBr.out.size))
            replace B5 := Lib.hid ((hbd.block _ (blt B5.out)).trans B5.out)
            replace R5 := Lib.hid (R5.out.on hbd)
            clear hbd
            go_wp2_with fail
            go_roundw
            case rel =>
              refine ⟨j + 1, by go_num, by omega, ?_, HBr.out⟩
              have h1 := HD.out
              simp only [↓reduceIte] at h1
              rw [← h1]
            case measure =>
              have q : (intOf (.int .i64 ((j : Int) + 1))).toNat = j + 1 := by show ((j : Int) + 1).toNat = _; omega
              have q2 : (intOf (.int .i64 (j : Int))).toNat = j := by show ((j : Int)).toNat = _; omega
              rw [q, q2]; omega
          · skip
            have hal : Below wr.heap.size wr (wr.alloc (.cells #[.int .i64 0, .int .i64 0, .slice none 0 0] 24)).drew := below_drewN (alloc_bel wr (.cells #[.int .i64 0, .int .i64 0, .slice none 0 0] 24)) 1
            have hx0 : (wr.alloc (.cells #[.int .i64 0, .int .i64 0, .slice none 0 0] 24)).drew.heap[wr.heap.size]? = some (.cells #[.int .i64 0, .int .i64 0, .slice none 0 0] 24) := heap_new wr (.cells #[.int .i64 0, .int .i64 0, .slice none 0 0] 24) _ rfl
            have hcon := refFill_q HX.out (by rw [List.length_take]; omega) ((TL.out.take j hjl2).on hal) (HRD.out.on hal)
            have HCON := Lib.hid hcon
            clear hcon
            refine wpR_do (fun K hK => ?_)
            go_simp
            refine hK.out _ _ ⟨((hal).cell (p := ⟨be, off + j * 3, none⟩) (by first | exact hbw | (show _ < wr.heap.size; exact hbw))).trans e0, ((hal).cell (p := ⟨be, off + j * 3 + 1, none⟩) (by first | exact hbw | (show _ < wr.heap.size; exact hbw))).trans e1, ((hal).cell (p := ⟨be, off + j * 3 + 2, none⟩) (by first | exact hbw | (show _ < wr.heap.size; exact hbw))).trans e2⟩ (fun hHeld => ?_)
            clear hK K hHeld
            refine wpR_rest ?_
            refine wpT_do (fun K hK => ?_)
            go_simp
            refine HCON.out.mono ?_
            rintro e w5 ⟨k5, n5, ao5, m5, c5, rfl, hb, hr⟩
            have hbA := hal.trans (hb.mono hal.size)
            have hx := (hb.block _ (blt hx0)).trans hx0
            have hXl : wr.heap.size ≤ wr.heap.size := Nat.le_refl _
            have hrX := hr.keep (P' := fun q => q ≠ wr.heap.size ∧ q < w5.heap.size) (fun q hq => ⟨by have h1 := hq.1; have h2 := blt hx0; omega, hq.2⟩) fun _ _ => rfl
            refine hK.out _ _ ⟨((hbA).cell (p := ⟨be, off + j * 3, none⟩) (by first | exact hbw | (show _ < wr.heap.size; exact hbw))).trans e0, ((hbA).cell (p := ⟨be, off + j * 3 + 1, none⟩) (by first | exact hbw | (show _ < wr.heap.size; exact hbw))).trans e1, ((hbA).cell (p := ⟨be, off + j * 3 + 2, none⟩) (by first | exact hbw | (show _ < wr.heap.size; exact hbw))).trans e2⟩ (fun hHeld => ?_)
            clear hK K hHeld hal hb hr HCON hx0
            repeat (refine wpT_take (v := ?_) (by rfl) (fun w' hSw => ?_) ?_; rotate_left; (go_simp; with_reducible rfl); simp only [Act.put, List.setIfInBounds_toArray, List.set_cons_zero, List.set_cons_succ])
            obtain ⟨x0, x1, x2, xf, xl⟩ := three hx
            have xf0 := xf 0
            have xf1 := xf 1
            have xf2 := xf 2
            obtain ⟨hbS, hxS, hrS⟩ := put3 (a := .int .i64 k5) (b := .int .i64 n5) (c := .slice ao5 m5 c5) hbA hx hXl
            have hr5 := hrS _ _ hrX
            refine wpT_do (fun K hK => ?_)
            go_simp
            clear x0 x1 x2 xf xf0 xf1 xf2 xl hrS hbA hx hrX
            generalize (((w5).setCell ⟨wr.heap.size, 0, none⟩ (.int .i64 k5)).setCell ⟨wr.heap.size, 1, none⟩ (.int .i64 n5)).setCell ⟨wr.heap.size, 2, none⟩ (.slice ao5 m5 c5) = wS at hbS hxS hr5 ⊢
            refine hK.out _ _ ⟨((hbS).cell (p := ⟨be, off + j * 3, none⟩) (by first | exact hbw | (show _ < wr.heap.size; exact hbw))).trans e0, ((hbS).cell (p := ⟨be, off + j * 3 + 1, none⟩) (by first | exact hbw | (show _ < wr.heap.size; exact hbw))).trans e1, ((hbS).cell (p := ⟨be, off + j * 3 + 2, none⟩) (by first | exact hbw | (show _ < wr.heap.size; exact hbw))).trans e2⟩ (fun hHeld => ?_)
            clear hK K hHeld
            refine wpT_last (fun K hK => ?_)
            go_simp
            refine hK.out _ _ ?_
            clear hK K
            generalize wr.heap.size = X5 at hxS hXl ⊢
            have R5 := Lib.hid hr5
            have B5 := Lib.hid hxS
            clear hr5 hxS hXl hdr
            clear e0 e1 e2
            replace FB := Lib.hid (FB.out.trans (hbS.mono FB.out.size))
            replace TS := Lib.hid (TS.out.on hbS)
            replace TL := Lib.hid (TL.out.on hbS)
            replace T := Lib.hid (T.out.on hbS)
            replace Q := Lib.hid ((hbS.block _ (blt Q.out)).trans Q.out)
            replace B1 := Lib.hid ((hbS.block _ (blt B1.out)).trans B1.out)
            replace R1 := Lib.hid (R1.out.on hbS)
            replace B2 := Lib.hid ((hbS.block _ (blt B2.out)).trans B2.out)
            replace R2 := Lib.hid (R2.out.on hbS)
            replace HBr := Lib.hid (HBr.out.trans (hbS.mono HBr.out.size))
            clear hbS
            go_wp2_with fail
            refine wp_region_order [(0, true), (1, true), (2, true), (3, true), (4, true), (5, true), (6, true), (7, true), (8, true), (9, true), (10, true), (11, true), (12, true), (13, false), (14, true), (15, true), (16, false)]
              (fun _ => True) (by kernel_rfl) (by kernel_rfl) trivial (fun hHeld => ?_)
            simp only [pickT, List.getElem?_cons_zero, List.getElem?_cons_succ, Option.getD_some]
            repeat (refine wpT_take (v := ?_) (by rfl) (fun w' hSw => ?_) ?_; rotate_left; (go_simp; with_reducible rfl); simp only [Act.put, List.setIfInBounds_toArray, List.set_cons_zero, List.set_cons_succ])
            repeat (refine wpT_skip (by rfl) ?_; simp only [Act.put, List.setIfInBounds_toArray, List.set_cons_zero, List.set_cons_succ])
            refine wpT_do (fun K hK => ?_)
            go_simp
            refine hK.out _ _ trivial (fun hHeld => ?_)
            clear hK K hHeld
            repeat (refine wpT_skip (by rfl) ?_; simp only [Act.put, List.setIfInBounds_toArray, List.set_cons_zero, List.set_cons_succ])
            refine wpT_last (fun K hK => ?_)
            go_simp
            refine hK.out _ _ ?_
            clear hK K
            have hbd : Below wS.heap.size wS wS.drew := below_drewN (Below.refl _ _) 1
            replace FB := Lib.hid (FB.out.trans (hbd.mono FB.out.size))
            replace TS := Lib.hid (TS.out.on hbd)
            replace TL := Lib.hid (TL.out.on hbd)
            replace T := Lib.hid (T.out.on hbd)
            replace Q := Lib.hid ((hbd.block _ (blt Q.out)).trans Q.out)
            replace B1 := Lib.hid ((hbd.block _ (blt B1.out)).trans B1.out)
            replace R1 := Lib.hid (R1.out.on hbd)
            replace B2 := Lib.hid ((hbd.block _ (blt B2.out)).trans B2.out)
            replace R2 := Lib.hid (R2.out.on hbd)
            replace HBr := Lib.hid (HBr.out.trans (hbd.mono HBr.out.size))
            replace B5 := Lib.hid ((hbd.block _ (blt B5.out)).trans B5.out)
            replace R5 := Lib.hid (R5.out.on hbd)
            clear hbd
            go_wp2_with fail
            go_roundw
            case rel =>
              refine ⟨j + 1, by go_num, by omega, ?_, HBr.out⟩
              have h1 := HD.out
              simp only [↓reduceIte] at h1
              rw [← h1]
            case measure =>
              have q : (intOf (.int .i64 ((j : Int) + 1))).toNat = j + 1 := by show ((j : Int) + 1).toNat = _; omega
              have q2 : (intOf (.int .i64 (j : Int))).toNat = j := by show ((j : Int)).toNat = _; omega
              rw [q, q2]; omega
        · skip
          have hq : (c != 0) = true := by simp [hc]
          have hcc : cz = c := by
            have h1 := HD.out
            rw [if_neg hc] at h1
            rw [HCZ.out]; exact h1.symm ▸ rfl
          subst hcc
          clear hc
          have hdr : Below wr.heap.size wr wr.drew := below_drewN (Below.refl _ _) 1
          refine wp_region_tree (.one 0 true (.one 1 true (.one 2 true (.one 3 true (.one 4 true (.one 5 true (.one 6 true (.two 7 (.rest [(8, true), (9, true), (10, true), (11, false), (12, false), (13, false)]) 11 (.rest [(7, false), (8, true), (9, true), (10, true), (12, false), (13, false)]))))))))) (fun w' => w'.cell? ⟨be, off + j * 3, none⟩ = some (.int .i64 k0) ∧ w'.cell? ⟨be, off + j * 3 + 1, none⟩ = some (.int .i64 n0) ∧ w'.cell? ⟨be, off + j * 3 + 2, none⟩ = some (.slice ao0 m0 c0)) (by kernel_rfl) (by kernel_rfl) ⟨e0, e1, e2⟩ (fun hHeld => ?_)
          simp only [pickR, pickT, opIn, List.getElem?_cons_zero, List.getElem?_cons_succ, Option.getD_some]
          repeat (refine wpR_take (v := ?_) (by rfl) (fun w' hSw => ?_) ?_; rotate_left; (go_simp; with_reducible rfl); simp only [Act.put, List.setIfInBounds_toArray, List.set_cons_zero, List.set_cons_succ])
          refine wpR_two ?_ ?_
          · skip
            have hcon := refFill_q HX.out (by rw [List.length_take]; omega) ((TL.out.take j hjl2).on hdr) (HRD.out.on hdr)
            have HCON := Lib.hid hcon
            clear hcon
            refine wpR_do (fun K hK => ?_)
            go_simp
            refine HCON.out.mono ?_
            rintro e w5 ⟨k5, n5, ao5, m5, c5, rfl, hb, hr⟩
            have hb' := hdr.trans (hb.mono hdr.size)
            refine hK.out _ _ ⟨((hb').cell (p := ⟨be, off + j * 3, none⟩) (by first | exact hbw | (show _ < wr.heap.size; exact hbw))).trans e0, ((hb').cell (p := ⟨be, off + j * 3 + 1, none⟩) (by first | exact hbw | (show _ < wr.heap.size; exact hbw))).trans e1, ((hb').cell (p := ⟨be, off + j * 3 + 2, none⟩) (by first | exact hbw | (show _ < wr.heap.size; exact hbw))).trans e2⟩ (fun hHeld => ?_)
            clear hK K
            refine wpR_rest ?_
            repeat (refine wpT_take (v := ?_) (by rfl) (fun w' hSw => ?_) ?_; rotate_left; (go_simp; with_reducible rfl); simp only [Act.put, List.setIfInBounds_toArray, List.set_cons_zero, List.set_cons_succ])
            have hal := alloc_bel w5 (.cells #[.int .i64 0, .int .i64 0, .slice none 0 0] 24)
            have hbA := hb'.trans (hal.mono hb'.size)
            have hx := heap_new w5 (.cells #[.int .i64 0, .int .i64 0, .slice none 0 0] 24) _ rfl
            have hXl : wr.heap.size ≤ w5.heap.size := hb'.size
            have hrX := hr.keep (w' := w5.alloc (.cells #[.int .i64 0, .int .i64 0, .slice none 0 0] 24)) (P' := fun q => q ≠ w5.heap.size ∧ q < (w5.alloc (.cells #[.int .i64 0, .int .i64 0, .slice none 0 0] 24)).heap.size) (fun q hq => ⟨Nat.ne_of_lt hq.2, Nat.lt_of_lt_of_le hq.2 hal.size⟩) fun q hq => hal.block q hq.2
            refine wpT_do (fun K hK => ?_)
            go_simp
            clear hal hb' hb hr HCON
            generalize w5.alloc (.cells #[.int .i64 0, .int .i64 0, .slice none 0 0] 24) = wA at hbA hx hrX ⊢
            refine hK.out _ _ ⟨((hbA).cell (p := ⟨be, off + j * 3, none⟩) (by first | exact hbw | (show _ < wr.heap.size; exact hbw))).trans e0, ((hbA).cell (p := ⟨be, off + j * 3 + 1, none⟩) (by first | exact hbw | (show _ < wr.heap.size; exact hbw))).trans e1, ((hbA).cell (p := ⟨be, off + j * 3 + 2, none⟩) (by first | exact hbw | (show _ < wr.heap.size; exact hbw))).trans e2⟩ (fun hHeld => ?_)
            clear hK K hHeld
            obtain ⟨x0, x1, x2, xf, xl⟩ := three hx
            have xf0 := xf 0
            have xf1 := xf 1
            have xf2 := xf 2
            obtain ⟨hbS, hxS, hrS⟩ := put3 (a := .int .i64 k5) (b := .int .i64 n5) (c := .slice ao5 m5 c5) hbA hx hXl
            have hr5 := hrS _ _ hrX
            refine wpT_do (fun K hK => ?_)
            go_simp
            clear x0 x1 x2 xf xf0 xf1 xf2 xl hrS hbA hx hrX
            generalize (((wA).setCell ⟨w5.heap.size, 0, none⟩ (.int .i64 k5)).setCell ⟨w5.heap.size, 1, none⟩ (.int .i64 n5)).setCell ⟨w5.heap.size, 2, none⟩ (.slice ao5 m5 c5) = wS at hbS hxS hr5 ⊢
            refine hK.out _ _ ⟨((hbS).cell (p := ⟨be, off + j * 3, none⟩) (by first | exact hbw | (show _ < wr.heap.size; exact hbw))).trans e0, ((hbS).cell (p := ⟨be, off + j * 3 + 1, none⟩) (by first | exact hbw | (show _ < wr.heap.size; exact hbw))).trans e1, ((hbS).cell (p := ⟨be, off + j * 3 + 2, none⟩) (by first | exact hbw | (show _ < wr.heap.size; exact hbw))).trans e2⟩ (fun hHeld => ?_)
            clear hK K hHeld
            refine wpT_last (fun K hK => ?_)
            go_simp
            refine hK.out _ _ ?_
            clear hK K
            generalize w5.heap.size = X5 at hxS hXl ⊢
            have R5 := Lib.hid hr5
            have B5 := Lib.hid hxS
            clear hr5 hxS hXl hdr
            clear e0 e1 e2
            replace FB := Lib.hid (FB.out.trans (hbS.mono FB.out.size))
            replace TS := Lib.hid (TS.out.on hbS)
            replace TL := Lib.hid (TL.out.on hbS)
            replace T := Lib.hid (T.out.on hbS)
            replace Q := Lib.hid ((hbS.block _ (blt Q.out)).trans Q.out)
            replace B1 := Lib.hid ((hbS.block _ (blt B1.out)).trans B1.out)
            replace R1 := Lib.hid (R1.out.on hbS)
            replace B2 := Lib.hid ((hbS.block _ (blt B2.out)).trans B2.out)
            replace R2 := Lib.hid (R2.out.on hbS)
            replace HBr := Lib.hid (HBr.out.trans (hbS.mono HBr.out.size))
            clear hbS
            go_wp2_with fail
            refine (awake35_w _).mono ?_
            rintro e w6 ⟨rfl, hb⟩
            replace FB := Lib.hid (FB.out.trans (hb.mono FB.out.size))
            replace TS := Lib.hid (TS.out.on hb)
            replace TL := Lib.hid (TL.out.on hb)
            replace T := Lib.hid (T.out.on hb)
            replace Q := Lib.hid ((hb.block _ (blt Q.out)).trans Q.out)
            replace B1 := Lib.hid ((hb.block _ (blt B1.out)).trans B1.out)
            replace R1 := Lib.hid (R1.out.on hb)
            replace B2 := Lib.hid ((hb.block _ (blt B2.out)).trans B2.out)
            replace R2 := Lib.hid (R2.out.on hb)
            replace HBr := Lib.hid (HBr.out.trans (hb.mono HBr.out.size))
            replace B5 := Lib.hid ((hb.block _ (blt B5.out)).trans B5.out)
            replace R5 := Lib.hid (R5.out.on hb)
            clear hb
            go_wp2_with fail
            go_ret
            exact ⟨rfl, FB.out⟩
          · skip
            have hal : Below wr.heap.size wr (wr.alloc (.cells #[.int .i64 0, .int .i64 0, .slice none 0 0] 24)).drew := below_drewN (alloc_bel wr (.cells #[.int .i64 0, .int .i64 0, .slice none 0 0] 24)) 1
            have hx0 : (wr.alloc (.cells #[.int .i64 0, .int .i64 0, .slice none 0 0] 24)).drew.heap[wr.heap.size]? = some (.cells #[.int .i64 0, .int .i64 0, .slice none 0 0] 24) := heap_new wr (.cells #[.int .i64 0, .int .i64 0, .slice none 0 0] 24) _ rfl
            have hcon := refFill_q HX.out (by rw [List.length_take]; omega) ((TL.out.take j hjl2).on hal) (HRD.out.on hal)
            have HCON := Lib.hid hcon
            clear hcon
            refine wpR_do (fun K hK => ?_)
            go_simp
            refine hK.out _ _ ⟨((hal).cell (p := ⟨be, off + j * 3, none⟩) (by first | exact hbw | (show _ < wr.heap.size; exact hbw))).trans e0, ((hal).cell (p := ⟨be, off + j * 3 + 1, none⟩) (by first | exact hbw | (show _ < wr.heap.size; exact hbw))).trans e1, ((hal).cell (p := ⟨be, off + j * 3 + 2, none⟩) (by first | exact hbw | (show _ < wr.heap.size; exact hbw))).trans e2⟩ (fun hHeld => ?_)
            clear hK K hHeld
            refine wpR_rest ?_
            refine wpT_do (fun K hK => ?_)
            go_simp
            refine HCON.out.mono ?_
            rintro e w5 ⟨k5, n5, ao5, m5, c5, rfl, hb, hr⟩
            have hbA := hal.trans (hb.mono hal.size)
            have hx := (hb.block _ (blt hx0)).trans hx0
            have hXl : wr.heap.size ≤ wr.heap.size := Nat.le_refl _
            have hrX := hr.keep (P' := fun q => q ≠ wr.heap.size ∧ q < w5.heap.size) (fun q hq => ⟨by have h1 := hq.1; have h2 := blt hx0; omega, hq.2⟩) fun _ _ => rfl
            refine hK.out _ _ ⟨((hbA).cell (p := ⟨be, off + j * 3, none⟩) (by first | exact hbw | (show _ < wr.heap.size; exact hbw))).trans e0, ((hbA).cell (p := ⟨be, off + j * 3 + 1, none⟩) (by first | exact hbw | (show _ < wr.heap.size; exact hbw))).trans e1, ((hbA).cell (p := ⟨be, off + j * 3 + 2, none⟩) (by first | exact hbw | (show _ < wr.heap.size; exact hbw))).trans e2⟩ (fun hHeld => ?_)
            clear hK K hHeld hal hb hr HCON hx0
            repeat (refine wpT_take (v := ?_) (by rfl) (fun w' hSw => ?_) ?_; rotate_left; (go_simp; with_reducible rfl); simp only [Act.put, List.setIfInBounds_toArray, List.set_cons_zero, List.set_cons_succ])
            obtain ⟨x0, x1, x2, xf, xl⟩ := three hx
            have xf0 := xf 0
            have xf1 := xf 1
            have xf2 := xf 2
            obtain ⟨hbS, hxS, hrS⟩ := put3 (a := .int .i64 k5) (b := .int .i64 n5) (c := .slice ao5 m5 c5) hbA hx hXl
            have hr5 := hrS _ _ hrX
            refine wpT_do (fun K hK => ?_)
            go_simp
            clear x0 x1 x2 xf xf0 xf1 xf2 xl hrS hbA hx hrX
            generalize (((w5).setCell ⟨wr.heap.size, 0, none⟩ (.int .i64 k5)).setCell ⟨wr.heap.size, 1, none⟩ (.int .i64 n5)).setCell ⟨wr.heap.size, 2, none⟩ (.slice ao5 m5 c5) = wS at hbS hxS hr5 ⊢
            refine hK.out _ _ ⟨((hbS).cell (p := ⟨be, off + j * 3, none⟩) (by first | exact hbw | (show _ < wr.heap.size; exact hbw))).trans e0, ((hbS).cell (p := ⟨be, off + j * 3 + 1, none⟩) (by first | exact hbw | (show _ < wr.heap.size; exact hbw))).trans e1, ((hbS).cell (p := ⟨be, off + j * 3 + 2, none⟩) (by first | exact hbw | (show _ < wr.heap.size; exact hbw))).trans e2⟩ (fun hHeld => ?_)
            clear hK K hHeld
            refine wpT_last (fun K hK => ?_)
            go_simp
            refine hK.out _ _ ?_
            clear hK K
            generalize wr.heap.size = X5 at hxS hXl ⊢
            have R5 := Lib.hid hr5
            have B5 := Lib.hid hxS
            clear hr5 hxS hXl hdr
            clear e0 e1 e2
            replace FB := Lib.hid (FB.out.trans (hbS.mono FB.out.size))
            replace TS := Lib.hid (TS.out.on hbS)
            replace TL := Lib.hid (TL.out.on hbS)
            replace T := Lib.hid (T.out.on hbS)
            replace Q := Lib.hid ((hbS.block _ (blt Q.out)).trans Q.out)
            replace B1 := Lib.hid ((hbS.block _ (blt B1.out)).trans B1.out)
            replace R1 := Lib.hid (R1.out.on hbS)
            replace B2 := Lib.hid ((hbS.block _ (blt B2.out)).trans B2.out)
            replace R2 := Lib.hid (R2.out.on hbS)
            replace HBr := Lib.hid (HBr.out.trans (hbS.mono HBr.out.size))
            clear hbS
            go_wp2_with fail
            refine (awake35_w _).mono ?_
            rintro e w6 ⟨rfl, hb⟩
            replace FB := Lib.hid (FB.out.trans (hb.mono FB.out.size))
            replace TS := Lib.hid (TS.out.on hb)
            replace TL := Lib.hid (TL.out.on hb)
            replace T := Lib.hid (T.out.on hb)
            replace Q := Lib.hid ((hb.block _ (blt Q.out)).trans Q.out)
            replace B1 := Lib.hid ((hb.block _ (blt B1.out)).trans B1.out)
            replace R1 := Lib.hid (R1.out.on hb)
            replace B2 := Lib.hid ((hb.block _ (blt B2.out)).trans B2.out)
            replace R2 := Lib.hid (R2.out.on hb)
            replace HBr := Lib.hid (HBr.out.trans (hb.mono HBr.out.size))
            replace B5 := Lib.hid ((hb.block _ (blt B5.out)).trans B5.out)
            replace R5 := Lib.hid (R5.out.on hb)
            clear hb
            go_wp2_with fail
            go_ret
            exact ⟨rfl, FB.out⟩
      · skip
        exfalso
        have h1 := HERR.out
        rw [List.drop_of_length_le (by omega)] at h1
        exact HZ.out h1.symm
end Go.Proofs.Ythjlfjaciigfiaa
