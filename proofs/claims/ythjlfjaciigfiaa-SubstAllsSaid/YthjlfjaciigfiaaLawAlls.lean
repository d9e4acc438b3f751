/-
  SubstAlls: the walk: it returns true and writes nothing that was there. No condition but that the arguments read as terms.
-/
import Derived.Test.YthjlfjaciigfiaaSubstAll
namespace Go.Proofs.Ythjlfjaciigfiaa
open Go.RowKit
set_option linter.unusedVariables false
set_option linter.unusedSimpArgs false

theorem SubstAll_q {w : World} {vts vl : Value} {ts l rl : List Tm} {c : Int} (hq : allR (fun t => manyR t l) ts = (rl, c)) (hlen : ts.length ≤ 1000000) (hll : l.length ≤ 1000000) (hts : Ts (· < w.heap.size) w vts ts) (hl : Ts (· < w.heap.size) w vl l) : Calls Try.prog 55 #[vts, vl] w (AnsTsE w rl c) := by
  have := SubstAll_w vts ts vl l w hts hl hll hlen; rwa [hq] at this
theorem allR_ok {f : Tm → Tm × Int} {ts : List Tm} (h : firstErr f ts = 0) : allR f ts = (ts.map fun t => (f t).1, 0) := by unfold allR; rw [if_pos h]
theorem allR_no {f : Tm → Tm × Int} {ts : List Tm} (h : firstErr f ts ≠ 0) : allR f ts = ([], firstErr f ts) := by unfold allR; rw [if_neg h]
set_option maxRecDepth 100000 in
set_option maxHeartbeats 4000000 in
theorem substAlls_walk (vts : Value) (ts : List Tm) (vl : Value) (l : List Tm) (w : World) (hts : Ts (· < w.heap.size) w vts ts) (hl : Ts (· < w.heap.size) w vl l) :
    Calls Try.prog 14 #[vts, vl] w fun e w' => e = .returned (.bool true) ∧ Below w.heap.size w w' := by
  have TS := Lib.hid hts
  have TL := Lib.hid hl
  obtain ⟨aot, capt, rfl, hlt, hlt2, he⟩ := hts.elem
  obtain ⟨aol, capl, rfl⟩ := hl.at0
  have FB := Lib.hid (Below.refl w.heap.size w)
  have HE := Lib.hid he
  clear hts hl he
  by_cases h20 : 20 < ts.length
  · skip
    go_enter Try.func14, Try.ntmps14
    go_wp2_with fail
    refine (awake49_w _).mono ?_
    rintro e w1 ⟨rfl, hb⟩
    replace FB := Lib.hid (FB.out.trans (hb.mono FB.out.size))
    replace TS := Lib.hid (TS.out.on hb)
    replace TL := Lib.hid (TL.out.on hb)
    clear hb
    go_wp2_with fail
    go_ret
    exact ⟨rfl, FB.out⟩
  have hdb : decide ((20 : Int) < (ts.length : Int)) = false := by simp; omega
  by_cases h21 : 20 < l.length
  · skip
    go_enter Try.func14, Try.ntmps14
    go_wp2_with fail
    refine (awake49_w _).mono ?_
    rintro e w1 ⟨rfl, hb⟩
    replace FB := Lib.hid (FB.out.trans (hb.mono FB.out.size))
    replace TS := Lib.hid (TS.out.on hb)
    replace TL := Lib.hid (TL.out.on hb)
    clear hb
    go_wp2_with fail
    go_ret
    exact ⟨rfl, FB.out⟩
  have hdb2 : decide ((20 : Int) < (l.length : Int)) = false := by simp; omega
  have hlt20 : ts.length ≤ 20 := by omega
  have hll20 : l.length ≤ 20 := by omega
  clear h20 h21
  by_cases hz : firstErr (fun t => manyR t l) ts = 0
  · skip
    have HR := Lib.hid (allR_ok hz)
    have HZ := Lib.hid hz
    clear hz
    go_enter Try.func14, Try.ntmps14
    go_wp2_with fail
    refine (SubstAll_q HR.out (by omega) (by omega) TS.out TL.out).mono ?_
    rintro e w1 ⟨a1, m1, c1, rfl, hb, hto⟩
    obtain ⟨a1', c1', hv1, ho1, ho2, heo⟩ := hto.elem
    injection hv1 with hv1 hv2 hv3
    subst hv1; subst hv3
    simp only [List.length_map] at hv2 ho1
    subst hv2
    have HEO := Lib.hid heo
    have HB1 := Lib.hid hb
    have hsz1 : w.heap.size ≤ w1.heap.size := hb.size
    clear hto heo
    replace FB := Lib.hid (FB.out.trans (hb.mono FB.out.size))
    replace TS := Lib.hid (TS.out.on hb)
    replace TL := Lib.hid (TL.out.on hb)
    clear hb
    go_wp2_with fail
    have HST := Lib.hid (Below.refl w1.heap.size w1)
    go_loopw [7] (fun i wr => ∃ j : Nat, i = .int .i64 j ∧ j ≤ ts.length ∧ firstErr (fun t => manyR t l) (ts.drop j) = firstErr (fun t => manyR t l) ts ∧ Below w1.heap.size w1 wr) (fun i _ => ts.length - (intOf i).toNat)
    case atStart => exact ⟨0, rfl, Nat.zero_le _, rfl, HST.out⟩
    case round =>
      obtain ⟨j, rfl, hj, herr, hb⟩ := hrel
      have HERR := Lib.hid herr
      have HBr := Lib.hid hb
      clear herr HST
      replace FB := Lib.hid (FB.out.trans (hb.mono FB.out.size))
      replace TS := Lib.hid (TS.out.on hb)
      replace TL := Lib.hid (TL.out.on hb)
      clear hb
      by_cases hjl : j < ts.length
      · skip
        obtain ⟨be, off, k0, n0, ao0, m0, c0, rfl, hPb, h0, h1, h2, hrd⟩ := HE.out j hjl
        have e0 := (FB.out.cell (p := ⟨be, off + j * 3, none⟩) hPb).trans h0
        have e1 := (FB.out.cell (p := ⟨be, off + j * 3 + 1, none⟩) hPb).trans h1
        have e2 := (FB.out.cell (p := ⟨be, off + j * 3 + 2, none⟩) hPb).trans h2
        have hbw : be < wr.heap.size := Nat.lt_of_lt_of_le hPb FB.out.size
        have HRD := Lib.hid (hrd.keep (P' := (· < wr.heap.size)) (w' := wr) (fun q hq => Nat.lt_of_lt_of_le hq FB.out.size) fun q hq => FB.out.block q hq)
        have hji : (j : Int) < (ts.length : Int) := by omega
        have hj0 : (0 : Int) ≤ (j : Int) := Int.natCast_nonneg _
        obtain ⟨x, c, hx⟩ : ∃ x c, manyR ts[j] l = (x, c) := ⟨_, _, rfl⟩
        have hd := firstErr_drop (fun t => manyR t l) ts j hjl
        simp only [hx] at hd
        rw [HERR.out] at hd
        have HX := Lib.hid hx
        have HD := Lib.hid hd
        clear h0 h1 h2 hrd hx hd
        go_wp2_with fail
        clear e0 e1 e2 hbw
        have hc0 : c = 0 := by
          have h1 := HD.out
          rw [HZ.out] at h1
          by_cases h : c = 0
          · exact h
          · rw [if_neg h] at h1; exact absurd h1.symm h
        subst hc0
        refine (refMany9_q HX.out (by omega) TL.out HRD.out).mono ?_
        rintro e w2 ⟨k2, n2, ao2, m2, c2, rfl, hb, hr⟩
        obtain ⟨hb2, B2, R2, -⟩ := boxed hb hr
        clear hb hr
        replace FB := Lib.hid (FB.out.trans (hb2.mono FB.out.size))
        replace TS := Lib.hid (TS.out.on hb2)
        replace TL := Lib.hid (TL.out.on hb2)
        replace HBr := Lib.hid (HBr.out.trans (hb2.mono HBr.out.size))
        replace B2 := Lib.hid B2
        replace R2 := Lib.hid R2
        clear hb2
        go_wp2_with fail
        obtain ⟨bo, offo, ko, no, aoo, mo, co, rfl, hPo, g0, g1, g2, hro⟩ := HEO.out j (by simpa using hjl)
        have hPo2 := hPo.2
        have hbo : bo < (w2.alloc (.cells #[.int .i64 k2, .int .i64 n2, .slice ao2 m2 c2] 24)).heap.size := Nat.lt_of_lt_of_le hPo2 HBr.out.size
        have f0 := (HBr.out.cell (p := ⟨bo, offo + j * 3, none⟩) hPo2).trans g0
        have f1 := (HBr.out.cell (p := ⟨bo, offo + j * 3 + 1, none⟩) hPo2).trans g1
        have f2 := (HBr.out.cell (p := ⟨bo, offo + j * 3 + 2, none⟩) hPo2).trans g2
        rw [List.getElem_map] at hro
        have hxx : (manyR ts[j] l).1 = x := by rw [HX.out]
        simp only [hxx] at hro
        have HRO := Lib.hid (hro.keep (P' := (· < (w2.alloc (.cells #[.int .i64 k2, .int .i64 n2, .slice ao2 m2 c2] 24)).heap.size)) (w' := (w2.alloc (.cells #[.int .i64 k2, .int .i64 n2, .slice ao2 m2 c2] 24))) (fun q hq => Nat.lt_of_lt_of_le hq.2 HBr.out.size) fun q hq => HBr.out.block q hq.2)
        obtain ⟨x0, x1, x2, -, xl⟩ := three B2.out
        have hs := Equal_r (HRO.out.keep (w' := (w2.alloc (.cells #[.int .i64 k2, .int .i64 n2, .slice ao2 m2 c2] 24)).drew) (P' := (· < (w2.alloc (.cells #[.int .i64 k2, .int .i64 n2, .slice ao2 m2 c2] 24)).drew.heap.size)) (fun q hq => hq) fun _ _ => rfl) (R2.out.keep (w' := (w2.alloc (.cells #[.int .i64 k2, .int .i64 n2, .slice ao2 m2 c2] 24)).drew) (P' := (· < (w2.alloc (.cells #[.int .i64 k2, .int .i64 n2, .slice ao2 m2 c2] 24)).drew.heap.size)) (fun q hq => hq) fun _ _ => rfl)
        rw [eqT_refl] at hs
        have HS := Lib.hid hs
        clear g0 g1 g2 hro hs
        have hge : decide ((ts.length : Int) ≤ (j : Int)) = false := by simp; omega
        have hge2 : decide (ts.length ≤ j) = false := by simp; omega
        have hge3 : ¬ ((ts.length : Int) ≤ (j : Int)) := by omega
        have hge4 : ¬ (ts.length ≤ j) := by omega
        refine wp_region_order [(0, true), (1, true), (2, true), (3, true), (4, true), (5, true), (6, true), (7, true), (8, true), (9, true), (10, true), (11, true), (12, true), (13, false), (14, true), (15, true), (16, false)]
          (fun w' => (w'.cell? ⟨bo, offo + j * 3, none⟩ = some (.int .i64 ko) ∧ w'.cell? ⟨bo, offo + j * 3 + 1, none⟩ = some (.int .i64 no) ∧ w'.cell? ⟨bo, offo + j * 3 + 2, none⟩ = some (.slice aoo mo co)) ∧
            (w'.cell? ⟨w2.heap.size, 0, none⟩ = some (.int .i64 k2) ∧ w'.cell? ⟨w2.heap.size, 1, none⟩ = some (.int .i64 n2) ∧ w'.cell? ⟨w2.heap.size, 2, none⟩ = some (.slice ao2 m2 c2)))
          (by kernel_rfl) (by kernel_rfl) ⟨⟨f0, f1, f2⟩, ⟨x0, x1, x2⟩⟩ (fun hHeld => ?_)
        simp only [pickT, List.getElem?_cons_zero, List.getElem?_cons_succ, Option.getD_some]
        repeat (refine wpT_take (v := ?_) (by rfl) (fun w' hSw => ?_) ?_; rotate_left; (go_simp; with_reducible rfl); simp only [Act.put, List.setIfInBounds_toArray, List.set_cons_zero, List.set_cons_succ])
        refine wpT_do (fun K hK => ?_)
        go_simp
        go_at_call 46
        refine HS.out.mono ?_
        rintro e w9 ⟨rfl, hb⟩
        replace hb : Below (w2.alloc (.cells #[.int .i64 k2, .int .i64 n2, .slice ao2 m2 c2] 24)).heap.size (w2.alloc (.cells #[.int .i64 k2, .int .i64 n2, .slice ao2 m2 c2] 24)) w9 := (below_drewN (Below.refl _ _) 1).trans hb
        have S9 := And.intro (And.intro ((hb.cell (p := ⟨bo, offo + j * 3, none⟩) hbo).trans f0) (And.intro ((hb.cell (p := ⟨bo, offo + j * 3 + 1, none⟩) hbo).trans f1) ((hb.cell (p := ⟨bo, offo + j * 3 + 2, none⟩) hbo).trans f2))) (And.intro ((hb.cell (p := ⟨w2.heap.size, 0, none⟩) xl).trans x0) (And.intro ((hb.cell (p := ⟨w2.heap.size, 1, none⟩) xl).trans x1) ((hb.cell (p := ⟨w2.heap.size, 2, none⟩) xl).trans x2)))
        refine hK.out _ _ S9 (fun hHeld => ?_)
        clear hK K hHeld S9 f0 f1 f2 x0 x1 x2
        replace FB := Lib.hid (FB.out.trans (hb.mono FB.out.size))
        replace TS := Lib.hid (TS.out.on hb)
        replace TL := Lib.hid (TL.out.on hb)
        replace HBr := Lib.hid (HBr.out.trans (hb.mono HBr.out.size))
        replace B2 := Lib.hid ((hb.block _ (blt B2.out)).trans B2.out)
        replace R2 := Lib.hid (R2.out.on hb)
        clear hb
        repeat (refine wpT_take (v := ?_) (by rfl) (fun w' hSw => ?_) ?_; rotate_left; (go_simp; with_reducible rfl); simp only [Act.put, List.setIfInBounds_toArray, List.set_cons_zero, List.set_cons_succ])
        refine wpT_last (fun K hK => ?_)
        go_simp
        refine hK.out _ _ ?_
        clear hK K
        go_wp2_with fail
        go_roundw
        case rel =>
          refine ⟨j + 1, by go_num, by omega, ?_, HBr.out⟩
          have h1 := HD.out
          simp only [↓reduceIte] at h1
          rw [← h1]
        case measure =>
          have q : (intOf (.int .i64 ((j : Int) + 1))).toNat = j + 1 := by show ((j : Int) + 1).toNat = _; omega
          have q2 : (intOf (.int .i64 (j : Int))).toNat = j := by show ((j : Int)).toNat = _; omega
          rw [q, q2]; omega
      · skip
        have hjj : j = ts.length := by omega
        go_wp2_with fail
        refine (awake49_w _).mono ?_
        rintro e w3 ⟨rfl, hb⟩
        replace FB := Lib.hid (FB.out.trans (hb.mono FB.out.size))
        replace TS := Lib.hid (TS.out.on hb)
        replace TL := Lib.hid (TL.out.on hb)
        replace HBr := Lib.hid (HBr.out.trans (hb.mono HBr.out.size))
        clear hb
        go_wp2_with fail
        go_ret
        exact ⟨rfl, FB.out⟩
  · skip
    have HR := Lib.hid (allR_no hz)
    have HZ := Lib.hid hz
    clear hz
    go_enter Try.func14, Try.ntmps14
    go_wp2_with fail
    refine (SubstAll_q HR.out (by omega) (by omega) TS.out TL.out).mono ?_
    rintro e w1 ⟨a1, m1, c1, rfl, hb, hto⟩
    obtain ⟨a1', c1', hv1, ho1, ho2, heo⟩ := hto.elem
    injection hv1 with hv1 hv2 hv3
    subst hv1; subst hv3
    simp only [List.length_nil] at hv2 ho1
    subst hv2
    have HEO := Lib.hid heo
    have HB1 := Lib.hid hb
    have hsz1 : w.heap.size ≤ w1.heap.size := hb.size
    clear hto heo
    replace FB := Lib.hid (FB.out.trans (hb.mono FB.out.size))
    replace TS := Lib.hid (TS.out.on hb)
    replace TL := Lib.hid (TL.out.on hb)
    clear hb
    obtain ⟨cz, hcz⟩ : ∃ cz, cz = firstErr (fun t => manyR t l) ts := ⟨_, rfl⟩
    have HCZ := Lib.hid hcz
    rw [← hcz]
    have hzb : (cz == 0) = false := by simp; rw [hcz]; exact HZ.out
    clear hcz
    go_wp2_with fail
    have HST := Lib.hid (Below.refl w1.heap.size w1)
    go_loopw [7] (fun i wr => ∃ j : Nat, i = .int .i64 j ∧ j ≤ ts.length ∧ firstErr (fun t => manyR t l) (ts.drop j) = firstErr (fun t => manyR t l) ts ∧ Below w1.heap.size w1 wr) (fun i _ => ts.length - (intOf i).toNat)
    case atStart => exact ⟨0, rfl, Nat.zero_le _, rfl, HST.out⟩
    case round =>
      obtain ⟨j, rfl, hj, herr, hb⟩ := hrel
      have HERR := Lib.hid herr
      have HBr := Lib.hid hb
      clear herr HST
      replace FB := Lib.hid (FB.out.trans (hb.mono FB.out.size))
      replace TS := Lib.hid (TS.out.on hb)
      replace TL := Lib.hid (TL.out.on hb)
      clear hb
      by_cases hjl : j < ts.length
      · skip
        obtain ⟨be, off, k0, n0, ao0, m0, c0, rfl, hPb, h0, h1, h2, hrd⟩ := HE.out j hjl
        have e0 := (FB.out.cell (p := ⟨be, off + j * 3, none⟩) hPb).trans h0
        have e1 := (FB.out.cell (p := ⟨be, off + j * 3 + 1, none⟩) hPb).trans h1
        have e2 := (FB.out.cell (p := ⟨be, off + j * 3 + 2, none⟩) hPb).trans h2
        have hbw : be < wr.heap.size := Nat.lt_of_lt_of_le hPb FB.out.size
        have HRD := Lib.hid (hrd.keep (P' := (· < wr.heap.size)) (w' := wr) (fun q hq => Nat.lt_of_lt_of_le hq FB.out.size) fun q hq => FB.out.block q hq)
        have hji : (j : Int) < (ts.length : Int) := by omega
        have hj0 : (0 : Int) ≤ (j : Int) := Int.natCast_nonneg _
        obtain ⟨x, c, hx⟩ : ∃ x c, manyR ts[j] l = (x, c) := ⟨_, _, rfl⟩
        have hd := firstErr_drop (fun t => manyR t l) ts j hjl
        simp only [hx] at hd
        rw [HERR.out] at hd
        have HX := Lib.hid hx
        have HD := Lib.hid hd
        clear h0 h1 h2 hrd hx hd
        go_wp2_with fail
        clear e0 e1 e2 hbw
        by_cases hc : c = 0
        · skip
          subst hc
          refine (refMany9_q HX.out (by omega) TL.out HRD.out).mono ?_
          rintro e w2 ⟨k2, n2, ao2, m2, c2, rfl, hb, hr⟩
          obtain ⟨hb2, B2, R2, -⟩ := boxed hb hr
          clear hb hr
          replace FB := Lib.hid (FB.out.trans (hb2.mono FB.out.size))
          replace TS := Lib.hid (TS.out.on hb2)
          replace TL := Lib.hid (TL.out.on hb2)
          replace HBr := Lib.hid (HBr.out.trans (hb2.mono HBr.out.size))
          replace B2 := Lib.hid B2
          replace R2 := Lib.hid R2
          clear hb2
          go_wp2_with fail
          refine wp_region_order [(0, true), (1, true), (2, true), (3, true), (4, true), (5, true), (6, true), (7, true), (8, true), (9, true), (10, true), (11, true), (12, true), (13, false), (14, true), (15, true), (16, false)]
            (fun _ => True) (by kernel_rfl) (by kernel_rfl) trivial (fun hHeld => ?_)
          simp only [pickT, List.getElem?_cons_zero, List.getElem?_cons_succ, Option.getD_some]
          repeat (refine wpT_take (v := ?_) (by rfl) (fun w' hSw => ?_) ?_; rotate_left; (go_simp; with_reducible rfl); simp only [Act.put, List.setIfInBounds_toArray, List.set_cons_zero, List.set_cons_succ])
          repeat (refine wpT_skip (by rfl) ?_; simp only [Act.put, List.setIfInBounds_toArray, List.set_cons_zero, List.set_cons_succ])
          refine wpT_do (fun K hK => ?_)
          go_simp
          refine hK.out _ _ trivial (fun hHeld => ?_)
          clear hK K hHeld
          repeat (refine wpT_skip (by rfl) ?_; simp only [Act.put, List.setIfInBounds_toArray, List.set_cons_zero, List.set_cons_succ])
          refine wpT_last (fun K hK => ?_)
          go_simp
          refine hK.out _ _ ?_
          clear hK K
          have hbd : Below (w2.alloc (.cells #[.int .i64 k2, .int .i64 n2, .slice ao2 m2 c2] 24)).heap.size (w2.alloc (.cells #[.int .i64 k2, .int .i64 n2, .slice ao2 m2 c2] 24)) (w2.alloc (.cells #[.int .i64 k2, .int .i64 n2, .slice ao2 m2 c2] 24)).drew := below_drewN (Below.refl _ _) 1
          replace FB := Lib.hid (FB.out.trans (hbd.mono FB.out.size))
          replace TS := Lib.hid (TS.out.on hbd)
          replace TL := Lib.hid (TL.out.on hbd)
          replace HBr := Lib.hid (HBr.out.trans (hbd.mono HBr.out.size))
          replace B2 := Lib.hid ((hbd.block _ (blt B2.out)).trans B2.out)
          replace R2 := Lib.hid (R2.out.on hbd)
          clear hbd
          go_wp2_with fail
          go_roundw
          case rel =>
            refine ⟨j + 1, by go_num, by omega, ?_, HBr.out⟩
            have h1 := HD.out
            simp only [↓reduceIte] at h1
            rw [← h1]
          case measure =>
            have q : (intOf (.int .i64 ((j : Int) + 1))).toNat = j + 1 := by show ((j : Int) + 1).toNat = _; omega
            have q2 : (intOf (.int .i64 (j : Int))).toNat = j := by show ((j : Int)).toNat = _; omega
            rw [q, q2]; omega
        · skip
          have hq : (c != 0) = true := by simp [hc]
          have hcc : cz = c := by
            have h1 := HD.out
            rw [if_neg hc] at h1
            rw [HCZ.out]; exact h1.symm ▸ rfl
          subst hcc
          clear hc
          refine (refMany9_q HX.out (by omega) TL.out HRD.out).mono ?_
          rintro e w2 ⟨k2, n2, ao2, m2, c2, rfl, hb, hr⟩
          obtain ⟨hb2, B2, R2, -⟩ := boxed hb hr
          clear hb hr
          replace FB := Lib.hid (FB.out.trans (hb2.mono FB.out.size))
          replace TS := Lib.hid (TS.out.on hb2)
          replace TL := Lib.hid (TL.out.on hb2)
          replace HBr := Lib.hid (HBr.out.trans (hb2.mono HBr.out.size))
          replace B2 := Lib.hid B2
          replace R2 := Lib.hid R2
          clear hb2
          go_wp2_with fail
          refine (awake49_w _).mono ?_
          rintro e w3 ⟨rfl, hb⟩
          replace FB := Lib.hid (FB.out.trans (hb.mono FB.out.size))
          replace TS := Lib.hid (TS.out.on hb)
          replace TL := Lib.hid (TL.out.on hb)
          replace HBr := Lib.hid (HBr.out.trans (hb.mono HBr.out.size))
          replace B2 := Lib.hid ((hb.block _ (blt B2.out)).trans B2.out)
          replace R2 := Lib.hid (R2.out.on hb)
          clear hb
          go_wp2_with fail
          go_ret
          exact ⟨rfl, FB.out⟩
      · skip
        exfalso
        have h1 := HERR.out
        rw [List.drop_of_length_le (by omega)] at h1
        exact HZ.out h1.symm
end Go.Proofs.Ythjlfjaciigfiaa
