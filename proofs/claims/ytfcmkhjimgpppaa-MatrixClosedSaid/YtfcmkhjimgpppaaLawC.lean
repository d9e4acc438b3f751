/-
  MatrixClosed: the walk: it returns true and writes nothing that was there. No condition but that the argument reads.
-/
import Derived.Test.YtfcmkhjimgpppaaIns
import Derived.Test.YtfcmkhjimgpppaaAwake
import Derived.Test.YtfcmkhjimgpppaaLawR
namespace Go.Proofs.Ytfcmkhjimgpppaa
open Go.RowKit Go.Maps
set_option linter.unusedVariables false
set_option linter.unusedSimpArgs false

set_option maxRecDepth 100000 in
set_option maxHeartbeats 4000000 in
theorem closed_walk (va : Value) (l : List Mx) (w : World) (h : MatsR (· < w.heap.size) w va l) :
    Calls Try.prog 8 #[va] w fun e w' => e = .returned (.bool true) ∧ Below w.heap.size w w' := by
  have kf := few_w va l w h
  have kn := Closure_no va l w h
  have kc := Closure_w va l w h
  have H := Lib.hid h
  obtain ⟨ao, cap, rfl, hlm, he⟩ := h.get
  have HE := Lib.hid he
  clear h he
  obtain ⟨fb, hfb⟩ : ∃ x, x = fewB l := ⟨_, rfl⟩
  rw [← hfb] at kf
  have HFB := Lib.hid hfb
  have KF := Lib.hid kf
  have KN := Lib.hid kn
  have KC := Lib.hid kc
  clear kf hfb kn kc
  cases fb
  · go_enter Try.func8, Try.ntmps8
    go_wp2_with fail
    refine KF.out.mono ?_
    rintro e w1 ⟨rfl, rfl⟩
    go_wp2_with fail
    refine (awake_w _).mono ?_
    rintro e w9 ⟨rfl, hb9⟩
    go_wp2_with fail
    go_ret
    exact ⟨rfl, hb9⟩
  have hl6 : l.length ≤ 6 := by
    have h := HFB.out
    unfold fewB at h
    rw [eq_comm, Bool.and_eq_true, decide_eq_true_iff] at h
    exact h.1
  cases hrb : rightsB l
  · have kn := KN.out hrb
    have KN := Lib.hid kn
    clear kn hrb KC
    go_enter Try.func8, Try.ntmps8
    go_wp2_with fail
    refine KF.out.mono ?_
    rintro e w1 ⟨rfl, rfl⟩
    go_wp2_with fail
    refine KN.out.mono ?_
    rintro e w2 ⟨rfl, rfl⟩
    go_wp2_with fail
    refine (awake_w _).mono ?_
    rintro e w9 ⟨rfl, hb9⟩
    go_wp2_with fail
    go_ret
    exact ⟨rfl, hb9⟩
  have kc := KC.out hrb (by omega)
  obtain ⟨o, ho⟩ : ∃ o, o = closure l := ⟨_, rfl⟩
  rw [← ho] at kc
  have KC := Lib.hid kc
  have HO := Lib.hid ho
  have HRB := Lib.hid hrb
  clear kc ho hrb KN
  cases o with
  | none =>
    go_enter Try.func8, Try.ntmps8
    go_wp2_with fail
    refine KF.out.mono ?_
    rintro e w1 ⟨rfl, rfl⟩
    go_wp2_with fail
    refine KC.out.mono ?_
    rintro e w2 ⟨hb2, rfl⟩
    go_wp2_with fail
    refine (awake_w _).mono ?_
    rintro e w9 ⟨rfl, hb9⟩
    go_wp2_with fail
    go_ret
    exact ⟨rfl, hb2.trans (hb9.mono hb2.size)⟩
  | some r =>
    have hok := closure_ok HO.out.symm (by omega) (rightsB_sqs HRB.out)
    have HOK := Lib.hid hok
    clear hok
    go_enter Try.func8, Try.ntmps8
    go_wp2_with fail
    refine KF.out.mono ?_
    rintro e w1 ⟨rfl, rfl⟩
    go_wp2_with fail
    refine KC.out.mono ?_
    rintro e w2 ⟨hb2, v, rfl, hr⟩
    obtain ⟨ar, cr, rfl, hrm, hre⟩ := hr.get
    have HB2 := Lib.hid hb2
    have HR := Lib.hid hr
    have HRE := Lib.hid hre
    clear hb2 hr hre KC
    by_cases h60 : 60 < r.length
    · go_wp2_with fail
      refine (awake_w _).mono ?_
      rintro e w9 ⟨rfl, hb9⟩
      go_wp2_with fail
      go_ret
      exact ⟨rfl, HB2.out.trans (hb9.mono HB2.out.size)⟩
    go_wp2_with fail
    go_loopw [5] (fun i wr => ∃ (k d : Nat), i = .int .i64 k ∧ k ≤ l.length ∧ wr = w2.drewN d) (fun i _ => l.length - (intOf i).toNat)
    case atStart => exact ⟨0, 0, rfl, Nat.zero_le _, rfl⟩
    case round =>
      obtain ⟨k, d, rfl, hk, rfl⟩ := hrel
      by_cases hlt : k < l.length
      · obtain ⟨b, off, a1, c1, rfl, hb, hc, hx⟩ := HE.out k hlt
        have hc1 : (w2.drewN d).cell? ⟨b, off + k, none⟩ = some (.slice a1 (l.getD k []).length c1) := (HB2.out.cell (p := ⟨b, off + k, none⟩) hb).trans hc
        have ki := In_w _ _ r (l.getD k []) (w2.drewN d) (drewN_read HR.out d) (hx.keep (w' := w2.drewN d) (P' := (· < (w2.drewN d).heap.size)) (fun q hq => Nat.lt_of_lt_of_le hq HB2.out.size) fun q hq => HB2.out.block q hq)
        rw [decide_eq_true (closure_has HO.out.symm _ (getD_mem hlt))] at ki
        obtain ⟨xl, hxl⟩ : ∃ n, n = (l.getD k []).length := ⟨_, rfl⟩
        rw [← hxl] at hc1 ki
        have KI := Lib.hid ki
        clear ki hxl hc hx
        go_wp2_with fail
        refine KI.out.mono ?_
        rintro e w' ⟨rfl, n, rfl⟩
        go_wp2_with fail
        go_roundw
        case rel => exact ⟨k + 1, _, by go_num, by omega, rfl⟩
        case measure => simp [intOf]; omega
      · have hkl : k = l.length := by omega
        go_wp2_with fail
        clear hkl hlt hk
        have HB2 := Lib.hid (below_drewN HB2.out d)
        have HR := Lib.hid (drewN_read HR.out d)
        have HRE := Lib.hid (show ∀ i, i < r.length → ∃ b off a c, ar = some ⟨b, off, none⟩ ∧ b < (w2.drewN d).heap.size ∧ (w2.drewN d).cell? ⟨b, off + i, none⟩ = some (.slice a (r.getD i []).length c) ∧ MatR (· < (w2.drewN d).heap.size) (w2.drewN d) (.slice a (r.getD i []).length c) (r.getD i []) from fun i hi => by
          obtain ⟨b, off, a, c, q1, q2, q3, q4⟩ := HRE.out i hi
          exact ⟨b, off, a, c, q1, q2, q3, q4.keep (fun _ h => h) fun _ _ => rfl⟩)
        generalize w2.drewN d = w3 at HB2 HR HRE ⊢
        have HST := Lib.hid (Below.refl w3.heap.size w3)
        go_loopw [6] (fun i wr => ∃ (i' : Nat), i = .int .i64 i' ∧ i' ≤ r.length ∧ Below w3.heap.size w3 wr) (fun i _ => r.length - (intOf i).toNat)
        case atStart => exact ⟨0, rfl, Nat.zero_le _, HST.out⟩
        case round =>
          obtain ⟨i, rfl, hi, hbi⟩ := hrel
          have HBI := Lib.hid hbi
          clear hbi HST
          by_cases hil : i < r.length
          · go_wp2_with fail
            go_loopw [7] (fun j wr => ∃ (j' : Nat), j = .int .i64 j' ∧ j' ≤ r.length ∧ Below w3.heap.size w3 wr) (fun i _ => r.length - (intOf i).toNat)
            case atStart => exact ⟨0, rfl, Nat.zero_le _, HBI.out⟩
            case round =>
              obtain ⟨j, rfl, hj, hbj⟩ := hrel
              obtain ⟨w4, rfl⟩ : ∃ x : World, x = wr := ⟨_, rfl⟩
              have HBJ := Lib.hid hbj
              clear hbj HBI
              by_cases hjl : j < r.length
              · obtain ⟨b1, o1, u1, c1, rfl, hbl1, e1, hm1⟩ := HRE.out i hil
                obtain ⟨b2, o2, u2', c2, hbo, hbl2, e2, hm2⟩ := HRE.out j hjl
                injection hbo with hbo; injection hbo with hbo1 hbo2; subst hbo1; subst hbo2
                obtain ⟨hr1, hn1⟩ := HOK.out.1 _ (getD_mem hil)
                obtain ⟨hr2, hn2⟩ := HOK.out.1 _ (getD_mem hjl)
                have e1' := (HBJ.out.cell (p := ⟨b1, o1 + i, none⟩) hbl1).trans e1
                have e2' := (HBJ.out.cell (p := ⟨b1, o1 + j, none⟩) hbl1).trans e2
                have hcl := closure_closed HO.out.symm _ _ (getD_mem hil) (getD_mem hjl)
                have hpr := refproduct_w _ _ _ _ w4.drew ((MatR.on hm1 HBJ.out).keep (w' := w4.drew) (P' := (· < w4.drew.heap.size)) (fun _ h => h) fun _ _ => rfl) ((MatR.on hm2 HBJ.out).keep (w' := w4.drew) (P' := (· < w4.drew.heap.size)) (fun _ h => h) fun _ _ => rfl) hr1 hr2 (by rw [hn1, hn2])
                obtain ⟨pm, hpme⟩ : ∃ pm, pm = prod (r.getD i []) (r.getD j []) := ⟨_, rfl⟩
                rw [← hpme] at hpr hcl
                obtain ⟨n, hn⟩ : ∃ n, n = (l.getD 0 []).length := ⟨_, rfl⟩
                rw [← hn] at hn1 hn2
                rw [hn1] at e1' hpr
                rw [hn2] at e2' hpr
                have hbw1 : b1 < w4.heap.size := Nat.lt_of_lt_of_le hbl1 HBJ.out.size
                have hi1 : (i : Int) < (r.length : Int) := by omega
                have hj1 : (j : Int) < (r.length : Int) := by omega
                have HCL := Lib.hid hcl
                have HPR := Lib.hid hpr
                clear hpr hcl hpme hm1 hm2 hr1 hr2 hn1 hn2 hn e1 e2
                go_wp2_with fail
                refine wp_region_order2 [(0, true), (1, true), (2, true), (3, true), (4, true), (5, true), (6, true), (7, true), (8, true), (9, false)]
                  (fun w' => w'.cell? ⟨b1, o1 + i, none⟩ = some (.slice u1 n c1) ∧ w'.cell? ⟨b1, o1 + j, none⟩ = some (.slice u2' n c2)) (by kernel_rfl) (by kernel_rfl) ⟨e1', e2'⟩ (fun hHeld => ?_)
                simp only [pickT, List.getElem?_cons_zero, List.getElem?_cons_succ, Option.getD_some, List.length_cons, List.length_nil, Nat.reduceAdd, Nat.reduceSub]
                repeat (refine wpV_take (v := ?_) (by rfl) (fun w' hSw => ?_) ?_; rotate_left; (go_simp; with_reducible rfl); simp only [Act.put, List.setIfInBounds_toArray, List.set_cons_zero, List.set_cons_succ])
                refine wpV_do (fun K hK => ?_)
                go_simp
                go_at_call 20
                refine HPR.out.mono ?_
                rintro e w5 ⟨v4, rfl, hr4, hb4⟩
                obtain ⟨a4, m4, rfl⟩ := hr4.shape
                have hb4' : Below w4.heap.size w4 w5 := (below_drewN (Below.refl _ _) 1).trans hb4
                have k1 := (hb4'.cell (p := ⟨b1, o1 + i, none⟩) hbw1).trans e1'
                have k2 := (hb4'.cell (p := ⟨b1, o1 + j, none⟩) hbw1).trans e2'
                have hbw5 : Below w3.heap.size w3 w5 := HBJ.out.trans (hb4'.mono HBJ.out.size)
                have ki := In_w _ _ r pm w5 (MatsR.on HR.out hbw5) hr4
                rw [decide_eq_true HCL.out] at ki
                have KI := Lib.hid ki
                have HB5 := Lib.hid hbw5
                clear hr4 hb4 hb4' hbw5 ki hHeld
                refine hK.out _ _ ⟨k1, k2⟩ (fun hHeld => ?_)
                clear hK K hHeld
                refine (show ∀ {P : Program} {ops : Array Oper} {Q : Exit → Act → World → Prop} {S : World → Prop} {B : Act → World → Prop} {a : Act} {w : World}, B a w → wpV P ops Q S B [] a w from fun h => h) ?_
                refine wpV_two (fun K hK => ?_)
                go_simp
                go_at_call 31
                refine KI.out.mono ?_
                rintro e w' ⟨rfl, n, rfl⟩
                refine hK.out _ _ ?_
                clear hK K
                refine stepT_do (fun K hK => ?_)
                go_simp
                refine hK.out _ _ ?_
                clear hK K k1 k2 e1' e2'
                go_wp2_with fail
                go_roundw
                case rel => exact ⟨j + 1, by go_num, by omega, below_drewN HB5.out n⟩
                case measure => simp [intOf]; omega
              · have hjj : j = r.length := by omega
                go_wp2_with fail
                go_roundw
                case rel => exact ⟨i + 1, by go_num, by omega, HBJ.out⟩
                case measure => simp [intOf]; omega
          · have hii : i = r.length := by omega
            go_wp2_with fail
            clear hii
            refine (awake_w _).mono ?_
            rintro e w9 ⟨rfl, hb9⟩
            go_wp2_with fail
            go_ret
            exact ⟨rfl, (HB2.out.trans (HBI.out.mono HB2.out.size)).trans (hb9.mono (Nat.le_trans HB2.out.size HBI.out.size))⟩
end Go.Proofs.Ytfcmkhjimgpppaa
