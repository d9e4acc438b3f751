/-
  SizeEnds: the walk: it returns true and writes nothing that was there. No condition but that the argument reads.
-/
import Derived.Test.YtfcmkhjimgpppaaSzs
namespace Go.Proofs.Ytfcmkhjimgpppaa
open Go.RowKit Go.Maps
set_option linter.unusedVariables false
set_option linter.unusedSimpArgs false

set_option maxRecDepth 100000 in
set_option maxHeartbeats 1000000 in
theorem ends_walk (va : Value) (l : List Mx) (w : World) (h : MatsR (· < w.heap.size) w va l) :
    Calls Try.prog 11 #[va] w fun e w' => e = .returned (.bool true) ∧ Below w.heap.size w w' := by
  have kf := few31_w va l w h
  have H := Lib.hid h
  obtain ⟨ao, cap, rfl⟩ : ∃ ao cap, va = .slice ao l.length cap := by obtain ⟨ao, cap, hv, -⟩ := h.get; exact ⟨ao, cap, hv⟩
  clear h
  obtain ⟨fb, hfb⟩ : ∃ x, x = few31B l := ⟨_, rfl⟩
  rw [← hfb] at kf
  have HFB := Lib.hid hfb
  have KF := Lib.hid kf
  clear kf hfb
  cases fb
  · go_enter Try.func11, Try.ntmps11
    go_wp2_with fail
    refine KF.out.mono ?_
    rintro e w1 ⟨rfl, rfl⟩
    go_wp2_with fail
    refine (awake31_w _).mono ?_
    rintro e w9 ⟨rfl, hb9⟩
    go_wp2_with fail
    go_ret
    exact ⟨rfl, hb9⟩
  have hl6 : l.length ≤ 6 := by
    have h := HFB.out
    unfold few31B at h
    rw [eq_comm, Bool.and_eq_true, decide_eq_true_iff] at h
    exact h.1
  cases hrb : rightsB l
  · have HER := Lib.hid (show endsR l = (false, 5) by unfold endsR; rw [hrb]; rfl)
    have HBM := Lib.hid (show badM l = [] by unfold badM; rw [hrb]; rfl)
    have HRB := Lib.hid hrb
    clear hrb
    go_enter Try.func11, Try.ntmps11
    go_wp2_with fail
    refine KF.out.mono ?_
    rintro e w1 ⟨rfl, rfl⟩
    have ke := Ends_w _ l w H.out (by omega)
    rw [HER.out] at ke
    have KE := Lib.hid ke
    clear ke
    go_wp2_with fail
    refine KE.out.mono ?_
    rintro e w2 ⟨rfl, hb2⟩
    have kc := Check_w _ l w2 (MatsR.on H.out hb2) (by omega)
    rw [HER.out] at kc
    simp only [Bool.false_eq_true, Bool.true_eq_false, and_true, and_false, ↓reduceIte, Int.reduceEq] at kc
    have KCK := Lib.hid kc
    have HB2 := Lib.hid hb2
    clear kc hb2
    go_wp2_with fail
    refine KCK.out.mono ?_
    rintro e w3 ⟨rfl, hb3⟩
    have HB3 := Lib.hid (HB2.out.trans (hb3.mono HB2.out.size))
    clear hb3
    have kb := Bad_w _ l w3 (MatsR.on H.out HB3.out) (by omega)
    unfold AnsBad at kb
    rw [HER.out, HBM.out] at kb
    have KB := Lib.hid kb
    clear kb
    go_wp2_with fail
    refine KB.out.mono ?_
    rintro e w4 ⟨vm, rfl, hb4, hm4⟩
    obtain ⟨am, cm, rfl⟩ := hm4.shape
    have HB4 := Lib.hid (HB3.out.trans (hb4.mono HB3.out.size))
    have HM4 := Lib.hid hm4
    clear hb4 hm4
    have kr := refRight31_w _ l w4 (MatsR.on H.out HB4.out)
    rw [HRB.out] at kr
    have KR := Lib.hid kr
    clear kr
    go_wp2_with fail
    refine KR.out.mono ?_
    rintro e w5 ⟨rfl, hb5⟩
    have HM5 := Lib.hid (MatR.on HM4.out hb5)
    have HB5 := Lib.hid (HB4.out.trans (hb5.mono HB4.out.size))
    clear hb5 KF KE KCK KB KR HM4
    go_wp2_with fail
    refine (awake31_w _).mono ?_
    rintro e w9 ⟨rfl, hb9⟩
    go_wp2_with fail
    go_ret
    exact ⟨rfl, HB5.out.trans (hb9.mono HB5.out.size)⟩
  cases ho : closure l with
  | none =>
    have HER := Lib.hid (show endsR l = (false, 2) by unfold endsR; rw [hrb, ho]; rfl)
    have HBM := Lib.hid (show badM l = [] by unfold badM; rw [hrb, ho]; rfl)
    have HRB := Lib.hid hrb
    have HO := Lib.hid ho
    clear hrb ho
    go_enter Try.func11, Try.ntmps11
    go_wp2_with fail
    refine KF.out.mono ?_
    rintro e w1 ⟨rfl, rfl⟩
    have ke := Ends_w _ l w H.out (by omega)
    rw [HER.out] at ke
    have KE := Lib.hid ke
    clear ke
    go_wp2_with fail
    refine KE.out.mono ?_
    rintro e w2 ⟨rfl, hb2⟩
    have kc := Check_w _ l w2 (MatsR.on H.out hb2) (by omega)
    rw [HER.out] at kc
    simp only [Bool.false_eq_true, Bool.true_eq_false, and_true, and_false, ↓reduceIte, Int.reduceEq] at kc
    have KCK := Lib.hid kc
    have HB2 := Lib.hid hb2
    clear kc hb2
    go_wp2_with fail
    refine KCK.out.mono ?_
    rintro e w3 ⟨rfl, hb3⟩
    have HB3 := Lib.hid (HB2.out.trans (hb3.mono HB2.out.size))
    clear hb3
    have kb := Bad_w _ l w3 (MatsR.on H.out HB3.out) (by omega)
    unfold AnsBad at kb
    rw [HER.out, HBM.out] at kb
    have KB := Lib.hid kb
    clear kb
    go_wp2_with fail
    refine KB.out.mono ?_
    rintro e w4 ⟨vm, rfl, hb4, hm4⟩
    obtain ⟨am, cm, rfl⟩ := hm4.shape
    have HB4 := Lib.hid (HB3.out.trans (hb4.mono HB3.out.size))
    have HM4 := Lib.hid hm4
    clear hb4 hm4
    have kr := refRight31_w _ l w4 (MatsR.on H.out HB4.out)
    rw [HRB.out] at kr
    have KR := Lib.hid kr
    clear kr
    go_wp2_with fail
    refine KR.out.mono ?_
    rintro e w5 ⟨rfl, hb5⟩
    have HM5 := Lib.hid (MatR.on HM4.out hb5)
    have HB5 := Lib.hid (HB4.out.trans (hb5.mono HB4.out.size))
    clear hb5 KF KE KCK KB KR HM4
    have kc := Closure_w _ l w5 (MatsR.on H.out HB5.out) HRB.out (by omega)
    rw [HO.out] at kc
    have KC := Lib.hid kc
    clear kc
    go_wp2_with fail
    refine KC.out.mono ?_
    rintro e w6 ⟨hb6, rfl⟩
    have HB5 := Lib.hid (HB5.out.trans (hb6.mono HB5.out.size))
    clear hb6
    go_wp2_with fail
    refine (awake31_w _).mono ?_
    rintro e w9 ⟨rfl, hb9⟩
    go_wp2_with fail
    go_ret
    exact ⟨rfl, HB5.out.trans (hb9.mono HB5.out.size)⟩
  | some r =>
    have hok := closure_ok ho (by omega) (rightsB_sqs hrb)
    have HOK := Lib.hid hok
    clear hok
    cases hba : badAt r with
    | none =>
      have HER := Lib.hid (show endsR l = (true, 0) by unfold endsR; rw [hrb, ho]; simp [hba])
      have HBM := Lib.hid (show badM l = [] by unfold badM; rw [hrb, ho]; simp [hba])
      have HIX := Lib.hid (show idx r = -1 by unfold idx; rw [hba])
      have HRB := Lib.hid hrb
      have HO := Lib.hid ho
      clear hrb ho hba
      go_enter Try.func11, Try.ntmps11
      go_wp2_with fail
      refine KF.out.mono ?_
      rintro e w1 ⟨rfl, rfl⟩
      have ke := Ends_w _ l w H.out (by omega)
      rw [HER.out] at ke
      have KE := Lib.hid ke
      clear ke
      go_wp2_with fail
      refine KE.out.mono ?_
      rintro e w2 ⟨rfl, hb2⟩
      have kc := Check_w _ l w2 (MatsR.on H.out hb2) (by omega)
      rw [HER.out] at kc
      simp only [Bool.false_eq_true, Bool.true_eq_false, and_true, and_false, ↓reduceIte, Int.reduceEq] at kc
      have KCK := Lib.hid kc
      have HB2 := Lib.hid hb2
      clear kc hb2
      go_wp2_with fail
      refine KCK.out.mono ?_
      rintro e w3 ⟨rfl, hb3⟩
      have HB3 := Lib.hid (HB2.out.trans (hb3.mono HB2.out.size))
      clear hb3
      have kb := Bad_w _ l w3 (MatsR.on H.out HB3.out) (by omega)
      unfold AnsBad at kb
      rw [HER.out, HBM.out] at kb
      have KB := Lib.hid kb
      clear kb
      go_wp2_with fail
      refine KB.out.mono ?_
      rintro e w4 ⟨vm, rfl, hb4, hm4⟩
      obtain ⟨am, cm, rfl⟩ := hm4.shape
      have HB4 := Lib.hid (HB3.out.trans (hb4.mono HB3.out.size))
      have HM4 := Lib.hid hm4
      clear hb4 hm4
      have kr := refRight31_w _ l w4 (MatsR.on H.out HB4.out)
      rw [HRB.out] at kr
      have KR := Lib.hid kr
      clear kr
      go_wp2_with fail
      refine KR.out.mono ?_
      rintro e w5 ⟨rfl, hb5⟩
      have HM5 := Lib.hid (MatR.on HM4.out hb5)
      have HB5 := Lib.hid (HB4.out.trans (hb5.mono HB4.out.size))
      clear hb5 KF KE KCK KB KR HM4
      have kc := Closure_w _ l w5 (MatsR.on H.out HB5.out) HRB.out (by omega)
      rw [HO.out] at kc
      have KC := Lib.hid kc
      clear kc
      go_wp2_with fail
      refine KC.out.mono ?_
      rintro e w6 ⟨hb6, vc, rfl, hr6⟩
      have HB6 := Lib.hid (HB5.out.trans (hb6.mono HB5.out.size))
      have kb := refBad31_w _ r w6 hr6 fun m hm => (HOK.out.1 m hm).1
      rw [HIX.out] at kb
      have KB := Lib.hid kb
      obtain ⟨ac, cc, rfl⟩ : ∃ ao cap, vc = .slice ao r.length cap := by obtain ⟨ao, cap, hv, -⟩ := hr6.get; exact ⟨ao, cap, hv⟩
      clear hb6 kb hr6
      go_wp2_with fail
      refine KB.out.mono ?_
      rintro e w7 ⟨rfl, hb7⟩
      have HB5 := Lib.hid (HB6.out.trans (hb7.mono HB6.out.size))
      clear hb7
      go_wp2_with fail
      refine (awake31_w _).mono ?_
      rintro e w9 ⟨rfl, hb9⟩
      go_wp2_with fail
      go_ret
      exact ⟨rfl, HB5.out.trans (hb9.mono HB5.out.size)⟩
    | some i =>
      have HER := Lib.hid (show endsR l = (false, 0) by unfold endsR; rw [hrb, ho]; simp [hba])
      obtain ⟨mm, hmm'⟩ : ∃ m, m = r.getD i [] := ⟨_, rfl⟩
      have HBM := Lib.hid (show badM l = mm by rw [hmm']; unfold badM; rw [hrb, ho]; simp [hba])
      have HMV := Lib.hid hmm'
      clear hmm'
      have HIX := Lib.hid (show idx r = (i : Int) by unfold idx; rw [hba])
      have hil := badAt_lt hba
      have HRB := Lib.hid hrb
      have HO := Lib.hid ho
      clear hrb ho hba
      go_enter Try.func11, Try.ntmps11
      go_wp2_with fail
      refine KF.out.mono ?_
      rintro e w1 ⟨rfl, rfl⟩
      have ke := Ends_w _ l w H.out (by omega)
      rw [HER.out] at ke
      have KE := Lib.hid ke
      clear ke
      go_wp2_with fail
      refine KE.out.mono ?_
      rintro e w2 ⟨rfl, hb2⟩
      have kc := Check_w _ l w2 (MatsR.on H.out hb2) (by omega)
      rw [HER.out] at kc
      simp only [Bool.false_eq_true, Bool.true_eq_false, and_true, and_false, ↓reduceIte, Int.reduceEq] at kc
      have KCK := Lib.hid kc
      have HB2 := Lib.hid hb2
      clear kc hb2
      go_wp2_with fail
      refine KCK.out.mono ?_
      rintro e w3 ⟨rfl, hb3⟩
      have HB3 := Lib.hid (HB2.out.trans (hb3.mono HB2.out.size))
      clear hb3
      have kb := Bad_w _ l w3 (MatsR.on H.out HB3.out) (by omega)
      unfold AnsBad at kb
      rw [HER.out, HBM.out] at kb
      have KB := Lib.hid kb
      clear kb
      go_wp2_with fail
      refine KB.out.mono ?_
      rintro e w4 ⟨vm, rfl, hb4, hm4⟩
      obtain ⟨am, cm, rfl⟩ := hm4.shape
      have HB4 := Lib.hid (HB3.out.trans (hb4.mono HB3.out.size))
      have HM4 := Lib.hid hm4
      clear hb4 hm4
      have kr := refRight31_w _ l w4 (MatsR.on H.out HB4.out)
      rw [HRB.out] at kr
      have KR := Lib.hid kr
      clear kr
      go_wp2_with fail
      refine KR.out.mono ?_
      rintro e w5 ⟨rfl, hb5⟩
      have HM5 := Lib.hid (MatR.on HM4.out hb5)
      have HB5 := Lib.hid (HB4.out.trans (hb5.mono HB4.out.size))
      clear hb5 KF KE KCK KB KR HM4
      have kc := Closure_w _ l w5 (MatsR.on H.out HB5.out) HRB.out (by omega)
      rw [HO.out] at kc
      have KC := Lib.hid kc
      clear kc
      go_wp2_with fail
      refine KC.out.mono ?_
      rintro e w6 ⟨hb6, vc, rfl, hr6⟩
      have HB6 := Lib.hid (HB5.out.trans (hb6.mono HB5.out.size))
      have HM6 := Lib.hid (MatR.on HM5.out hb6)
      have kb := refBad31_w _ r w6 hr6 fun m hm => (HOK.out.1 m hm).1
      rw [HIX.out] at kb
      have KB := Lib.hid kb
      obtain ⟨ac, cc, rfl, hrm, hre⟩ := hr6.get
      obtain ⟨b, off, a1, c1, rfl, hb, hc, hmm⟩ := hre i hil
      rw [← HMV.out] at hc hmm
      have HMM := Lib.hid hmm
      have hi1 : (i : Int) < (r.length : Int) := by omega
      clear hb6 kb hr6 hre hmm
      go_wp2_with fail
      refine KB.out.mono ?_
      rintro e w7 ⟨rfl, hb7⟩
      have HB5 := Lib.hid (HB6.out.trans (hb7.mono HB6.out.size))
      have hc7 := (hb7.cell (p := ⟨b, off + i, none⟩) hb).trans hc
      have ks := same_w _ _ _ _ w7 (MatR.on HM6.out hb7) (MatR.on HMM.out hb7)
      rw [decide_eq_true rfl] at ks
      have KS := Lib.hid ks
      clear hb7 hc ks
      go_wp2_with fail
      refine KS.out.mono ?_
      rintro e w' ⟨rfl, n, rfl⟩
      go_wp2_with fail
      refine (awake31_w _).mono ?_
      rintro e w9 ⟨rfl, hb9⟩
      go_wp2_with fail
      go_ret
      exact ⟨rfl, (below_drewN HB5.out n).trans (hb9.mono HB5.out.size)⟩
end Go.Proofs.Ytfcmkhjimgpppaa
