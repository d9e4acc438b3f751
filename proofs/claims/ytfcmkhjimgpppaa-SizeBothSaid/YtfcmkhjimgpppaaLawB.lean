/-
  SizeBoth: the walk: it returns true and writes nothing that was there. No condition but that the arguments read.
-/
import Derived.Test.YtfcmkhjimgpppaaBy
namespace Go.Proofs.Ytfcmkhjimgpppaa
open Go.RowKit Go.Maps
set_option linter.unusedVariables false
set_option linter.unusedSimpArgs false

theorem byOk_ends {l : List Mx} {order : List Int} (h : ByOk l order) (hl : l.length ≤ 256) : endsR l = (true, 0) ∨ endsR l = (false, 2) := by
  obtain ⟨hrb, ho, hf⟩ := h
  unfold endsR
  rw [hrb]
  cases hc : closure l with
  | none => right; rfl
  | some r =>
    left
    have hok := closure_ok hc hl (rightsB_sqs hrb)
    have hbn : badAt r = none := by
      refine badAt_none fun k hk => ?_
      have hm := getD_mem hk
      by_cases h0 : l.length = 0
      · exfalso
        have : l = [] := List.eq_nil_of_length_eq_zero h0
        subst this
        exact closure_ind (Q := fun _ => False) hc (fun m hm => by cases hm) (fun _ _ h _ => h) _ hm
      · have hfl := closure_falls (o := order.map Int.toNat) hc (rightsB_sqs hrb) (fun i hi => by
          obtain ⟨x, hx, rfl⟩ := List.mem_map.1 hi
          obtain ⟨q, hq, hqe⟩ := List.getElem_of_mem hx
          have := ho q hq
          rw [List.getD_eq_getElem?_getD, List.getElem?_eq_getElem hq, Option.getD_some, hqe] at this
          have h2 := this.2 (by omega)
          omega) (fun m hm => by
          obtain ⟨i, hi, rfl⟩ := mem_getD hm
          exact hf i hi) _ hm
        obtain ⟨i, hi, h2⟩ := hfl
        unfold badB
        rw [(hok.1 _ hm).2, fallsB_yes i hi h2]
        simp
    simp [hbn]

set_option maxRecDepth 100000 in
set_option maxHeartbeats 1000000 in
theorem both_walk (va : Value) (l : List Mx) (vo : Value) (order : List Int) (w : World) (h : MatsR (· < w.heap.size) w va l) (ho : RowR (· < w.heap.size) w vo order) :
    Calls Try.prog 9 #[va, vo] w fun e w' => e = .returned (.bool true) ∧ Below w.heap.size w w' := by
  have kf := few31_w va l w h
  have kb := By_w va l vo order w h ho
  have H := Lib.hid h
  obtain ⟨ao, cap, rfl⟩ : ∃ ao cap, va = .slice ao l.length cap := by obtain ⟨ao, cap, hv, -⟩ := h.get; exact ⟨ao, cap, hv⟩
  obtain ⟨ao2, cap2, rfl⟩ : ∃ ao cap, vo = .slice ao order.length cap := by obtain ⟨ao, cap, hv, -⟩ := ho.get; exact ⟨ao, cap, hv⟩
  clear h ho
  obtain ⟨fb, hfb⟩ : ∃ x, x = few31B l := ⟨_, rfl⟩
  rw [← hfb] at kf
  have HFB := Lib.hid hfb
  have KF := Lib.hid kf
  have KB := Lib.hid kb
  clear kf hfb kb
  cases fb
  · go_enter Try.func9, Try.ntmps9
    go_wp2_with fail
    refine KF.out.mono ?_
    rintro e w1 ⟨rfl, rfl⟩
    go_wp2_with fail
    refine (awake31_w _).mono ?_
    rintro e w9 ⟨rfl, hb9⟩
    go_wp2_with fail
    go_ret
    exact ⟨rfl, hb9⟩
  have hl6 : l.length ≤ 6 := by
    have h := HFB.out
    unfold few31B at h
    rw [eq_comm, Bool.and_eq_true, decide_eq_true_iff] at h
    exact h.1
  by_cases h30 : 30 < order.length
  · go_enter Try.func9, Try.ntmps9
    go_wp2_with fail
    refine KF.out.mono ?_
    rintro e w1 ⟨rfl, rfl⟩
    go_wp2_with fail
    refine (awake31_w _).mono ?_
    rintro e w9 ⟨rfl, hb9⟩
    go_wp2_with fail
    go_ret
    exact ⟨rfl, hb9⟩
  have KB2 := Lib.hid (KB.out (by omega))
  clear KB
  go_enter Try.func9, Try.ntmps9
  go_wp2_with fail
  refine KF.out.mono ?_
  rintro e w1 ⟨rfl, rfl⟩
  go_wp2_with fail
  refine KB2.out.mono ?_
  rintro e w2 ⟨b, rfl, hb2, hok⟩
  have HB2 := Lib.hid hb2
  have HOK := Lib.hid hok
  clear hb2 hok KB2 KF
  cases b
  · go_wp2_with fail
    refine (awake31_w _).mono ?_
    rintro e w9 ⟨rfl, hb9⟩
    go_wp2_with fail
    go_ret
    exact ⟨rfl, HB2.out.trans (hb9.mono HB2.out.size)⟩
  · have hen := byOk_ends (HOK.out rfl) (by omega)
    have ke := Ends_w _ l w2 (MatsR.on H.out HB2.out) (by omega)
    rcases hen with hen | hen
    · rw [hen] at ke
      have KE := Lib.hid ke
      clear ke hen
      go_wp2_with fail
      refine KE.out.mono ?_
      rintro e w3 ⟨rfl, hb3⟩
      go_wp2_with fail
      refine (awake31_w _).mono ?_
      rintro e w9 ⟨rfl, hb9⟩
      go_wp2_with fail
      go_ret
      exact ⟨rfl, (HB2.out.trans (hb3.mono HB2.out.size)).trans (hb9.mono (Nat.le_trans HB2.out.size hb3.size))⟩
    · rw [hen] at ke
      have KE := Lib.hid ke
      clear ke hen
      go_wp2_with fail
      refine KE.out.mono ?_
      rintro e w3 ⟨rfl, hb3⟩
      go_wp2_with fail
      refine (awake31_w _).mono ?_
      rintro e w9 ⟨rfl, hb9⟩
      go_wp2_with fail
      go_ret
      exact ⟨rfl, (HB2.out.trans (hb3.mono HB2.out.size)).trans (hb9.mono (Nat.le_trans HB2.out.size hb3.size))⟩
end Go.Proofs.Ytfcmkhjimgpppaa
