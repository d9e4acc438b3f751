/-
  MatrixClosures: the walk: it returns true and writes nothing that was there. No condition but that the argument reads.
-/
import Derived.Test.YtfcmkhjimgpppaaRefClo
import Derived.Test.YtfcmkhjimgpppaaAwake
namespace Go.Proofs.Ytfcmkhjimgpppaa
open Go.RowKit Go.Maps
set_option linter.unusedVariables false
set_option linter.unusedSimpArgs false

set_option maxRecDepth 100000 in
set_option maxHeartbeats 4000000 in
theorem closures_walk (va : Value) (l : List Mx) (w : World) (h : MatsR (· < w.heap.size) w va l) :
    Calls Try.prog 7 #[va] w fun e w' => e = .returned (.bool true) ∧ Below w.heap.size w w' := by
  have kf := few_w va l w h
  have kn := Closure_no va l w h
  have kc := Closure_w va l w h
  have H := Lib.hid h
  obtain ⟨ao, cap, rfl, hlm, he⟩ := h.get
  have HE := Lib.hid he
  clear h he
  obtain ⟨fb, hfb⟩ : ∃ x, x = fewB l := ⟨_, rfl⟩
  rw [← hfb] at kf
  have HFB := Lib.hid hfb
  have KF := Lib.hid kf
  have KN := Lib.hid kn
  have KC := Lib.hid kc
  clear kf hfb kn kc
  cases fb
  · skip
    go_enter Try.func7, Try.ntmps7
    go_wp2_with fail
    refine KF.out.mono ?_
    rintro e w1 ⟨rfl, rfl⟩
    go_wp2_with fail
    refine (awake_w _).mono ?_
    rintro e w9 ⟨rfl, hb9⟩
    go_wp2_with fail
    go_ret
    exact ⟨rfl, hb9⟩
  have hl6 : l.length ≤ 6 := by
    have h := HFB.out
    unfold fewB at h
    rw [eq_comm, Bool.and_eq_true, decide_eq_true_iff] at h
    exact h.1
  cases hrb : rightsB l
  · have kn := KN.out hrb
    have KN := Lib.hid kn
    have HR := Lib.hid hrb
    clear kn hrb KC
    go_enter Try.func7, Try.ntmps7
    go_wp2_with fail
    refine KF.out.mono ?_
    rintro e w1 ⟨rfl, rfl⟩
    go_wp2_with fail
    refine KN.out.mono ?_
    rintro e w2 ⟨rfl, rfl⟩
    have HBB := Lib.hid (Below.refl w2.heap.size w2)
    go_wp2_with fail
    have HST := Lib.hid (Below.refl w2.heap.size w2)
    go_loopw [5] (fun i wr => ∃ (k : Nat), i = .int .i64 k ∧ k ≤ l.length ∧ Below w2.heap.size w2 wr ∧ ∀ k', k' < k → goodAt l (l.getD k' []) = true) (fun i _ => l.length - (intOf i).toNat)
    case atStart => exact ⟨0, rfl, Nat.zero_le _, HST.out, fun _ h => absurd h (Nat.not_lt_zero _)⟩
    case round =>
      obtain ⟨k, rfl, hk, hbr, hall⟩ := hrel
      obtain ⟨w5, rfl⟩ : ∃ x : World, x = wr := ⟨_, rfl⟩
      have HALL := Lib.hid hall
      have HBR := Lib.hid hbr
      clear hall hbr HST
      have hbw : Below w2.heap.size w2 w5 := HBB.out.trans (HBR.out.mono HBB.out.size)
      have HBW := Lib.hid hbw
      clear hbw
      by_cases hlt : k < l.length
      · obtain ⟨b, off, a1, c1, rfl, hb, hc, hm⟩ := HE.out k hlt
        obtain ⟨b0, off0, a0, c0, ee, -, hc0, -⟩ := HE.out 0 (by omega)
        injection ee with ee; injection ee with ee1 ee2; subst ee1; subst ee2
        rw [Nat.add_zero] at hc0
        have e1 := (HBW.out.cell (p := ⟨b, off + k, none⟩) hb).trans hc
        have e0 := (HBW.out.cell (p := ⟨b, off, none⟩) hb).trans hc0
        have kr := refRight_w _ _ w5.drew (hm.keep (w' := w5.drew) (P' := (· < w5.drew.heap.size)) (fun q hq => Nat.lt_of_lt_of_le hq HBW.out.size) fun q hq => HBW.out.block q hq)
        have h0l : 0 < l.length := by omega
        have hk1 : (k : Int) < (l.length : Int) := by omega
        have h01 : (0 : Int) < (l.length : Int) := by omega
        obtain ⟨m, hm'⟩ : ∃ m, m = l.getD k [] := ⟨_, rfl⟩
        obtain ⟨n0, hn0⟩ : ∃ n, n = (l.getD 0 []).length := ⟨_, rfl⟩
        rw [← hm'] at kr e1
        rw [← hn0] at e0
        obtain ⟨ml, hml⟩ : ∃ n, n = m.length := ⟨_, rfl⟩
        obtain ⟨x, hx⟩ : ∃ x, x = right m := ⟨_, rfl⟩
        rw [← hml] at e1 kr
        rw [← hx] at kr
        have HM := Lib.hid hm'
        have HML := Lib.hid hml
        have HX := Lib.hid hx
        have HN := Lib.hid hn0
        have KR := Lib.hid kr
        clear hm hm' hx hn0 kr hml hc hc0
        cases x
        · skip
          go_wp2_with fail
          refine wp_region_order [(0, true), (1, true), (2, true), (3, true), (4, false), (5, true), (6, true), (7, true), (8, true), (9, true), (10, true), (11, true), (12, true), (13, true), (14, true), (15, true), (16, true), (17, false)]
            (fun w' => w'.cell? ⟨b, off + k, none⟩ = some (.slice a1 ml c1) ∧ w'.cell? ⟨b, off, none⟩ = some (.slice a0 n0 c0)) (by kernel_rfl) (by kernel_rfl) ⟨e1, e0⟩ (fun hHeld => ?_)
          simp only [pickT, List.getElem?_cons_zero, List.getElem?_cons_succ, Option.getD_some]
          repeat (refine wpT_take (v := ?_) (by rfl) (fun w' hSw => ?_) ?_; rotate_left; (go_simp; with_reducible rfl); simp only [Act.put, List.setIfInBounds_toArray, List.set_cons_zero, List.set_cons_succ])
          refine wpT_do (fun K hK => ?_)
          go_simp
          go_at_call 16
          refine KR.out.mono ?_
          rintro e w' ⟨rfl, rfl⟩
          refine hK.out _ _ ⟨e1, e0⟩ (fun hHeld => ?_)
          clear hK K
          repeat (refine wpT_take (v := ?_) (by rfl) (fun w' hSw => ?_) ?_; rotate_left; (go_simp; with_reducible rfl); simp only [Act.put, List.setIfInBounds_toArray, List.set_cons_zero, List.set_cons_succ])
          repeat (refine wpT_skip (by rfl) ?_; simp only [Act.put, List.setIfInBounds_toArray, List.set_cons_zero, List.set_cons_succ])
          refine wpT_last (fun K hK => ?_)
          go_simp
          refine hK.out _ _ ?_
          clear hK K hHeld
          go_wp2_with fail
          refine (awake_w _).mono ?_
          rintro e w9 ⟨rfl, hb9⟩
          go_wp2_with fail
          go_ret
          exact ⟨rfl, (below_drewN HBW.out 1).trans (hb9.mono HBW.out.size)⟩
        · by_cases hnn : ml = n0
          · skip
            have hb1 : ((ml : Int) != (n0 : Int)) = false := by simp [hnn]
            have HNN := Lib.hid hnn
            clear hnn
            go_wp2_with fail
            refine wp_region_order [(0, true), (1, true), (2, true), (3, true), (4, false), (5, true), (6, true), (7, true), (8, true), (9, true), (10, true), (11, true), (12, true), (13, true), (14, true), (15, true), (16, true), (17, false)]
              (fun w' => w'.cell? ⟨b, off + k, none⟩ = some (.slice a1 ml c1) ∧ w'.cell? ⟨b, off, none⟩ = some (.slice a0 n0 c0)) (by kernel_rfl) (by kernel_rfl) ⟨e1, e0⟩ (fun hHeld => ?_)
            simp only [pickT, List.getElem?_cons_zero, List.getElem?_cons_succ, Option.getD_some]
            repeat (refine wpT_take (v := ?_) (by rfl) (fun w' hSw => ?_) ?_; rotate_left; (go_simp; with_reducible rfl); simp only [Act.put, List.setIfInBounds_toArray, List.set_cons_zero, List.set_cons_succ])
            refine wpT_do (fun K hK => ?_)
            go_simp
            go_at_call 16
            refine KR.out.mono ?_
            rintro e w' ⟨rfl, rfl⟩
            refine hK.out _ _ ⟨e1, e0⟩ (fun hHeld => ?_)
            clear hK K
            repeat (refine wpT_take (v := ?_) (by rfl) (fun w' hSw => ?_) ?_; rotate_left; (go_simp; with_reducible rfl); simp only [Act.put, List.setIfInBounds_toArray, List.set_cons_zero, List.set_cons_succ])
            skip
            refine wpT_last (fun K hK => ?_)
            go_simp
            refine hK.out _ _ ?_
            clear hK K hHeld
            go_wp2_with fail
            go_roundw
            case rel => exact ⟨k + 1, by go_num, by omega, below_drewN HBR.out 1, fun k' h' => by
              by_cases hkk : k' = k
              · subst hkk; unfold goodAt; rw [← HM.out, ← HX.out, ← HN.out, ← HML.out, decide_eq_true HNN.out]; rfl
              · exact HALL.out k' (by omega)⟩
            case measure => simp [intOf]; omega
          · have hb1 : ((ml : Int) != (n0 : Int)) = true := by simp; omega
            clear hnn
            go_wp2_with fail
            refine wp_region_order [(0, true), (1, true), (2, true), (3, true), (4, false), (5, true), (6, true), (7, true), (8, true), (9, true), (10, true), (11, true), (12, true), (13, true), (14, true), (15, true), (16, true), (17, false)]
              (fun w' => w'.cell? ⟨b, off + k, none⟩ = some (.slice a1 ml c1) ∧ w'.cell? ⟨b, off, none⟩ = some (.slice a0 n0 c0)) (by kernel_rfl) (by kernel_rfl) ⟨e1, e0⟩ (fun hHeld => ?_)
            simp only [pickT, List.getElem?_cons_zero, List.getElem?_cons_succ, Option.getD_some]
            repeat (refine wpT_take (v := ?_) (by rfl) (fun w' hSw => ?_) ?_; rotate_left; (go_simp; with_reducible rfl); simp only [Act.put, List.setIfInBounds_toArray, List.set_cons_zero, List.set_cons_succ])
            refine wpT_do (fun K hK => ?_)
            go_simp
            go_at_call 16
            refine KR.out.mono ?_
            rintro e w' ⟨rfl, rfl⟩
            refine hK.out _ _ ⟨e1, e0⟩ (fun hHeld => ?_)
            clear hK K
            repeat (refine wpT_take (v := ?_) (by rfl) (fun w' hSw => ?_) ?_; rotate_left; (go_simp; with_reducible rfl); simp only [Act.put, List.setIfInBounds_toArray, List.set_cons_zero, List.set_cons_succ])
            skip
            refine wpT_last (fun K hK => ?_)
            go_simp
            refine hK.out _ _ ?_
            clear hK K hHeld
            go_wp2_with fail
            refine (awake_w _).mono ?_
            rintro e w9 ⟨rfl, hb9⟩
            go_wp2_with fail
            go_ret
            exact ⟨rfl, (below_drewN HBW.out 1).trans (hb9.mono HBW.out.size)⟩
      · exfalso
        have := rightsB_of (l := l) fun i hi => HALL.out i (by omega)
        rw [HR.out] at this; cases this

  have kc := KC.out hrb (by omega)
  have HG := Lib.hid (show ∀ i, i < l.length → goodAt l (l.getD i []) = true from fun i hi => List.all_eq_true.1 hrb _ (getD_mem hi))
  obtain ⟨o, ho⟩ : ∃ o, o = closure l := ⟨_, rfl⟩
  rw [← ho] at kc
  have KC := Lib.hid kc
  have HO := Lib.hid ho
  have HRB := Lib.hid hrb
  clear kc ho hrb KN
  cases o with
  | none =>
    go_enter Try.func7, Try.ntmps7
    go_wp2_with fail
    refine KF.out.mono ?_
    rintro e w1 ⟨rfl, rfl⟩
    go_wp2_with fail
    refine KC.out.mono ?_
    rintro e w2 ⟨hb2, rfl⟩
    have HB2 := Lib.hid hb2
    clear hb2
    go_wp2_with fail
    have HST := Lib.hid (Below.refl w2.heap.size w2)
    go_loopw [5] (fun i wr => ∃ (k : Nat), i = .int .i64 k ∧ k ≤ l.length ∧ Below w2.heap.size w2 wr ∧ ∀ k', k' < k → goodAt l (l.getD k' []) = true) (fun i _ => l.length - (intOf i).toNat)
    case atStart => exact ⟨0, rfl, Nat.zero_le _, HST.out, fun _ h => absurd h (Nat.not_lt_zero _)⟩
    case round =>
      obtain ⟨k, rfl, hk, hbr, hall⟩ := hrel
      obtain ⟨w5, rfl⟩ : ∃ x : World, x = wr := ⟨_, rfl⟩
      have HALL := Lib.hid hall
      have HBR := Lib.hid hbr
      clear hall hbr HST
      have hbw : Below w.heap.size w w5 := HB2.out.trans (HBR.out.mono HB2.out.size)
      have HBW := Lib.hid hbw
      clear hbw
      by_cases hlt : k < l.length
      · obtain ⟨b, off, a1, c1, rfl, hb, hc, hm⟩ := HE.out k hlt
        obtain ⟨b0, off0, a0, c0, ee, -, hc0, -⟩ := HE.out 0 (by omega)
        injection ee with ee; injection ee with ee1 ee2; subst ee1; subst ee2
        rw [Nat.add_zero] at hc0
        have e1 := (HBW.out.cell (p := ⟨b, off + k, none⟩) hb).trans hc
        have e0 := (HBW.out.cell (p := ⟨b, off, none⟩) hb).trans hc0
        have kr := refRight_w _ _ w5.drew (hm.keep (w' := w5.drew) (P' := (· < w5.drew.heap.size)) (fun q hq => Nat.lt_of_lt_of_le hq HBW.out.size) fun q hq => HBW.out.block q hq)
        have h0l : 0 < l.length := by omega
        have hk1 : (k : Int) < (l.length : Int) := by omega
        have h01 : (0 : Int) < (l.length : Int) := by omega
        obtain ⟨m, hm'⟩ : ∃ m, m = l.getD k [] := ⟨_, rfl⟩
        obtain ⟨n0, hn0⟩ : ∃ n, n = (l.getD 0 []).length := ⟨_, rfl⟩
        rw [← hm'] at kr e1
        rw [← hn0] at e0
        obtain ⟨ml, hml⟩ : ∃ n, n = m.length := ⟨_, rfl⟩
        obtain ⟨x, hx⟩ : ∃ x, x = right m := ⟨_, rfl⟩
        rw [← hml] at e1 kr
        rw [← hx] at kr
        have HM := Lib.hid hm'
        have HML := Lib.hid hml
        have HX := Lib.hid hx
        have HN := Lib.hid hn0
        have KR := Lib.hid kr
        clear hm hm' hx hn0 kr hml hc hc0
        have hgd := HG.out k hlt
        unfold goodAt at hgd
        rw [← HM.out, ← HX.out, ← HN.out, ← HML.out, Bool.and_eq_true, decide_eq_true_iff] at hgd
        obtain ⟨hxt, hnn⟩ := hgd
        subst hxt
        have hb1 : ((ml : Int) != (n0 : Int)) = false := by simp [hnn]
        have HNN := Lib.hid hnn
        clear hnn
        go_wp2_with fail
        refine wp_region_order [(0, true), (1, true), (2, true), (3, true), (4, false), (5, true), (6, true), (7, true), (8, true), (9, true), (10, true), (11, true), (12, true), (13, true), (14, true), (15, true), (16, true), (17, false)]
          (fun w' => w'.cell? ⟨b, off + k, none⟩ = some (.slice a1 ml c1) ∧ w'.cell? ⟨b, off, none⟩ = some (.slice a0 n0 c0)) (by kernel_rfl) (by kernel_rfl) ⟨e1, e0⟩ (fun hHeld => ?_)
        simp only [pickT, List.getElem?_cons_zero, List.getElem?_cons_succ, Option.getD_some]
        repeat (refine wpT_take (v := ?_) (by rfl) (fun w' hSw => ?_) ?_; rotate_left; (go_simp; with_reducible rfl); simp only [Act.put, List.setIfInBounds_toArray, List.set_cons_zero, List.set_cons_succ])
        refine wpT_do (fun K hK => ?_)
        go_simp
        go_at_call 16
        refine KR.out.mono ?_
        rintro e w' ⟨rfl, rfl⟩
        refine hK.out _ _ ⟨e1, e0⟩ (fun hHeld => ?_)
        clear hK K
        repeat (refine wpT_take (v := ?_) (by rfl) (fun w' hSw => ?_) ?_; rotate_left; (go_simp; with_reducible rfl); simp only [Act.put, List.setIfInBounds_toArray, List.set_cons_zero, List.set_cons_succ])
        skip
        refine wpT_last (fun K hK => ?_)
        go_simp
        refine hK.out _ _ ?_
        clear hK K hHeld
        go_wp2_with fail
        go_roundw
        case rel => exact ⟨k + 1, by go_num, by omega, below_drewN HBR.out 1, fun k' h' => by
          by_cases hkk : k' = k
          · subst hkk; unfold goodAt; rw [← HM.out, ← HX.out, ← HN.out, ← HML.out, decide_eq_true HNN.out]; rfl
          · exact HALL.out k' (by omega)⟩
        case measure => simp [intOf]; omega
      · have hkl : k = l.length := by omega
        go_wp2_with fail
        clear hkl hlt hk HALL
        go_wp2_with fail
        refine (awake_w _).mono ?_
        rintro e w9 ⟨rfl, hb9⟩
        go_wp2_with fail
        go_ret
        exact ⟨rfl, HBW.out.trans (hb9.mono HBW.out.size)⟩

  | some r =>
    go_enter Try.func7, Try.ntmps7
    go_wp2_with fail
    refine KF.out.mono ?_
    rintro e w1 ⟨rfl, rfl⟩
    go_wp2_with fail
    refine KC.out.mono ?_
    rintro e w2 ⟨hb2, v, rfl, hr⟩
    obtain ⟨ar, cr, rfl, hrm, -⟩ := hr.get
    have HB2 := Lib.hid hb2
    have HV := Lib.hid hr
    clear hb2 hr KC
    by_cases h120 : 120 < r.length
    · go_wp2_with fail
      have HST := Lib.hid (Below.refl w2.heap.size w2)
      go_loopw [5] (fun i wr => ∃ (k : Nat), i = .int .i64 k ∧ k ≤ l.length ∧ Below w2.heap.size w2 wr ∧ ∀ k', k' < k → goodAt l (l.getD k' []) = true) (fun i _ => l.length - (intOf i).toNat)
      case atStart => exact ⟨0, rfl, Nat.zero_le _, HST.out, fun _ h => absurd h (Nat.not_lt_zero _)⟩
      case round =>
        obtain ⟨k, rfl, hk, hbr, hall⟩ := hrel
        obtain ⟨w5, rfl⟩ : ∃ x : World, x = wr := ⟨_, rfl⟩
        have HALL := Lib.hid hall
        have HBR := Lib.hid hbr
        clear hall hbr HST
        have hbw : Below w.heap.size w w5 := HB2.out.trans (HBR.out.mono HB2.out.size)
        have HBW := Lib.hid hbw
        clear hbw
        by_cases hlt : k < l.length
        · obtain ⟨b, off, a1, c1, rfl, hb, hc, hm⟩ := HE.out k hlt
          obtain ⟨b0, off0, a0, c0, ee, -, hc0, -⟩ := HE.out 0 (by omega)
          injection ee with ee; injection ee with ee1 ee2; subst ee1; subst ee2
          rw [Nat.add_zero] at hc0
          have e1 := (HBW.out.cell (p := ⟨b, off + k, none⟩) hb).trans hc
          have e0 := (HBW.out.cell (p := ⟨b, off, none⟩) hb).trans hc0
          have kr := refRight_w _ _ w5.drew (hm.keep (w' := w5.drew) (P' := (· < w5.drew.heap.size)) (fun q hq => Nat.lt_of_lt_of_le hq HBW.out.size) fun q hq => HBW.out.block q hq)
          have h0l : 0 < l.length := by omega
          have hk1 : (k : Int) < (l.length : Int) := by omega
          have h01 : (0 : Int) < (l.length : Int) := by omega
          obtain ⟨m, hm'⟩ : ∃ m, m = l.getD k [] := ⟨_, rfl⟩
          obtain ⟨n0, hn0⟩ : ∃ n, n = (l.getD 0 []).length := ⟨_, rfl⟩
          rw [← hm'] at kr e1
          rw [← hn0] at e0
          obtain ⟨ml, hml⟩ : ∃ n, n = m.length := ⟨_, rfl⟩
          obtain ⟨x, hx⟩ : ∃ x, x = right m := ⟨_, rfl⟩
          rw [← hml] at e1 kr
          rw [← hx] at kr
          have HM := Lib.hid hm'
          have HML := Lib.hid hml
          have HX := Lib.hid hx
          have HN := Lib.hid hn0
          have KR := Lib.hid kr
          clear hm hm' hx hn0 kr hml hc hc0
          have hgd := HG.out k hlt
          unfold goodAt at hgd
          rw [← HM.out, ← HX.out, ← HN.out, ← HML.out, Bool.and_eq_true, decide_eq_true_iff] at hgd
          obtain ⟨hxt, hnn⟩ := hgd
          subst hxt
          have hb1 : ((ml : Int) != (n0 : Int)) = false := by simp [hnn]
          have HNN := Lib.hid hnn
          clear hnn
          go_wp2_with fail
          refine wp_region_order [(0, true), (1, true), (2, true), (3, true), (4, false), (5, true), (6, true), (7, true), (8, true), (9, true), (10, true), (11, true), (12, true), (13, true), (14, true), (15, true), (16, true), (17, false)]
            (fun w' => w'.cell? ⟨b, off + k, none⟩ = some (.slice a1 ml c1) ∧ w'.cell? ⟨b, off, none⟩ = some (.slice a0 n0 c0)) (by kernel_rfl) (by kernel_rfl) ⟨e1, e0⟩ (fun hHeld => ?_)
          simp only [pickT, List.getElem?_cons_zero, List.getElem?_cons_succ, Option.getD_some]
          repeat (refine wpT_take (v := ?_) (by rfl) (fun w' hSw => ?_) ?_; rotate_left; (go_simp; with_reducible rfl); simp only [Act.put, List.setIfInBounds_toArray, List.set_cons_zero, List.set_cons_succ])
          refine wpT_do (fun K hK => ?_)
          go_simp
          go_at_call 16
          refine KR.out.mono ?_
          rintro e w' ⟨rfl, rfl⟩
          refine hK.out _ _ ⟨e1, e0⟩ (fun hHeld => ?_)
          clear hK K
          repeat (refine wpT_take (v := ?_) (by rfl) (fun w' hSw => ?_) ?_; rotate_left; (go_simp; with_reducible rfl); simp only [Act.put, List.setIfInBounds_toArray, List.set_cons_zero, List.set_cons_succ])
          skip
          refine wpT_last (fun K hK => ?_)
          go_simp
          refine hK.out _ _ ?_
          clear hK K hHeld
          go_wp2_with fail
          go_roundw
          case rel => exact ⟨k + 1, by go_num, by omega, below_drewN HBR.out 1, fun k' h' => by
            by_cases hkk : k' = k
            · subst hkk; unfold goodAt; rw [← HM.out, ← HX.out, ← HN.out, ← HML.out, decide_eq_true HNN.out]; rfl
            · exact HALL.out k' (by omega)⟩
          case measure => simp [intOf]; omega
        · have hkl : k = l.length := by omega
          go_wp2_with fail
          clear hkl hlt hk HALL
          refine (awake_w _).mono ?_
          rintro e w9 ⟨rfl, hb9⟩
          go_wp2_with fail
          go_ret
          exact ⟨rfl, HBW.out.trans (hb9.mono HBW.out.size)⟩

    · go_wp2_with fail
      have HST := Lib.hid (Below.refl w2.heap.size w2)
      go_loopw [5] (fun i wr => ∃ (k : Nat), i = .int .i64 k ∧ k ≤ l.length ∧ Below w2.heap.size w2 wr ∧ ∀ k', k' < k → goodAt l (l.getD k' []) = true) (fun i _ => l.length - (intOf i).toNat)
      case atStart => exact ⟨0, rfl, Nat.zero_le _, HST.out, fun _ h => absurd h (Nat.not_lt_zero _)⟩
      case round =>
        obtain ⟨k, rfl, hk, hbr, hall⟩ := hrel
        obtain ⟨w5, rfl⟩ : ∃ x : World, x = wr := ⟨_, rfl⟩
        have HALL := Lib.hid hall
        have HBR := Lib.hid hbr
        clear hall hbr HST
        have hbw : Below w.heap.size w w5 := HB2.out.trans (HBR.out.mono HB2.out.size)
        have HBW := Lib.hid hbw
        clear hbw
        by_cases hlt : k < l.length
        · obtain ⟨b, off, a1, c1, rfl, hb, hc, hm⟩ := HE.out k hlt
          obtain ⟨b0, off0, a0, c0, ee, -, hc0, -⟩ := HE.out 0 (by omega)
          injection ee with ee; injection ee with ee1 ee2; subst ee1; subst ee2
          rw [Nat.add_zero] at hc0
          have e1 := (HBW.out.cell (p := ⟨b, off + k, none⟩) hb).trans hc
          have e0 := (HBW.out.cell (p := ⟨b, off, none⟩) hb).trans hc0
          have kr := refRight_w _ _ w5.drew (hm.keep (w' := w5.drew) (P' := (· < w5.drew.heap.size)) (fun q hq => Nat.lt_of_lt_of_le hq HBW.out.size) fun q hq => HBW.out.block q hq)
          have h0l : 0 < l.length := by omega
          have hk1 : (k : Int) < (l.length : Int) := by omega
          have h01 : (0 : Int) < (l.length : Int) := by omega
          obtain ⟨m, hm'⟩ : ∃ m, m = l.getD k [] := ⟨_, rfl⟩
          obtain ⟨n0, hn0⟩ : ∃ n, n = (l.getD 0 []).length := ⟨_, rfl⟩
          rw [← hm'] at kr e1
          rw [← hn0] at e0
          obtain ⟨ml, hml⟩ : ∃ n, n = m.length := ⟨_, rfl⟩
          obtain ⟨x, hx⟩ : ∃ x, x = right m := ⟨_, rfl⟩
          rw [← hml] at e1 kr
          rw [← hx] at kr
          have HM := Lib.hid hm'
          have HML := Lib.hid hml
          have HX := Lib.hid hx
          have HN := Lib.hid hn0
          have KR := Lib.hid kr
          clear hm hm' hx hn0 kr hml hc hc0
          have hgd := HG.out k hlt
          unfold goodAt at hgd
          rw [← HM.out, ← HX.out, ← HN.out, ← HML.out, Bool.and_eq_true, decide_eq_true_iff] at hgd
          obtain ⟨hxt, hnn⟩ := hgd
          subst hxt
          have hb1 : ((ml : Int) != (n0 : Int)) = false := by simp [hnn]
          have HNN := Lib.hid hnn
          clear hnn
          go_wp2_with fail
          refine wp_region_order [(0, true), (1, true), (2, true), (3, true), (4, false), (5, true), (6, true), (7, true), (8, true), (9, true), (10, true), (11, true), (12, true), (13, true), (14, true), (15, true), (16, true), (17, false)]
            (fun w' => w'.cell? ⟨b, off + k, none⟩ = some (.slice a1 ml c1) ∧ w'.cell? ⟨b, off, none⟩ = some (.slice a0 n0 c0)) (by kernel_rfl) (by kernel_rfl) ⟨e1, e0⟩ (fun hHeld => ?_)
          simp only [pickT, List.getElem?_cons_zero, List.getElem?_cons_succ, Option.getD_some]
          repeat (refine wpT_take (v := ?_) (by rfl) (fun w' hSw => ?_) ?_; rotate_left; (go_simp; with_reducible rfl); simp only [Act.put, List.setIfInBounds_toArray, List.set_cons_zero, List.set_cons_succ])
          refine wpT_do (fun K hK => ?_)
          go_simp
          go_at_call 16
          refine KR.out.mono ?_
          rintro e w' ⟨rfl, rfl⟩
          refine hK.out _ _ ⟨e1, e0⟩ (fun hHeld => ?_)
          clear hK K
          repeat (refine wpT_take (v := ?_) (by rfl) (fun w' hSw => ?_) ?_; rotate_left; (go_simp; with_reducible rfl); simp only [Act.put, List.setIfInBounds_toArray, List.set_cons_zero, List.set_cons_succ])
          skip
          refine wpT_last (fun K hK => ?_)
          go_simp
          refine hK.out _ _ ?_
          clear hK K hHeld
          go_wp2_with fail
          go_roundw
          case rel => exact ⟨k + 1, by go_num, by omega, below_drewN HBR.out 1, fun k' h' => by
            by_cases hkk : k' = k
            · subst hkk; unfold goodAt; rw [← HM.out, ← HX.out, ← HN.out, ← HML.out, decide_eq_true HNN.out]; rfl
            · exact HALL.out k' (by omega)⟩
          case measure => simp [intOf]; omega
        · have hkl : k = l.length := by omega
          go_wp2_with fail
          clear hkl hlt hk HALL
          have krc := refClosure_w _ l r w5 (MatsR.on H.out HBW.out) HRB.out (by omega) HO.out.symm
          have KRC := Lib.hid krc
          have HV5 := Lib.hid (MatsR.on HV.out HBR.out)
          clear krc
          refine KRC.out.mono ?_
          rintro e w6 ⟨vv, rfl, hr6, hb6⟩
          obtain ⟨a6, c6, rfl, -, hre6⟩ := hr6.get
          have HRE := Lib.hid hre6
          have HV6 := Lib.hid (MatsR.on HV5.out hb6)
          have HB6 := Lib.hid (HBW.out.trans (hb6.mono HBW.out.size))
          have hb1 : ((r.length : Int) != (r.length : Int)) = false := by simp
          clear hr6 hre6 hb6 KRC HV5
          go_wp2_with fail
          have HST := Lib.hid (Below.refl w6.heap.size w6)
          go_loopw [8] (fun i wr => ∃ (k : Nat), i = .int .i64 k ∧ k ≤ r.length ∧ Below w6.heap.size w6 wr) (fun i _ => r.length - (intOf i).toNat)
          case atStart => exact ⟨0, rfl, Nat.zero_le _, HST.out⟩
          case round =>
            obtain ⟨k, rfl, hk, hbr⟩ := hrel
            obtain ⟨w7, rfl⟩ : ∃ x : World, x = wr := ⟨_, rfl⟩
            have HBR7 := Lib.hid hbr
            clear hbr HST
            by_cases hlt : k < r.length
            · obtain ⟨b1, o1, u1, c1, rfl, hbl1, e1, hm1⟩ := HRE.out k hlt
              obtain ⟨arr, crr, hvr, -, hvv⟩ := HV6.out.get
              injection hvr with hvr1 _ hvr2; subst hvr1; subst hvr2
              obtain ⟨b2, o2, u2', c2, rfl, hbl2, e2, hm2⟩ := hvv k hlt
              clear hvv
              have e1' := (HBR7.out.cell (p := ⟨b1, o1 + k, none⟩) hbl1).trans e1
              have e2' := (HBR7.out.cell (p := ⟨b2, o2 + k, none⟩) hbl2).trans e2
              have ks := same_w _ _ _ _ w7.drew ((MatR.on hm2 HBR7.out).keep (w' := w7.drew) (P' := (· < w7.drew.heap.size)) (fun _ h => h) fun _ _ => rfl) ((MatR.on hm1 HBR7.out).keep (w' := w7.drew) (P' := (· < w7.drew.heap.size)) (fun _ h => h) fun _ _ => rfl)
              rw [decide_eq_true rfl] at ks
              obtain ⟨ml, hml⟩ : ∃ n, n = (r.getD k []).length := ⟨_, rfl⟩
              rw [← hml] at e1' e2' ks
              have hk1 : (k : Int) < (r.length : Int) := by omega
              have KS := Lib.hid ks
              clear ks hml e1 e2 hm1 hm2
              go_wp2_with fail
              refine wp_region_order [(0, true), (1, true), (2, true), (3, true), (4, true), (5, true), (6, true), (7, true), (8, false), (9, false)]
                (fun w' => w'.cell? ⟨b2, o2 + k, none⟩ = some (.slice u2' ml c2) ∧ w'.cell? ⟨b1, o1 + k, none⟩ = some (.slice u1 ml c1)) (by kernel_rfl) (by kernel_rfl) ⟨e2', e1'⟩ (fun hHeld => ?_)
              simp only [pickT, List.getElem?_cons_zero, List.getElem?_cons_succ, Option.getD_some]
              repeat (refine wpT_take (v := ?_) (by rfl) (fun w' hSw => ?_) ?_; rotate_left; (go_simp; with_reducible rfl); simp only [Act.put, List.setIfInBounds_toArray, List.set_cons_zero, List.set_cons_succ])
              refine wpT_do (fun K hK => ?_)
              go_simp
              go_at_call 19
              refine KS.out.mono ?_
              rintro e w' ⟨rfl, n, rfl⟩
              refine hK.out _ _ ⟨e2', e1'⟩ (fun hHeld => ?_)
              clear hK K
              refine wpT_last (fun K hK => ?_)
              go_simp
              refine hK.out _ _ ?_
              clear hK K hHeld e1' e2'
              go_wp2_with fail
              go_roundw
              case rel => exact ⟨k + 1, by go_num, by omega, by first | exact below_drewN HBR7.out _ | exact below_drewN (below_drewN HBR7.out _) _⟩
              case measure => simp [intOf]; omega
            · have hkl : k = r.length := by omega
              go_wp2_with fail
              clear hkl
              refine (awake_w _).mono ?_
              rintro e w9 ⟨rfl, hb9⟩
              go_wp2_with fail
              go_ret
              exact ⟨rfl, (HB6.out.trans (HBR7.out.mono HB6.out.size)).trans (hb9.mono (Nat.le_trans HB6.out.size HBR7.out.size))⟩

end Go.Proofs.Ytfcmkhjimgpppaa
