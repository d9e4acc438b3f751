/-
  scholiumlaw31.few, awake; scholiumref31.Right, Bad; size.Bad: contracts.
-/
import Derived.Test.YtfcmkhjimgpppaaEnds
import Derived.Test.YtfcmkhjimgpppaaRound
namespace Go.Proofs.Ytfcmkhjimgpppaa
open Go.RowKit Go.Maps
set_option linter.unusedVariables false
set_option linter.unusedSimpArgs false

def small4 (m : Mx) : Bool := decide (m.length ≤ 4) && m.all fun r => decide (r.length ≤ 4)
def few31B (l : List Mx) : Bool := decide (l.length ≤ 6) && l.all small4
theorem few31_no {l : List Mx} {k : Nat} (hk : k < l.length) (h : small4 (l.getD k []) = false) : few31B l = false := by
  unfold few31B
  rw [Bool.and_eq_false_iff]
  right
  rw [List.all_eq_false]
  exact ⟨_, getD_mem hk, by rw [h]; decide⟩
theorem few31_yes {l : List Mx} (h6 : l.length ≤ 6) (h : ∀ k, k < l.length → small4 (l.getD k []) = true) : few31B l = true := by
  unfold few31B
  rw [decide_eq_true h6, Bool.true_and, List.all_eq_true]
  intro m hm
  obtain ⟨i, hi, rfl⟩ := mem_getD hm
  exact h i hi
theorem small4_len {m : Mx} (h : 4 < m.length) : small4 m = false := by unfold small4; rw [decide_eq_false (by omega)]; rfl
theorem small4_row {m : Mx} (j : Nat) (hj : j < m.length) (h : 4 < m[j].length) : small4 m = false := by
  unfold small4
  rw [Bool.and_eq_false_iff]
  right
  rw [List.all_eq_false]
  exact ⟨_, List.getElem_mem hj, by rw [decide_eq_false (by omega)]; decide⟩
theorem small4_yes {m : Mx} (h4 : ¬ 4 < m.length) (h : ∀ j (hj : j < m.length), m[j].length ≤ 4) : small4 m = true := by
  unfold small4
  rw [decide_eq_true (by omega), Bool.true_and, List.all_eq_true]
  intro r hr
  obtain ⟨j, hj, rfl⟩ := List.getElem_of_mem hr
  exact decide_eq_true (h j hj)
set_option maxHeartbeats 2000000 in
theorem few31_w (va : Value) (l : List Mx) (w : World) (h : MatsR (· < w.heap.size) w va l) :
    Calls Try.prog 32 #[va] w fun e w' => e = .returned (.bool (few31B l)) ∧ w = w' := by
  obtain ⟨y, hy⟩ : ∃ y, y = few31B l := ⟨_, rfl⟩
  rw [← hy]
  have HY := Lib.hid hy
  obtain ⟨ao, cap, rfl, hlm, he⟩ := h.get
  have HE := Lib.hid he
  clear h he hy
  by_cases h6 : 6 < l.length
  · go_enter Try.func32, Try.ntmps32
    go_wp2_with fail
    go_ret
    refine ⟨?_, rfl⟩
    have : y = false := by rw [HY.out]; unfold few31B; rw [decide_eq_false (by omega)]; rfl
    rw [this]; rfl
  have h6' : l.length ≤ 6 := by omega
  go_enter Try.func32, Try.ntmps32
  go_wp2_with fail
  go_loop [3] (fun i => ∃ k : Nat, i = .int .i64 k ∧ k ≤ l.length ∧ ∀ k', k' < k → small4 (l.getD k' []) = true) (fun i => l.length - (intOf i).toNat)
  case atStart => exact ⟨0, rfl, Nat.zero_le _, fun _ h => absurd h (Nat.not_lt_zero _)⟩
  case round =>
    obtain ⟨k, rfl, hk, hall⟩ := hrel
    have HALL := Lib.hid hall
    clear hall
    by_cases hlt : k < l.length
    · obtain ⟨b, off, a1, c1, rfl, hb, hc, hx⟩ := HE.out k hlt
      obtain ⟨x, hxe⟩ : ∃ x, x = l.getD k [] := ⟨_, rfl⟩
      rw [← hxe] at hc hx
      obtain ⟨ax, cx, hvx, hxm, hxr⟩ := hx.all
      injection hvx with hv1 hv2 hv3; subst hv1; subst hv3
      have HXR := Lib.hid hxr
      have HX := Lib.hid hxe
      clear hxr hx hxe hv2
      by_cases h4 : 4 < x.length
      · go_wp2_with fail
        go_ret
        refine ⟨?_, rfl⟩
        have : y = false := by rw [HY.out]; exact few31_no hlt (by rw [← HX.out]; exact small4_len h4)
        rw [this]; rfl
      · go_wp2_with fail
        go_loop [4] (fun i => ∃ k : Nat, i = .int .i64 k ∧ k ≤ x.length ∧ ∀ j (hj : j < x.length), j < k → x[j].length ≤ 4) (fun i => x.length - (intOf i).toNat)
        case atStart => exact ⟨0, rfl, Nat.zero_le _, fun _ _ h => absurd h (Nat.not_lt_zero _)⟩
        case round =>
          obtain ⟨j, rfl, hj, hrows⟩ := hrel
          have HROWS := Lib.hid hrows
          clear hrows
          by_cases hjl : j < x.length
          · obtain ⟨b2, o2, ar, cr, r, HRR, rfl, hcr, hrm, -⟩ := HXR.out j hjl
            by_cases hr4 : 4 < r.length
            · go_wp2_with fail
              go_ret
              refine ⟨?_, rfl⟩
              have : y = false := by rw [HY.out]; exact few31_no hlt (by rw [← HX.out]; exact small4_row j hjl (by rw [← HRR.out]; exact hr4))
              rw [this]; rfl
            · go_wp2_with fail
              go_round
              case rel => exact ⟨j + 1, by go_num, by omega, fun j' h' hj' => by
                by_cases hjj : j' = j
                · subst hjj; rw [← HRR.out]; omega
                · exact HROWS.out j' h' (by omega)⟩
              case measure => simp [intOf]; omega
          · have hjj : j = x.length := by omega
            go_wp2_with fail
            go_round
            case rel => exact ⟨k + 1, by go_num, by omega, fun k' hk' => by
              by_cases hkk : k' = k
              · subst hkk; rw [← HX.out]; exact small4_yes h4 fun j' h' => HROWS.out j' h' (by omega)
              · exact HALL.out k' (by omega)⟩
            case measure => simp [intOf]; omega
    · have hkl : k = l.length := by omega
      go_wp2_with fail
      go_ret
      refine ⟨?_, rfl⟩
      have : y = true := by rw [HY.out]; exact few31_yes h6' fun i hi => HALL.out i (by omega)
      rw [this]; rfl

theorem rightsB_no {l : List Mx} {k : Nat} (hk : k < l.length) (h : goodAt l (l.getD k []) = false) : rightsB l = false := by
  unfold rightsB
  rw [List.all_eq_false]
  exact ⟨_, getD_mem hk, by rw [h]; decide⟩
set_option maxRecDepth 100000 in
set_option maxHeartbeats 4000000 in
theorem refRight31_w (va : Value) (l : List Mx) (w : World) (h : MatsR (· < w.heap.size) w va l) :
    Calls Try.prog 38 #[va] w fun e w' => e = .returned (.bool (rightsB l)) ∧ Below w.heap.size w w' := by
  obtain ⟨y, hy⟩ : ∃ y, y = rightsB l := ⟨_, rfl⟩
  rw [← hy]
  have HY := Lib.hid hy
  obtain ⟨ao, cap, rfl, hlm, he⟩ := h.get
  have HE := Lib.hid he
  have HST := Lib.hid (Below.refl w.heap.size w)
  clear h he hy
  go_enter Try.func38, Try.ntmps38
  go_wp2_with fail
  go_loopw [3] (fun i wr => ∃ (k : Nat), i = .int .i64 k ∧ k ≤ l.length ∧ Below w.heap.size w wr ∧ ∀ k', k' < k → goodAt l (l.getD k' []) = true) (fun i _ => l.length - (intOf i).toNat)
  case atStart => exact ⟨0, rfl, Nat.zero_le _, HST.out, fun _ h => absurd h (Nat.not_lt_zero _)⟩
  case round =>
    obtain ⟨k, rfl, hk, hbr, hall⟩ := hrel
    obtain ⟨w5, rfl⟩ : ∃ x : World, x = wr := ⟨_, rfl⟩
    have HALL := Lib.hid hall
    have HBR := Lib.hid hbr
    clear hall hbr HST
    by_cases hlt : k < l.length
    · obtain ⟨b, off, a1, c1, rfl, hb, hc, hm⟩ := HE.out k hlt
      obtain ⟨b0, off0, a0, c0, ee, -, hc0, -⟩ := HE.out 0 (by omega)
      injection ee with ee; injection ee with ee1 ee2; subst ee1; subst ee2
      rw [Nat.add_zero] at hc0
      have e1 := (HBR.out.cell (p := ⟨b, off + k, none⟩) hb).trans hc
      have e0 := (HBR.out.cell (p := ⟨b, off, none⟩) hb).trans hc0
      have kr := refRight_w _ _ w5.drew (hm.keep (w' := w5.drew) (P' := (· < w5.drew.heap.size)) (fun q hq => Nat.lt_of_lt_of_le hq HBR.out.size) fun q hq => HBR.out.block q hq)
      have h0l : 0 < l.length := by omega
      have hk1 : (k : Int) < (l.length : Int) := by omega
      have h01 : (0 : Int) < (l.length : Int) := by omega
      obtain ⟨m, hm'⟩ : ∃ m, m = l.getD k [] := ⟨_, rfl⟩
      obtain ⟨n0, hn0⟩ : ∃ n, n = (l.getD 0 []).length := ⟨_, rfl⟩
      rw [← hm'] at kr e1
      rw [← hn0] at e0
      obtain ⟨ml, hml⟩ : ∃ n, n = m.length := ⟨_, rfl⟩
      obtain ⟨x, hx⟩ : ∃ x, x = right m := ⟨_, rfl⟩
      rw [← hml] at e1 kr
      rw [← hx] at kr
      have HM := Lib.hid hm'
      have HML := Lib.hid hml
      have HX := Lib.hid hx
      have HN := Lib.hid hn0
      have KR := Lib.hid kr
      clear hm hm' hx hn0 kr hml hc hc0
      cases x
      · have hbr : y = false := by
          rw [HY.out]; refine rightsB_no hlt ?_
          unfold goodAt; rw [← HM.out, ← HX.out]; rfl
        have HBADR := Lib.hid hbr
        clear hbr
        go_wp2_with fail
        refine wp_region_order [(0, true), (1, true), (2, true), (3, true), (4, false), (5, true), (6, true), (7, true), (8, true), (9, true), (10, true), (11, true), (12, true), (13, true), (14, true), (15, true), (16, true), (17, false)]
          (fun w' => w'.cell? ⟨b, off + k, none⟩ = some (.slice a1 ml c1) ∧ w'.cell? ⟨b, off, none⟩ = some (.slice a0 n0 c0)) (by kernel_rfl) (by kernel_rfl) ⟨e1, e0⟩ (fun hHeld => ?_)
        simp only [pickT, List.getElem?_cons_zero, List.getElem?_cons_succ, Option.getD_some]
        repeat (refine wpT_take (v := ?_) (by rfl) (fun w' hSw => ?_) ?_; rotate_left; (go_simp; with_reducible rfl); simp only [Act.put, List.setIfInBounds_toArray, List.set_cons_zero, List.set_cons_succ])
        refine wpT_do (fun K hK => ?_)
        go_simp
        go_at_call 16
        refine KR.out.mono ?_
        rintro e w' ⟨rfl, rfl⟩
        refine hK.out _ _ ⟨e1, e0⟩ (fun hHeld => ?_)
        clear hK K
        repeat (refine wpT_take (v := ?_) (by rfl) (fun w' hSw => ?_) ?_; rotate_left; (go_simp; with_reducible rfl); simp only [Act.put, List.setIfInBounds_toArray, List.set_cons_zero, List.set_cons_succ])
        repeat (refine wpT_skip (by rfl) ?_; simp only [Act.put, List.setIfInBounds_toArray, List.set_cons_zero, List.set_cons_succ])
        refine wpT_last (fun K hK => ?_)
        go_simp
        refine hK.out _ _ ?_
        clear hK K hHeld
        go_wp2_with fail
        go_ret
        exact ⟨by rw [HBADR.out]; rfl, below_drewN HBR.out 1⟩
      · by_cases hnn : ml = n0
        · skip
          have hb1 : ((ml : Int) != (n0 : Int)) = false := by simp [hnn]
          have HNN := Lib.hid hnn
          clear hnn
          go_wp2_with fail
          refine wp_region_order [(0, true), (1, true), (2, true), (3, true), (4, false), (5, true), (6, true), (7, true), (8, true), (9, true), (10, true), (11, true), (12, true), (13, true), (14, true), (15, true), (16, true), (17, false)]
            (fun w' => w'.cell? ⟨b, off + k, none⟩ = some (.slice a1 ml c1) ∧ w'.cell? ⟨b, off, none⟩ = some (.slice a0 n0 c0)) (by kernel_rfl) (by kernel_rfl) ⟨e1, e0⟩ (fun hHeld => ?_)
          simp only [pickT, List.getElem?_cons_zero, List.getElem?_cons_succ, Option.getD_some]
          repeat (refine wpT_take (v := ?_) (by rfl) (fun w' hSw => ?_) ?_; rotate_left; (go_simp; with_reducible rfl); simp only [Act.put, List.setIfInBounds_toArray, List.set_cons_zero, List.set_cons_succ])
          refine wpT_do (fun K hK => ?_)
          go_simp
          go_at_call 16
          refine KR.out.mono ?_
          rintro e w' ⟨rfl, rfl⟩
          refine hK.out _ _ ⟨e1, e0⟩ (fun hHeld => ?_)
          clear hK K
          repeat (refine wpT_take (v := ?_) (by rfl) (fun w' hSw => ?_) ?_; rotate_left; (go_simp; with_reducible rfl); simp only [Act.put, List.setIfInBounds_toArray, List.set_cons_zero, List.set_cons_succ])
          skip
          refine wpT_last (fun K hK => ?_)
          go_simp
          refine hK.out _ _ ?_
          clear hK K hHeld
          go_wp2_with fail
          go_roundw
          case rel => exact ⟨k + 1, by go_num, by omega, below_drewN HBR.out 1, fun k' h' => by
            by_cases hkk : k' = k
            · subst hkk; unfold goodAt; rw [← HM.out, ← HX.out, ← HN.out, ← HML.out, decide_eq_true HNN.out]; rfl
            · exact HALL.out k' (by omega)⟩
          case measure => simp [intOf]; omega
        · have hb1 : ((ml : Int) != (n0 : Int)) = true := by simp; omega
          have hbr : y = false := by
            rw [HY.out]; refine rightsB_no hlt ?_
            unfold goodAt; rw [← HM.out, ← HX.out, ← HN.out, ← HML.out, decide_eq_false hnn]; rfl
          have HBADR := Lib.hid hbr
          clear hnn hbr
          go_wp2_with fail
          refine wp_region_order [(0, true), (1, true), (2, true), (3, true), (4, false), (5, true), (6, true), (7, true), (8, true), (9, true), (10, true), (11, true), (12, true), (13, true), (14, true), (15, true), (16, true), (17, false)]
            (fun w' => w'.cell? ⟨b, off + k, none⟩ = some (.slice a1 ml c1) ∧ w'.cell? ⟨b, off, none⟩ = some (.slice a0 n0 c0)) (by kernel_rfl) (by kernel_rfl) ⟨e1, e0⟩ (fun hHeld => ?_)
          simp only [pickT, List.getElem?_cons_zero, List.getElem?_cons_succ, Option.getD_some]
          repeat (refine wpT_take (v := ?_) (by rfl) (fun w' hSw => ?_) ?_; rotate_left; (go_simp; with_reducible rfl); simp only [Act.put, List.setIfInBounds_toArray, List.set_cons_zero, List.set_cons_succ])
          refine wpT_do (fun K hK => ?_)
          go_simp
          go_at_call 16
          refine KR.out.mono ?_
          rintro e w' ⟨rfl, rfl⟩
          refine hK.out _ _ ⟨e1, e0⟩ (fun hHeld => ?_)
          clear hK K
          repeat (refine wpT_take (v := ?_) (by rfl) (fun w' hSw => ?_) ?_; rotate_left; (go_simp; with_reducible rfl); simp only [Act.put, List.setIfInBounds_toArray, List.set_cons_zero, List.set_cons_succ])
          skip
          refine wpT_last (fun K hK => ?_)
          go_simp
          refine hK.out _ _ ?_
          clear hK K hHeld
          go_wp2_with fail
          go_ret
          exact ⟨by rw [HBADR.out]; rfl, below_drewN HBR.out 1⟩
    · have hkl : k = l.length := by omega
      go_wp2_with fail
      go_ret
      refine ⟨?_, HBR.out⟩
      have : y = true := by rw [HY.out]; exact rightsB_of fun i hi => HALL.out i (by omega)
      rw [this]; rfl

set_option maxRecDepth 100000 in
set_option maxHeartbeats 4000000 in
theorem refBad31_w (va : Value) (l : List Mx) (w : World) (h : MatsR (· < w.heap.size) w va l) (hr : ∀ m ∈ l, right m = true) :
    Calls Try.prog 39 #[va] w fun e w' => e = .returned (.int .i64 (idx l)) ∧ Below w.heap.size w w' := by
  obtain ⟨ao, cap, rfl, hlm, he⟩ := h.get
  have HE := Lib.hid he
  have HR := Lib.hid hr
  have HST := Lib.hid (Below.refl w.heap.size w)
  clear h he hr
  obtain ⟨y, hy⟩ : ∃ y, y = idx l := ⟨_, rfl⟩
  rw [← hy]
  have HY := Lib.hid hy
  clear hy
  go_enter Try.func39, Try.ntmps39
  go_wp2_with fail
  go_loopw [3] (fun i wr => ∃ k : Nat, i = .int .i64 k ∧ k ≤ l.length ∧ Below w.heap.size w wr ∧ ∀ k', k' < k → badB (l.getD k' []) = false) (fun i _ => l.length - (intOf i).toNat)
  case atStart => exact ⟨0, rfl, Nat.zero_le _, HST.out, fun _ h => absurd h (Nat.not_lt_zero _)⟩
  case round =>
    obtain ⟨k, rfl, hk, hB, hall⟩ := hrel
    obtain ⟨w5, rfl⟩ : ∃ x : World, x = wr := ⟨_, rfl⟩
    have HALL := Lib.hid hall
    have HBR := Lib.hid hB
    clear hall hB HST
    by_cases hlt : k < l.length
    · obtain ⟨b, off, a1, c1, rfl, hb, hc, hm⟩ := HE.out k hlt
      have e1 := (HBR.out.cell (p := ⟨b, off + k, none⟩) hb).trans hc
      have hbw : b < w5.heap.size := Nat.lt_of_lt_of_le hb HBR.out.size
      have hmm := hm.keep (w' := w5) (P' := (· < w5.heap.size)) (fun q hq => Nat.lt_of_lt_of_le hq HBR.out.size) fun q hq => HBR.out.block q hq
      have hrm := HR.out _ (getD_mem hlt)
      have hk1 : (k : Int) < (l.length : Int) := by omega
      obtain ⟨m, hm'⟩ : ∃ m, m = l.getD k [] := ⟨_, rfl⟩
      rw [← hm'] at hmm e1 hrm
      have kp := refproduct_w _ _ m m w5.drew (hmm.keep (w' := w5.drew) (P' := (· < w5.drew.heap.size)) (fun _ h => h) fun _ _ => rfl) (hmm.keep (w' := w5.drew) (P' := (· < w5.drew.heap.size)) (fun _ h => h) fun _ _ => rfl) hrm hrm rfl
      obtain ⟨ml, hml⟩ : ∃ n, n = m.length := ⟨_, rfl⟩
      rw [← hml] at e1 hmm kp
      obtain ⟨s, hs⟩ : ∃ s, s = decide (prod m m = m) := ⟨_, rfl⟩
      obtain ⟨f, hf⟩ : ∃ f, f = fallsB m m.length := ⟨_, rfl⟩
      have hbad : badB m = (s && !f) := by unfold badB; rw [hs, hf]
      have HM := Lib.hid hm'
      have HS := Lib.hid hs
      have HFL := Lib.hid hf
      have HMM := Lib.hid hmm
      have HRM := Lib.hid hrm
      have KP := Lib.hid kp
      have HBADM := Lib.hid hbad
      clear hm' hs hf hmm hrm kp hbad hm hc hml
      cases s
      · skip
        go_wp2_with fail
        refine wp_region_order [(0, true), (1, true), (2, true), (3, true), (4, true), (5, true), (6, true), (7, true), (9, true), (10, true), (11, true), (12, true), (8, false), (13, false), (14, true), (15, true), (16, true), (17, true), (18, true), (19, false), (20, true), (21, false)]
          (fun w' => w'.cell? ⟨b, off + k, none⟩ = some (.slice a1 ml c1)) (by kernel_rfl) (by kernel_rfl) e1 (fun hHeld => ?_)
        simp only [pickT, List.getElem?_cons_zero, List.getElem?_cons_succ, Option.getD_some]
        repeat (refine wpT_take (v := ?_) (by rfl) (fun w' hSw => ?_) ?_; rotate_left; (go_simp; with_reducible rfl); simp only [Act.put, List.setIfInBounds_toArray, List.set_cons_zero, List.set_cons_succ])
        refine wpT_do (fun K hK => ?_)
        go_simp
        go_at_call 20
        refine KP.out.mono ?_
        rintro e w6 ⟨v6, rfl, hr6, hb6⟩
        obtain ⟨a6, c6, rfl⟩ := hr6.shape
        have hb6' : Below w5.heap.size w5 w6 := (below_drewN (Below.refl _ _) 1).trans hb6
        have k6 := (hb6'.cell (p := ⟨b, off + k, none⟩) hbw).trans e1
        have ks := same_w _ _ _ _ w6 hr6 (MatR.on HMM.out hb6')
        rw [← HS.out] at ks
        have HR6 := Lib.hid hr6
        have HB6 := Lib.hid hb6'
        have KS := Lib.hid ks
        clear hr6 hb6 hb6' ks hHeld
        refine hK.out _ _ k6 (fun hHeld => ?_)
        clear hK K hHeld
        refine wpT_do (fun K hK => ?_)
        go_simp
        go_at_call 19
        refine KS.out.mono ?_
        rintro e w' ⟨rfl, n6, rfl⟩
        refine hK.out _ _ (by first | exact k6 | (show _ = _; exact k6)) (fun hHeld => ?_)
        clear hK K
        repeat (refine wpT_take (v := ?_) (by rfl) (fun w' hSw => ?_) ?_; rotate_left; (go_simp; with_reducible rfl); simp only [Act.put, List.setIfInBounds_toArray, List.set_cons_zero, List.set_cons_succ])
        repeat (refine wpT_skip (by rfl) ?_; simp only [Act.put, List.setIfInBounds_toArray, List.set_cons_zero, List.set_cons_succ])
        refine wpT_do (fun K hK => ?_)
        go_simp
        refine hK.out _ _ k6 (fun hHeld => ?_)
        clear hK K
        repeat (refine wpT_skip (by rfl) ?_; simp only [Act.put, List.setIfInBounds_toArray, List.set_cons_zero, List.set_cons_succ])
        refine wpT_last (fun K hK => ?_)
        go_simp
        refine hK.out _ _ ?_
        clear hK K hHeld e1 k6
        have HBN := Lib.hid (HBR.out.trans ((below_drewN HB6.out n6).mono HBR.out.size))
        go_wp2_with fail
        go_roundw
        case rel => exact ⟨k + 1, by go_num, by omega, HBN.out, fun k' h' => by
          by_cases hkk : k' = k
          · subst hkk; rw [← HM.out]; exact HBADM.out
          · exact HALL.out k' (by omega)⟩
        case measure => simp [intOf]; omega
      · cases f
        · skip
          go_wp2_with fail
          refine wp_region_order [(0, true), (1, true), (2, true), (3, true), (4, true), (5, true), (6, true), (7, true), (9, true), (10, true), (11, true), (12, true), (8, false), (13, false), (14, true), (15, true), (16, true), (17, true), (18, true), (19, false), (20, true), (21, false)]
            (fun w' => w'.cell? ⟨b, off + k, none⟩ = some (.slice a1 ml c1)) (by kernel_rfl) (by kernel_rfl) e1 (fun hHeld => ?_)
          simp only [pickT, List.getElem?_cons_zero, List.getElem?_cons_succ, Option.getD_some]
          repeat (refine wpT_take (v := ?_) (by rfl) (fun w' hSw => ?_) ?_; rotate_left; (go_simp; with_reducible rfl); simp only [Act.put, List.setIfInBounds_toArray, List.set_cons_zero, List.set_cons_succ])
          refine wpT_do (fun K hK => ?_)
          go_simp
          go_at_call 20
          refine KP.out.mono ?_
          rintro e w6 ⟨v6, rfl, hr6, hb6⟩
          obtain ⟨a6, c6, rfl⟩ := hr6.shape
          have hb6' : Below w5.heap.size w5 w6 := (below_drewN (Below.refl _ _) 1).trans hb6
          have k6 := (hb6'.cell (p := ⟨b, off + k, none⟩) hbw).trans e1
          have ks := same_w _ _ _ _ w6 hr6 (MatR.on HMM.out hb6')
          rw [← HS.out] at ks
          have HR6 := Lib.hid hr6
          have HB6 := Lib.hid hb6'
          have KS := Lib.hid ks
          clear hr6 hb6 hb6' ks hHeld
          refine hK.out _ _ k6 (fun hHeld => ?_)
          clear hK K hHeld
          refine wpT_do (fun K hK => ?_)
          go_simp
          go_at_call 19
          refine KS.out.mono ?_
          rintro e w' ⟨rfl, n6, rfl⟩
          refine hK.out _ _ (by first | exact k6 | (show _ = _; exact k6)) (fun hHeld => ?_)
          clear hK K
          repeat (refine wpT_take (v := ?_) (by rfl) (fun w' hSw => ?_) ?_; rotate_left; (go_simp; with_reducible rfl); simp only [Act.put, List.setIfInBounds_toArray, List.set_cons_zero, List.set_cons_succ])
          refine wpT_do (fun K hK => ?_)
          go_simp
          go_at_call 26
          refine (refFalls_w _ _ (w6.drewN n6) ((MatR.on HMM.out HB6.out).keep (w' := w6.drewN n6) (P' := (· < (w6.drewN n6).heap.size)) (fun _ h => h) fun _ _ => rfl) HRM.out).mono ?_
          rw [← HFL.out]
          rintro e w' ⟨rfl, rfl⟩
          refine hK.out _ _ k6 (fun hHeld => ?_)
          clear hK K
          repeat (refine wpT_take (v := ?_) (by rfl) (fun w' hSw => ?_) ?_; rotate_left; (go_simp; with_reducible rfl); simp only [Act.put, List.setIfInBounds_toArray, List.set_cons_zero, List.set_cons_succ])
          refine wpT_last (fun K hK => ?_)
          go_simp
          refine hK.out _ _ ?_
          clear hK K hHeld e1 k6
          have HBN := Lib.hid (HBR.out.trans ((below_drewN HB6.out n6).mono HBR.out.size))
          go_wp2_with fail
          go_ret
          refine ⟨?_, HBN.out⟩
          have : y = (k : Int) := by
            rw [HY.out]; unfold idx
            rw [badAt_some hlt (by rw [← HM.out, HBADM.out]; rfl) HALL.out]
          rw [this]; rfl
        · skip
          go_wp2_with fail
          refine wp_region_order [(0, true), (1, true), (2, true), (3, true), (4, true), (5, true), (6, true), (7, true), (9, true), (10, true), (11, true), (12, true), (8, false), (13, false), (14, true), (15, true), (16, true), (17, true), (18, true), (19, false), (20, true), (21, false)]
            (fun w' => w'.cell? ⟨b, off + k, none⟩ = some (.slice a1 ml c1)) (by kernel_rfl) (by kernel_rfl) e1 (fun hHeld => ?_)
          simp only [pickT, List.getElem?_cons_zero, List.getElem?_cons_succ, Option.getD_some]
          repeat (refine wpT_take (v := ?_) (by rfl) (fun w' hSw => ?_) ?_; rotate_left; (go_simp; with_reducible rfl); simp only [Act.put, List.setIfInBounds_toArray, List.set_cons_zero, List.set_cons_succ])
          refine wpT_do (fun K hK => ?_)
          go_simp
          go_at_call 20
          refine KP.out.mono ?_
          rintro e w6 ⟨v6, rfl, hr6, hb6⟩
          obtain ⟨a6, c6, rfl⟩ := hr6.shape
          have hb6' : Below w5.heap.size w5 w6 := (below_drewN (Below.refl _ _) 1).trans hb6
          have k6 := (hb6'.cell (p := ⟨b, off + k, none⟩) hbw).trans e1
          have ks := same_w _ _ _ _ w6 hr6 (MatR.on HMM.out hb6')
          rw [← HS.out] at ks
          have HR6 := Lib.hid hr6
          have HB6 := Lib.hid hb6'
          have KS := Lib.hid ks
          clear hr6 hb6 hb6' ks hHeld
          refine hK.out _ _ k6 (fun hHeld => ?_)
          clear hK K hHeld
          refine wpT_do (fun K hK => ?_)
          go_simp
          go_at_call 19
          refine KS.out.mono ?_
          rintro e w' ⟨rfl, n6, rfl⟩
          refine hK.out _ _ (by first | exact k6 | (show _ = _; exact k6)) (fun hHeld => ?_)
          clear hK K
          repeat (refine wpT_take (v := ?_) (by rfl) (fun w' hSw => ?_) ?_; rotate_left; (go_simp; with_reducible rfl); simp only [Act.put, List.setIfInBounds_toArray, List.set_cons_zero, List.set_cons_succ])
          refine wpT_do (fun K hK => ?_)
          go_simp
          go_at_call 26
          refine (refFalls_w _ _ (w6.drewN n6) ((MatR.on HMM.out HB6.out).keep (w' := w6.drewN n6) (P' := (· < (w6.drewN n6).heap.size)) (fun _ h => h) fun _ _ => rfl) HRM.out).mono ?_
          rw [← HFL.out]
          rintro e w' ⟨rfl, rfl⟩
          refine hK.out _ _ k6 (fun hHeld => ?_)
          clear hK K
          repeat (refine wpT_take (v := ?_) (by rfl) (fun w' hSw => ?_) ?_; rotate_left; (go_simp; with_reducible rfl); simp only [Act.put, List.setIfInBounds_toArray, List.set_cons_zero, List.set_cons_succ])
          refine wpT_last (fun K hK => ?_)
          go_simp
          refine hK.out _ _ ?_
          clear hK K hHeld e1 k6
          have HBN := Lib.hid (HBR.out.trans ((below_drewN HB6.out n6).mono HBR.out.size))
          go_wp2_with fail
          go_roundw
          case rel => exact ⟨k + 1, by go_num, by omega, HBN.out, fun k' h' => by
            by_cases hkk : k' = k
            · subst hkk; rw [← HM.out]; exact HBADM.out
            · exact HALL.out k' (by omega)⟩
          case measure => simp [intOf]; omega
    · have hkl : k = l.length := by omega
      go_wp2_with fail
      go_ret
      refine ⟨?_, HBR.out⟩
      have : y = -1 := by
        rw [HY.out]; unfold idx
        rw [badAt_none fun k' h' => HALL.out k' (by omega)]
      rw [this]; rfl

/-- the first bad one of the closure -/
def badM (l : List Mx) : Mx := if rightsB l then (match closure l with | some r => (match badAt r with | some i => r.getD i [] | none => []) | none => []) else []
/-- what size.Bad answers -/
def AnsBad (w : World) (l : List Mx) (e : Ending) (w' : World) : Prop := ∃ v, e = .returned (.tuple #[v, .int .i64 (endsR l).2]) ∧ Below w.heap.size w w' ∧ MatR (· < w'.heap.size) w' v (badM l)
set_option maxHeartbeats 2000000 in
theorem Bad_w (va : Value) (l : List Mx) (w : World) (h : MatsR (· < w.heap.size) w va l) (hl : l.length ≤ 256) :
    Calls Try.prog 37 #[va] w (AnsBad w l) := by
  have kn := Closure_no va l w h
  have kc := Closure_w va l w h
  unfold AnsBad
  obtain ⟨y, hy⟩ : ∃ y, y = (endsR l).2 := ⟨_, rfl⟩
  obtain ⟨m, hm⟩ : ∃ m, m = badM l := ⟨_, rfl⟩
  rw [← hm, ← hy]
  unfold endsR at hy
  unfold badM at hm
  obtain ⟨ao, cap, rfl⟩ : ∃ ao cap, va = .slice ao l.length cap := by obtain ⟨ao, cap, hv, -⟩ := h.get; exact ⟨ao, cap, hv⟩
  clear h
  cases hrb : rightsB l
  · rw [hrb] at hy hm
    simp only [Bool.false_eq_true, ↓reduceIte] at hy hm
    subst hy
    subst hm
    have KN := Lib.hid (kn hrb)
    clear kn kc hrb
    go_enter Try.func37, Try.ntmps37
    go_wp2_with fail
    refine KN.out.mono ?_
    rintro e w2 ⟨rfl, rfl⟩
    go_wp2_with fail
    go_ret2
    exact ⟨_, rfl, Below.refl _ _, SlR.nil _ _⟩
  · rw [hrb] at hy hm
    simp only [↓reduceIte] at hy hm
    have kc := kc hrb hl
    cases ho : closure l with
    | none =>
      rw [ho] at hy hm kc
      simp only at hy hm
      subst hy
      subst hm
      have KC := Lib.hid kc
      clear kn kc hrb ho
      go_enter Try.func37, Try.ntmps37
      go_wp2_with fail
      refine KC.out.mono ?_
      rintro e w2 ⟨hb2, rfl⟩
      go_wp2_with fail
      go_ret2
      exact ⟨_, rfl, hb2, SlR.nil _ _⟩
    | some r =>
      rw [ho] at hy hm kc
      simp only at hy hm
      subst hy
      have hok := closure_ok ho hl (rightsB_sqs hrb)
      have KC := Lib.hid kc
      have HOK := Lib.hid hok
      clear kn kc hrb ho hok
      cases hba : badAt r with
      | none =>
        rw [hba] at hm
        simp only at hm
        subst hm
        have hidx : idx r = -1 := by unfold idx; rw [hba]
        have HIDX := Lib.hid hidx
        clear hba hidx
        go_enter Try.func37, Try.ntmps37
        go_wp2_with fail
        refine KC.out.mono ?_
        rintro e w2 ⟨hb2, v, rfl, hr⟩
        have kf := IndexFunc_w ofB51 v r w2 hr fun m hm => (HOK.out.1 m hm).1
        rw [HIDX.out] at kf
        have KF := Lib.hid kf
        have HB2 := Lib.hid hb2
        obtain ⟨ar, cr, rfl⟩ : ∃ ao cap, v = .slice ao r.length cap := by obtain ⟨ao, cap, hv, -⟩ := hr.get; exact ⟨ao, cap, hv⟩
        clear kf hb2 hr
        go_wp2_with fail
        refine KF.out.mono ?_
        rintro e w3 ⟨rfl, hb3⟩
        go_wp2_with fail
        go_ret2
        exact ⟨_, rfl, HB2.out.trans (hb3.mono HB2.out.size), SlR.nil _ _⟩
      | some i =>
        rw [hba] at hm
        simp only at hm
        have hidx : idx r = (i : Int) := by unfold idx; rw [hba]
        have hil := badAt_lt hba
        have HIDX := Lib.hid hidx
        have HMI := Lib.hid hm
        clear hba hidx hm
        go_enter Try.func37, Try.ntmps37
        go_wp2_with fail
        refine KC.out.mono ?_
        rintro e w2 ⟨hb2, v, rfl, hr⟩
        have kf := IndexFunc_w ofB51 v r w2 hr fun m hm => (HOK.out.1 m hm).1
        rw [HIDX.out] at kf
        have KF := Lib.hid kf
        have HB2 := Lib.hid hb2
        obtain ⟨ar, cr, rfl, hrm, hre⟩ := hr.get
        obtain ⟨b, off, a1, c1, rfl, hb, hc, hmm⟩ := hre i hil
        rw [← HMI.out] at hc hmm
        have HMM := Lib.hid hmm
        obtain ⟨ml, hml⟩ : ∃ ml, ml = m.length := ⟨_, rfl⟩
        rw [← hml] at hc HMM
        clear kf hb2 hr hre hmm hml
        go_wp2_with fail
        refine KF.out.mono ?_
        rintro e w3 ⟨rfl, hb3⟩
        have hc3 := (hb3.cell (p := ⟨b, off + i, none⟩) hb).trans hc
        have HB3 := Lib.hid (HB2.out.trans (hb3.mono HB2.out.size))
        have HM3 := Lib.hid (MatR.on HMM.out hb3)
        have hi1 : (i : Int) < (r.length : Int) := by omega
        clear hb3 hc
        go_wp2_with fail
        go_ret2
        exact ⟨_, rfl, HB3.out, HM3.out⟩

def aw3 (w : World) (x : Int) : World := ((w.alloc (.cells #[.int .i64 x] 3)).alloc (.cells #[.slice (some ⟨w.heap.size, 0, none⟩) 1 1] 29)).alloc (.cells #[.slice (some ⟨w.heap.size + 1, 0, none⟩) 1 1] 22)
theorem aw3_size (w : World) (x : Int) : (aw3 w x).heap.size = w.heap.size + 3 := by simp [aw3]
theorem aw3_below (w : World) (x : Int) : Below w.heap.size w (aw3 w x) := (((Below.refl _ _).alloc (Nat.le_refl _) _).alloc (by simp) _).alloc (by simp; omega) _
theorem aw3_mats (w : World) (x : Int) : MatsR (· < (aw3 w x).heap.size) (aw3 w x) (.slice (some ⟨w.heap.size + 2, 0, none⟩) 1 1) [[[x]]] := by
  have h2 : (aw3 w x).heap[w.heap.size + 2]? = some (.cells #[.slice (some ⟨w.heap.size + 1, 0, none⟩) 1 1] 22 (0, 0)) := heap_new _ _ _ (by simp)
  have h1 : (aw3 w x).heap[w.heap.size + 1]? = some (.cells #[.slice (some ⟨w.heap.size, 0, none⟩) 1 1] 29 (0, 0)) := (Below.heap_alloc _ _ _ (by simp)).trans (heap_new _ _ _ (by simp))
  have h0 : (aw3 w x).heap[w.heap.size]? = some (.cells #[.int .i64 x] 3 (0, 0)) := (Below.heap_alloc _ _ _ (by simp; omega)).trans ((Below.heap_alloc _ _ _ (by simp)).trans (heap_new _ _ _ rfl))
  have r0 : RowR (· < (aw3 w x).heap.size) (aw3 w x) (.slice (some ⟨w.heap.size, 0, none⟩) 1 1) [x] := OwnInts.row (l := [x]) h0 _ (by rw [aw3_size]; omega) (by simp [maxLen])
  have r1 : MatR (· < (aw3 w x).heap.size) (aw3 w x) (.slice (some ⟨w.heap.size + 1, 0, none⟩) 1 1) [[x]] := by
    refine ⟨_, 1, rfl, Nat.le_refl _, by simp [maxLen], fun i hi => ⟨_, 0, rfl, by rw [aw3_size]; omega, ?_⟩⟩
    match i, hi with
    | 0, _ => exact ⟨_, by simp [World.cell?, h1], r0⟩
  refine ⟨_, 1, rfl, Nat.le_refl _, by simp [maxLen], fun i hi => ⟨_, 0, rfl, by rw [aw3_size]; omega, ?_⟩⟩
  match i, hi with
  | 0, _ => exact ⟨_, by simp [World.cell?, h2], r1⟩
theorem ends2 : endsR [[[2]]] = (true, 0) := by kernel_rfl
theorem ends1 : endsR [[[1]]] = (false, 0) := by kernel_rfl
theorem awake31_w (w : World) : Calls Try.prog 34 #[] w fun e w' => e = .returned (.bool true) ∧ Below w.heap.size w w' := by
  have k1 := Ends_w _ _ (aw3 w 2) (aw3_mats w 2) (by simp)
  rw [ends2] at k1
  have K1 := Lib.hid k1
  have HB1 := Lib.hid (aw3_below w 2)
  clear k1
  unfold aw3 at K1
  go_enter Try.func34, Try.ntmps34
  go_wp2_with fail
  refine K1.out.mono ?_
  rintro e w1 ⟨rfl, hb1⟩
  have hb2 : Below w.heap.size w w1 := HB1.out.trans (hb1.mono HB1.out.size)
  have k2 := Ends_w _ _ (aw3 w1 1) (aw3_mats w1 1) (by simp)
  rw [ends1] at k2
  have K2 := Lib.hid k2
  have HB2 := Lib.hid hb2
  have HB3 := Lib.hid (aw3_below w1 1)
  clear k2 hb2 hb1
  unfold aw3 at K2
  go_wp2_with fail
  refine K2.out.mono ?_
  rintro e w2 ⟨rfl, hb4⟩
  have HB4 := Lib.hid (HB3.out.trans (hb4.mono HB3.out.size))
  clear hb4
  go_wp2_with fail
  go_ret
  exact ⟨rfl, HB2.out.trans (HB4.out.mono HB2.out.size)⟩
end Go.Proofs.Ytfcmkhjimgpppaa
