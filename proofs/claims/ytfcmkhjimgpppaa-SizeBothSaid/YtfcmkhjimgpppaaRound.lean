/-
  scholiumref30.round, Closure: contracts, where a closure of no more than 256 matrices is there.
-/
import Derived.Test.YtfcmkhjimgpppaaIns
import Derived.Test.YtfcmkhjimgpppaaLawR
namespace Go.Proofs.Ytfcmkhjimgpppaa
open Go.RowKit Go.Maps
set_option linter.unusedVariables false
set_option linter.unusedSimpArgs false

/-- the elements' values -/
theorem MatsR.vals {w : World} {v : Value} {l : List Mx} (h : MatsR (· < w.heap.size) w v l) (h0 : 0 < l.length) : ∃ (b off cap : Nat) (us : List Value), v = .slice (some ⟨b, off, none⟩) l.length cap ∧ b < w.heap.size ∧ us.length = l.length ∧
    (∀ j u, us[j]? = some u → w.cell? ((⟨b, off, none⟩ : Addr).add j) = some u) ∧ ∀ i (hi : i < l.length), ∃ u, us[i]? = some u ∧ u.oneCell' = true ∧ MatR (· < w.heap.size) w u l[i] := by
  obtain ⟨ao, cap, rfl, hlc, hcm, he⟩ := h
  obtain ⟨b, off, rfl, hb, -⟩ := he 0 h0
  have key : ∀ i (hi : i < l.length), ∃ u, w.cell? ⟨b, off + i, none⟩ = some u ∧ MatR (· < w.heap.size) w u l[i] := fun i hi => by
    obtain ⟨b', off', hbo, -, u, hu, hr⟩ := he i hi
    injection hbo with hbo; injection hbo with q1 q2; subst q1; subst q2
    exact ⟨u, hu, hr⟩
  refine ⟨b, off, cap, (List.range l.length).map fun i => (w.cell? ⟨b, off + i, none⟩).getD undef, rfl, hb, by simp, fun j u hu => ?_, fun i hi => ?_⟩
  · rw [Addr.add_lit]
    have hj : j < l.length := by have := (List.getElem?_eq_some_iff.1 hu).1; simpa using this
    obtain ⟨u', hu', -⟩ := key j hj
    rw [List.getElem?_map, List.getElem?_range hj] at hu
    simp only [Option.map_some, hu', Option.getD_some, Option.some.injEq] at hu
    rw [hu', hu]
  · obtain ⟨u, hu, hr⟩ := key i hi
    refine ⟨u, by rw [List.getElem?_map, List.getElem?_range hi]; simp [hu], ?_, hr⟩
    obtain ⟨a, c, rfl⟩ := hr.shape
    rfl
/-- 'append([][][]int{}, l...)' -/
theorem Made.copy {w w' : World} {base : Nat} {v' : Value} {q : List Mx} {us : List Value} (hus : us.length = q.length) (hu : ∀ i (hi : i < q.length), ∃ u, us[i]? = some u ∧ u.oneCell' = true ∧ MatR (· < w.heap.size) w u q[i])
    (happ : App base 22 1 (w.alloc (.cells #[] 22)) w' (.slice (some ⟨w.heap.size, 0, none⟩) 0 0) v' q.length us) : Made base w' 22 MatR v' q := by
  refine ⟨us, happ.own, fun i hi => ?_⟩
  obtain ⟨u, h1, h2, h3⟩ := hu i hi
  refine ⟨u, h1, h2, h3.keep (fun b hb => ?_) fun b hb => ?_⟩
  · have h4 := happ.other (b := b) (by rw [World.size_alloc]; omega) (fun e => by have e : some w.heap.size = some b := e; injection e; omega)
    exact ⟨h4.2, Nat.lt_of_lt_of_le hb (by have := happ.grown.size; rw [World.size_alloc] at this; omega)⟩
  · have h4 := happ.other (b := b) (by rw [World.size_alloc]; omega) (fun e => by have e : some w.heap.size = some b := e; injection e; omega)
    rw [h4.1, Below.heap_alloc _ _ _ hb]

/-- matrices are answered -/
def AnsM (w : World) (r : List Mx) (e : Ending) (w' : World) : Prop := ∃ v, e = .returned v ∧ MatsR (· < w'.heap.size) w' v r ∧ Below w.heap.size w w'

set_option maxRecDepth 100000 in
set_option maxHeartbeats 4000000 in
theorem round_w {n : Nat} (va : Value) (l r : List Mx) (w : World) (h : MatsR (· < w.heap.size) w va l) (hs : Sqs n l) (hl : l.length ≤ 256) (hr : outr 257 0 l = some r) :
    Calls Try.prog 46 #[va, .int .i64 256] w (AnsM w r) := by
  have H := Lib.hid h
  have HS := Lib.hid hs
  have HR := Lib.hid hr
  obtain ⟨i22, hi22, hy1, hy2, hy3⟩ := info_parts (show (Try.prog.info? 22).map (fun i => (i.zero, i.size, i.bytes)) = some (some (.slice none 0 0), 1, 24) by kernel_rfl)
  clear h hs hr
  go_enter Try.func46, Try.ntmps46
  go_wp2_with fail
  go_loopg [0, 5] 257 (fun g v i wx => ∃ (k : Nat) (q : List Mx), i = .int .i64 k ∧ k ≤ q.length ∧ MatsR (· < wx.heap.size) wx v q ∧ Below w.heap.size w wx ∧ Sqs n q ∧ q.length ≤ 256 ∧ 257 ≤ g + k ∧ outr g k q = some r)
  case atStart => exact ⟨0, l, rfl, Nat.zero_le _, H.out, Below.refl _ _, HS.out, hl, Nat.le_refl _, HR.out⟩
  case round =>
    obtain ⟨i, q, rfl, hi, hq, hB, hsq, hq256, hg, hrr⟩ := hrel
    obtain ⟨g1, rfl⟩ : ∃ x, x = gk := ⟨_, rfl⟩
    obtain ⟨w1, rfl⟩ : ∃ x : World, x = wr := ⟨_, rfl⟩
    obtain ⟨g2, rfl⟩ : ∃ g2, g1 = g2 + 1 := ⟨g1 - 1, by omega⟩
    have hq0 := hq
    obtain ⟨ao, cap, rfl, hqm, -⟩ := hq0.get
    have HQ := Lib.hid hq
    have HB := Lib.hid hB
    have HSQ := Lib.hid hsq
    have HQ256 := Lib.hid hq256
    have HG := Lib.hid hg
    have HRR := Lib.hid hrr
    clear hq hq0 hB hsq hq256 hg hrr
    by_cases hil : i < q.length
    · obtain ⟨p, hp⟩ : ∃ p, inn i 257 0 q = some p := by
        have hrr := HRR.out
        rw [outr, if_pos hil] at hrr
        cases hx : inn i 257 0 q with
        | none => rw [hx] at hrr; cases hrr
        | some p => exact ⟨p, rfl⟩
      have hrr := HRR.out
      rw [outr, if_pos hil, hp] at hrr
      have HRR := Lib.hid (show outr g2 (i + 1) p = some r from hrr)
      have HP := Lib.hid hp
      clear hrr hp
      go_wp2_with fail
      go_loopg [0, 6] 257 (fun g v k wx => ∃ (j : Nat) (q3 : List Mx), k = .int .i64 j ∧ j ≤ q3.length ∧ MatsR (· < wx.heap.size) wx v q3 ∧ Below w.heap.size w wx ∧ Sqs n q3 ∧ q3.length ≤ 256 ∧ q.length ≤ q3.length ∧ 257 ≤ g + j ∧ inn i g j q3 = some p)
      case atStart => exact ⟨0, q, rfl, Nat.zero_le _, HQ.out, HB.out, HSQ.out, HQ256.out, Nat.le_refl _, Nat.le_refl _, HP.out⟩
      case round =>
        clear HQ HB
        obtain ⟨j, q3, rfl, hj, hq3, hB, hsq, hq256, hqq, hg, hpp⟩ := hrel
        obtain ⟨g5, rfl⟩ : ∃ x, x = gk := ⟨_, rfl⟩
        obtain ⟨w3, rfl⟩ : ∃ x : World, x = wr := ⟨_, rfl⟩
        obtain ⟨g6, rfl⟩ : ∃ g6, g5 = g6 + 1 := ⟨g5 - 1, by omega⟩
        have HQ3 := Lib.hid hq3
        obtain ⟨ao3, cap3, rfl, hqm3, hget⟩ := hq3.get
        have HB := Lib.hid hB
        have HSQ3 := Lib.hid hsq
        have HQ256 := Lib.hid hq256
        have HQQ := Lib.hid hqq
        have HG6 := Lib.hid hg
        have HPP := Lib.hid hpp
        have HGET := Lib.hid hget
        clear hq3 hget hB hsq hq256 hqq hg hpp
        by_cases hjl : j < q3.length
        · have hiq3 : i < q3.length := by have := HQQ.out; omega
          obtain ⟨b1, o1, u1, c1, rfl, hbl1, e1, hm1⟩ := HGET.out i hiq3
          obtain ⟨b2, o2, ux, c2, hbo, hbl2, e2, hm2⟩ := HGET.out j hjl
          injection hbo with hbo; injection hbo with hbo1 hbo2; subst hbo1; subst hbo2
          obtain ⟨hr1, hn1⟩ := HSQ3.out _ (getD_mem hiq3)
          obtain ⟨hr2, hn2⟩ := HSQ3.out _ (getD_mem hjl)
          have hst := HPP.out
          rw [inn, if_pos hjl] at hst
          have hlen : ¬ 256 < (step q3 i j).length := fun h => by rw [if_pos h] at hst; cases hst
          rw [if_neg hlen] at hst
          have hsq' := HSQ3.out.step hiq3 hjl
          have hpr := refproduct_w _ _ _ _ w3.drew (hm1.keep (w' := w3.drew) (P' := (· < w3.drew.heap.size)) (fun _ h => h) fun _ _ => rfl) (hm2.keep (w' := w3.drew) (P' := (· < w3.drew.heap.size)) (fun _ h => h) fun _ _ => rfl) hr1 hr2 (by rw [hn1, hn2])
          obtain ⟨pm, hpme⟩ : ∃ pm, pm = prod (q3.getD i []) (q3.getD j []) := ⟨_, rfl⟩
          unfold step at hst hlen hsq'
          rw [← hpme] at hst hpr hlen hsq'
          rw [hn1] at e1 hpr
          rw [hn2] at e2 hpr
          have hi1 : (i : Int) < (q3.length : Int) := by omega
          have hj1 : (j : Int) < (q3.length : Int) := by omega
          have HST := Lib.hid hst
          have HPR := Lib.hid hpr
          have HLEN := Lib.hid hlen
          have HSQ' := Lib.hid hsq'
          clear hst hpr hlen hsq' hpme hm1 hm2 hr1 hr2 hn1 hn2
          go_wp2_with fail
          refine wp_region_order [(0, true), (1, true), (2, true), (3, true), (4, true), (5, true), (6, true), (7, true), (8, false), (9, false)]
            (fun w' => w'.cell? ⟨b1, o1 + i, none⟩ = some (.slice u1 n c1) ∧ w'.cell? ⟨b1, o1 + j, none⟩ = some (.slice ux n c2)) (by kernel_rfl) (by kernel_rfl) ⟨e1, e2⟩ (fun hHeld => ?_)
          simp only [pickT, List.getElem?_cons_zero, List.getElem?_cons_succ, Option.getD_some]
          repeat (refine wpT_take (v := ?_) (by rfl) (fun w' hSw => ?_) ?_; rotate_left; (go_simp; with_reducible rfl); simp only [Act.put, List.setIfInBounds_toArray, List.set_cons_zero, List.set_cons_succ])
          refine wpT_do (fun K hK => ?_)
          go_simp
          go_at_call 20
          refine HPR.out.mono ?_
          rintro e w4 ⟨v4, rfl, hr4, hb4⟩
          obtain ⟨a4, m4, rfl⟩ := hr4.shape
          have hb4' : Below w3.heap.size w3 w4 := (below_drewN (Below.refl _ _) 1).trans hb4
          have k1 := (hb4'.cell (p := ⟨b1, o1 + i, none⟩) hbl1).trans e1
          have k2 := (hb4'.cell (p := ⟨b1, o1 + j, none⟩) hbl1).trans e2
          have hB4 : Below w.heap.size w w4 := HB.out.trans (hb4'.mono HB.out.size)
          have hq4 := MatsR.on HQ3.out hb4'
          have ki := In_w _ _ q3 pm w4 hq4 hr4
          have HR4 := Lib.hid hr4
          have HB4 := Lib.hid hB4
          have HQ4 := Lib.hid hq4
          refine hK.out _ _ ⟨k1, k2⟩ (fun hHeld => ?_)
          clear hK K hr4 hb4 hb4' hB4 hq4 k1 k2 e1 e2
          refine wpT_last (fun K hK => ?_)
          go_simp
          refine hK.out _ _ ?_
          clear hK K hHeld
          by_cases hin : pm ∈ q3
          · rw [decide_eq_true hin] at ki
            have KI := Lib.hid ki
            have HIN := Lib.hid hin
            have hql : ¬ (256 < q3.length) := by have := HQ256.out; omega
            clear ki hin
            go_wp2_with fail
            refine KI.out.mono ?_
            rintro e w' ⟨rfl, d, rfl⟩
            go_wp2_with fail
            go_roundg g6
            case measure => omega
            case rel =>
              have h1 := HST.out
              rw [addM_in HIN.out] at h1
              exact ⟨j + 1, q3, by go_num, by omega, drewN_read HQ4.out d, below_drewN HB4.out d, HSQ3.out, HQ256.out, HQQ.out, by have := HG6.out; omega, h1⟩
          · rw [decide_eq_false hin] at ki
            have KI := Lib.hid ki
            have HIN := Lib.hid hin
            have hql : ¬ (256 < q3.length + 1) := by have h1 := HLEN.out; rw [addM_out hin] at h1; simp at h1; omega
            have hql' : ¬ (256 < (q3.length : Int) + 1) := by omega
            clear ki hin
            go_wp2_with fail
            refine KI.out.mono ?_
            rintro e w' ⟨rfl, d, rfl⟩
            obtain ⟨w5, hw5⟩ : ∃ x, x = w4.drewN d := ⟨_, rfl⟩
            have hq5 := drewN_read HQ4.out d
            have hb5 := below_drewN HB4.out d
            have hr5 : MatR (· < (w4.drewN d).heap.size) (w4.drewN d) (.slice a4 pm.length m4) pm := HR4.out.keep (fun _ h => h) fun _ _ => rfl
            rw [← hw5] at hq5 hb5 hr5 ⊢
            clear hw5
            obtain ⟨bq, oq, capq, us, hvq, hbq, hus, hcq, huq⟩ := hq5.vals (by omega)
            injection hvq with hv1 _ hv3
            injection hv1 with hv1
            injection hv1 with hv1 hv2
            subst hv1; subst hv2; subst hv3
            have h1c : ∀ u ∈ us, u.oneCell' = true := fun u hu => by
              obtain ⟨i, hi, rfl⟩ := List.getElem_of_mem hu
              obtain ⟨u', h1, h2, -⟩ := huq i (by omega)
              rw [List.getElem?_eq_getElem hi] at h1
              injection h1 with h1; rw [h1]; exact h2
            have HUS := Lib.hid hus
            have HCQ := Lib.hid hcq
            have HUQ := Lib.hid huq
            have H1C := Lib.hid h1c
            have HR5 := Lib.hid hr5
            have HB5 := Lib.hid hb5
            clear hus hcq huq h1c hr5 hb5 hq5
            go_wp2_with (at_builtin; refine wpList_app rfl _ _ 39 rfl w5.heap.size 22 i22 (.slice none 0 0) 1 24 Try.underlying39 hi22 hy1 hy2 hy3 rfl (by decide) (.slice (some ⟨w5.heap.size, 0, none⟩) 0 0) 0 [] rfl ?a0 ⟨b1, o1, none⟩ q3.length cap3 us rfl ?a1 ?a2 ?a3 ?a4 ?a5 ?a6 ?_)
            case a0 => exact ⟨rfl, .inr ⟨w5.heap.size, 0, #[], rfl, Nat.le_refl _, by show (w5.heap.push _)[w5.heap.size]? = _; simp, Nat.le_refl _, Nat.zero_le _, rfl, rfl⟩⟩
            case a1 => rw [HUS.out, Nat.mul_one]
            case a2 => exact fun j u hu => (cell_keep (a := (⟨b1, o1, none⟩ : Addr).add j) (Below.heap_alloc _ _ _ (by rw [Addr.add_lit]; exact hbq))).trans (HCQ.out j u hu)
            case a3 => exact H1C.out
            case a4 => have := HQ256.out; unfold maxLen; omega
            case a5 => have := HQ256.out; omega
            case a6 => simp only [World.size_alloc]; omega
            intro v6 w6 happ
            have hmd : Made w5.heap.size w6 22 MatR v6 q3 := Made.copy HUS.out HUQ.out (by simpa using happ)
            have hb6 : Below w5.heap.size w5 w6 := ((Below.refl w5.heap.size w5).alloc (Nat.le_refl _) (.cells #[] 22)).trans (happ.below (B := w5.heap.size) (by simp only [World.size_alloc]; omega) (fun q hq => by have hq : some w5.heap.size = some q := hq; injection hq with hq; omega))
            have hs6 := hb6.size
            have hblk := hmd.block
            have hmd2 := hmd.below keeps_mat ((Below.refl w6.heap.size w6).alloc (Nat.le_refl _) (.cells #[.slice a4 pm.length m4] 22))
            have hr7 : MatR (fun g => v6.ownBlock ≠ some g ∧ g < (w6.alloc (.cells #[.slice a4 pm.length m4] 22)).heap.size) (w6.alloc (.cells #[.slice a4 pm.length m4] 22)) (.slice a4 pm.length m4) pm :=
              HR5.out.keep (fun b hb => ⟨fun e => by have := (hblk _ e).1; omega, by rw [World.size_alloc]; omega⟩) fun b hb => (Below.heap_alloc _ _ _ (by omega)).trans (hb6.block b hb)
            obtain ⟨vals, hvo, hvr⟩ := hmd2
            have hvl : vals.length = q3.length := by have := hvo.1; omega
            have HVR := Lib.hid hvr
            have HVL := Lib.hid hvl
            have HR7 := Lib.hid hr7
            have HB6 := Lib.hid hb6
            have HBLK := Lib.hid hblk
            clear hvr hvl hr7 hb6 hblk happ hmd HUS HCQ HUQ H1C
            go_wp2_with (at_builtin; refine wpList_app rfl _ _ 39 rfl w5.heap.size 22 i22 (.slice none 0 0) 1 24 Try.underlying39 hi22 hy1 hy2 hy3 rfl (by decide) v6 q3.length vals rfl hvo ⟨w6.heap.size, 0, none⟩ 1 1 [.slice a4 pm.length m4] rfl rfl ?c1 ?c2 ?c3 ?c4 ?c5 ?_)
            case c1 => exact cell_one_new _ _ _
            case c2 => intro u hu; simp at hu; subst hu; rfl
            case c3 => have := HQ256.out; unfold maxLen; omega
            case c4 => have := HQ256.out; omega
            case c5 => simp only [World.size_alloc]; omega
            intro v7 w7 happ
            have hM : Made w5.heap.size w7 22 MatR v7 (q3 ++ [pm]) := Made.app keeps_mat HVR.out HVL.out happ rfl HR7.out
            have hB7 : Below w5.heap.size w5 w7 := (HB6.out.alloc HB6.out.size (.cells #[.slice a4 pm.length m4] 22)).trans (happ.below (by simp only [World.size_alloc]; omega) (fun q hq => (HBLK.out q hq).1))
            have hm7 := hM.mats
            obtain ⟨a7, cap7, rfl, -, -⟩ := hm7.get
            have hl7 : (q3 ++ [pm]).length = q3.length + 1 := by simp
            rw [hl7] at hm7 ⊢
            have HM7 := Lib.hid hm7
            have HB7 := Lib.hid (HB5.out.trans (hB7.mono HB5.out.size))
            clear happ hM hB7 hm7 hl7 HVR HVL HR7 HB6 HBLK hvo
            go_wp2_with fail
            go_roundg g6
            case measure => omega
            case rel =>
              have h1 := HST.out
              have h2 := HSQ'.out
              have h3 := HLEN.out
              rw [addM_out HIN.out] at h1 h2 h3
              rw [List.length_append, List.length_singleton] at h3
              exact ⟨j + 1, q3 ++ [pm], by go_num, by simp; omega, HM7.out, HB7.out, h2, by simp; omega, by have := HQQ.out; simp; omega, by have := HG6.out; omega, h1⟩
        · have hpp := HPP.out
          rw [inn, if_neg hjl] at hpp
          injection hpp with hpp
          subst hpp
          have hjj : j = q3.length := by omega
          go_wp2_with fail
          go_roundg g2
          case measure => omega
          case rel => exact ⟨i + 1, q3, by go_num, by have := HQQ.out; omega, HQ3.out, HB.out, HSQ3.out, HQ256.out, by have := HG.out; omega, HRR.out⟩
    · have hrr := HRR.out
      rw [outr, if_neg hil] at hrr
      injection hrr with hrr
      subst hrr
      have hii : i = q.length := by omega
      go_wp2_with fail
      go_ret
      exact ⟨_, rfl, HQ.out, HB.out⟩
end Go.Proofs.Ytfcmkhjimgpppaa
