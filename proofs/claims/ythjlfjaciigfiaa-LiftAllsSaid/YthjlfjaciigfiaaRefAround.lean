/-
  ref10.Around: a contract of the walk.
-/
import Derived.Test.YthjlfjaciigfiaaAround
namespace Go.Proofs.Ythjlfjaciigfiaa
open Go.RowKit
set_option linter.unusedVariables false
set_option linter.unusedSimpArgs false

set_option maxRecDepth 100000 in
set_option maxHeartbeats 4000000 in
theorem refAround_w (kd : Int) (hkd : -9223372036854775808 ≤ kd ∧ kd ≤ 9223372036854775807) (vl v : Value) (l : List Tm) (t : Tm) (w : World) (hl : Ts (· < w.heap.size) w vl l) (hr : Rd (· < w.heap.size) w v t) :
    Calls Try.prog 37 #[.int .i64 kd, vl, v] w (AnsRE w (aroundR kd l t).1 (aroundR kd l t).2) := by
  obtain ⟨rt, rc, hres⟩ : ∃ rt rc, aroundR kd l t = (rt, rc) := ⟨_, _, rfl⟩
  rw [hres]
  have RES := Lib.hid hres
  have HKD := Lib.hid hkd
  obtain ⟨dl, hl⟩ := subR_depth hl
  obtain ⟨aol, capl, rfl, hlm, -, -, he⟩ := hl.open
  have HE := Lib.hid he
  clear hres he hl hkd
  obtain ⟨ao, cap, rfl⟩ := hr.shape
  obtain ⟨W, hW⟩ : ∃ W, W = (w.alloc (.cells #[.int .i64 t.kind, .int .i64 t.num, .slice ao t.sub.length cap] 24)).alloc (.cells #[.int .i64 0, .int .i64 0, .slice none 0 0] 24) := ⟨_, rfl⟩
  have hb0 : Below w.heap.size w W := by rw [hW]; exact (((Below.refl _ _).alloc (Nat.le_refl _) _).alloc (by simp only [World.size_alloc]; omega) _)
  have hsW : W.heap.size = w.heap.size + 2 := by rw [hW]; simp only [World.size_alloc]
  have Q : W.heap[w.heap.size]? = some (.cells #[.int .i64 t.kind, .int .i64 t.num, .slice ao t.sub.length cap] 24) := by rw [hW]; exact (Below.heap_alloc _ _ _ (by simp only [World.size_alloc]; omega)).trans (heap_new _ _ _ (by first | rfl | simp only [World.size_alloc]))
  replace Q := Lib.hid Q
  have Z : W.heap[w.heap.size + 1]? = some (.cells #[.int .i64 0, .int .i64 0, .slice none 0 0] 24) := by rw [hW]; exact heap_new _ _ _ (by first | rfl | simp only [World.size_alloc])
  replace Z := Lib.hid Z
  have T := Lib.hid (hr.on hb0)
  have FW := Lib.hid (Below.refl W.heap.size W)
  have FB0 := Lib.hid hb0
  have SW := Lib.hid hsW
  clear hb0 hsW
  have HW := Lib.hid hW
  have TW := Lib.hid hr
  clear hW hr
  by_cases h24 : 24 < l.length
  · have e : aroundR kd l t = (tm0, 2) := by unfold aroundR; rw [if_pos h24]
    rw [RES.out] at e
    injection e with e1 e2
    subst e1; subst e2
    go_enter Try.func37, Try.ntmps37
    go_wp2_with fail
    rw [← HW.out]
    exact bodyPost_ret (v := .tuple #[.agg #[.int .i64 0, .int .i64 0, .slice none 0 0], .int .i64 2]) (by simp [results, Try.results37, go_sem, (three Z.out).1, (three Z.out).2.1, (three Z.out).2.2.1]) rfl ⟨_, _, _, _, _, rfl, FB0.out, Rd.zero _ _⟩
  have e : aroundR kd l t = if (l.all Shp && Shp t) = true then (if Shp (arnd kd l t) = true then (arnd kd l t, 0) else (tm0, 2)) else (tm0, 5) := by unfold aroundR; rw [if_neg h24]
  rw [RES.out] at e
  have E := Lib.hid e
  clear e
  have hl24 : l.length ≤ 24 := by omega
  have hdb : decide ((24 : Int) < (l.length : Int)) = false := by simp; omega
  clear h24
  have B0 := Lib.hid (blt Q.out)
  have B1 := Lib.hid (blt Z.out)
  obtain ⟨Q0, Q1, Q2, Qf, -⟩ := three Q.out
  obtain ⟨y, hy⟩ : ∃ y, y = Shp t := ⟨_, rfl⟩
  have HY := Lib.hid hy
  have hs := refShaped_r T.out
  rw [← hy] at hs
  have HS := Lib.hid hs
  clear hy hs
  go_enter Try.func37, Try.ntmps37
  go_wp2_with fail
  rw [← HW.out]
  refine HS.out.mono ?_
  rintro e w1 ⟨rfl, hb1⟩
  clear Q0 Q1 Q2 Qf HS
  go_wp2_with fail
  go_loopw [8, 9] (fun s i wr => ∃ (j : Nat) (q : Bool), s = .bool q ∧ i = .int .i64 j ∧ j ≤ l.length ∧ (q && (l.drop j).all Shp) = (Shp t && l.all Shp) ∧ Below W.heap.size W wr) (fun _ i _ => l.length - (intOf i).toNat)
  case atStart => exact ⟨0, y, rfl, rfl, Nat.zero_le _, by rw [HY.out]; rfl, hb1⟩
  case round =>
    obtain ⟨j, q, rfl, rfl, hj, hall, hb⟩ := hrel
    clear hb1
    have HALL := Lib.hid hall
    have FWr := Lib.hid hb
    clear hall hb
    by_cases hjl : j < l.length
    · cases q
      · go_wp2_with fail
        go_roundw
        case rel => exact ⟨j + 1, false, rfl, by go_num, by omega, by have := HALL.out; rw [Bool.false_and] at this ⊢; exact this, FWr.out⟩
        case measure =>
          have q : (intOf (.int .i64 ((j : Int) + 1))).toNat = j + 1 := by show ((j : Int) + 1).toNat = _; omega
          have q2 : (intOf (.int .i64 (j : Int))).toNat = j := by show ((j : Int)).toNat = _; omega
          rw [q, q2]; omega
      · obtain ⟨b, off, k2, n2, ao2, m2, cap2, rfl, hP, h0, h1, h2, hrd⟩ := HE.out j hjl
        have hbw := FB0.out.trans (FWr.out.mono FB0.out.size)
        have e0 := (hbw.cell (p := ⟨b, off + j * 3, none⟩) hP).trans h0
        have e1 := (hbw.cell (p := ⟨b, off + j * 3 + 1, none⟩) hP).trans h1
        have e2 := (hbw.cell (p := ⟨b, off + j * 3 + 2, none⟩) hP).trans h2
        have hs := refShaped_w dl _ l[j] wr (RdN.keep (P := (· < w.heap.size)) (fun b hb' => Nat.lt_of_lt_of_le hb' hbw.size) (fun b hb' => hbw.block b hb') _ _ _ hrd)
        obtain ⟨y2, hy2⟩ : ∃ y2, y2 = Shp l[j] := ⟨_, rfl⟩
        rw [← hy2] at hs
        have q := HALL.out
        rw [all_drop l j hjl, ← hy2, Bool.true_and] at q
        have HQ := Lib.hid q
        have HS := Lib.hid hs
        have hji : (j : Int) < (l.length : Int) := by omega
        clear h0 h1 h2 hs q hy2 hrd hbw
        go_wp2_with fail
        refine HS.out.mono ?_
        rintro e w3 ⟨rfl, hb3⟩
        have FW3 := Lib.hid (FWr.out.trans (hb3.mono FWr.out.size))
        clear e0 e1 e2 hb3 HS
        go_wp2_with fail
        go_roundw
        case rel => exact ⟨j + 1, y2, rfl, by go_num, by omega, HQ.out, FW3.out⟩
        case measure =>
          have q : (intOf (.int .i64 ((j : Int) + 1))).toNat = j + 1 := by show ((j : Int) + 1).toNat = _; omega
          have q2 : (intOf (.int .i64 (j : Int))).toNat = j := by show ((j : Int)).toNat = _; omega
          rw [q, q2]; omega
    · have hqq : q = (Shp t && l.all Shp) := by
        have q := HALL.out
        rw [List.drop_of_length_le (by omega)] at q
        simpa using q
      have HQQ := Lib.hid hqq
      clear hqq HALL
      replace FW := FWr
      replace Q := Lib.hid ((FW.out.block _ B0.out).trans Q.out)
      replace Z := Lib.hid ((FW.out.block _ B1.out).trans Z.out)
      clear FWr
      cases q
      · have e : (rt, rc) = (tm0, 5) := by rw [E.out, Bool.and_comm, ← HQQ.out]; rfl
        injection e with e1 e2
        subst e1; subst e2
        obtain ⟨Z0, Z1, Z2, Zf, -⟩ := three Z.out
        go_wp2_with fail
        exact bodyPost_ret (v := .tuple #[.agg #[.int .i64 0, .int .i64 0, .slice none 0 0], .int .i64 5]) (by simp [results, Try.results37, go_sem, Z0, Z1, Z2]) rfl ⟨_, _, _, _, _, rfl, (((FB0.out.trans (FW.out.mono FB0.out.size)).setCell (by simp only []; omega) _).setCell (by simp only []; omega) _).setCell (by simp only []; omega) _, Rd.zero _ _⟩
      · have e : (rt, rc) = if Shp (arnd kd l t) = true then (arnd kd l t, 0) else (tm0, 2) := by rw [E.out, Bool.and_comm, ← HQQ.out]; rfl
        replace E := Lib.hid e
        clear e
        have hwl : IntKind.i64.wrap ((l.length : Int) - 1) = (l.length : Int) - 1 := IntWalk.i64_in _ (by omega)
        have hT : Rd (fun q => q < wr.heap.size ∧ q ≠ w.heap.size ∧ q ≠ w.heap.size + 1) wr (.agg #[.int .i64 t.kind, .int .i64 t.num, .slice ao t.sub.length cap]) (arnd kd (l.drop l.length) t) := by
          rw [List.drop_of_length_le (Nat.le_refl _)]
          exact TW.out.keep (fun q hq => ⟨by have := FB0.out.size; have := FW.out.size; omega, by omega, by omega⟩) fun q hq => (FW.out.block q (by have := FB0.out.size; omega)).trans (FB0.out.block q hq)
        have hQ := Q.out
        have hZ := Z.out
        have hFW := FB0.out.trans (FW.out.mono FB0.out.size)
        go_wp2_with fail
        clear hwl
        go_loopw [10] (fun i wr => ∃ (j : Nat) (k3 n3 : Int) (ao3 : Option Addr) (m3 c3 : Nat), i = .int .i64 ((j : Int) - 1) ∧ j ≤ l.length ∧ wr.heap[w.heap.size]? = some (.cells #[.int .i64 k3, .int .i64 n3, .slice ao3 m3 c3] 24) ∧
          Rd (fun q => q < wr.heap.size ∧ q ≠ w.heap.size ∧ q ≠ w.heap.size + 1) wr (.agg #[.int .i64 k3, .int .i64 n3, .slice ao3 m3 c3]) (arnd kd (l.drop j) t) ∧ wr.heap[w.heap.size + 1]? = some (.cells #[.int .i64 0, .int .i64 0, .slice none 0 0] 24) ∧ Below w.heap.size w wr) (fun i _ => (intOf i + 1).toNat)
        case atStart => exact ⟨l.length, _, _, _, _, _, rfl, Nat.le_refl _, hQ, hT, hZ, hFW⟩
        case round =>
          obtain ⟨j, k3, n3, ao3, m3, c3, rfl, hj, hq, hT2, hz, hb⟩ := hrel
          clear hQ hZ hFW hT
          have HQ' := Lib.hid hq
          have HZ := Lib.hid hz
          have HT := Lib.hid hT2
          have HB := Lib.hid hb
          clear hq hz hT2 hb FW T Q Z
          cases j with
          | succ M =>
            have hM1 : ((M + 1 : Nat) : Int) - 1 = (M : Int) := by omega
            rw [hM1]
            have hMl : M < l.length := by omega
            obtain ⟨b, off, k2, n2, ao2, m2, cap2, rfl, hP, h0, h1, h2, hrd⟩ := HE.out M hMl
            have e0 : wr.drew.cell? _ = _ := (HB.out.cell (p := ⟨b, off + M * 3, none⟩) hP).trans h0
            have e1 : wr.drew.cell? _ = _ := (HB.out.cell (p := ⟨b, off + M * 3 + 1, none⟩) hP).trans h1
            have e2 : wr.drew.cell? _ = _ := (HB.out.cell (p := ⟨b, off + M * 3 + 2, none⟩) hP).trans h2
            have hM0 : (0 : Int) ≤ (M : Int) := Int.natCast_nonneg _
            have hMi : (M : Int) < (l.length : Int) := by omega
            obtain ⟨i0, i1, i2, fi, hBl⟩ := three (show wr.drew.heap[w.heap.size]? = _ from HQ'.out)
            have hbd : Below w.heap.size w wr.drew := below_drewN HB.out 1
            have hcon := Two_w kd HKD.out _ _ l[M] (arnd kd (l.drop (M + 1)) t) wr.drew (fun q => q < wr.drew.heap.size ∧ q ≠ w.heap.size ∧ q ≠ w.heap.size + 1) (fun q hq => hq.1) (Rd.keep (P := (· < w.heap.size)) (w' := wr.drew) ⟨_, hrd⟩ (fun b hb' => ⟨Nat.lt_of_lt_of_le hb' hbd.size, by omega, by omega⟩) fun b hb' => hbd.block b hb') (HT.out.keep (w' := wr.drew) (fun _ h => h) fun _ _ => rfl)
            rw [← arnd_drop kd l t M hMl] at hcon
            have HCON := Lib.hid hcon
            have HBD := Lib.hid hbd
            have hbl : b < wr.drew.heap.size := Nat.lt_of_lt_of_le hP hbd.size
            have hzl := blt (show wr.drew.heap[w.heap.size + 1]? = _ from HZ.out)
            clear h0 h1 h2 hrd hcon hbd hM1
            go_wp2_with fail
            refine wp_region_order [(0, true), (1, true), (2, true), (3, true), (4, true), (5, true), (6, false), (7, false)]
              (fun w' => (w'.cell? ⟨w.heap.size, 0, none⟩ = some (.int .i64 k3) ∧ w'.cell? ⟨w.heap.size, 1, none⟩ = some (.int .i64 n3) ∧ w'.cell? ⟨w.heap.size, 2, none⟩ = some (.slice ao3 m3 c3)) ∧
                (w'.cell? ⟨b, off + M * 3, none⟩ = some (.int .i64 k2) ∧ w'.cell? ⟨b, off + M * 3 + 1, none⟩ = some (.int .i64 n2) ∧ w'.cell? ⟨b, off + M * 3 + 2, none⟩ = some (.slice ao2 m2 cap2)))
              (by kernel_rfl) (by kernel_rfl) ⟨⟨i0, i1, i2⟩, ⟨e0, e1, e2⟩⟩ (fun hHeld => ?_)
            simp only [pickT, List.getElem?_cons_zero, List.getElem?_cons_succ, Option.getD_some]
            repeat (refine wpT_take (v := ?_) (by rfl) (fun w' hSw => ?_) ?_; rotate_left; (go_simp; with_reducible rfl); simp only [Act.put, List.setIfInBounds_toArray, List.set_cons_zero, List.set_cons_succ])
            refine wpT_do (fun K hK => ?_)
            go_simp
            go_at_call 54
            refine HCON.out.mono ?_
            rintro e w3 ⟨k4, n4, ao4, m4, c4, rfl, hb3, hr3⟩
            have h3i := (hb3.block _ hBl).trans (show wr.drew.heap[w.heap.size]? = _ from HQ'.out)
            have h3z := (hb3.block _ hzl).trans (show wr.drew.heap[w.heap.size + 1]? = _ from HZ.out)
            obtain ⟨g0, g1, g2, gf, -⟩ := three h3i
            refine hK.out _ _ ⟨⟨g0, g1, g2⟩, ⟨(hb3.cell (p := ⟨b, off + M * 3, none⟩) hbl).trans e0, (hb3.cell (p := ⟨b, off + M * 3 + 1, none⟩) hbl).trans e1, (hb3.cell (p := ⟨b, off + M * 3 + 2, none⟩) hbl).trans e2⟩⟩ (fun hHeld => ?_)
            clear hK K
            have gf0 := gf 0
            have gf1 := gf 1
            have gf2 := gf 2
            have H3I := Lib.hid h3i
            have H3Z := Lib.hid h3z
            have HB3 := Lib.hid hb3
            have HR3 := Lib.hid hr3
            clear h3i h3z hb3 hr3 gf fi i0 i1 i2 e0 e1 e2
            refine wpT_last (fun K hK => ?_)
            go_simp
            refine hK.out _ _ ?_
            clear hK K
            go_wp2_with fail
            go_roundw
            case rel =>
              refine ⟨M, _, _, _, _, _, by go_num, by omega, set123 H3I.out, ?_, ?_, ?_⟩
              · refine HR3.out.keep (fun q hq => ?_) fun q hq => ?_
                · rcases hq with hq | hq
                  · exact ⟨by have := HB3.out.size; have := hq.1; simp [World.setCell]; omega, hq.2⟩
                  · exact ⟨by have := hq.2; simp [World.setCell]; omega, by have := hq.1; omega, by have := hq.1; omega⟩
                · have hne : q ≠ w.heap.size := by
                    rcases hq with hq | hq
                    · exact hq.2.1
                    · have := hq.1; omega
                  rw [Below.heap_setCell _ _ _ _ hne, Below.heap_setCell _ _ _ _ hne, Below.heap_setCell _ _ _ _ hne]
              · have hne : w.heap.size + 1 ≠ w.heap.size := by omega
                rw [Below.heap_setCell _ _ _ _ hne, Below.heap_setCell _ _ _ _ hne, Below.heap_setCell _ _ _ _ hne]
                exact H3Z.out
              · exact (((HBD.out.trans (HB3.out.mono HBD.out.size)).setCell (Nat.le_refl _) _).setCell (Nat.le_refl _) _).setCell (Nat.le_refl _) _
            case measure =>
              show ((M : Int) - 1 + 1).toNat < ((M : Int) + 1).toNat
              omega
          | zero =>
            rw [List.drop_zero] at HT
            obtain ⟨y3, hy⟩ : ∃ y3, y3 = Shp (arnd kd l t) := ⟨_, rfl⟩
            have HY2 := Lib.hid hy
            have hs := refShaped_r (HT.out.keep (P' := (· < wr.heap.size)) (fun q hq => hq.1) fun _ _ => rfl)
            rw [← hy] at hs
            obtain ⟨Q0, Q1, Q2, Qf, Ql⟩ := three HQ'.out
            have hzl := blt HZ.out
            have hz1 : ((0 : Nat) : Int) - 1 = -1 := by omega
            rw [hz1]
            clear hy hz1
            go_wp2_with fail
            refine hs.mono ?_
            rintro e w4 ⟨rfl, hb4⟩
            have hz4 := (hb4.block _ hzl).trans HZ.out
            have hq4 := (hb4.block _ Ql).trans HQ'.out
            have hT4 := HT.out.keep (P' := fun q => q < w4.heap.size ∧ q ≠ w.heap.size + 1) (fun q hq => ⟨Nat.lt_of_lt_of_le hq.1 hb4.size, hq.2.2⟩) fun q hq => hb4.block q hq.1
            have hb5 := HB.out.trans (hb4.mono HB.out.size)
            have HT4 := Lib.hid hT4
            have HB5 := Lib.hid hb5
            clear Q0 Q1 Q2 Qf Ql hs hT4 hb5 hb4 hzl
            obtain ⟨Z0, Z1, Z2, Zf, Zl⟩ := three hz4
            obtain ⟨Q0, Q1, Q2, Qf, -⟩ := three hq4
            clear hz4 hq4
            cases y3
            · have e : (rt, rc) = (tm0, 2) := by rw [E.out, ← HY2.out]; rfl
              injection e with e1 e2
              subst e1; subst e2
              go_wp2_with fail
              exact bodyPost_ret (v := .tuple #[.agg #[.int .i64 0, .int .i64 0, .slice none 0 0], .int .i64 2]) (by simp [results, Try.results37, go_sem, Z0, Z1, Z2]) rfl ⟨_, _, _, _, _, rfl, ((HB5.out.setCell (by simp only []; omega) _).setCell (by simp only []; omega) _).setCell (by simp only []; omega) _, Rd.zero _ _⟩
            · have e : (rt, rc) = (arnd kd l t, 0) := by rw [E.out, ← HY2.out]; rfl
              injection e with e1 e2
              subst e1; subst e2
              go_wp2_with fail
              exact bodyPost_ret (v := .tuple #[.agg #[.int .i64 k3, .int .i64 n3, .slice ao3 m3 c3], .int .i64 0]) (by simp [results, Try.results37, go_sem, Z0, Z1, Z2]) rfl ⟨_, _, _, _, _, rfl, ((HB5.out.setCell (by simp only []; omega) _).setCell (by simp only []; omega) _).setCell (by simp only []; omega) _, (keep3 HT4.out (fun h => h.2 rfl)).keep (fun q hq => by have := hq.1; simp [World.setCell]; omega) fun _ _ => rfl⟩
end Go.Proofs.Ythjlfjaciigfiaa
