/-
  tele.around: a contract of the walk.
-/
import Derived.Test.YthjlfjaciigfiaaPi
import Derived.IntWalk
namespace Go.Proofs.Ythjlfjaciigfiaa
open Go.RowKit
set_option linter.unusedVariables false
set_option linter.unusedSimpArgs false

/-- types of functions, or functions, around a term -/
def arnd (kd : Int) (l : List Tm) (t : Tm) : Tm := l.foldr (fun a t => .node kd 0 [a, t]) t
def aroundR (kd : Int) (l : List Tm) (t : Tm) : Tm × Int :=
  if 24 < l.length then (tm0, 2) else if (l.all Shp && Shp t) = true then (if Shp (arnd kd l t) = true then (arnd kd l t, 0) else (tm0, 2)) else (tm0, 5)
theorem arnd_drop (kd : Int) (l : List Tm) (t : Tm) (j : Nat) (hj : j < l.length) : arnd kd (l.drop j) t = .node kd 0 [l[j], arnd kd (l.drop (j + 1)) t] := by
  rw [List.drop_eq_getElem_cons hj]; rfl
theorem all_drop (l : List Tm) (j : Nat) (hj : j < l.length) : (l.drop j).all Shp = (Shp l[j] && (l.drop (j + 1)).all Shp) := by
  rw [List.drop_eq_getElem_cons hj]; rfl

/-- a function of two terms that makes a node of a kind -/
structure OfC (F : Nat) (kd : Int) : Prop where
  call : ∀ va vb a b w (P : Nat → Prop), (∀ q, P q → q < w.heap.size) → Rd P w va a → Rd P w vb b → Calls Try.prog F (#[va, vb] ++ #[]) w (AnsP P w (.node kd 0 [a, b]))
  enter : ∀ args w, (callFunc F args).run Try.prog w = .ok (.enter F args) w
theorem set123 {w : World} {B : Nat} {a b c x y v : Value} {z : TypeId} (h : w.heap[B]? = some (.cells #[a, b, c] z)) : (((w.setCell ⟨B, 0, none⟩ x).setCell ⟨B, 1, none⟩ y).setCell ⟨B, 2, none⟩ v).heap[B]? = some (.cells #[x, y, v] z) := by
  simp [World.setCell, Array.getElem?_modify, h]
theorem ofPi : OfC 79 3 := ⟨fun va vb a b w P hP ha hb => Pi_w va vb a b w P hP ha hb, fun args w => by kernel_rfl⟩
theorem ofLam : OfC 80 4 := ⟨fun va vb a b w P hP ha hb => Lam_w va vb a b w P hP ha hb, fun args w => by kernel_rfl⟩

set_option maxRecDepth 100000 in
set_option maxHeartbeats 4000000 in
theorem around_w {F : Nat} {kd : Int} (hof : OfC F kd) (vl v : Value) (l : List Tm) (t : Tm) (w : World) (hl : Ts (· < w.heap.size) w vl l) (hr : Rd (· < w.heap.size) w v t) :
    Calls Try.prog 78 #[vl, v, .func (.func F) #[] #[]] w (AnsTE w (aroundR kd l t).1 (aroundR kd l t).2) := by
  obtain ⟨rt, rc, hres⟩ : ∃ rt rc, aroundR kd l t = (rt, rc) := ⟨_, _, rfl⟩
  rw [hres]
  have RES := Lib.hid hres
  have HOF := Lib.hid hof
  have hen := hof.enter
  obtain ⟨dl, hl⟩ := subR_depth hl
  obtain ⟨aol, capl, rfl, hlm, -, -, he⟩ := hl.open
  have HE := Lib.hid he
  clear hres hof he hl
  obtain ⟨ao, cap, rfl⟩ := hr.shape
  obtain ⟨W, hW⟩ : ∃ W, W = (w.alloc (.cells #[.int .i64 t.kind, .int .i64 t.num, .slice ao t.sub.length cap] 24)).alloc (.cells #[.int .i64 0, .int .i64 0, .slice none 0 0] 24) := ⟨_, rfl⟩
  have hb0 : Below w.heap.size w W := by rw [hW]; exact (((Below.refl _ _).alloc (Nat.le_refl _) _).alloc (by simp only [World.size_alloc]; omega) _)
  have hsW : W.heap.size = w.heap.size + 2 := by rw [hW]; simp only [World.size_alloc]
  have Q : W.heap[w.heap.size]? = some (.cells #[.int .i64 t.kind, .int .i64 t.num, .slice ao t.sub.length cap] 24) := by rw [hW]; exact (Below.heap_alloc _ _ _ (by simp only [World.size_alloc]; omega)).trans (heap_new _ _ _ (by first | rfl | simp only [World.size_alloc]))
  replace Q := Lib.hid Q
  have Z : W.heap[w.heap.size + 1]? = some (.cells #[.int .i64 0, .int .i64 0, .slice none 0 0] 24) := by rw [hW]; exact heap_new _ _ _ (by first | rfl | simp only [World.size_alloc])
  replace Z := Lib.hid Z
  have T := Lib.hid (hr.on hb0)
  have FW := Lib.hid (Below.refl W.heap.size W)
  have FB0 := Lib.hid hb0
  have SW := Lib.hid hsW
  clear hb0 hsW
  have HW := Lib.hid hW
  have TW := Lib.hid hr
  clear hW hr
  by_cases h24 : 24 < l.length
  · have e : aroundR kd l t = (tm0, 2) := by unfold aroundR; rw [if_pos h24]
    rw [RES.out] at e
    injection e with e1 e2
    subst e1; subst e2
    clear hen
    go_enter Try.func78, Try.ntmps78
    go_wp2_with fail
    rw [← HW.out]
    exact bodyPost_ret (v := .tuple #[.agg #[.int .i64 0, .int .i64 0, .slice none 0 0], .int .i64 2]) (by simp [results, Try.results78, go_sem, (three Z.out).1, (three Z.out).2.1, (three Z.out).2.2.1]) rfl ⟨_, _, _, _, _, rfl, FB0.out, Rd.zero _ _⟩
  have e : aroundR kd l t = if (l.all Shp && Shp t) = true then (if Shp (arnd kd l t) = true then (arnd kd l t, 0) else (tm0, 2)) else (tm0, 5) := by unfold aroundR; rw [if_neg h24]
  rw [RES.out] at e
  have E := Lib.hid e
  clear e
  have hl24 : l.length ≤ 24 := by omega
  have hdb : decide ((24 : Int) < (l.length : Int)) = false := by simp; omega
  clear h24
  have B0 := Lib.hid (blt Q.out)
  have B1 := Lib.hid (blt Z.out)
  go_enter Try.func78, Try.ntmps78
  go_wp2_with fail
  rw [← HW.out]
  obtain ⟨hbW, hW0⟩ : Below W.heap.size W W ∧ True := ⟨FW.out, trivial⟩
  go_loopw [17] (fun i wr => ∃ j : Nat, i = .int .i64 j ∧ j ≤ l.length ∧ (l.drop j).all Shp = l.all Shp ∧ Below W.heap.size W wr) (fun i _ => l.length - (intOf i).toNat)
  case atStart => exact ⟨0, rfl, Nat.zero_le _, rfl, hbW⟩
  case round =>
    obtain ⟨j, rfl, hj, hall, hb⟩ := hrel
    clear hbW hW0
    have HALL := Lib.hid hall
    have FWr := Lib.hid hb
    clear hall
    by_cases hjl : j < l.length
    · obtain ⟨b, off, k2, n2, ao2, m2, cap2, rfl, hP, h0, h1, h2, hrd⟩ := HE.out j hjl
      have hbw := FB0.out.trans (hb.mono FB0.out.size)
      have e0 := (hbw.cell (p := ⟨b, off + j * 3, none⟩) hP).trans h0
      have e1 := (hbw.cell (p := ⟨b, off + j * 3 + 1, none⟩) hP).trans h1
      have e2 := (hbw.cell (p := ⟨b, off + j * 3 + 2, none⟩) hP).trans h2
      have hbl : b < wr.heap.size := Nat.lt_of_lt_of_le hP hbw.size
      have HBW := Lib.hid hbw
      clear h0 h1 h2 hb hbw
      go_wp2_with fail
      have hba := alloc_bel wr (.cells #[.int .i64 k2, .int .i64 n2, .slice ao2 m2 cap2] 24)
      have hbwa := HBW.out.trans (hba.mono HBW.out.size)
      obtain ⟨y, hy⟩ : ∃ y, y = Shp l[j] := ⟨_, rfl⟩
      have hs := Shaped_w dl _ l[j] _ (RdN.keep (P := (· < w.heap.size)) (w' := wr.alloc (.cells #[.int .i64 k2, .int .i64 n2, .slice ao2 m2 cap2] 24)) (fun b hb' => Nat.lt_of_lt_of_le hb' hbwa.size) (fun b hb' => hbwa.block b hb') _ _ _ hrd)
      rw [← hy] at hs
      have q := HALL.out
      rw [all_drop l j hjl, ← hy] at q
      have HQ := Lib.hid q
      refine hs.mono ?_
      rintro e w3 ⟨rfl, hb3⟩
      have hbb := FWr.out.trans ((hba.trans (hb3.mono hba.size)).mono FWr.out.size)
      have FW3 := Lib.hid hbb
      obtain ⟨Z0, Z1, Z2, Zf, -⟩ := three ((hbb.block _ B1.out).trans Z.out)
      clear hs q hy hrd e0 e1 e2 hb3 hba hbwa hbb
      cases y
      · have e : (rt, rc) = (tm0, 5) := by rw [E.out, ← HQ.out]; simp
        injection e with e1 e2
        subst e1; subst e2
        go_wp2_with fail
        exact bodyPost_ret (v := .tuple #[.agg #[.int .i64 0, .int .i64 0, .slice none 0 0], .int .i64 5]) (by simp [results, Try.results78, go_sem, Z0, Z1, Z2]) rfl ⟨_, _, _, _, _, rfl, (((FB0.out.trans (FW3.out.mono FB0.out.size)).setCell (by simp only []; omega) _).setCell (by simp only []; omega) _).setCell (by simp only []; omega) _, Rd.zero _ _⟩
      · go_wp2_with fail
        go_roundw
        case rel => exact ⟨j + 1, by go_num, by omega, by have := HQ.out; rwa [Bool.true_and] at this, FW3.out⟩
        case measure =>
          have q : (intOf (.int .i64 ((j : Int) + 1))).toNat = j + 1 := by show ((j : Int) + 1).toNat = _; omega
          have q2 : (intOf (.int .i64 (j : Int))).toNat = j := by show ((j : Int)).toNat = _; omega
          rw [q, q2]; omega
    · have hallT : l.all Shp = true := by
        have q := HALL.out
        rw [List.drop_of_length_le (by omega)] at q
        exact q.symm
      have HAT := Lib.hid hallT
      clear hallT
      replace FW := FWr
      replace T := Lib.hid (T.out.on FW.out)
      replace Q := Lib.hid ((FW.out.block _ B0.out).trans Q.out)
      replace Z := Lib.hid ((FW.out.block _ B1.out).trans Z.out)
      clear HALL hb FWr
      obtain ⟨Q0, Q1, Q2, Qf, -⟩ := three Q.out
      obtain ⟨Z0, Z1, Z2, Zf, -⟩ := three Z.out
      obtain ⟨y, hy⟩ : ∃ y, y = Shp t := ⟨_, rfl⟩
      have HY := Lib.hid hy
      have hs := Shaped_r T.out
      rw [← hy] at hs
      clear hy
      go_wp2_with fail
      refine hs.mono ?_
      rintro e w1 ⟨rfl, hb⟩
      clear Q0 Q1 Q2 Qf Z0 Z1 Z2 Zf hs
      replace FW := Lib.hid (FW.out.trans (hb.mono FW.out.size))
      replace T := Lib.hid (T.out.on hb)
      replace Q := Lib.hid ((hb.block _ (blt Q.out)).trans Q.out)
      replace Z := Lib.hid ((hb.block _ (blt Z.out)).trans Z.out)
      clear hb
      obtain ⟨Z0, Z1, Z2, Zf, -⟩ := three Z.out
      cases y
      · have e : (rt, rc) = (tm0, 5) := by rw [E.out, ← HY.out]; simp
        injection e with e1 e2
        subst e1; subst e2
        go_wp2_with fail
        exact bodyPost_ret (v := .tuple #[.agg #[.int .i64 0, .int .i64 0, .slice none 0 0], .int .i64 5]) (by simp [results, Try.results78, go_sem, Z0, Z1, Z2]) rfl ⟨_, _, _, _, _, rfl, (((FB0.out.trans (FW.out.mono FB0.out.size)).setCell (by simp only []; omega) _).setCell (by simp only []; omega) _).setCell (by simp only []; omega) _, Rd.zero _ _⟩
      · have e : (rt, rc) = if Shp (arnd kd l t) = true then (arnd kd l t, 0) else (tm0, 2) := by rw [E.out, HAT.out, ← HY.out]; rfl
        replace E := Lib.hid e
        clear e Z0 Z1 Z2 Zf
        go_wp2_with fail
        obtain ⟨Lw, hLw⟩ : ∃ Lw, Lw = w1 := ⟨_, rfl⟩
        have hT : Rd (fun q => q < w1.heap.size ∧ q ≠ w.heap.size) w1 (.agg #[.int .i64 t.kind, .int .i64 t.num, .slice ao t.sub.length cap]) (arnd kd (l.drop (l.length - 0)) t) := by
          rw [Nat.sub_zero, List.drop_of_length_le (Nat.le_refl _)]
          exact TW.out.keep (fun q hq => ⟨by have := FB0.out.size; have := FW.out.size; omega, by omega⟩) fun q hq => (FW.out.block q (by have := FB0.out.size; omega)).trans (FB0.out.block q hq)
        have hQ := Q.out
        have hZ := Z.out
        have hFW := FB0.out.trans (FW.out.mono FB0.out.size)
        clear hLw
        go_loopw [32] (fun i wr => ∃ (j : Nat) (k3 n3 : Int) (ao3 : Option Addr) (m3 c3 : Nat), i = .int .i64 j ∧ j ≤ l.length ∧ wr.heap[w.heap.size]? = some (.cells #[.int .i64 k3, .int .i64 n3, .slice ao3 m3 c3] 24) ∧
          Rd (fun q => q < wr.heap.size ∧ q ≠ w.heap.size) wr (.agg #[.int .i64 k3, .int .i64 n3, .slice ao3 m3 c3]) (arnd kd (l.drop (l.length - j)) t) ∧ wr.heap[w.heap.size + 1]? = some (.cells #[.int .i64 0, .int .i64 0, .slice none 0 0] 24) ∧ Below w.heap.size w wr) (fun i _ => l.length - (intOf i).toNat)
        case atStart => exact ⟨0, _, _, _, _, _, rfl, Nat.zero_le _, hQ, hT, hZ, hFW⟩
        case round =>
          obtain ⟨j, k3, n3, ao3, m3, c3, rfl, hj, hq, hT2, hz, hb⟩ := hrel
          clear hQ hZ hFW hT
          have HQ := Lib.hid hq
          have HZ := Lib.hid hz
          have HT := Lib.hid hT2
          have HB := Lib.hid hb
          clear hq hz hT2 hb FW T Q Z
          by_cases hjl : j < l.length
          · obtain ⟨M, hM⟩ : ∃ M, l.length - 1 - j = M := ⟨_, rfl⟩
            have hMl : M < l.length := by omega
            obtain ⟨b, off, k2, n2, ao2, m2, cap2, rfl, hP, h0, h1, h2, hrd⟩ := HE.out M hMl
            have e0 : wr.drew.cell? _ = _ := (HB.out.cell (p := ⟨b, off + M * 3, none⟩) hP).trans h0
            have e1 : wr.drew.cell? _ = _ := (HB.out.cell (p := ⟨b, off + M * 3 + 1, none⟩) hP).trans h1
            have e2 : wr.drew.cell? _ = _ := (HB.out.cell (p := ⟨b, off + M * 3 + 2, none⟩) hP).trans h2
            have hwr1 : (IntKind.i64.wrap ((l.length : Int) - 1)) = (l.length : Int) - 1 := IntWalk.i64_in _ (by omega)
            have hwr2 : (IntKind.i64.wrap ((l.length : Int) - 1 - (j : Int))) = (M : Int) := by rw [IntWalk.i64_in _ (by omega)]; omega
            have hM0 : (0 : Int) ≤ (M : Int) := Int.natCast_nonneg _
            have hMi : (M : Int) < (l.length : Int) := by omega
            obtain ⟨i0, i1, i2, fi, hBl⟩ := three (show wr.drew.heap[w.heap.size]? = _ from HQ.out)
            have hbd : Below w.heap.size w wr.drew := below_drewN HB.out 1
            have hcon := HOF.out.call _ _ l[M] (arnd kd (l.drop (l.length - j)) t) wr.drew (fun q => q < wr.drew.heap.size ∧ q ≠ w.heap.size) (fun q hq => hq.1) (Rd.keep (P := (· < w.heap.size)) (w' := wr.drew) ⟨_, hrd⟩ (fun b hb' => ⟨Nat.lt_of_lt_of_le hb' hbd.size, by omega⟩) fun b hb' => hbd.block b hb') (HT.out.keep (w' := wr.drew) (fun _ h => h) fun _ _ => rfl)
            have harn : Tm.node kd 0 [l[M], arnd kd (l.drop (l.length - j)) t] = arnd kd (l.drop (l.length - (j + 1))) t := by
              have q1 : l.length - (j + 1) = M := by omega
              have q2 : l.length - j = M + 1 := by omega
              rw [q1, q2, arnd_drop kd l t M hMl]
            rw [harn] at hcon
            have HCON := Lib.hid hcon
            have HBD := Lib.hid hbd
            have hbl : b < wr.drew.heap.size := Nat.lt_of_lt_of_le hP hbd.size
            have hzl := blt (show wr.drew.heap[w.heap.size + 1]? = _ from HZ.out)
            clear h0 h1 h2 hrd hcon harn hbd hM
            go_wp2_with fail
            refine wp_region_order [(0, true), (1, true), (2, true), (3, true), (4, true), (5, true), (6, true), (7, true), (8, true), (9, true), (10, false), (11, false)]
              (fun w' => (w'.cell? ⟨w.heap.size, 0, none⟩ = some (.int .i64 k3) ∧ w'.cell? ⟨w.heap.size, 1, none⟩ = some (.int .i64 n3) ∧ w'.cell? ⟨w.heap.size, 2, none⟩ = some (.slice ao3 m3 c3)) ∧
                (w'.cell? ⟨b, off + M * 3, none⟩ = some (.int .i64 k2) ∧ w'.cell? ⟨b, off + M * 3 + 1, none⟩ = some (.int .i64 n2) ∧ w'.cell? ⟨b, off + M * 3 + 2, none⟩ = some (.slice ao2 m2 cap2)))
              (by kernel_rfl) (by kernel_rfl) ⟨⟨i0, i1, i2⟩, ⟨e0, e1, e2⟩⟩ (fun hHeld => ?_)
            simp only [pickT, List.getElem?_cons_zero, List.getElem?_cons_succ, Option.getD_some]
            repeat (refine wpT_take (v := ?_) (by rfl) (fun w' hSw => ?_) ?_; rotate_left; (go_simp; with_reducible rfl); simp only [Act.put, List.setIfInBounds_toArray, List.set_cons_zero, List.set_cons_succ])
            refine wpT_do (fun K hK => ?_)
            go_simp
            refine HCON.out.mono ?_
            rintro e w3 ⟨k4, n4, ao4, m4, c4, rfl, hb3, hr3⟩
            have h3i := (hb3.block _ hBl).trans (show wr.drew.heap[w.heap.size]? = _ from HQ.out)
            have h3z := (hb3.block _ hzl).trans (show wr.drew.heap[w.heap.size + 1]? = _ from HZ.out)
            obtain ⟨g0, g1, g2, gf, -⟩ := three h3i
            refine hK.out _ _ ⟨⟨g0, g1, g2⟩, ⟨(hb3.cell (p := ⟨b, off + M * 3, none⟩) hbl).trans e0, (hb3.cell (p := ⟨b, off + M * 3 + 1, none⟩) hbl).trans e1, (hb3.cell (p := ⟨b, off + M * 3 + 2, none⟩) hbl).trans e2⟩⟩ (fun hHeld => ?_)
            clear hK K hwr1 hwr2
            have gf0 := gf 0
            have gf1 := gf 1
            have gf2 := gf 2
            have H3I := Lib.hid h3i
            have H3Z := Lib.hid h3z
            have HB3 := Lib.hid hb3
            have HR3 := Lib.hid hr3
            clear h3i h3z hb3 hr3 gf fi i0 i1 i2 e0 e1 e2
            refine wpT_last (fun K hK => ?_)
            go_simp
            refine hK.out _ _ ?_
            clear hK K
            go_wp2_with fail
            go_roundw
            case rel =>
              refine ⟨j + 1, _, _, _, _, _, by go_num, by omega, set123 H3I.out, ?_, ?_, ?_⟩
              · refine HR3.out.keep (fun q hq => ?_) fun q hq => ?_
                · rcases hq with hq | hq
                  · exact ⟨by have := HB3.out.size; have := hq.1; simp [World.setCell]; omega, hq.2⟩
                  · exact ⟨by have := hq.2; simp [World.setCell]; omega, by have := hq.1; omega⟩
                · have hne : q ≠ w.heap.size := by
                    rcases hq with hq | hq
                    · exact hq.2
                    · have := hq.1; omega
                  rw [Below.heap_setCell _ _ _ _ hne, Below.heap_setCell _ _ _ _ hne, Below.heap_setCell _ _ _ _ hne]
              · have hne : w.heap.size + 1 ≠ w.heap.size := by omega
                rw [Below.heap_setCell _ _ _ _ hne, Below.heap_setCell _ _ _ _ hne, Below.heap_setCell _ _ _ _ hne]
                exact H3Z.out
              · exact (((HBD.out.trans (HB3.out.mono HBD.out.size)).setCell (Nat.le_refl _) _).setCell (Nat.le_refl _) _).setCell (Nat.le_refl _) _
            case measure =>
              have q : (intOf (.int .i64 ((j : Int) + 1))).toNat = j + 1 := by show ((j : Int) + 1).toNat = _; omega
              have q2 : (intOf (.int .i64 (j : Int))).toNat = j := by show ((j : Int)).toNat = _; omega
              rw [q, q2]; omega
          · have hcur : arnd kd (l.drop (l.length - j)) t = arnd kd l t := by rw [show l.length - j = 0 by omega, List.drop_zero]
            rw [hcur] at HT
            obtain ⟨y, hy⟩ : ∃ y, y = Shp (arnd kd l t) := ⟨_, rfl⟩
            have HY2 := Lib.hid hy
            have hs := Shaped_r (HT.out.keep (P' := (· < wr.heap.size)) (fun q hq => hq.1) fun _ _ => rfl)
            rw [← hy] at hs
            obtain ⟨Q0, Q1, Q2, Qf, Ql⟩ := three HQ.out
            have hzl := blt HZ.out
            clear hy hcur
            go_wp2_with fail
            refine hs.mono ?_
            rintro e w4 ⟨rfl, hb4⟩
            have hz4 := (hb4.block _ hzl).trans HZ.out
            have hq4 := (hb4.block _ Ql).trans HQ.out
            have hT4 := HT.out.keep (P' := (· < w4.heap.size)) (fun q hq => Nat.lt_of_lt_of_le hq.1 hb4.size) fun q hq => hb4.block q hq.1
            have hb5 := HB.out.trans (hb4.mono HB.out.size)
            have HZ4 := Lib.hid hz4
            have HQ4 := Lib.hid hq4
            have HT4 := Lib.hid hT4
            have HB5 := Lib.hid hb5
            clear Q0 Q1 Q2 Qf Ql hs hz4 hq4 hT4 hb5 hb4 hzl
            obtain ⟨Z0, Z1, Z2, Zf, Zl⟩ := three HZ4.out
            cases y
            · have e : (rt, rc) = (tm0, 2) := by rw [E.out, ← HY2.out]; rfl
              injection e with e1 e2
              subst e1; subst e2
              go_wp2_with fail
              exact bodyPost_ret (v := .tuple #[.agg #[.int .i64 0, .int .i64 0, .slice none 0 0], .int .i64 2]) (by simp [results, Try.results78, go_sem, Z0, Z1, Z2]) rfl ⟨_, _, _, _, _, rfl, ((HB5.out.setCell (by simp only []; omega) _).setCell (by simp only []; omega) _).setCell (by simp only []; omega) _, Rd.zero _ _⟩
            · have e : (rt, rc) = (arnd kd l t, 0) := by rw [E.out, ← HY2.out]; rfl
              injection e with e1 e2
              subst e1; subst e2
              have hcp := Copy_w _ _ _ HT4.out
              have hcr : copyR (arnd kd l t) = arnd kd l t := by unfold copyR; rw [← HY2.out]; rfl
              rw [hcr] at hcp
              clear Z0 Z1 Z2 Zf hcr
              obtain ⟨Q0, Q1, Q2, Qf, -⟩ := three HQ4.out
              go_wp2_with fail
              refine hcp.mono ?_
              rintro e w5 ⟨k5, n5, ao5, m5, c5, rfl, hb5, hr5⟩
              obtain ⟨Z0, Z1, Z2, Zf, -⟩ := three ((hb5.block _ Zl).trans HZ4.out)
              have hl5 := fun a b c => Rd.laid (w := w) (r := w.heap.size + 1) (a := a) (b := b) (c := c) hr5 HB5.out.size Zl
              have HB6 := Lib.hid (HB5.out.trans (hb5.mono HB5.out.size))
              clear Q0 Q1 Q2 Qf hcp hb5 hr5
              go_wp2_with fail
              exact bodyPost_ret (v := .tuple #[.agg #[.int .i64 k5, .int .i64 n5, .slice ao5 m5 c5], .int .i64 0]) (by simp [results, Try.results78, go_sem, Z0, Z1, Z2]) rfl ⟨_, _, _, _, _, rfl, ((HB6.out.setCell (by simp only []; omega) _).setCell (by simp only []; omega) _).setCell (by simp only []; omega) _, hl5 _ _ _⟩
end Go.Proofs.Ythjlfjaciigfiaa
