/-
  TeleSplits: the walk: it returns true and writes nothing that was there. No condition but that the arguments read as terms.
-/
import Derived.Test.YthjlfjaciigfiaaWhole
import Derived.Test.YthjlfjaciigfiaaRefSplit
import Derived.Test.YthjlfjaciigfiaaOrdT
namespace Go.Proofs.Ythjlfjaciigfiaa
open Go.RowKit
set_option linter.unusedVariables false
set_option linter.unusedSimpArgs false

/-- a list, a term and an error are answered (the list's length in sight) -/
def AnsS3 (w : World) (l : List Tm) (t : Tm) (c : Int) (e : Ending) (w' : World) : Prop :=
  ∃ al cl k n ao m c', e = .returned (.tuple #[.slice al l.length cl, .agg #[.int .i64 k, .int .i64 n, .slice ao m c'], .int .i64 c]) ∧ Below w.heap.size w w' ∧ Ts (· < w'.heap.size) w' (.slice al l.length cl) l ∧
    Rd (· < w'.heap.size) w' (.agg #[.int .i64 k, .int .i64 n, .slice ao m c']) t
theorem AnsS.three {w w' : World} {l : List Tm} {t : Tm} {c : Int} {e : Ending} (h : AnsS w (l, t, c) e w') : AnsS3 w l t c e w' := by
  obtain ⟨al, ml, cl, k, n, ao, m, c', rfl, hb, hl, hr⟩ := h
  have hl0 := hl
  obtain ⟨al', cl', hv, -⟩ := hl0
  injection hv with h1 h2 h3
  subst h1; subst h2; subst h3
  exact ⟨_, _, _, _, _, _, _, rfl, hb, hl, hr⟩
theorem AnsSF.three {w w' : World} {l : List Tm} {t : Tm} {c : Int} {e : Ending} (h : AnsSF w (l, t, c) e w') : AnsS3 w l t c e w' := by
  obtain ⟨al, ml, cl, k, n, ao, m, c', rfl, hb, hl, hr⟩ := h
  exact AnsS.three ⟨_, _, _, _, _, _, _, _, rfl, hb, hl.keep (fun q hq => hq.2) (fun _ _ => rfl), hr.keep (fun q hq => hq.2) (fun _ _ => rfl)⟩
theorem Split_q {w : World} {v : Value} {t a : Tm} {l : List Tm} {n c : Int} (hq : splitR t n = (l, a, c)) (h : Rd (· < w.heap.size) w v t) : Calls Try.prog 44 #[v, .int .i64 n] w (AnsS3 w l a c) := by
  have := Split_w v t n w h; rw [hq] at this; exact this.mono fun _ _ h => h.three
theorem refSplit_q {w : World} {v : Value} {t a : Tm} {l : List Tm} {n c : Int} (hq : splitR t n = (l, a, c)) (h : Rd (· < w.heap.size) w v t) : Calls Try.prog 45 #[v, .int .i64 n] w (AnsS3 w l a c) := by
  have := refSplit_w v t n w h; rw [hq] at this; exact this.mono fun _ _ h => h.three
theorem Whole_q {w : World} {v : Value} {t a : Tm} {l : List Tm} {c : Int} (hq : splitR t (pis 25 t : Nat) = (l, a, c)) (h : Rd (· < w.heap.size) w v t) : Calls Try.prog 47 #[v] w (AnsS3 w l a c) := by
  have := Whole_w v t w h; rw [hq] at this; exact this.mono fun _ _ h => h.three
theorem SameAll_q {w : World} {v v' : Value} {l : List Tm} (h : Ts (· < w.heap.size) w v l) (h' : Ts (· < w.heap.size) w v' l) : Calls Try.prog 34 #[v, v'] w (Ans w (.bool true)) := by
  have := SameAll_w v v' l l w h h'; rwa [(eqTs_iff l l).mpr rfl] at this
theorem Equal_q {w : World} {v v' : Value} {t : Tm} (h : Rd (· < w.heap.size) w v t) (h' : Rd (· < w.heap.size) w v' t) : Calls Try.prog 46 #[v, v'] w (Ans w (.bool true)) := by
  have := Equal_r h h'; rwa [eqT_refl] at this
theorem stored {W wS : World} {bx : Nat} {vl : Value} {l : List Tm} {k n : Int} {ao : Option Addr} {m c : Nat} {t : Tm} (hb : Below W.heap.size W wS) (hz : wS.heap[bx]? = some (.cells #[.int .i64 0, .int .i64 0, .slice none 0 0] 24)) (hbx : W.heap.size ≤ bx)
    (hL : Ts (fun q => q ≠ bx ∧ q < wS.heap.size) wS vl l) (hR : Rd (fun q => q ≠ bx ∧ q < wS.heap.size) wS (.agg #[.int .i64 k, .int .i64 n, .slice ao m c]) t) :
    Below W.heap.size W (((wS.setCell ⟨bx, 0, none⟩ (.int .i64 k)).setCell ⟨bx, 1, none⟩ (.int .i64 n)).setCell ⟨bx, 2, none⟩ (.slice ao m c)) ∧
    (((wS.setCell ⟨bx, 0, none⟩ (.int .i64 k)).setCell ⟨bx, 1, none⟩ (.int .i64 n)).setCell ⟨bx, 2, none⟩ (.slice ao m c)).heap[bx]? = some (.cells #[.int .i64 k, .int .i64 n, .slice ao m c] 24) ∧
    Ts (· < (((wS.setCell ⟨bx, 0, none⟩ (.int .i64 k)).setCell ⟨bx, 1, none⟩ (.int .i64 n)).setCell ⟨bx, 2, none⟩ (.slice ao m c)).heap.size) (((wS.setCell ⟨bx, 0, none⟩ (.int .i64 k)).setCell ⟨bx, 1, none⟩ (.int .i64 n)).setCell ⟨bx, 2, none⟩ (.slice ao m c)) vl l ∧
    Rd (· < (((wS.setCell ⟨bx, 0, none⟩ (.int .i64 k)).setCell ⟨bx, 1, none⟩ (.int .i64 n)).setCell ⟨bx, 2, none⟩ (.slice ao m c)).heap.size) (((wS.setCell ⟨bx, 0, none⟩ (.int .i64 k)).setCell ⟨bx, 1, none⟩ (.int .i64 n)).setCell ⟨bx, 2, none⟩ (.slice ao m c)) (.agg #[.int .i64 k, .int .i64 n, .slice ao m c]) t := by
  refine ⟨((hb.setCell hbx _).setCell hbx _).setCell hbx _, set123 hz, hL.keep (fun q hq => by simp only [World.size_setCell]; exact hq.2) fun q hq => ?_, hR.keep (fun q hq => by simp only [World.size_setCell]; exact hq.2) fun q hq => ?_⟩ <;>
    rw [Below.heap_setCell _ _ _ _ hq.1, Below.heap_setCell _ _ _ _ hq.1, Below.heap_setCell _ _ _ _ hq.1]
set_option maxRecDepth 100000 in
set_option maxHeartbeats 4000000 in
theorem teleSplits_walk (v : Value) (t : Tm) (n : Int) (w : World) (hr : Rd (· < w.heap.size) w v t) :
    Calls Try.prog 10 #[v, .int .i64 n] w fun e w' => e = .returned (.bool true) ∧ Below w.heap.size w w' := by
  obtain ⟨ao, cap, rfl⟩ := hr.shape
  obtain ⟨la, ta, ca, hA⟩ : ∃ a b c, splitR t n = (a, b, c) := ⟨_, _, _, rfl⟩
  have HA := Lib.hid hA
  have hcc : (ca == ca) = true := by simp
  clear hA
  by_cases hs : Shp t = true
  · skip
    obtain ⟨lb, tb, cb, hB⟩ : ∃ a b c, splitR t (pis 25 t : Nat) = (a, b, c) := ⟨_, _, _, rfl⟩
    have HB := Lib.hid hB
    have HC := Lib.hid ((split_whole hs (Nat.le_refl _)).symm.trans hB)
    have HSH := Lib.hid ((Shp_iff t).mp hs)
    have hsh : Shp t = true := hs
    have hbb : (cb == cb) = true := by simp
    clear hB
    have hb0 := alloc_bel w (.cells #[.int .i64 t.kind, .int .i64 t.num, .slice ao t.sub.length cap] 24)
    have FB := Lib.hid hb0
    have T := Lib.hid (hr.on hb0)
    have Q := Lib.hid (heap_new w (.cells #[.int .i64 t.kind, .int .i64 t.num, .slice ao t.sub.length cap] 24) _ rfl)
    clear hb0 hr
    go_enter Try.func10, Try.ntmps10
    go_wp2_with fail
    refine (Split_q HA.out T.out).mono ?_
    rintro e w1 ⟨al1, cl1, k1, n1, ao1, m1, c1, rfl, hb, hl, hr⟩
    obtain ⟨hb1, B1, R1, -⟩ := boxedR hb hr
    have L1 := Lib.hid (Ts.on hl (alloc_bel w1 (.cells #[.int .i64 k1, .int .i64 n1, .slice ao1 m1 c1] 24)))
    clear hb hl hr
    replace FB := Lib.hid (FB.out.trans (hb1.mono FB.out.size))
    replace T := Lib.hid (T.out.on hb1)
    replace Q := Lib.hid ((hb1.block _ (blt Q.out)).trans Q.out)
    replace B1 := Lib.hid B1
    replace R1 := Lib.hid R1
    clear hb1
    obtain ⟨Q0, Q1, Q2, Qf, -⟩ := three Q.out
    go_wp2_with fail
    clear Q0 Q1 Q2 Qf
    refine (refSplit_q HA.out T.out).mono ?_
    rintro e w2 ⟨al2, cl2, k2, n2, ao2, m2, c2, rfl, hb, hl, hr⟩
    obtain ⟨hb2, B2, R2, -⟩ := boxedR hb hr
    have L2 := Lib.hid (Ts.on hl (alloc_bel w2 (.cells #[.int .i64 k2, .int .i64 n2, .slice ao2 m2 c2] 24)))
    clear hb hl hr
    replace FB := Lib.hid (FB.out.trans (hb2.mono FB.out.size))
    replace T := Lib.hid (T.out.on hb2)
    replace Q := Lib.hid ((hb2.block _ (blt Q.out)).trans Q.out)
    replace B1 := Lib.hid ((hb2.block _ (blt B1.out)).trans B1.out)
    replace R1 := Lib.hid (R1.out.on hb2)
    replace L1 := Lib.hid (L1.out.on hb2)
    replace B2 := Lib.hid B2
    replace R2 := Lib.hid R2
    clear hb2
    go_wp2_with fail
    refine (SameAll_q L1.out L2.out).mono ?_
    rintro e w3 ⟨rfl, hb⟩
    replace FB := Lib.hid (FB.out.trans (hb.mono FB.out.size))
    replace T := Lib.hid (T.out.on hb)
    replace Q := Lib.hid ((hb.block _ (blt Q.out)).trans Q.out)
    replace B1 := Lib.hid ((hb.block _ (blt B1.out)).trans B1.out)
    replace R1 := Lib.hid (R1.out.on hb)
    replace L1 := Lib.hid (L1.out.on hb)
    replace B2 := Lib.hid ((hb.block _ (blt B2.out)).trans B2.out)
    replace R2 := Lib.hid (R2.out.on hb)
    replace L2 := Lib.hid (L2.out.on hb)
    clear hb
    obtain ⟨B10, B11, B12, B1f, -⟩ := three B1.out
    obtain ⟨B20, B21, B22, B2f, -⟩ := three B2.out
    go_wp2_with fail
    clear B10 B11 B12 B1f B20 B21 B22 B2f
    refine (Equal_q R1.out R2.out).mono ?_
    rintro e w4 ⟨rfl, hb⟩
    replace FB := Lib.hid (FB.out.trans (hb.mono FB.out.size))
    replace T := Lib.hid (T.out.on hb)
    replace Q := Lib.hid ((hb.block _ (blt Q.out)).trans Q.out)
    replace B1 := Lib.hid ((hb.block _ (blt B1.out)).trans B1.out)
    replace R1 := Lib.hid (R1.out.on hb)
    replace L1 := Lib.hid (L1.out.on hb)
    replace B2 := Lib.hid ((hb.block _ (blt B2.out)).trans B2.out)
    replace R2 := Lib.hid (R2.out.on hb)
    replace L2 := Lib.hid (L2.out.on hb)
    clear hb
    obtain ⟨Q0, Q1, Q2, Qf, -⟩ := three Q.out
    go_wp2_with fail
    clear Q0 Q1 Q2 Qf
    refine (Whole_q HB.out T.out).mono ?_
    rintro e w5 ⟨al5, cl5, k5, n5, ao5, m5, c5, rfl, hb, hl, hr⟩
    obtain ⟨hb5, B5, R5, -⟩ := boxedR hb hr
    have L5 := Lib.hid (Ts.on hl (alloc_bel w5 (.cells #[.int .i64 k5, .int .i64 n5, .slice ao5 m5 c5] 24)))
    clear hb hl hr
    replace FB := Lib.hid (FB.out.trans (hb5.mono FB.out.size))
    replace T := Lib.hid (T.out.on hb5)
    replace Q := Lib.hid ((hb5.block _ (blt Q.out)).trans Q.out)
    replace B1 := Lib.hid ((hb5.block _ (blt B1.out)).trans B1.out)
    replace R1 := Lib.hid (R1.out.on hb5)
    replace L1 := Lib.hid (L1.out.on hb5)
    replace B2 := Lib.hid ((hb5.block _ (blt B2.out)).trans B2.out)
    replace R2 := Lib.hid (R2.out.on hb5)
    replace L2 := Lib.hid (L2.out.on hb5)
    replace B5 := Lib.hid B5
    replace R5 := Lib.hid R5
    clear hb5
    obtain ⟨Q0, Q1, Q2, Qf, -⟩ := three Q.out
    go_wp2_with fail
    clear Q0 Q1 Q2 Qf
    have hshc := refShaped_r T.out
    rw [hsh] at hshc
    have HSC := Lib.hid hshc
    clear hshc
    refine (HSC.out).mono ?_
    rintro e w6 ⟨rfl, hb⟩
    replace FB := Lib.hid (FB.out.trans (hb.mono FB.out.size))
    replace T := Lib.hid (T.out.on hb)
    replace Q := Lib.hid ((hb.block _ (blt Q.out)).trans Q.out)
    replace B1 := Lib.hid ((hb.block _ (blt B1.out)).trans B1.out)
    replace R1 := Lib.hid (R1.out.on hb)
    replace L1 := Lib.hid (L1.out.on hb)
    replace B2 := Lib.hid ((hb.block _ (blt B2.out)).trans B2.out)
    replace R2 := Lib.hid (R2.out.on hb)
    replace L2 := Lib.hid (L2.out.on hb)
    replace B5 := Lib.hid ((hb.block _ (blt B5.out)).trans B5.out)
    replace R5 := Lib.hid (R5.out.on hb)
    replace L5 := Lib.hid (L5.out.on hb)
    clear hb
    go_wp2_with fail
    obtain ⟨Q0, Q1, Q2, Qf, Ql⟩ := three (show w6.drew.heap[w.heap.size]? = _ from Q.out)
    have hTd : Rd (· < w6.drew.heap.size) w6.drew (.agg #[.int .i64 t.kind, .int .i64 t.num, .slice ao t.sub.length cap]) t := T.out.keep (w' := w6.drew) (fun _ h => h) fun _ _ => rfl
    have HMANY := Lib.hid (Many_w _ t (dep t) w6.drew (Nat.le_refl _) (by have := HSH.out.2.1; omega) HSH.out.2.2 hTd)
    have HTD := Lib.hid hTd
    clear hTd
    refine wp_region_tree (.one 0 true (.one 1 true (.two 2 (.two 3 (.rest [(4, true), (5, true), (6, true), (7, true), (8, false), (9, false), (10, false), (11, false)]) 8 (.rest [(3, false), (4, true), (5, true), (6, true), (7, true), (9, false), (10, false), (11, false)])) 8 (.rest [(2, false), (3, false), (4, true), (5, true), (6, true), (7, true), (9, false), (10, false), (11, false)]))))
      (fun w' => w'.cell? ⟨w.heap.size, 0, none⟩ = some (.int .i64 t.kind) ∧ w'.cell? ⟨w.heap.size, 1, none⟩ = some (.int .i64 t.num) ∧ w'.cell? ⟨w.heap.size, 2, none⟩ = some (.slice ao t.sub.length cap))
      (by kernel_rfl) (by kernel_rfl) ⟨Q0, Q1, Q2⟩ (fun hHeld => ?_)
    simp only [pickR, pickT, opIn, List.getElem?_cons_zero, List.getElem?_cons_succ, Option.getD_some]
    repeat (refine wpR_take (v := ?_) (by rfl) (fun w' hSw => ?_) ?_; rotate_left; (go_simp; with_reducible rfl); simp only [Act.put, List.setIfInBounds_toArray, List.set_cons_zero, List.set_cons_succ])
    refine wpR_two ?_ ?_
    · refine wpR_do (fun K hK => ?_)
      go_simp
      go_at_call 48
      refine HMANY.out.mono ?_
      rintro e w7 ⟨rfl, hb7⟩
      have q7 := (hb7.block _ Ql).trans (show w6.drew.heap[w.heap.size]? = _ from Q.out)
      obtain ⟨P0, P1, P2, Pf, Pl⟩ := three q7
      refine hK.out _ _ ⟨P0, P1, P2⟩ (fun hHeld => ?_)
      clear hK K
      refine wpR_two ?_ ?_
      · have hcon := refSplitB_w w6.heap.size _ t (pis (dep t) t : Nat) w7 hb7.size (Rd.keep (P' := (· < w6.heap.size)) HTD.out (fun _ h => h) fun q hq => hb7.block q hq)
        rw [HC.out] at hcon
        have HCON := Lib.hid hcon
        clear hcon
        refine wpR_do (fun K hK => ?_)
        go_simp
        go_at_call 45
        refine HCON.out.mono ?_
        rintro e w8 ⟨al8, ml8, cl8, k8, n8, ao8, m8, c8, rfl, hb8, hl8, hr8⟩
        have q8 := (hb8.block _ Pl).trans q7
        obtain ⟨O0, O1, O2, Of, Ol⟩ := three q8
        refine hK.out _ _ ⟨O0, O1, O2⟩ (fun hHeld => ?_)
        clear hK K
        refine wpR_rest ?_
        repeat (refine wpT_take (v := ?_) (by rfl) (fun w' hSw => ?_) ?_; rotate_left; (go_simp; with_reducible rfl); simp only [Act.put, List.setIfInBounds_toArray, List.set_cons_zero, List.set_cons_succ])
        have hlen8 : ml8 = lb.length := by
          obtain ⟨a1, b1, hv, -⟩ := hl8
          injection hv
        subst hlen8
        have hA := alloc_bel w8 (.cells #[.int .i64 0, .int .i64 0, .slice none 0 0] 24)
        have Ql6 := blt Q.out
        have h67 : Below w6.heap.size w6 w8 := (below_drewN (Below.refl _ _) 1).trans (hb7.trans (hb8.mono hb7.size))
        have HBS := Lib.hid (h67.trans (hA.mono h67.size))
        have HZS := Lib.hid (heap_new w8 (.cells #[.int .i64 0, .int .i64 0, .slice none 0 0] 24) _ rfl)
        have HBX := Lib.hid h67.size
        have HLS := Lib.hid (hl8.keep (P' := fun q => q ≠ w8.heap.size ∧ q < (w8.alloc (.cells #[.int .i64 0, .int .i64 0, .slice none 0 0] 24)).heap.size) (fun q hq => ⟨Nat.ne_of_lt hq.2, Nat.lt_of_lt_of_le hq.2 hA.size⟩) fun q hq => hA.block q hq.2)
        have HRS := Lib.hid (hr8.keep (P' := fun q => q ≠ w8.heap.size ∧ q < (w8.alloc (.cells #[.int .i64 0, .int .i64 0, .slice none 0 0] 24)).heap.size) (fun q hq => ⟨Nat.ne_of_lt hq.2, Nat.lt_of_lt_of_le hq.2 hA.size⟩) fun q hq => hA.block q hq.2)
        refine wpT_do (fun K hK => ?_)
        go_simp
        refine hK.out _ _ ⟨(hA.cell (p := ⟨w.heap.size, 0, none⟩) Ol).trans O0, (hA.cell (p := ⟨w.heap.size, 1, none⟩) Ol).trans O1, (hA.cell (p := ⟨w.heap.size, 2, none⟩) Ol).trans O2⟩ (fun hHeld => ?_)
        clear hK K hl8 hr8 hb8 hb7 h67 hA Q0 Q1 Q2 Qf Ql P0 P1 P2 Pf Pl O0 O1 O2 Of Ol q7 q8 HCON HMANY HTD
        clear hHeld
        generalize w8.alloc (.cells #[.int .i64 0, .int .i64 0, .slice none 0 0] 24) = wS at HBS HZS HLS HRS ⊢
        have q9 : (wS).heap[w.heap.size]? = some (.cells #[.int .i64 t.kind, .int .i64 t.num, .slice ao t.sub.length cap] 24) := (HBS.out.block _ Ql6).trans Q.out
        obtain ⟨z0, z1, z2, zf, zl⟩ := three HZS.out
        have zf0 := zf 0
        have zf1 := zf 1
        have zf2 := zf 2
        refine wpT_do (fun K hK => ?_)
        go_simp
        refine hK.out _ _ ⟨(three q9).1, (three q9).2.1, (three q9).2.2.1⟩ (fun hHeld => ?_)
        clear hK K
        obtain ⟨hS1, hS2, hS3, hS4⟩ := stored HBS.out HZS.out HBX.out HLS.out HRS.out
        have q10 := (hS1.block _ Ql6).trans Q.out
        have HS1 := Lib.hid hS1
        have HS2 := Lib.hid hS2
        have HS3 := Lib.hid hS3
        have HS4 := Lib.hid hS4
        clear hS1 hS2 hS3 hS4
        refine wpT_do (fun K hK => ?_)
        go_simp
        refine hK.out _ _ ⟨(three q10).1, (three q10).2.1, (three q10).2.2.1⟩ (fun hHeld => ?_)
        clear hK K
        refine wpT_last (fun K hK => ?_)
        go_simp
        refine hK.out _ _ ?_
        clear hK K
        replace FB := Lib.hid (FB.out.trans (HS1.out.mono FB.out.size))
        replace B5 := Lib.hid ((HS1.out.block _ (blt B5.out)).trans B5.out)
        replace R5 := Lib.hid (R5.out.on HS1.out)
        replace L5 := Lib.hid (Ts.on L5.out HS1.out)
        go_wp2_with fail
        refine (SameAll_q L5.out HS3.out).mono ?_
        rintro e w21 ⟨rfl, hb⟩
        replace FB := Lib.hid (FB.out.trans (hb.mono FB.out.size))
        replace B5 := Lib.hid ((hb.block _ (blt B5.out)).trans B5.out)
        replace R5 := Lib.hid (R5.out.on hb)
        replace HS2 := Lib.hid ((hb.block _ (blt HS2.out)).trans HS2.out)
        replace HS4 := Lib.hid (HS4.out.on hb)
        clear hb
        obtain ⟨B50, B51, B52, B5f, -⟩ := three B5.out
        obtain ⟨HS20, HS21, HS22, HS2f, -⟩ := three HS2.out
        go_wp2_with fail
        clear B50 B51 B52 B5f HS20 HS21 HS22 HS2f
        refine (Equal_q R5.out HS4.out).mono ?_
        rintro e w22 ⟨rfl, hb⟩
        replace FB := Lib.hid (FB.out.trans (hb.mono FB.out.size))
        replace B5 := Lib.hid ((hb.block _ (blt B5.out)).trans B5.out)
        replace R5 := Lib.hid (R5.out.on hb)
        replace HS2 := Lib.hid ((hb.block _ (blt HS2.out)).trans HS2.out)
        replace HS4 := Lib.hid (HS4.out.on hb)
        clear hb
        go_wp2_with fail
        refine (awake35_w _).mono ?_
        rintro e w23 ⟨rfl, hb⟩
        replace FB := Lib.hid (FB.out.trans (hb.mono FB.out.size))
        replace B5 := Lib.hid ((hb.block _ (blt B5.out)).trans B5.out)
        replace R5 := Lib.hid (R5.out.on hb)
        replace HS2 := Lib.hid ((hb.block _ (blt HS2.out)).trans HS2.out)
        replace HS4 := Lib.hid (HS4.out.on hb)
        clear hb
        go_wp2_with fail
        go_ret
        exact ⟨rfl, FB.out⟩
      · refine wpR_do (fun K hK => ?_)
        go_simp
        have hA := alloc_bel w7 (.cells #[.int .i64 0, .int .i64 0, .slice none 0 0] 24)
        have hz := heap_new w7 (.cells #[.int .i64 0, .int .i64 0, .slice none 0 0] 24) _ rfl
        have hsa : (w7.alloc (.cells #[.int .i64 0, .int .i64 0, .slice none 0 0] 24)).heap.size = w7.heap.size + 1 := by simp only [World.size_alloc]
        refine hK.out _ _ ⟨(hA.cell (p := ⟨w.heap.size, 0, none⟩) Pl).trans P0, (hA.cell (p := ⟨w.heap.size, 1, none⟩) Pl).trans P1, (hA.cell (p := ⟨w.heap.size, 2, none⟩) Pl).trans P2⟩ (fun hHeld => ?_)
        clear hK K hHeld
        generalize w7.alloc (.cells #[.int .i64 0, .int .i64 0, .slice none 0 0] 24) = wa at hA hz hsa ⊢
        have h67 : Below w6.heap.size w6 wa := (below_drewN (Below.refl _ _) 1).trans (hb7.trans (hA.mono hb7.size))
        have h77 : w6.heap.size ≤ w7.heap.size := hb7.size
        have Ql6 := blt Q.out
        have q7 := (h67.block _ Ql6).trans Q.out
        have hcon := refSplitB_w w6.heap.size _ t (pis (dep t) t : Nat) wa h67.size (Rd.keep (P' := (· < w6.heap.size)) T.out (fun _ h => h) fun q hq => h67.block q hq)
        rw [HC.out] at hcon
        have HCON := Lib.hid hcon
        clear hcon
        refine wpR_rest ?_
        refine wpT_do (fun K hK => ?_)
        go_simp
        go_at_call 45
        refine HCON.out.mono ?_
        rintro e w8 ⟨al8, ml8, cl8, k8, n8, ao8, m8, c8, rfl, hb8, hl8, hr8⟩
        have q8 := (hb8.block _ (blt q7)).trans q7
        refine hK.out _ _ ⟨(three q8).1, (three q8).2.1, (three q8).2.2.1⟩ (fun hHeld => ?_)
        clear hK K
        repeat (refine wpT_take (v := ?_) (by rfl) (fun w' hSw => ?_) ?_; rotate_left; (go_simp; with_reducible rfl); simp only [Act.put, List.setIfInBounds_toArray, List.set_cons_zero, List.set_cons_succ])
        have hlen8 : ml8 = lb.length := by
          obtain ⟨a1, b1, hv, -⟩ := hl8
          injection hv
        subst hlen8
        have HBS := Lib.hid (h67.trans (hb8.mono h67.size))
        have HZS := Lib.hid ((hb8.block _ (blt hz)).trans hz)
        have HBX := Lib.hid h77
        have HLS := Lib.hid (hl8.keep (P' := fun q => q ≠ w7.heap.size ∧ q < w8.heap.size) (fun q hq => ⟨by have := hq.1; omega, hq.2⟩) fun q hq => rfl)
        have HRS := Lib.hid (hr8.keep (P' := fun q => q ≠ w7.heap.size ∧ q < w8.heap.size) (fun q hq => ⟨by have := hq.1; omega, hq.2⟩) fun q hq => rfl)
        clear hl8 hr8 hb8 hb7 h67 h77 hsa hz hA Q0 Q1 Q2 Qf Ql P0 P1 P2 Pf Pl q7 q8 HCON HMANY HTD
        clear hHeld
        have q9 : (w8).heap[w.heap.size]? = some (.cells #[.int .i64 t.kind, .int .i64 t.num, .slice ao t.sub.length cap] 24) := (HBS.out.block _ Ql6).trans Q.out
        obtain ⟨z0, z1, z2, zf, zl⟩ := three HZS.out
        have zf0 := zf 0
        have zf1 := zf 1
        have zf2 := zf 2
        refine wpT_do (fun K hK => ?_)
        go_simp
        refine hK.out _ _ ⟨(three q9).1, (three q9).2.1, (three q9).2.2.1⟩ (fun hHeld => ?_)
        clear hK K
        obtain ⟨hS1, hS2, hS3, hS4⟩ := stored HBS.out HZS.out HBX.out HLS.out HRS.out
        have q10 := (hS1.block _ Ql6).trans Q.out
        have HS1 := Lib.hid hS1
        have HS2 := Lib.hid hS2
        have HS3 := Lib.hid hS3
        have HS4 := Lib.hid hS4
        clear hS1 hS2 hS3 hS4
        refine wpT_do (fun K hK => ?_)
        go_simp
        refine hK.out _ _ ⟨(three q10).1, (three q10).2.1, (three q10).2.2.1⟩ (fun hHeld => ?_)
        clear hK K
        refine wpT_last (fun K hK => ?_)
        go_simp
        refine hK.out _ _ ?_
        clear hK K
        replace FB := Lib.hid (FB.out.trans (HS1.out.mono FB.out.size))
        replace B5 := Lib.hid ((HS1.out.block _ (blt B5.out)).trans B5.out)
        replace R5 := Lib.hid (R5.out.on HS1.out)
        replace L5 := Lib.hid (Ts.on L5.out HS1.out)
        go_wp2_with fail
        refine (SameAll_q L5.out HS3.out).mono ?_
        rintro e w21 ⟨rfl, hb⟩
        replace FB := Lib.hid (FB.out.trans (hb.mono FB.out.size))
        replace B5 := Lib.hid ((hb.block _ (blt B5.out)).trans B5.out)
        replace R5 := Lib.hid (R5.out.on hb)
        replace HS2 := Lib.hid ((hb.block _ (blt HS2.out)).trans HS2.out)
        replace HS4 := Lib.hid (HS4.out.on hb)
        clear hb
        obtain ⟨B50, B51, B52, B5f, -⟩ := three B5.out
        obtain ⟨HS20, HS21, HS22, HS2f, -⟩ := three HS2.out
        go_wp2_with fail
        clear B50 B51 B52 B5f HS20 HS21 HS22 HS2f
        refine (Equal_q R5.out HS4.out).mono ?_
        rintro e w22 ⟨rfl, hb⟩
        replace FB := Lib.hid (FB.out.trans (hb.mono FB.out.size))
        replace B5 := Lib.hid ((hb.block _ (blt B5.out)).trans B5.out)
        replace R5 := Lib.hid (R5.out.on hb)
        replace HS2 := Lib.hid ((hb.block _ (blt HS2.out)).trans HS2.out)
        replace HS4 := Lib.hid (HS4.out.on hb)
        clear hb
        go_wp2_with fail
        refine (awake35_w _).mono ?_
        rintro e w23 ⟨rfl, hb⟩
        replace FB := Lib.hid (FB.out.trans (hb.mono FB.out.size))
        replace B5 := Lib.hid ((hb.block _ (blt B5.out)).trans B5.out)
        replace R5 := Lib.hid (R5.out.on hb)
        replace HS2 := Lib.hid ((hb.block _ (blt HS2.out)).trans HS2.out)
        replace HS4 := Lib.hid (HS4.out.on hb)
        clear hb
        go_wp2_with fail
        go_ret
        exact ⟨rfl, FB.out⟩
    · refine wpR_do (fun K hK => ?_)
      go_simp
      have hA := alloc_bel w6.drew (.cells #[.int .i64 0, .int .i64 0, .slice none 0 0] 24)
      have hz : ((w6.alloc (.cells #[.int .i64 0, .int .i64 0, .slice none 0 0] 24)).drew).heap[w6.heap.size]? = some (.cells #[.int .i64 0, .int .i64 0, .slice none 0 0] 24) := heap_new w6 (.cells #[.int .i64 0, .int .i64 0, .slice none 0 0] 24) w6.heap.size rfl
      have hsa : ((w6.alloc (.cells #[.int .i64 0, .int .i64 0, .slice none 0 0] 24)).drew).heap.size = w6.heap.size + 1 := by simp only [World.size_alloc, World.size_drew]
      refine hK.out _ _ ⟨(hA.cell (p := ⟨w.heap.size, 0, none⟩) Ql).trans Q0, (hA.cell (p := ⟨w.heap.size, 1, none⟩) Ql).trans Q1, (hA.cell (p := ⟨w.heap.size, 2, none⟩) Ql).trans Q2⟩ (fun hHeld => ?_)
      clear hK K hHeld
      have h66 : Below w6.heap.size w6 ((w6.alloc (.cells #[.int .i64 0, .int .i64 0, .slice none 0 0] 24)).drew) := below_drewN (alloc_bel w6 (.cells #[.int .i64 0, .int .i64 0, .slice none 0 0] 24)) 1
      clear hA
      generalize (w6.alloc (.cells #[.int .i64 0, .int .i64 0, .slice none 0 0] 24)).drew = wa at h66 hz hsa ⊢
      have Ql6 := blt Q.out
      have hmany := Many_w _ t (dep t) wa (Nat.le_refl _) (by have := HSH.out.2.1; omega) HSH.out.2.2 (T.out.on h66)
      have HMANY := Lib.hid hmany
      have q6 := (h66.block _ Ql6).trans Q.out
      clear hmany
      refine wpR_rest ?_
      refine wpT_do (fun K hK => ?_)
      go_simp
      go_at_call 48
      refine HMANY.out.mono ?_
      rintro e w7 ⟨rfl, hb7⟩
      have q7 := (hb7.block _ (blt q6)).trans q6
      refine hK.out _ _ ⟨(three q7).1, (three q7).2.1, (three q7).2.2.1⟩ (fun hHeld => ?_)
      clear hK K hHeld
      have h67 := h66.trans (hb7.mono h66.size)
      have h76 := hb7.size
      have hcon := refSplitB_w w6.heap.size _ t (pis (dep t) t : Nat) w7 h67.size (Rd.keep (P' := (· < w6.heap.size)) T.out (fun _ h => h) fun q hq => h67.block q hq)
      rw [HC.out] at hcon
      have HCON := Lib.hid hcon
      clear hcon
      refine wpT_do (fun K hK => ?_)
      go_simp
      go_at_call 45
      refine HCON.out.mono ?_
      rintro e w8 ⟨al8, ml8, cl8, k8, n8, ao8, m8, c8, rfl, hb8, hl8, hr8⟩
      have q8 := (hb8.block _ (blt q7)).trans q7
      refine hK.out _ _ ⟨(three q8).1, (three q8).2.1, (three q8).2.2.1⟩ (fun hHeld => ?_)
      clear hK K
      repeat (refine wpT_take (v := ?_) (by rfl) (fun w' hSw => ?_) ?_; rotate_left; (go_simp; with_reducible rfl); simp only [Act.put, List.setIfInBounds_toArray, List.set_cons_zero, List.set_cons_succ])
      have hlen8 : ml8 = lb.length := by
        obtain ⟨a1, b1, hv, -⟩ := hl8
        injection hv
      subst hlen8
      have HBS := Lib.hid (h67.trans (hb8.mono h67.size))
      have HZS := Lib.hid ((hb8.block _ (by have := blt hz; omega)).trans ((hb7.block _ (blt hz)).trans hz))
      have HBX := Lib.hid (Nat.le_refl w6.heap.size)
      have HLS := Lib.hid (hl8.keep (P' := fun q => q ≠ w6.heap.size ∧ q < w8.heap.size) (fun q hq => ⟨by have := hq.1; omega, hq.2⟩) fun q hq => rfl)
      have HRS := Lib.hid (hr8.keep (P' := fun q => q ≠ w6.heap.size ∧ q < w8.heap.size) (fun q hq => ⟨by have := hq.1; omega, hq.2⟩) fun q hq => rfl)
      clear hl8 hr8 hb8 hb7 h67 h66 h76 hsa hz Q0 Q1 Q2 Qf Ql q6 q7 q8 HCON HTD
      clear hHeld
      have q9 : (w8).heap[w.heap.size]? = some (.cells #[.int .i64 t.kind, .int .i64 t.num, .slice ao t.sub.length cap] 24) := (HBS.out.block _ Ql6).trans Q.out
      obtain ⟨z0, z1, z2, zf, zl⟩ := three HZS.out
      have zf0 := zf 0
      have zf1 := zf 1
      have zf2 := zf 2
      refine wpT_do (fun K hK => ?_)
      go_simp
      refine hK.out _ _ ⟨(three q9).1, (three q9).2.1, (three q9).2.2.1⟩ (fun hHeld => ?_)
      clear hK K
      obtain ⟨hS1, hS2, hS3, hS4⟩ := stored HBS.out HZS.out HBX.out HLS.out HRS.out
      have q10 := (hS1.block _ Ql6).trans Q.out
      have HS1 := Lib.hid hS1
      have HS2 := Lib.hid hS2
      have HS3 := Lib.hid hS3
      have HS4 := Lib.hid hS4
      clear hS1 hS2 hS3 hS4
      refine wpT_do (fun K hK => ?_)
      go_simp
      refine hK.out _ _ ⟨(three q10).1, (three q10).2.1, (three q10).2.2.1⟩ (fun hHeld => ?_)
      clear hK K
      refine wpT_last (fun K hK => ?_)
      go_simp
      refine hK.out _ _ ?_
      clear hK K
      replace FB := Lib.hid (FB.out.trans (HS1.out.mono FB.out.size))
      replace B5 := Lib.hid ((HS1.out.block _ (blt B5.out)).trans B5.out)
      replace R5 := Lib.hid (R5.out.on HS1.out)
      replace L5 := Lib.hid (Ts.on L5.out HS1.out)
      go_wp2_with fail
      refine (SameAll_q L5.out HS3.out).mono ?_
      rintro e w21 ⟨rfl, hb⟩
      replace FB := Lib.hid (FB.out.trans (hb.mono FB.out.size))
      replace B5 := Lib.hid ((hb.block _ (blt B5.out)).trans B5.out)
      replace R5 := Lib.hid (R5.out.on hb)
      replace HS2 := Lib.hid ((hb.block _ (blt HS2.out)).trans HS2.out)
      replace HS4 := Lib.hid (HS4.out.on hb)
      clear hb
      obtain ⟨B50, B51, B52, B5f, -⟩ := three B5.out
      obtain ⟨HS20, HS21, HS22, HS2f, -⟩ := three HS2.out
      go_wp2_with fail
      clear B50 B51 B52 B5f HS20 HS21 HS22 HS2f
      refine (Equal_q R5.out HS4.out).mono ?_
      rintro e w22 ⟨rfl, hb⟩
      replace FB := Lib.hid (FB.out.trans (hb.mono FB.out.size))
      replace B5 := Lib.hid ((hb.block _ (blt B5.out)).trans B5.out)
      replace R5 := Lib.hid (R5.out.on hb)
      replace HS2 := Lib.hid ((hb.block _ (blt HS2.out)).trans HS2.out)
      replace HS4 := Lib.hid (HS4.out.on hb)
      clear hb
      go_wp2_with fail
      refine (awake35_w _).mono ?_
      rintro e w23 ⟨rfl, hb⟩
      replace FB := Lib.hid (FB.out.trans (hb.mono FB.out.size))
      replace B5 := Lib.hid ((hb.block _ (blt B5.out)).trans B5.out)
      replace R5 := Lib.hid (R5.out.on hb)
      replace HS2 := Lib.hid ((hb.block _ (blt HS2.out)).trans HS2.out)
      replace HS4 := Lib.hid (HS4.out.on hb)
      clear hb
      go_wp2_with fail
      go_ret
      exact ⟨rfl, FB.out⟩
  have hB : splitR t (pis 25 t : Nat) = ([], tm0, 5) := by unfold splitR; rw [if_neg (fun h => hs h.1)]
  have HB := Lib.hid hB
  have hsh : Shp t = false := by simpa using hs
  clear hB
  have hb0 := alloc_bel w (.cells #[.int .i64 t.kind, .int .i64 t.num, .slice ao t.sub.length cap] 24)
  have FB := Lib.hid hb0
  have T := Lib.hid (hr.on hb0)
  have Q := Lib.hid (heap_new w (.cells #[.int .i64 t.kind, .int .i64 t.num, .slice ao t.sub.length cap] 24) _ rfl)
  clear hb0 hr
  go_enter Try.func10, Try.ntmps10
  go_wp2_with fail
  refine (Split_q HA.out T.out).mono ?_
  rintro e w1 ⟨al1, cl1, k1, n1, ao1, m1, c1, rfl, hb, hl, hr⟩
  obtain ⟨hb1, B1, R1, -⟩ := boxedR hb hr
  have L1 := Lib.hid (Ts.on hl (alloc_bel w1 (.cells #[.int .i64 k1, .int .i64 n1, .slice ao1 m1 c1] 24)))
  clear hb hl hr
  replace FB := Lib.hid (FB.out.trans (hb1.mono FB.out.size))
  replace T := Lib.hid (T.out.on hb1)
  replace Q := Lib.hid ((hb1.block _ (blt Q.out)).trans Q.out)
  replace B1 := Lib.hid B1
  replace R1 := Lib.hid R1
  clear hb1
  obtain ⟨Q0, Q1, Q2, Qf, -⟩ := three Q.out
  go_wp2_with fail
  clear Q0 Q1 Q2 Qf
  refine (refSplit_q HA.out T.out).mono ?_
  rintro e w2 ⟨al2, cl2, k2, n2, ao2, m2, c2, rfl, hb, hl, hr⟩
  obtain ⟨hb2, B2, R2, -⟩ := boxedR hb hr
  have L2 := Lib.hid (Ts.on hl (alloc_bel w2 (.cells #[.int .i64 k2, .int .i64 n2, .slice ao2 m2 c2] 24)))
  clear hb hl hr
  replace FB := Lib.hid (FB.out.trans (hb2.mono FB.out.size))
  replace T := Lib.hid (T.out.on hb2)
  replace Q := Lib.hid ((hb2.block _ (blt Q.out)).trans Q.out)
  replace B1 := Lib.hid ((hb2.block _ (blt B1.out)).trans B1.out)
  replace R1 := Lib.hid (R1.out.on hb2)
  replace L1 := Lib.hid (L1.out.on hb2)
  replace B2 := Lib.hid B2
  replace R2 := Lib.hid R2
  clear hb2
  go_wp2_with fail
  refine (SameAll_q L1.out L2.out).mono ?_
  rintro e w3 ⟨rfl, hb⟩
  replace FB := Lib.hid (FB.out.trans (hb.mono FB.out.size))
  replace T := Lib.hid (T.out.on hb)
  replace Q := Lib.hid ((hb.block _ (blt Q.out)).trans Q.out)
  replace B1 := Lib.hid ((hb.block _ (blt B1.out)).trans B1.out)
  replace R1 := Lib.hid (R1.out.on hb)
  replace L1 := Lib.hid (L1.out.on hb)
  replace B2 := Lib.hid ((hb.block _ (blt B2.out)).trans B2.out)
  replace R2 := Lib.hid (R2.out.on hb)
  replace L2 := Lib.hid (L2.out.on hb)
  clear hb
  obtain ⟨B10, B11, B12, B1f, -⟩ := three B1.out
  obtain ⟨B20, B21, B22, B2f, -⟩ := three B2.out
  go_wp2_with fail
  clear B10 B11 B12 B1f B20 B21 B22 B2f
  refine (Equal_q R1.out R2.out).mono ?_
  rintro e w4 ⟨rfl, hb⟩
  replace FB := Lib.hid (FB.out.trans (hb.mono FB.out.size))
  replace T := Lib.hid (T.out.on hb)
  replace Q := Lib.hid ((hb.block _ (blt Q.out)).trans Q.out)
  replace B1 := Lib.hid ((hb.block _ (blt B1.out)).trans B1.out)
  replace R1 := Lib.hid (R1.out.on hb)
  replace L1 := Lib.hid (L1.out.on hb)
  replace B2 := Lib.hid ((hb.block _ (blt B2.out)).trans B2.out)
  replace R2 := Lib.hid (R2.out.on hb)
  replace L2 := Lib.hid (L2.out.on hb)
  clear hb
  obtain ⟨Q0, Q1, Q2, Qf, -⟩ := three Q.out
  go_wp2_with fail
  clear Q0 Q1 Q2 Qf
  refine (Whole_q HB.out T.out).mono ?_
  rintro e w5 ⟨al5, cl5, k5, n5, ao5, m5, c5, rfl, hb, hl, hr⟩
  obtain ⟨hb5, B5, R5, -⟩ := boxedR hb hr
  have L5 := Lib.hid (Ts.on hl (alloc_bel w5 (.cells #[.int .i64 k5, .int .i64 n5, .slice ao5 m5 c5] 24)))
  clear hb hl hr
  replace FB := Lib.hid (FB.out.trans (hb5.mono FB.out.size))
  replace T := Lib.hid (T.out.on hb5)
  replace Q := Lib.hid ((hb5.block _ (blt Q.out)).trans Q.out)
  replace B1 := Lib.hid ((hb5.block _ (blt B1.out)).trans B1.out)
  replace R1 := Lib.hid (R1.out.on hb5)
  replace L1 := Lib.hid (L1.out.on hb5)
  replace B2 := Lib.hid ((hb5.block _ (blt B2.out)).trans B2.out)
  replace R2 := Lib.hid (R2.out.on hb5)
  replace L2 := Lib.hid (L2.out.on hb5)
  replace B5 := Lib.hid B5
  replace R5 := Lib.hid R5
  clear hb5
  obtain ⟨Q0, Q1, Q2, Qf, -⟩ := three Q.out
  go_wp2_with fail
  clear Q0 Q1 Q2 Qf
  have hshc := refShaped_r T.out
  rw [hsh] at hshc
  have HSC := Lib.hid hshc
  clear hshc
  refine (HSC.out).mono ?_
  rintro e w6 ⟨rfl, hb⟩
  replace FB := Lib.hid (FB.out.trans (hb.mono FB.out.size))
  replace T := Lib.hid (T.out.on hb)
  replace Q := Lib.hid ((hb.block _ (blt Q.out)).trans Q.out)
  replace B1 := Lib.hid ((hb.block _ (blt B1.out)).trans B1.out)
  replace R1 := Lib.hid (R1.out.on hb)
  replace L1 := Lib.hid (L1.out.on hb)
  replace B2 := Lib.hid ((hb.block _ (blt B2.out)).trans B2.out)
  replace R2 := Lib.hid (R2.out.on hb)
  replace L2 := Lib.hid (L2.out.on hb)
  replace B5 := Lib.hid ((hb.block _ (blt B5.out)).trans B5.out)
  replace R5 := Lib.hid (R5.out.on hb)
  replace L5 := Lib.hid (L5.out.on hb)
  clear hb
  go_wp2_with fail
  refine (awake35_w _).mono ?_
  rintro e w7 ⟨rfl, hb⟩
  replace FB := Lib.hid (FB.out.trans (hb.mono FB.out.size))
  replace T := Lib.hid (T.out.on hb)
  replace Q := Lib.hid ((hb.block _ (blt Q.out)).trans Q.out)
  replace B1 := Lib.hid ((hb.block _ (blt B1.out)).trans B1.out)
  replace R1 := Lib.hid (R1.out.on hb)
  replace L1 := Lib.hid (L1.out.on hb)
  replace B2 := Lib.hid ((hb.block _ (blt B2.out)).trans B2.out)
  replace R2 := Lib.hid (R2.out.on hb)
  replace L2 := Lib.hid (L2.out.on hb)
  replace B5 := Lib.hid ((hb.block _ (blt B5.out)).trans B5.out)
  replace R5 := Lib.hid (R5.out.on hb)
  replace L5 := Lib.hid (L5.out.on hb)
  clear hb
  go_wp2_with fail
  go_ret
  exact ⟨rfl, FB.out⟩
theorem teleSplits_walk2 (v : Value) (t : Tm) (n : Int) (w : World) (hr : Rd (· < w.heap.size) w v t) (hn : (Lit.int .i64 n).wf = true) : Calls Try.prog 10 #[v, .int .i64 n] w fun e w' => e = .returned (.bool true) ∧ Below w.heap.size w w' := teleSplits_walk v t n w hr
end Go.Proofs.Ythjlfjaciigfiaa
