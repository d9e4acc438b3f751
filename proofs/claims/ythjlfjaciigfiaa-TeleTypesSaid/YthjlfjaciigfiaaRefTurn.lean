/-
  ref10.Turned, Fill: contracts of the walk.
-/
import Derived.Test.YthjlfjaciigfiaaTurn
import Derived.Test.YthjlfjaciigfiaaSplit
import Derived.Test.YthjlfjaciigfiaaSames
namespace Go.Proofs.Ythjlfjaciigfiaa
open Go.RowKit
set_option linter.unusedVariables false
set_option linter.unusedSimpArgs false

set_option maxRecDepth 100000 in
set_option maxHeartbeats 4000000 in
theorem Turned_w (vl : Value) (l : List Tm) (w : World) (hl : Ts (· < w.heap.size) w vl l) (hlen : l.length ≤ 1000000) :
    Calls Try.prog 107 #[vl] w (AnsTl w l.reverse) := by
  obtain ⟨ao, cap, rfl, h1, h2, he⟩ := hl.elem
  have HE := Lib.hid he
  have HM0 := Lib.hid ((MadeG.empty 3 24 RdC (· < w.heap.size) w.heap.size w (Nat.le_refl _) : MadeG 3 24 RdC _ _ _ _ ([] : List Tm)))
  have HB0 := Lib.hid (alloc_bel w (.cells #[] 24))
  clear hl he
  go_enter Try.func107, Try.ntmps107
  go_wp2_with fail
  go_loopw [3, 4] (fun v iv wr => ∃ (m : Nat) (i : Int), iv = .int .i64 i ∧ i + 1 = (m : Int) ∧ m ≤ l.length ∧ MadeG 3 24 RdC (· < w.heap.size) w.heap.size wr v (l.drop m).reverse ∧ Below w.heap.size w wr) (fun _ iv _ => (intOf iv + 1).toNat)
  case atStart => exact ⟨l.length, _, rfl, by omega, Nat.le_refl _, by simpa using HM0.out, HB0.out⟩
  case round =>
    obtain ⟨m, i, rfl, him, hm, hM, hb⟩ := hrel
    have HM := Lib.hid hM
    have HB := Lib.hid hb
    have HI := Lib.hid him
    obtain ⟨ao3, cap3, hsh, -, -, -⟩ := hM.cells (by omega)
    have HSH := Lib.hid hsh
    clear hM hb him HM0 HB0 hsh
    by_cases h0 : m = 0
    · subst h0
      have hi : i = -1 := by have := HI.out; omega
      subst hi
      have hts := Lib.hid (MadeG.terms HM.out (· < wr.heap.size) (fun g h _ => h) (fun g _ h => h))
      have hshe := HSH.out
      have HSHE := Lib.hid hshe
      go_wp2_with fail
      go_ret
      subst hshe
      exact ⟨_, _, _, rfl, HB.out, by have h5 := hts.out; simp only [List.drop_zero] at h5 ⊢; exact h5⟩
    · obtain ⟨p, rfl⟩ : ∃ p, m = p + 1 := ⟨m - 1, by omega⟩
      have hi : i = (p : Int) := by have := HI.out; omega
      subst hi
      have hp : p < l.length := by omega
      obtain ⟨be, off, k0, n0, ao0, m0, c0, rfl, hPb, g0, g1, g2, hrd⟩ := HE.out p hp
      have e0 := (HB.out.cell (p := ⟨be, off + p * 3, none⟩) hPb).trans g0
      have e1 := (HB.out.cell (p := ⟨be, off + p * 3 + 1, none⟩) hPb).trans g1
      have e2 := (HB.out.cell (p := ⟨be, off + p * 3 + 2, none⟩) hPb).trans g2
      have hbw : be < wr.heap.size := Nat.lt_of_lt_of_le hPb HB.out.size
      have hown := HM.out.block
      have hsz : w.heap.size ≤ wr.heap.size := HB.out.size
      obtain ⟨ao2, c2, w', hr, hM2, hk2, hb2⟩ := run_old (ao := ao0) (m := m0) (c := c0) (k := k0) (n := n0) (x := l[p]) 22 HM.out (by simp; omega) hsz (hrd.keep (P' := fun q => u3.ownBlock ≠ some q ∧ q < wr.heap.size ∧ q < w.heap.size) (w' := wr) (fun q hq => ⟨fun e => by have h4 := (hown q e).1; omega, Nat.lt_of_lt_of_le hq hsz, hq⟩) fun q hq => HB.out.block q hq)
      have hdr : (l.drop (p + 1)).reverse ++ [l[p]] = (l.drop p).reverse := by rw [List.drop_eq_getElem_cons hp, List.reverse_cons]
      rw [hdr] at hM2
      generalize (l.drop (p + 1)).reverse.length + 1 = Ln at hr hM2
      have hp0 : (0 : Int) ≤ (p : Int) := Int.natCast_nonneg _
      have hpl : (p : Int) < (l.length : Int) := by omega
      have HR := Lib.hid hr
      have HM2 := Lib.hid hM2
      have HB2 := Lib.hid (HB.out.trans hb2)
      have HDR := Lib.hid hdr
      clear g0 g1 g2 hrd hown hr hM2 hk2 hb2 hdr
      go_wp2_with (at_builtin; refine wpList_run_append rfl _ _ _ rfl _ _ _ rfl rfl HR.out ?_)
      go_roundw
      case rel => exact ⟨p, _, by go_num, by omega, by omega, HM2.out, HB2.out⟩
      case measure =>
        have q : (intOf (.int .i64 ((p : Int) - 1)) + 1).toNat = p := by show ((p : Int) - 1 + 1).toNat = _; omega
        have q2 : (intOf (.int .i64 (p : Int)) + 1).toNat = p + 1 := by show ((p : Int) + 1).toNat = _; omega
        rw [q, q2]; omega
set_option maxRecDepth 100000 in
set_option maxHeartbeats 4000000 in
theorem refFill_w (v : Value) (t : Tm) (vl : Value) (l : List Tm) (w : World) (hr : Rd (· < w.heap.size) w v t) (hl : Ts (· < w.heap.size) w vl l) (hlen : l.length ≤ 1000000) :
    Calls Try.prog 68 #[v, vl] w (AnsTE w (manyR t l.reverse).1 (manyR t l.reverse).2) := by
  obtain ⟨rt, rc, hres⟩ : ∃ rt rc, manyR t l.reverse = (rt, rc) := ⟨_, _, rfl⟩
  rw [hres]
  obtain ⟨ao, cap, rfl⟩ := hr.shape
  obtain ⟨W, hW⟩ : ∃ W, W = (w.alloc (.cells #[.int .i64 t.kind, .int .i64 t.num, .slice ao t.sub.length cap] 24)).alloc (.cells #[.int .i64 0, .int .i64 0, .slice none 0 0] 24) := ⟨_, rfl⟩
  have hb0 : Below w.heap.size w W := by rw [hW]; exact (((Below.refl _ _).alloc (Nat.le_refl _) _).alloc (by simp only [World.size_alloc]; omega) _)
  have hsW : W.heap.size = w.heap.size + 2 := by rw [hW]; simp only [World.size_alloc]
  have Q : W.heap[w.heap.size]? = some (.cells #[.int .i64 t.kind, .int .i64 t.num, .slice ao t.sub.length cap] 24) := by rw [hW]; exact (Below.heap_alloc _ _ _ (by simp only [World.size_alloc]; omega)).trans (heap_new _ _ _ rfl)
  have Z : W.heap[w.heap.size + 1]? = some (.cells #[.int .i64 0, .int .i64 0, .slice none 0 0] 24) := by rw [hW]; exact heap_new _ _ _ (by simp only [World.size_alloc])
  have HQ := Lib.hid Q
  have HZ := Lib.hid Z
  have T := Lib.hid (hr.on hb0)
  have FB0 := Lib.hid hb0
  have SW := Lib.hid hsW
  have HW := Lib.hid hW
  have RES := Lib.hid hres
  have TL := Lib.hid (hl.on hb0)
  have HLN := Lib.hid hlen
  obtain ⟨aol, capl, rfl, -⟩ := hl.elem
  obtain ⟨q0, q1, q2, -, ql⟩ := three Q
  rw [hW] at q0 q1 q2 ql
  clear hb0 hsW hW hr Q Z hres hl
  go_enter Try.func68, Try.ntmps68
  go_wp2_with fail
  rw [← HW.out] at q0 q1 q2 ql ⊢
  refine wp_region_order [(0, true), (1, true), (2, false), (3, false), (4, true), (5, true), (6, false), (7, false)]
    (fun w' => w'.cell? ⟨w.heap.size, 0, none⟩ = some (.int .i64 t.kind) ∧ w'.cell? ⟨w.heap.size, 1, none⟩ = some (.int .i64 t.num) ∧ w'.cell? ⟨w.heap.size, 2, none⟩ = some (.slice ao t.sub.length cap))
    (by kernel_rfl) (by kernel_rfl) ⟨q0, q1, q2⟩ (fun hHeld => ?_)
  simp only [pickT, List.getElem?_cons_zero, List.getElem?_cons_succ, Option.getD_some]
  repeat (refine wpT_take (v := ?_) (by rfl) (fun w' hSw => ?_) ?_; rotate_left; (go_simp; with_reducible rfl); simp only [Act.put, List.setIfInBounds_toArray, List.set_cons_zero, List.set_cons_succ])
  refine wpT_do (fun K hK => ?_)
  go_simp
  go_at_call 107
  refine (Turned_w _ _ _ (TL.out.on (below_drewN (Below.refl _ _) 1)) HLN.out).mono ?_
  rintro e w1 ⟨aob, mb, cb, rfl, hb, hts⟩
  have HTS := Lib.hid hts
  clear hts
  have hb1 : Below W.heap.size W w1 := (below_drewN (Below.refl _ _) 1).trans hb
  have HB1 := Lib.hid (FB0.out.trans (hb1.mono FB0.out.size))
  have T1 := Lib.hid (T.out.on hb1)
  have HQ1 := Lib.hid ((hb1.block _ (blt HQ.out)).trans HQ.out)
  have HZ1 := Lib.hid ((hb1.block _ (blt HZ.out)).trans HZ.out)
  have hsz1 : w.heap.size + 2 ≤ w1.heap.size := by have := hb1.size; have := SW.out; omega
  clear hb hb1 q0 q1 q2 ql
  obtain ⟨q0, q1, q2, -, ql⟩ := three HQ1.out
  refine hK.out _ _ ⟨q0, q1, q2⟩ (fun hHeld => ?_)
  clear hK K hHeld
  have hcon := refMany9_q RES.out (by rw [List.length_reverse]; exact HLN.out) HTS.out T1.out
  have HCON := Lib.hid hcon
  clear hcon
  refine wpT_do (fun K hK => ?_)
  go_simp
  go_at_call 51
  refine HCON.out.mono ?_
  rintro e w2 ⟨k2, n2, ao2, m2, c2, rfl, hb2, hr2⟩
  have HB2 := Lib.hid (HB1.out.trans (hb2.mono HB1.out.size))
  have HQ2 := Lib.hid ((hb2.block _ (blt HQ1.out)).trans HQ1.out)
  have HZ2 := Lib.hid ((hb2.block _ (blt HZ1.out)).trans HZ1.out)
  have HR2 := Lib.hid (hr2.keep (P' := fun q => w.heap.size + 1 < q ∧ q < w2.heap.size) (fun q hq => ⟨by have := hq.1; omega, hq.2⟩) fun _ _ => rfl)
  clear hb2 hr2 q0 q1 q2 ql
  obtain ⟨q0, q1, q2, -, ql⟩ := three HQ2.out
  refine hK.out _ _ ⟨q0, q1, q2⟩ (fun hHeld => ?_)
  clear hK K hHeld
  repeat (refine wpT_take (v := ?_) (by rfl) (fun w' hSw => ?_) ?_; rotate_left; (go_simp; with_reducible rfl); simp only [Act.put, List.setIfInBounds_toArray, List.set_cons_zero, List.set_cons_succ])
  obtain ⟨z0, z1, z2, zf, zl⟩ := three HZ2.out
  have zf0 := zf 0
  have zf1 := zf 1
  have zf2 := zf 2
  have hoff := set3_off w2 (w.heap.size + 1) (.int .i64 k2) (.int .i64 n2) (.slice ao2 m2 c2)
  have HX := Lib.hid (set3_blk (a := .int .i64 k2) (b := .int .i64 n2) (c := .slice ao2 m2 c2) HZ2.out)
  have HB3 := Lib.hid ((((HB2.out.setCell (p := ⟨w.heap.size + 1, 0, none⟩) (by simp only []; omega) (.int .i64 k2)).setCell (p := ⟨w.heap.size + 1, 1, none⟩) (by simp only []; omega) (.int .i64 n2)).setCell (p := ⟨w.heap.size + 1, 2, none⟩) (by simp only []; omega) (.slice ao2 m2 c2)))
  have HR3 := Lib.hid (HR2.out.keep (w' := ((w2.setCell ⟨w.heap.size + 1, 0, none⟩ (.int .i64 k2)).setCell ⟨w.heap.size + 1, 1, none⟩ (.int .i64 n2)).setCell ⟨w.heap.size + 1, 2, none⟩ (.slice ao2 m2 c2))
    (P' := fun q => w.heap.size + 1 < q ∧ q < (((w2.setCell ⟨w.heap.size + 1, 0, none⟩ (.int .i64 k2)).setCell ⟨w.heap.size + 1, 1, none⟩ (.int .i64 n2)).setCell ⟨w.heap.size + 1, 2, none⟩ (.slice ao2 m2 c2)).heap.size) (fun q hq => ⟨hq.1, by rw [set3_size]; exact hq.2⟩) fun q hq => hoff q (by omega))
  have HQ3 := Lib.hid ((hoff _ (by omega)).trans HQ2.out)
  refine wpT_do (fun K hK => ?_)
  go_simp
  clear z0 z1 z2 zf zf0 zf1 zf2 zl hoff q0 q1 q2 ql
  generalize ((w2.setCell ⟨w.heap.size + 1, 0, none⟩ (.int .i64 k2)).setCell ⟨w.heap.size + 1, 1, none⟩ (.int .i64 n2)).setCell ⟨w.heap.size + 1, 2, none⟩ (.slice ao2 m2 c2) = w3 at HX HB3 HR3 HQ3 ⊢
  obtain ⟨q0, q1, q2, -, ql⟩ := three HQ3.out
  refine hK.out _ _ ⟨q0, q1, q2⟩ (fun hHeld => ?_)
  clear hK K hHeld
  obtain ⟨z0, z1, z2, zf, zl⟩ := three HX.out
  refine wpT_last (fun K hK => ?_)
  go_simp
  refine hK.out _ _ ?_
  clear hK K
  go_wp2_with fail
  exact bodyPost_ret (v := .tuple #[.agg #[.int .i64 k2, .int .i64 n2, .slice ao2 m2 c2], .int .i64 rc]) (by simp [results, Try.results68, go_sem, z0, z1, z2]) rfl ⟨_, _, _, _, _, rfl, HB3.out, HR3.out.keep (fun q hq => ⟨by omega, hq.2⟩) fun _ _ => rfl⟩
theorem refFill_q {w : World} {vl v : Value} {l : List Tm} {t a : Tm} {c : Int} (hq : manyR t l.reverse = (a, c)) (hlen : l.length ≤ 1000000) (hl : Ts (· < w.heap.size) w vl l) (h : Rd (· < w.heap.size) w v t) : Calls Try.prog 68 #[v, vl] w (AnsTE w a c) := by
  have := refFill_w v t vl l w h hl hlen; rwa [hq] at this
end Go.Proofs.Ythjlfjaciigfiaa
