/-
  term.cloned, Copy: contracts.
-/
import Derived.Test.YthjlfjaciigfiaaMp
namespace Go.Proofs.Ythjlfjaciigfiaa
open Go.RowKit
set_option linter.unusedVariables false
set_option linter.unusedSimpArgs false

set_option maxRecDepth 100000 in
set_option maxHeartbeats 4000000 in
theorem cloned_w : ∀ (d : Nat) (v : Value) (t : Tm) (w : World), RdN (· < w.heap.size) w d v t → gd t = true →
    Calls Try.prog 116 #[v] w (AnsT w t) := by
  intro d
  induction d with
  | zero => intro v t w hr; exact absurd hr (fun h => h)
  | succ d ih =>
    rintro v ⟨k, n, l⟩ w hr hg
    have hr0 := hr
    obtain ⟨ao, cap, rfl, hlm, hk, hn, he⟩ := hr.open
    clear hr
    have hll := gd_len hg
    have hgs := gd_sub hg
    have H := Lib.hid hr0
    have IH := Lib.hid ih
    have HE := Lib.hid he
    have HG := Lib.hid hgs
    have HK := Lib.hid hk
    have HN := Lib.hid hn
    clear ih he hk hn hr0 hgs hg
    go_enter Try.func116, Try.ntmps116
    go_wp2_with fail
    have hw0 : (((w.alloc (.cells #[.int .i64 k, .int .i64 n, .slice ao l.length cap] 24)).alloc (.cells #[.int .i64 0, .int .i64 0, .slice none 0 0] 24)).alloc (.cells #[.int .i64 k, .int .i64 n, .slice none 0 0] 24)).heap[w.heap.size + 1]? = some (.cells #[.int .i64 0, .int .i64 0, .slice none 0 0] 24) :=
      (Below.heap_alloc _ _ _ (by simp)).trans (heap_new _ _ _ (by simp))
    have hst : OutL _ (w.heap.size + 1 + 1) k n (.slice none 0 0) [] _ := OutL.start (heap_new (((w.alloc (.cells #[.int .i64 k, .int .i64 n, .slice ao l.length cap] 24)).alloc (.cells #[.int .i64 0, .int .i64 0, .slice none 0 0] 24))) (.cells #[.int .i64 k, .int .i64 n, .slice none 0 0] 24) _ (by simp))
    have hbw0 : Below w.heap.size w (((w.alloc (.cells #[.int .i64 k, .int .i64 n, .slice ao l.length cap] 24)).alloc (.cells #[.int .i64 0, .int .i64 0, .slice none 0 0] 24)).alloc (.cells #[.int .i64 k, .int .i64 n, .slice none 0 0] 24)) := (((Below.refl _ _).alloc (Nat.le_refl _) _).alloc (by simp) _).alloc (by simp; omega) _
    generalize ((w.alloc (.cells #[.int .i64 k, .int .i64 n, .slice ao l.length cap] 24)).alloc (.cells #[.int .i64 0, .int .i64 0, .slice none 0 0] 24)).alloc (.cells #[.int .i64 k, .int .i64 n, .slice none 0 0] 24) = w0 at hw0 hst hbw0 ⊢
    have HW0 := Lib.hid hw0
    have HBW := Lib.hid hbw0
    clear hw0 hbw0
    go_loopw [14] (fun i wr => ∃ (j : Nat) (vs : Value), i = .int .i64 j ∧ j ≤ l.length ∧ OutL w0 (w.heap.size + 1 + 1) k n vs (l.take j) wr) (fun i _ => l.length - (intOf i).toNat)
    case atStart => exact ⟨0, _, rfl, Nat.zero_le _, hst⟩
    case round =>
      obtain ⟨j, vs, rfl, hj, hL⟩ := hrel
      clear hst
      by_cases hjl : j < l.length
      · obtain ⟨b, off, k2, n2, ao2, m2, cap2, rfl, hP, h0, h1, h2, hrd⟩ := HE.out j hjl
        have hb : Below w.heap.size w wr := HBW.out.trans (hL.bel.mono (by omega))
        have e0 := (hb.cell (p := ⟨b, off + j * 3, none⟩) hP).trans h0
        have e1 := (hb.cell (p := ⟨b, off + j * 3 + 1, none⟩) hP).trans h1
        have e2 := (hb.cell (p := ⟨b, off + j * 3 + 2, none⟩) hP).trans h2
        have hbw : b < wr.heap.size := Nat.lt_of_lt_of_le hP hb.size
        have HL := Lib.hid hL
        have HB := Lib.hid hb
        clear h0 h1 h2 hL hb
        go_wp2_with fail
        have hgs0 := heap_new wr (.cells #[.int .i64 k2, .int .i64 n2, .slice ao2 m2 cap2] 24) _ rfl
        have hbel : Below wr.heap.size wr (wr.alloc (.cells #[.int .i64 k2, .int .i64 n2, .slice ao2 m2 cap2] 24)).drew := below_drewN ((Below.refl _ _).alloc (Nat.le_refl _) _) 1
        have hlw : wr.heap.size < (wr.alloc (.cells #[.int .i64 k2, .int .i64 n2, .slice ao2 m2 cap2] 24)).drew.heap.size := by show _ < (wr.alloc _).heap.size; rw [World.size_alloc]; omega
        obtain ⟨c0, c1, c2, -, -⟩ := three hgs0
        generalize wr.alloc (.cells #[.int .i64 k2, .int .i64 n2, .slice ao2 m2 cap2] 24) = wa at hbel hgs0 hlw c0 c1 c2 ⊢
        have hLA := HL.out.on hbel
        have hbA := HB.out.trans (hbel.mono HB.out.size)
        have hng : vs.ownBlock ≠ some wr.heap.size := fun e => by have := (HL.out.made.block _ e).2; omega
        have hcon := IH.out _ l[j] wa.drew (RdN.keep (P := (· < w.heap.size)) (w' := wa.drew) (fun b hb' => Nat.lt_of_lt_of_le hb' hbA.size) (fun b hb' => hbA.block b hb') d _ _ hrd) (HG.out j hjl)
        obtain ⟨-, -, o2, -, -⟩ := three hLA.box
        have o2' : wa.cell? ⟨w.heap.size + 1 + 1, 2, none⟩ = some vs := o2
        have HLA := Lib.hid hLA
        have HCON := Lib.hid hcon
        have HGS := Lib.hid (show wa.drew.heap[wr.heap.size]? = _ from hgs0)
        generalize hgs : wr.heap.size = gs at c0 c1 c2 HGS hng hlw ⊢
        clear e0 e1 e2 hLA hcon hgs0 o2 hbel hbA hgs
        refine wp_region_order [(0, true), (1, true), (2, true), (3, false), (4, false), (5, false), (6, true), (7, false)] (fun w' => w'.cell? ⟨gs, 0, none⟩ = some (.int .i64 k2) ∧ w'.cell? ⟨gs, 1, none⟩ = some (.int .i64 n2) ∧ w'.cell? ⟨gs, 2, none⟩ = some (.slice ao2 m2 cap2) ∧ w'.cell? ⟨w.heap.size + 1 + 1, 2, none⟩ = some vs)
          (by kernel_rfl) (by kernel_rfl) ⟨c0, c1, c2, o2'⟩ (fun hHeld => ?_)
        simp only [pickT, List.getElem?_cons_zero, List.getElem?_cons_succ, Option.getD_some]
        repeat (refine wpT_take (v := ?_) (by rfl) (fun w' hSw => ?_) ?_; rotate_left; (go_simp; with_reducible rfl); simp only [Act.put, List.setIfInBounds_toArray, List.set_cons_zero, List.set_cons_succ])
        refine wpT_do (fun K hK => ?_)
        go_simp
        go_at_call 116
        refine HCON.out.mono ?_
        rintro e w3 ⟨k3, n3, ao3, m3, c3, rfl, hb3, hr3⟩
        have HR3 := Lib.hid hr3
        clear hr3 hHeld
        refine hK.out _ _ ⟨(hb3.cell (p := ⟨gs, 0, none⟩) hlw).trans c0, (hb3.cell (p := ⟨gs, 1, none⟩) hlw).trans c1, (hb3.cell (p := ⟨gs, 2, none⟩) hlw).trans c2, (hb3.cell (p := ⟨w.heap.size + 1 + 1, 2, none⟩) HLA.out.lt).trans o2'⟩ (fun hHeld => ?_)
        clear hK K
        refine wpT_do (fun K hK => ?_)
        go_simp
        refine hK.out _ _ (by go_keep) (fun hHeld => ?_)
        clear hK K
        refine wpT_do (fun K hK => ?_)
        refine step_out rfl _ _ rfl HLA.out (by simp; omega) rfl hb3 HR3.out 1 rfl ?_
        intro g5 m5 cap5 w5 hL5 hk5 q5
        obtain ⟨-, -, o5, f5, -⟩ := three q5
        obtain ⟨g0, g1, g2, -, -⟩ := three ((hk5 _ hlw hng).trans HGS.out)
        have f5' := f5 2
        have HL5 := Lib.hid hL5
        clear hL5 f5 q5 hk5
        refine hK.out _ _ ⟨g0, g1, g2, o5⟩ (fun hHeld => ?_)
        clear hK K
        repeat (refine wpT_take (v := ?_) (by rfl) (fun w' hSw => ?_) ?_; rotate_left; (go_simp; with_reducible rfl); simp only [Act.put, List.setIfInBounds_toArray, List.set_cons_zero, List.set_cons_succ])
        refine wpT_last (fun K hK => ?_)
        go_simp
        refine hK.out _ _ ?_
        clear hK K
        go_wp2_with fail
        go_roundw
        case rel => exact ⟨j + 1, _, by go_num, by omega, by rw [List.take_succ_eq_append_getElem hjl]; exact HL5.out⟩
        case measure =>
          have q : (intOf (.int .i64 ((j : Int) + 1))).toNat = j + 1 := by show ((j : Int) + 1).toNat = _; omega
          have q2 : (intOf (.int .i64 (j : Int))).toNat = j := by show ((j : Int)).toNat = _; omega
          rw [q, q2]; omega
      · obtain ⟨o0, o1, o2, of, -⟩ := three hL.box
        obtain ⟨z0, z1, z2, zf, -⟩ := three ((hL.bel.block _ (by omega)).trans HW0.out)
        obtain ⟨ao5, m5, cap5, rfl⟩ := hL.shape
        have HL := Lib.hid hL
        clear hL
        go_wp2_with fail
        have hd := HL.out.done (a := .int .i64 k) (b := .int .i64 n) (c := .slice ao5 m5 cap5) (List.take_of_length_le (by omega)) HBW.out (by omega) (Nat.lt_succ_self _) HK.out HN.out
        exact bodyPost_ret (v := .agg #[.int .i64 k, .int .i64 n, .slice ao5 m5 cap5]) (by simp [results, Try.results116, go_sem, z0, z1, z2]) rfl ⟨_, _, _, _, _, rfl, hd.1, hd.2⟩
end Go.Proofs.Ythjlfjaciigfiaa
