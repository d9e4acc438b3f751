/-
  ref08.Move: a contract of the walk, at a term whose nodes are good.
-/
import Derived.Test.YthjlfjaciigfiaaMp
import Derived.IntWalk
namespace Go.Proofs.Ythjlfjaciigfiaa
open Go.RowKit
set_option linter.unusedVariables false
set_option linter.unusedSimpArgs false

set_option maxRecDepth 100000 in
set_option maxHeartbeats 4000000 in
theorem Move_w (by' : Int) (hby : -1073741824 ≤ by' ∧ by' ≤ 1073741824) : ∀ (d : Nat) (v : Value) (t : Tm) (n : Int) (w : World), RdN (· < w.heap.size) w d v t → gd t = true → 0 ≤ n → n + d ≤ 1099511627776 →
    Calls Try.prog 76 #[v, .int .i64 by', .int .i64 n] w (AnsT w (mp (Fmv by') t n)) := by
  intro d
  induction d with
  | zero => intro v t n w hr; exact absurd hr (fun h => h)
  | succ d ih =>
    rintro v ⟨k, x, l⟩ n w hr hg hn0 hn1
    have hll := gd_len hg
    have hgs := gd_sub hg
    obtain ⟨hk1, hk8, hx0, hx1⟩ := gd_num hg
    have hgv : k = 1 → l = [] := fun e => by subst e; exact gd_var hg
    obtain ⟨ao, cap, rfl, hlm, hk, hx, he⟩ := hr.open
    have hcm : cap ≤ maxLen := by
      obtain ⟨s, e, -, -, ao', cap', e2, -, hc, -⟩ := hr
      rw [e2] at e
      injection e with e; injection e with e; injection e with e3 e; injection e with e4 e; injection e with e e6; injection e with e7 e8 e9; subst e9
      exact hc
    clear hr
    have IH := Lib.hid ih
    have HE := Lib.hid he
    have HG := Lib.hid hgs
    have HK := Lib.hid hk
    have HX := Lib.hid hx
    have HCM := Lib.hid hcm
    have HGV := Lib.hid hgv
    have HN := Lib.hid (And.intro hn0 hn1)
    clear ih he hk hx hgs hg hcm hgv
    by_cases h1 : k = 1
    · subst h1
      have hl0 := HGV.out rfl
      subst hl0
      by_cases hlt : x < n
      · have e : mp (Fmv by') (.node 1 x []) n = .node 1 x [] := by simp [mp, Fmv, hlt]
        rw [e]; clear e
        go_enter Try.func76, Try.ntmps76
        go_wp2_with fail
        exact bodyPost_ret (v := .agg #[.int .i64 1, .int .i64 x, .slice ao 0 cap]) (by simp [results, Try.results76, go_sem]) rfl ⟨_, _, _, _, _, rfl, ((Below.refl _ _).alloc (Nat.le_refl _) _).alloc (by simp) _, Rd.leaf _ _ _ _ _ _ HCM.out (by omega) (by omega)⟩
      · have e : mp (Fmv by') (.node 1 x []) n = .node 1 (x + by') [] := by simp [mp, Fmv, hlt]
        rw [e]; clear e
        go_enter Try.func76, Try.ntmps76
        go_wp2_with fail
        refine (Leaf_w _ _ _).mono ?_
        rintro e w1 ⟨rfl, hb⟩
        have hl1 : w.heap.size + 1 < ((w.alloc (.cells #[.int .i64 1, .int .i64 x, .slice ao 0 cap] 24)).alloc (.cells #[.int .i64 0, .int .i64 0, .slice none 0 0] 24)).heap.size := by simp
        obtain ⟨z0, z1, z2, zf, -⟩ := three ((hb.block _ hl1).trans (heap_new (w.alloc (.cells #[.int .i64 1, .int .i64 x, .slice ao 0 cap] 24)) _ _ (by simp)))
        have hb2 : Below w.heap.size w w1 := (((Below.refl _ _).alloc (Nat.le_refl _) _).alloc (by simp) _).trans (hb.mono (by omega))
        have HB := Lib.hid hb2
        clear hb hb2
        go_wp2_with fail
        exact bodyPost_ret (v := .agg #[.int .i64 1, .int .i64 (x + by'), .slice none 0 0]) (by simp [results, Try.results76, go_sem, z0, z1, z2]) rfl ⟨_, _, _, _, _, rfl, ((HB.out.setCell (by simp) _).setCell (by simp) _).setCell (by simp) _, Rd.leaf _ _ _ _ _ _ (Nat.zero_le _) (by omega) (by omega)⟩
    have h1b : (k == 1) = false := by simp [h1]
    have e : mp (Fmv by') (.node k x l) n = .node k x (mpL (Fmv by') k l n 0) := by simp [mp, Fmv, h1]
    rw [e]; clear e
    go_enter Try.func76, Try.ntmps76
    go_wp2_with fail
    have hwB : (((w.alloc (.cells #[.int .i64 k, .int .i64 x, .slice ao l.length cap] 24)).alloc (.cells #[.int .i64 0, .int .i64 0, .slice none 0 0] 24)).alloc (.cells #[.int .i64 k, .int .i64 x, .slice none 0 0] 24)).heap[w.heap.size]? = some (.cells #[.int .i64 k, .int .i64 x, .slice ao l.length cap] 24) :=
      (Below.heap_alloc _ _ _ (by simp; omega)).trans ((Below.heap_alloc _ _ _ (by simp)).trans (heap_new _ _ _ rfl))
    have hw0 : (((w.alloc (.cells #[.int .i64 k, .int .i64 x, .slice ao l.length cap] 24)).alloc (.cells #[.int .i64 0, .int .i64 0, .slice none 0 0] 24)).alloc (.cells #[.int .i64 k, .int .i64 x, .slice none 0 0] 24)).heap[w.heap.size + 1]? = some (.cells #[.int .i64 0, .int .i64 0, .slice none 0 0] 24) :=
      (Below.heap_alloc _ _ _ (by simp)).trans (heap_new _ _ _ (by simp))
    have hst : OutL _ (w.heap.size + 1 + 1) k x (.slice none 0 0) [] _ := OutL.start (heap_new (((w.alloc (.cells #[.int .i64 k, .int .i64 x, .slice ao l.length cap] 24)).alloc (.cells #[.int .i64 0, .int .i64 0, .slice none 0 0] 24))) (.cells #[.int .i64 k, .int .i64 x, .slice none 0 0] 24) _ (by simp))
    have hbw0 : Below w.heap.size w (((w.alloc (.cells #[.int .i64 k, .int .i64 x, .slice ao l.length cap] 24)).alloc (.cells #[.int .i64 0, .int .i64 0, .slice none 0 0] 24)).alloc (.cells #[.int .i64 k, .int .i64 x, .slice none 0 0] 24)) := (((Below.refl _ _).alloc (Nat.le_refl _) _).alloc (by simp) _).alloc (by simp; omega) _
    generalize ((w.alloc (.cells #[.int .i64 k, .int .i64 x, .slice ao l.length cap] 24)).alloc (.cells #[.int .i64 0, .int .i64 0, .slice none 0 0] 24)).alloc (.cells #[.int .i64 k, .int .i64 x, .slice none 0 0] 24) = w0 at hwB hw0 hst hbw0 ⊢
    have HWB := Lib.hid hwB
    have HW0 := Lib.hid hw0
    have HBW := Lib.hid hbw0
    clear hwB hw0 hbw0
    go_loopw [8] (fun i wr => ∃ (j : Nat) (vs : Value), i = .int .i64 j ∧ j ≤ l.length ∧ OutL w0 (w.heap.size + 1 + 1) k x vs ((mpL (Fmv by') k l n 0).take j) wr) (fun i _ => l.length - (intOf i).toNat)
    case atStart => exact ⟨0, _, rfl, Nat.zero_le _, hst⟩
    case round =>
      obtain ⟨j, vs, rfl, hj, hL⟩ := hrel
      clear hst
      obtain ⟨i0, i1, i2, -, -⟩ := three ((hL.bel.block _ (by omega)).trans HWB.out)
      by_cases hjl : j < l.length
      · obtain ⟨b, off, k2, n2, ao2, m2, cap2, rfl, hP, h0, h1, h2, hrd⟩ := HE.out j hjl
        have hb : Below w.heap.size w wr := HBW.out.trans (hL.bel.mono (by omega))
        have e0 := (hb.cell (p := ⟨b, off + j * 3, none⟩) hP).trans h0
        have e1 := (hb.cell (p := ⟨b, off + j * 3 + 1, none⟩) hP).trans h1
        have e2 := (hb.cell (p := ⟨b, off + j * 3 + 2, none⟩) hP).trans h2
        have hbw : b < wr.heap.size := Nat.lt_of_lt_of_le hP hb.size
        have hbd : Below w.heap.size w wr.drew := below_drewN hb 1
        have hLd := hL.on (below_drewN (Below.refl _ _) 1 : Below wr.heap.size wr wr.drew)
        have hBlt : w.heap.size < wr.drew.heap.size := by show _ < wr.heap.size; have := hL.lt; omega
        have hblt : b < wr.drew.heap.size := hbw
        obtain ⟨-, -, o2, -, -⟩ := three hLd.box
        have hbk := (bn_le k j)
        have hnj : (0 : Int) ≤ (j : Int) := Int.natCast_nonneg _
        have hji : (j : Int) < (l.length : Int) := by omega
        have ho2 : w.heap.size + 1 + 1 < wr.drew.heap.size := hLd.lt
        have HL := Lib.hid hLd
        have HB := Lib.hid hbd
        clear h0 h1 h2 hL hLd hb hbd
        go_wp2_with fail
        refine wp_region_order [(0, true), (1, true), (2, true), (3, true), (4, true), (5, true), (6, true), (7, true), (8, true), (9, true), (10, true), (11, false), (12, true), (13, false), (14, false), (15, false), (16, true), (17, false)]
          (fun w' => (w'.cell? ⟨w.heap.size, 0, none⟩ = some (.int .i64 k) ∧ w'.cell? ⟨w.heap.size, 1, none⟩ = some (.int .i64 x) ∧ w'.cell? ⟨w.heap.size, 2, none⟩ = some (.slice (some ⟨b, off, none⟩) l.length cap)) ∧
            (w'.cell? ⟨b, off + j * 3, none⟩ = some (.int .i64 k2) ∧ w'.cell? ⟨b, off + j * 3 + 1, none⟩ = some (.int .i64 n2) ∧ w'.cell? ⟨b, off + j * 3 + 2, none⟩ = some (.slice ao2 m2 cap2)) ∧ w'.cell? ⟨w.heap.size + 1 + 1, 2, none⟩ = some vs)
          (by kernel_rfl) (by kernel_rfl) ⟨⟨i0, i1, i2⟩, ⟨e0, e1, e2⟩, o2⟩ (fun hHeld => ?_)
        clear i0 i1 i2 e0 e1 e2 o2
        simp only [pickT, List.getElem?_cons_zero, List.getElem?_cons_succ, Option.getD_some]
        repeat (refine wpT_take (v := ?_) (by rfl) (fun w' hSw => ?_) ?_; rotate_left; (go_simp; with_reducible rfl); simp only [Act.put, List.setIfInBounds_toArray, List.set_cons_zero, List.set_cons_succ])
        refine wpT_do (fun K hK => ?_)
        go_simp
        go_at_call 114
        refine (Beneath_w k x _ _ _ _ rfl j _).mono ?_
        rintro e w3 ⟨rfl, hb3⟩
        obtain ⟨⟨i0, i1, i2⟩, ⟨e0, e1, e2⟩, o2⟩ := hHeld
        have hS3 := And.intro (And.intro ((hb3.cell (p := ⟨w.heap.size, 0, none⟩) hBlt).trans i0) (And.intro ((hb3.cell (p := ⟨w.heap.size, 1, none⟩) hBlt).trans i1) ((hb3.cell (p := ⟨w.heap.size, 2, none⟩) hBlt).trans i2)))
          (And.intro (And.intro ((hb3.cell (p := ⟨b, off + j * 3, none⟩) hblt).trans e0) (And.intro ((hb3.cell (p := ⟨b, off + j * 3 + 1, none⟩) hblt).trans e1) ((hb3.cell (p := ⟨b, off + j * 3 + 2, none⟩) hblt).trans e2))) ((hb3.cell (p := ⟨w.heap.size + 1 + 1, 2, none⟩) ho2).trans o2))
        have hL3 := HL.out.on hb3
        have hb4 := HB.out.trans (hb3.mono HB.out.size)
        have hBlt3 := Nat.lt_of_lt_of_le hBlt hb3.size
        have hblt3 := Nat.lt_of_lt_of_le hblt hb3.size
        have ho3 := hL3.lt
        have hcon := IH.out _ l[j] (n + bn k j) w3 (RdN.keep (P := (· < w.heap.size)) (w' := w3) (fun b hb' => Nat.lt_of_lt_of_le hb' hb4.size) (fun b hb' => hb4.block b hb') d _ _ hrd) (HG.out j hjl) (by omega) (by have := HN.out; omega)
        have HL3 := Lib.hid hL3
        have HS3 := Lib.hid hS3
        have HCON := Lib.hid hcon
        clear hb3 i0 i1 i2 e0 e1 e2 o2 hL3 hb4 hcon HL HB
        refine hK.out _ _ hS3 (fun hHeld => ?_)
        clear hK K hS3
        have hwr : IntKind.i64.wrap (n + bn k j) = n + bn k j := IntWalk.i64_in _ (by have := HN.out; omega)
        repeat (refine wpT_take (v := ?_) (by rfl) (fun w' hSw => ?_) ?_; rotate_left; (go_simp; with_reducible rfl); simp only [Act.put, List.setIfInBounds_toArray, List.set_cons_zero, List.set_cons_succ])
        clear hwr
        refine wpT_do (fun K hK => ?_)
        go_simp
        go_at_call 76
        refine HCON.out.mono ?_
        rintro e w4 ⟨k4, n4, ao4, m4, c4, rfl, hb3, hr3⟩
        obtain ⟨⟨i0, i1, i2⟩, ⟨e0, e1, e2⟩, o2⟩ := hHeld
        have hS3 := And.intro (And.intro ((hb3.cell (p := ⟨w.heap.size, 0, none⟩) hBlt3).trans i0) (And.intro ((hb3.cell (p := ⟨w.heap.size, 1, none⟩) hBlt3).trans i1) ((hb3.cell (p := ⟨w.heap.size, 2, none⟩) hBlt3).trans i2)))
          (And.intro (And.intro ((hb3.cell (p := ⟨b, off + j * 3, none⟩) hblt3).trans e0) (And.intro ((hb3.cell (p := ⟨b, off + j * 3 + 1, none⟩) hblt3).trans e1) ((hb3.cell (p := ⟨b, off + j * 3 + 2, none⟩) hblt3).trans e2))) ((hb3.cell (p := ⟨w.heap.size + 1 + 1, 2, none⟩) ho3).trans o2))
        have HR3 := Lib.hid hr3
        clear hr3 i0 i1 i2 e0 e1 e2 o2
        refine hK.out _ _ hS3 (fun hHeld => ?_)
        clear hK K hS3
        refine wpT_do (fun K hK => ?_)
        go_simp
        refine hK.out _ _ (by go_keep) (fun hHeld => ?_)
        clear hK K
        refine wpT_do (fun K hK => ?_)
        refine step_out rfl _ _ rfl HL3.out (by simp; omega) rfl hb3 HR3.out 1 rfl ?_
        intro g5 m5 cap5 w5 hL5 hk5 q5
        obtain ⟨⟨i0, i1, i2⟩, ⟨e0, e1, e2⟩, -⟩ := HS3.out
        have kB : w5.heap[w.heap.size]? = w3.heap[w.heap.size]? := hk5 _ hBlt3 (HL3.out.own (by omega))
        have kb : w5.heap[b]? = w3.heap[b]? := hk5 _ hblt3 (HL3.out.own (by omega))
        obtain ⟨-, -, o5, f5, -⟩ := three q5
        have f5' := f5 2
        have HL5 := Lib.hid hL5
        have hS5 := And.intro (And.intro ((cell_keep (a := ⟨w.heap.size, 0, none⟩) kB).trans i0) (And.intro ((cell_keep (a := ⟨w.heap.size, 1, none⟩) kB).trans i1) ((cell_keep (a := ⟨w.heap.size, 2, none⟩) kB).trans i2)))
          (And.intro (And.intro ((cell_keep (a := ⟨b, off + j * 3, none⟩) kb).trans e0) (And.intro ((cell_keep (a := ⟨b, off + j * 3 + 1, none⟩) kb).trans e1) ((cell_keep (a := ⟨b, off + j * 3 + 2, none⟩) kb).trans e2))) o5)
        clear hL5 f5 q5 hk5 kB kb i0 i1 i2 e0 e1 e2 HS3
        refine hK.out _ _ hS5 (fun hHeld => ?_)
        clear hK K hS5
        repeat (refine wpT_take (v := ?_) (by rfl) (fun w' hSw => ?_) ?_; rotate_left; (go_simp; with_reducible rfl); simp only [Act.put, List.setIfInBounds_toArray, List.set_cons_zero, List.set_cons_succ])
        refine wpT_last (fun K hK => ?_)
        go_simp
        refine hK.out _ _ ?_
        clear hK K hHeld
        go_wp2_with fail
        go_roundw
        case rel => exact ⟨j + 1, _, by go_num, by omega, by rw [mpL_take _ _ _ _ _ hjl]; exact HL5.out⟩
        case measure =>
          have q : (intOf (.int .i64 ((j : Int) + 1))).toNat = j + 1 := by show ((j : Int) + 1).toNat = _; omega
          have q2 : (intOf (.int .i64 (j : Int))).toNat = j := by show ((j : Int)).toNat = _; omega
          rw [q, q2]; omega
      · obtain ⟨o0, o1, o2, of, -⟩ := three hL.box
        obtain ⟨z0, z1, z2, zf, -⟩ := three ((hL.bel.block _ (by omega)).trans HW0.out)
        obtain ⟨ao5, m5, cap5, rfl⟩ := hL.shape
        have HL := Lib.hid hL
        clear hL
        go_wp2_with fail
        have hd := HL.out.done (a := .int .i64 k) (b := .int .i64 x) (c := .slice ao5 m5 cap5) (mpL_all _ _ _ _ _ hjl) HBW.out (by omega) (Nat.lt_succ_self _) HK.out HX.out
        exact bodyPost_ret (v := .agg #[.int .i64 k, .int .i64 x, .slice ao5 m5 cap5]) (by simp [results, Try.results76, go_sem, z0, z1, z2]) rfl ⟨_, _, _, _, _, rfl, hd.1, hd.2⟩
end Go.Proofs.Ythjlfjaciigfiaa
