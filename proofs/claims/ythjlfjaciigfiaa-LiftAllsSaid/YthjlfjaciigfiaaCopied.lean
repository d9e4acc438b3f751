/-
  ref07.Copied: a contract of the walk: a tree in new memory, of whatever term that can be read (and takes no more memory than there is).
-/
import Derived.Test.YthjlfjaciigfiaaTree
namespace Go.Proofs.Ythjlfjaciigfiaa
open Go.RowKit
set_option linter.unusedVariables false
set_option linter.unusedSimpArgs false

set_option maxRecDepth 100000 in
set_option maxHeartbeats 1000000 in
theorem Copied_w : ∀ (d : Nat) (v : Value) (t : Tm) (w : World), RdN (· < w.heap.size) w d v t → thin t = true →
    Calls Try.prog 31 #[v] w (AnsTr w t) := by
  intro d
  induction d with
  | zero => intro v t w hr; exact absurd hr (fun h => h)
  | succ d ih =>
    rintro v ⟨k, n, l⟩ w hr hg
    obtain ⟨ao, cap, rfl, hlm, hk, hn, he⟩ := hr.open
    obtain ⟨hll, hgs⟩ := thin_open hg
    have IH := Lib.hid ih
    have HE := Lib.hid he
    have HG := Lib.hid hgs
    have HK := Lib.hid hk
    have HN := Lib.hid hn
    have HLL := Lib.hid hll
    clear ih he hk hn hr hgs hg hll
    go_enter Try.func31, Try.ntmps31
    go_wp2_with fail
    have hq0 : (((w.alloc (.cells #[.int .i64 k, .int .i64 n, .slice ao l.length cap] 24)).alloc (.cells #[.int .i64 0, .int .i64 0, .slice none 0 0] 24)).alloc (.cells #[.int .i64 k, .int .i64 n, .slice none 0 0] 24)).heap[w.heap.size]? = some (.cells #[.int .i64 k, .int .i64 n, .slice ao l.length cap] 24) :=
      (Below.heap_alloc _ _ _ (by simp; omega)).trans ((Below.heap_alloc _ _ _ (by simp)).trans (heap_new _ _ _ rfl))
    have hw0 : (((w.alloc (.cells #[.int .i64 k, .int .i64 n, .slice ao l.length cap] 24)).alloc (.cells #[.int .i64 0, .int .i64 0, .slice none 0 0] 24)).alloc (.cells #[.int .i64 k, .int .i64 n, .slice none 0 0] 24)).heap[w.heap.size + 1]? = some (.cells #[.int .i64 0, .int .i64 0, .slice none 0 0] 24) :=
      (Below.heap_alloc _ _ _ (by simp)).trans (heap_new _ _ _ (by simp))
    have hst : OutT _ (w.heap.size + 1 + 1) k n (.slice none 0 0) [] _ := OutT.start (heap_new (((w.alloc (.cells #[.int .i64 k, .int .i64 n, .slice ao l.length cap] 24)).alloc (.cells #[.int .i64 0, .int .i64 0, .slice none 0 0] 24))) (.cells #[.int .i64 k, .int .i64 n, .slice none 0 0] 24) _ (by simp))
    have hbw0 : Below w.heap.size w (((w.alloc (.cells #[.int .i64 k, .int .i64 n, .slice ao l.length cap] 24)).alloc (.cells #[.int .i64 0, .int .i64 0, .slice none 0 0] 24)).alloc (.cells #[.int .i64 k, .int .i64 n, .slice none 0 0] 24)) := (((Below.refl _ _).alloc (Nat.le_refl _) _).alloc (by simp) _).alloc (by simp; omega) _
    generalize ((w.alloc (.cells #[.int .i64 k, .int .i64 n, .slice ao l.length cap] 24)).alloc (.cells #[.int .i64 0, .int .i64 0, .slice none 0 0] 24)).alloc (.cells #[.int .i64 k, .int .i64 n, .slice none 0 0] 24) = w0 at hw0 hq0 hst hbw0 ⊢
    have HW0 := Lib.hid hw0
    have HQ0 := Lib.hid hq0
    have HBW := Lib.hid hbw0
    have HST := Lib.hid hst
    clear hw0 hbw0 hq0 hst
    go_loopw [4] (fun i wr => ∃ (j : Nat) (vs : Value) (L : List (Tm × Nat × Nat)), i = .int .i64 j ∧ j ≤ l.length ∧ L.map (·.1) = l.take j ∧ OutT w0 (w.heap.size + 1 + 1) k n vs L wr) (fun i _ => l.length - (intOf i).toNat)
    case atStart => exact ⟨0, _, [], rfl, Nat.zero_le _, rfl, HST.out⟩
    case round =>
      obtain ⟨j, vs, L, rfl, hj, hLt, hL⟩ := hrel
      obtain ⟨w1, rfl⟩ : ∃ x : World, x = wr := ⟨_, rfl⟩
      have HLT := Lib.hid hLt
      have hLl : L.length = j := by have := congrArg List.length hLt; rw [List.length_map, List.length_take] at this; omega
      have hq := (hL.bel.block w.heap.size (by omega)).trans HQ0.out
      have HQ := Lib.hid hq
      obtain ⟨i0, i1, i2, -, il⟩ := three HQ.out
      have HL := Lib.hid hL
      clear hL hq hLt HST
      by_cases hjl : j < l.length
      · obtain ⟨b, off, k2, n2, ao2, m2, cap2, rfl, hP, h0, h1, h2, hrd⟩ := HE.out j hjl
        have hb : Below w.heap.size w w1 := HBW.out.trans (HL.out.bel.mono (by omega))
        have e0 := (hb.cell (p := ⟨b, off + j * 3, none⟩) hP).trans h0
        have e1 := (hb.cell (p := ⟨b, off + j * 3 + 1, none⟩) hP).trans h1
        have e2 := (hb.cell (p := ⟨b, off + j * 3 + 2, none⟩) hP).trans h2
        have hbw : b < w1.heap.size := Nat.lt_of_lt_of_le hP hb.size
        have hji : (j : Int) < (l.length : Int) := by omega
        have hcon := IH.out _ l[j] w1.drew (RdN.keep (P := (· < w.heap.size)) (w' := w1.drew) (fun b hb' => Nat.lt_of_lt_of_le hb' hb.size) (fun b hb' => hb.block b hb') d _ _ hrd) (HG.out j hjl)
        obtain ⟨o0, o1, o2, -, ol⟩ := three HL.out.box
        have hLA : OutT w0 (w.heap.size + 1 + 1) k n vs L w1.drew := HL.out.on (below_drewN (Below.refl _ _) 1)
        have HLA := Lib.hid hLA
        have HCON := Lib.hid hcon
        have HB := Lib.hid hb
        clear h0 h1 h2 hrd hb hLA hcon o0 o1
        go_wp2_with fail
        refine wp_region_order [(0, true), (1, true), (2, true), (3, true), (4, true), (5, true), (6, true), (7, false), (8, false), (9, false), (10, true), (11, false)]
          (fun w' => (w'.cell? ⟨b, off + j * 3, none⟩ = some (.int .i64 k2) ∧ w'.cell? ⟨b, off + j * 3 + 1, none⟩ = some (.int .i64 n2) ∧ w'.cell? ⟨b, off + j * 3 + 2, none⟩ = some (.slice ao2 m2 cap2)) ∧ w'.cell? ⟨w.heap.size, 2, none⟩ = some (.slice (some ⟨b, off, none⟩) l.length cap) ∧ w'.cell? ⟨w.heap.size + 1 + 1, 2, none⟩ = some vs)
          (by kernel_rfl) (by kernel_rfl) ⟨⟨e0, e1, e2⟩, i2, o2⟩ (fun hHeld => ?_)
        simp only [pickT, List.getElem?_cons_zero, List.getElem?_cons_succ, Option.getD_some]
        repeat (refine wpT_take (v := ?_) (by rfl) (fun w' hSw => ?_) ?_; rotate_left; (go_simp; with_reducible rfl); simp only [Act.put, List.setIfInBounds_toArray, List.set_cons_zero, List.set_cons_succ])
        refine wpT_do (fun K hK => ?_)
        go_simp
        go_at_call 31
        refine HCON.out.mono ?_
        rintro e w3 ⟨k3, n3, ao3, m3, c3, rfl, hb3, hr3⟩
        have HR3 := Lib.hid hr3
        have HB3 := Lib.hid hb3
        have hbw3 : Below w1.heap.size w1 w3 := (below_drewN (Below.refl _ _) 1).trans hb3
        have HBW3 := Lib.hid hbw3
        clear hr3 hHeld hb3 hbw3
        refine hK.out _ _ ⟨⟨(HBW3.out.cell (p := ⟨b, off + j * 3, none⟩) hbw).trans e0, (HBW3.out.cell (p := ⟨b, off + j * 3 + 1, none⟩) hbw).trans e1, (HBW3.out.cell (p := ⟨b, off + j * 3 + 2, none⟩) hbw).trans e2⟩, (HBW3.out.cell (p := ⟨w.heap.size, 2, none⟩) il).trans i2, (HBW3.out.cell (p := ⟨w.heap.size + 1 + 1, 2, none⟩) ol).trans o2⟩ (fun hHeld => ?_)
        clear hK K
        refine wpT_do (fun K hK => ?_)
        go_simp
        refine hK.out _ _ (by go_keep) (fun hHeld => ?_)
        clear hK K
        refine wpT_do (fun K hK => ?_)
        refine step_outT rfl _ _ rfl HLA.out (by have := HLL.out; omega) rfl HB3.out HR3.out 1 rfl ?_
        intro g5 m5 cap5 w5 hL5 hk5 q5
        obtain ⟨-, -, o5, f5, -⟩ := three q5
        have HL5 := Lib.hid hL5
        have hne : ∀ q, q < w.heap.size + 1 + 1 → vs.ownBlock ≠ some q := fun q hq => HLA.out.own (by omega)
        have hbs := HBW.out.size
        have hb2 : b < w.heap.size := hP
        have g0 := (cell_keep (a := ⟨b, off + j * 3, none⟩) (hk5 b hbw (hne b (by omega)))).trans e0
        have g1 := (cell_keep (a := ⟨b, off + j * 3 + 1, none⟩) (hk5 b hbw (hne b (by omega)))).trans e1
        have g2 := (cell_keep (a := ⟨b, off + j * 3 + 2, none⟩) (hk5 b hbw (hne b (by omega)))).trans e2
        have g3 := (cell_keep (a := ⟨w.heap.size, 2, none⟩) (hk5 w.heap.size il (hne _ (by omega)))).trans i2
        have f5' := f5 2
        clear hL5 f5 q5 hk5
        refine hK.out _ _ ⟨⟨g0, g1, g2⟩, g3, o5⟩ (fun hHeld => ?_)
        clear hK K
        repeat (refine wpT_take (v := ?_) (by rfl) (fun w' hSw => ?_) ?_; rotate_left; (go_simp; with_reducible rfl); simp only [Act.put, List.setIfInBounds_toArray, List.set_cons_zero, List.set_cons_succ])
        refine wpT_last (fun K hK => ?_)
        go_simp
        refine hK.out _ _ ?_
        clear hK K hHeld g0 g1 g2 g3 e0 e1 e2 i0 i1 i2 o2 o5
        go_wp2_with fail
        go_roundw
        case rel => exact ⟨j + 1, _, _, by go_num, by omega, by rw [List.map_append, HLT.out, List.take_succ_eq_append_getElem hjl]; rfl, HL5.out⟩
        case measure =>
          have q : (intOf (.int .i64 ((j : Int) + 1))).toNat = j + 1 := by show ((j : Int) + 1).toNat = _; omega
          have q2 : (intOf (.int .i64 (j : Int))).toNat = j := by show ((j : Int)).toNat = _; omega
          rw [q, q2]; omega
      · obtain ⟨o0, o1, o2, of, -⟩ := three HL.out.box
        obtain ⟨z0, z1, z2, zf, -⟩ := three ((HL.out.bel.block _ (by omega)).trans HW0.out)
        obtain ⟨ao5, m5, cap5, rfl⟩ := HL.out.shape
        have hlt : L.map (·.1) = l := by rw [HLT.out, List.take_of_length_le (by omega)]
        have hd := HL.out.done (a := .int .i64 k) (b := .int .i64 n) (c := .slice ao5 m5 cap5) hlt HBW.out (show w.heap.size ≤ w.heap.size + 1 by omega) (Nat.lt_succ_self _) HK.out HN.out
        have HD := Lib.hid hd
        clear hd hlt
        go_wp2_with fail
        exact bodyPost_ret (v := .agg #[.int .i64 k, .int .i64 n, .slice ao5 m5 cap5]) (by simp [results, Try.results31, go_sem, z0, z1, z2]) rfl ⟨_, _, _, _, _, rfl, HD.out.1, HD.out.2⟩
end Go.Proofs.Ythjlfjaciigfiaa
