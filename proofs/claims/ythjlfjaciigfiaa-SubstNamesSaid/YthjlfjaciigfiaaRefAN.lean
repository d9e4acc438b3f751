/-
  ref09.at: a contract of the walk.
  ref09.named: a contract of the walk.
-/
import Derived.Test.YthjlfjaciigfiaaRefMany2
namespace Go.Proofs.Ythjlfjaciigfiaa
open Go.RowKit
set_option linter.unusedVariables false
set_option linter.unusedSimpArgs false

set_option maxRecDepth 100000 in
set_option maxHeartbeats 4000000 in
theorem refat_w (a : Tm) (va : Value) (m : Int) (hm : 0 ≤ m ∧ m ≤ 1048576) (hsh : Shp a = true) : ∀ (d : Nat) (v : Value) (t : Tm) (n : Int) (w : World), RdN (· < w.heap.size) w d v t → gd t = true → 0 ≤ n → n + d ≤ 1048576 → Rd (· < w.heap.size) w va a →
    Calls Try.prog 97 #[v, va, .int .i64 (m + n)] w (AnsG w (OkG (mp (Fat a m) t n))) := by
  intro d
  induction d with
  | zero => intro v t n w hr; exact absurd hr (fun h => h)
  | succ d ih =>
    rintro v ⟨k, x, l⟩ n w hr hg hn0 hn1 hra
    have RA := Lib.hid hra
    obtain ⟨aoa, capa, hva⟩ := hra.shape
    subst hva
    clear hra
    have hll := gd_len hg
    have hgs := gd_sub hg
    obtain ⟨hk1, hk8, hx0, hx1⟩ := gd_num hg
    have hgv : k = 1 → l = [] := fun e => by subst e; exact gd_var hg
    have hgv8 : k = 8 → l = [] := fun e => by subst e; exact gd_free hg
    have hcm0 := hr.cap
    obtain ⟨ao, cap, rfl, hlm, hk, hx, he⟩ := hr.open
    have hcm : cap ≤ maxLen := hcm0 _ _ rfl
    clear hr hcm0
    have IH := Lib.hid ih
    have HE := Lib.hid he
    have HG := Lib.hid hgs
    have HK := Lib.hid hk
    have HX := Lib.hid hx
    have HCM := Lib.hid hcm
    have HGV := Lib.hid hgv
    have HGV8 := Lib.hid hgv8
    have HN := Lib.hid (And.intro hn0 hn1)
    clear ih he hk hx hgs hg hcm hgv hgv8
    obtain ⟨W, hWd⟩ : ∃ W, W = ((w.alloc (.cells #[.int .i64 k, .int .i64 x, .slice ao l.length cap] 24)).alloc (.cells #[.int .i64 a.kind, .int .i64 a.num, .slice aoa a.sub.length capa] 24)).alloc (.cells #[.int .i64 0, .int .i64 0, .slice none 0 0, .bool false] 78) := ⟨_, rfl⟩
    have HBEL := Lib.hid (show Below w.heap.size w W by rw [hWd]; exact ((((Below.refl _ _).alloc (Nat.le_refl _) _).alloc (by simp only [World.size_alloc]; omega) _).alloc (by simp only [World.size_alloc]; omega) _))
    have HSZ := Lib.hid (show W.heap.size = w.heap.size + 3 by rw [hWd]; simp only [World.size_alloc])
    have HQ := Lib.hid (show W.heap[w.heap.size]? = some (.cells #[.int .i64 k, .int .i64 x, .slice ao l.length cap] 24) by rw [hWd]; exact (Below.heap_alloc _ _ _ (by simp only [World.size_alloc]; omega)).trans ((Below.heap_alloc _ _ _ (by simp only [World.size_alloc]; omega)).trans (heap_new _ _ _ (by first | rfl | simp only [World.size_alloc]))))
    have HA := Lib.hid (show W.heap[w.heap.size + 1]? = some (.cells #[.int .i64 a.kind, .int .i64 a.num, .slice aoa a.sub.length capa] 24) by rw [hWd]; exact (Below.heap_alloc _ _ _ (by simp only [World.size_alloc]; omega)).trans (heap_new _ _ _ (by first | rfl | simp only [World.size_alloc])))
    have HZ := Lib.hid (show W.heap[w.heap.size + 1 + 1]? = some (.cells #[.int .i64 0, .int .i64 0, .slice none 0 0, .bool false] 78) by rw [hWd]; exact heap_new _ _ _ (by first | rfl | simp only [World.size_alloc]))
    have HWD := Lib.hid hWd
    clear hWd
    by_cases h1 : k = 1
    · subst h1
      have hl0 := HGV.out rfl
      subst hl0
      replace HWD : Hid (W = ((w.alloc (.cells #[.int .i64 1, .int .i64 x, .slice ao 0 cap] 24)).alloc (.cells #[.int .i64 a.kind, .int .i64 a.num, .slice aoa a.sub.length capa] 24)).alloc (.cells #[.int .i64 0, .int .i64 0, .slice none 0 0, .bool false] 78)) := HWD.out
      replace HQ : Hid (W.heap[w.heap.size]? = some (.cells #[.int .i64 1, .int .i64 x, .slice ao 0 cap] 24)) := HQ.out
      by_cases hxn : x = m + n
      · have e : mp (Fat a m) (.node 1 x []) n = raise a (m + n) := at_eq hm.1 (by omega)
        rw [e]; clear e
        have hq : (x == m + n) = true := by simp [hxn]
        have HCON := Lib.hid (refRaised_w _ a (m + n) W (RA.out.on HBEL.out) hsh ⟨by omega, by omega⟩)
        have HXN := Lib.hid hxn
        clear hxn
        go_enter Try.func97, Try.ntmps97
        go_wp2_with fail
        rw [← HWD.out]
        refine (HCON.out).mono ?_
        rintro e w1 ⟨k1, n1, ao1, m1, c1, lg1, y1, rfl, hb, hr1, hok1⟩
        obtain ⟨z0, z1, z2, z3, zf, -⟩ := four ((hb.block _ (blt HZ.out)).trans HZ.out)
        have HB1 := Lib.hid (HBEL.out.trans (hb.mono HBEL.out.size))
        have HR1 := Lib.hid (hr1.keep (P' := fun q => w.heap.size + 1 + 1 < q ∧ q < w1.heap.size) (fun q hq => ⟨by have := hq.1; have := HSZ.out; omega, hq.2⟩) fun _ _ => rfl)
        have HOK1 := Lib.hid hok1
        clear hb hr1 hok1
        go_wp2_with fail
        exact bodyPost_ret (v := .agg #[.int .i64 k1, .int .i64 n1, .slice ao1 m1 c1, .bool lg1]) (by simp [results, Try.results97, go_sem, z0, z1, z2, z3]) rfl
          ⟨_, _, _, _, _, _, _, rfl, ((((HB1.out.setCell (by simp only []; omega) _).setCell (by simp only []; omega) _).setCell (by simp only []; omega) _).setCell (by simp only []; omega) _), HR1.out.keep (fun q hq => ⟨by omega, by simp only [World.setCell, Array.size_modify]; exact hq.2⟩) fun q hq => set4_off _ _ _ _ _ _ q (by omega), HOK1.out⟩
      · have hq : (x == m + n) = false := by simp [hxn]
        by_cases hgt : m + n < x
        · have e : mp (Fat a m) (.node 1 x []) n = .node 1 (x - 1) [] := at_gt hm.1 (by omega)
          rw [e]; clear e
          go_enter Try.func97, Try.ntmps97
          go_wp2_with fail
          rw [← HWD.out]
          refine (Leaf_w _ _ _).mono ?_
          rintro e w1 ⟨rfl, hb⟩
          obtain ⟨z0, z1, z2, z3, zf, -⟩ := four ((hb.block _ (blt HZ.out)).trans HZ.out)
          have HB1 := Lib.hid (HBEL.out.trans (hb.mono HBEL.out.size))
          clear hb
          go_wp2_with fail
          exact bodyPost_ret (v := .agg #[.int .i64 1, .int .i64 (x - 1), .slice none 0 0, .bool false]) (by simp [results, Try.results97, go_sem, z0, z1, z2, z3]) rfl
            ⟨_, _, _, _, _, _, _, rfl, ((((HB1.out.setCell (by simp only []; omega) _).setCell (by simp only []; omega) _).setCell (by simp only []; omega) _).setCell (by simp only []; omega) _), Rd.leaf _ _ _ _ _ _ (Nat.zero_le _) (by omega) (by omega), fun _ => rfl, fun e => (by cases e)⟩
        · have e : mp (Fat a m) (.node 1 x []) n = .node 1 x [] := at_lt (by omega)
          rw [e]; clear e
          go_enter Try.func97, Try.ntmps97
          go_wp2_with fail
          exact bodyPost_ret (v := .agg #[.int .i64 1, .int .i64 x, .slice ao 0 cap, .bool false]) (by simp [results, Try.results97, go_sem]) rfl
            ⟨_, _, _, _, _, _, _, rfl, ((((Below.refl _ _).alloc (Nat.le_refl _) _).alloc (by simp) _).alloc (by simp; omega) _), Rd.leaf _ _ _ _ _ _ HCM.out (by omega) (by omega), fun _ => rfl, fun e => (by cases e)⟩
    have h1b : (k == 1) = false := by simp [h1]
    have e : mp (Fat a m) (.node k x l) n = .node k x (mpL (Fat a m) k l n 0) := by simp [mp, Fat, h1]
    rw [e]; clear e
    go_enter Try.func97, Try.ntmps97
    go_wp2_with fail
    rw [← HWD.out]
    have hM0 := MadeG.empty 4 78 GtC (w.heap.size + 1 + 1 < ·) (w.heap.size + 1 + 1 + 1) W (by have := HSZ.out; omega) (α := Tm × Bool)
    rw [show W.heap.size = w.heap.size + 1 + 1 + 1 from HSZ.out] at hM0
    have HM0 := Lib.hid hM0
    clear hM0
    have HBL0 := Lib.hid (alloc_bel W (.cells #[] 78))
    go_loopw [7, 8] (fun vs i wr => ∃ (j : Nat) (gs : List (Tm × Bool)), i = .int .i64 j ∧ j ≤ l.length ∧ gs.length = j ∧ MadeG 4 78 GtC (w.heap.size + 1 + 1 < ·) (w.heap.size + 1 + 1 + 1) wr vs gs ∧ Below (w.heap.size + 1 + 1 + 1) W wr ∧ (∀ q (h : q < gs.length) (h2 : q < (mpL (Fat a m) k l n 0).length), OkG (mpL (Fat a m) k l n 0)[q] gs[q].1 gs[q].2)) (fun _ i _ => l.length - (intOf i).toNat)
    case atStart => exact ⟨0, [], by go_num, Nat.zero_le _, rfl, HM0.out, HBL0.out.mono (by have := HSZ.out; omega), fun q h => absurd h (Nat.not_lt_zero _)⟩
    case round =>
      obtain ⟨j, gs, rfl, hj, hgl, hM, hb, hok⟩ := hrel
      have hbw := HBEL.out.trans (hb.mono (by omega))
      have hBl := Nat.lt_of_lt_of_le (show w.heap.size < W.heap.size by have := HSZ.out; omega) hb.size
      have HBr := Lib.hid ((hb.block w.heap.size (by omega)).trans HQ.out)
      have HZr := Lib.hid ((hb.block (w.heap.size + 1 + 1) (by omega)).trans HZ.out)
      have HAr := Lib.hid ((hb.block (w.heap.size + 1) (by omega)).trans HA.out)
      obtain ⟨i0, i1, i2, -, -⟩ := three HBr.out
      have hszr : w.heap.size + 1 + 1 + 1 ≤ wr.heap.size := by have := hb.size; have := HSZ.out; omega
      have HB := Lib.hid hb
      have HBW := Lib.hid hbw
      have HM := Lib.hid hM
      have HOKS := Lib.hid hok
      clear hb hbw hM hok
      by_cases hjl : j < l.length
      · obtain ⟨b, off, k2, n2, ao2, m2, cap2, rfl, hP, h0, h1, h2, hrd⟩ := HE.out j hjl
        have e0 := (HBW.out.cell (p := ⟨b, off + j * 3, none⟩) hP).trans h0
        have e1 := (HBW.out.cell (p := ⟨b, off + j * 3 + 1, none⟩) hP).trans h1
        have e2 := (HBW.out.cell (p := ⟨b, off + j * 3 + 2, none⟩) hP).trans h2
        have hbk := (bn_le k j)
        have hnj : (0 : Int) ≤ (j : Int) := Int.natCast_nonneg _
        have hji : (j : Int) < (l.length : Int) := by omega
        obtain ⟨a0, a1, a2, -, -⟩ := three HAr.out
        clear h0 h1 h2
        go_wp2_with fail
        have hdr : Below wr.heap.size wr wr.drew := below_drewN (Below.refl _ _) 1
        refine wp_region_order [(0, true), (1, true), (2, true), (3, true), (4, true), (5, true), (6, true), (7, true), (8, true), (9, true), (10, false), (11, true), (12, false), (13, false), (14, false), (15, false)]
          (fun w' => (w'.cell? ⟨w.heap.size, 0, none⟩ = some (.int .i64 k) ∧ w'.cell? ⟨w.heap.size, 1, none⟩ = some (.int .i64 x) ∧ w'.cell? ⟨w.heap.size, 2, none⟩ = some (.slice (some ⟨b, off, none⟩) l.length cap)) ∧ (w'.cell? ⟨b, off + j * 3, none⟩ = some (.int .i64 k2) ∧ w'.cell? ⟨b, off + j * 3 + 1, none⟩ = some (.int .i64 n2) ∧ w'.cell? ⟨b, off + j * 3 + 2, none⟩ = some (.slice ao2 m2 cap2)) ∧ (w'.cell? ⟨w.heap.size + 1, 0, none⟩ = some (.int .i64 a.kind) ∧ w'.cell? ⟨w.heap.size + 1, 1, none⟩ = some (.int .i64 a.num) ∧ w'.cell? ⟨w.heap.size + 1, 2, none⟩ = some (.slice aoa a.sub.length capa)))
          (by kernel_rfl) (by kernel_rfl) ⟨⟨i0, i1, i2⟩, ⟨e0, e1, e2⟩, ⟨a0, a1, a2⟩⟩ (fun hHeld => ?_)
        simp only [pickT, List.getElem?_cons_zero, List.getElem?_cons_succ, Option.getD_some]
        repeat (refine wpT_take (v := ?_) (by rfl) (fun w' hSw => ?_) ?_; rotate_left; (go_simp; with_reducible rfl); simp only [Act.put, List.setIfInBounds_toArray, List.set_cons_zero, List.set_cons_succ])
        refine wpT_do (fun K hK => ?_)
        go_simp
        go_at_call 114
        refine (Beneath_w k x _ _ _ _ rfl j _).mono ?_
        rintro e w3 ⟨rfl, hb3⟩
        replace hb3 := hdr.trans hb3
        have S3 := (show (w3.cell? ⟨w.heap.size, 0, none⟩ = some (.int .i64 k) ∧ w3.cell? ⟨w.heap.size, 1, none⟩ = some (.int .i64 x) ∧ w3.cell? ⟨w.heap.size, 2, none⟩ = some (.slice (some ⟨b, off, none⟩) l.length cap)) ∧ (w3.cell? ⟨b, off + j * 3, none⟩ = some (.int .i64 k2) ∧ w3.cell? ⟨b, off + j * 3 + 1, none⟩ = some (.int .i64 n2) ∧ w3.cell? ⟨b, off + j * 3 + 2, none⟩ = some (.slice ao2 m2 cap2)) ∧ (w3.cell? ⟨w.heap.size + 1, 0, none⟩ = some (.int .i64 a.kind) ∧ w3.cell? ⟨w.heap.size + 1, 1, none⟩ = some (.int .i64 a.num) ∧ w3.cell? ⟨w.heap.size + 1, 2, none⟩ = some (.slice aoa a.sub.length capa)) from ⟨⟨(hb3.cell (p := ⟨w.heap.size, 0, none⟩) (by show w.heap.size < _; omega)).trans i0, (hb3.cell (p := ⟨w.heap.size, 1, none⟩) (by show w.heap.size < _; omega)).trans i1, (hb3.cell (p := ⟨w.heap.size, 2, none⟩) (by show w.heap.size < _; omega)).trans i2⟩, ⟨(hb3.cell (p := ⟨b, off + j * 3, none⟩) (by show b < _; omega)).trans e0, (hb3.cell (p := ⟨b, off + j * 3 + 1, none⟩) (by show b < _; omega)).trans e1, (hb3.cell (p := ⟨b, off + j * 3 + 2, none⟩) (by show b < _; omega)).trans e2⟩, ⟨(hb3.cell (p := ⟨w.heap.size + 1, 0, none⟩) (by show w.heap.size + 1 < _; omega)).trans a0, (hb3.cell (p := ⟨w.heap.size + 1, 1, none⟩) (by show w.heap.size + 1 < _; omega)).trans a1, (hb3.cell (p := ⟨w.heap.size + 1, 2, none⟩) (by show w.heap.size + 1 < _; omega)).trans a2⟩⟩)
        have hM3 := HM.out.below keepsC_gt hb3
        have hbw3 := HBW.out.trans (hb3.mono (by omega))
        have hsz3 : w.heap.size + 1 + 1 + 1 ≤ w3.heap.size := by have := hb3.size; omega
        have hcon := IH.out _ l[j] (n + bn k j) w3 (RdN.keep (P := (· < w.heap.size)) (w' := w3) (fun b hb' => Nat.lt_of_lt_of_le hb' hbw3.size) (fun b hb' => hbw3.block b hb') d _ _ hrd) (HG.out j hjl) (by omega) (by have := HN.out; omega) (RA.out.keep (fun b hb' => Nat.lt_of_lt_of_le hb' hbw3.size) (fun b hb' => hbw3.block b hb'))
        have HM3 := Lib.hid hM3
        have HB3 := Lib.hid (HB.out.trans (hb3.mono (by omega)))
        have HCON := Lib.hid hcon
        clear hb3 hdr i0 i1 i2 e0 e1 e2 a0 a1 a2 hM3 hbw3 hcon hrd
        refine hK.out _ _ S3 (fun hHeld => ?_)
        clear hK K S3
        have hwr : IntKind.i64.wrap (m + n + bn k j) = m + (n + bn k j) := by rw [IntWalk.i64_in _ (by have := HN.out; omega)]; omega
        repeat (refine wpT_take (v := ?_) (by rfl) (fun w' hSw => ?_) ?_; rotate_left; (go_simp; with_reducible rfl); simp only [Act.put, List.setIfInBounds_toArray, List.set_cons_zero, List.set_cons_succ])
        clear hwr
        refine wpT_do (fun K hK => ?_)
        go_simp
        go_at_call 97
        skip
        refine HCON.out.mono ?_
        rintro e w4 ⟨k4, n4, ao4, m4, c4, lg4, y4, rfl, hb4, hr4, hok4⟩
        obtain ⟨⟨i0, i1, i2⟩, ⟨e0, e1, e2⟩, ⟨a0, a1, a2⟩⟩ := hHeld
        have HR4 := Lib.hid hr4
        have HB4 := Lib.hid hb4
        have HOK4 := Lib.hid hok4
        have S4 := (show (w4.cell? ⟨w.heap.size, 0, none⟩ = some (.int .i64 k) ∧ w4.cell? ⟨w.heap.size, 1, none⟩ = some (.int .i64 x) ∧ w4.cell? ⟨w.heap.size, 2, none⟩ = some (.slice (some ⟨b, off, none⟩) l.length cap)) ∧ (w4.cell? ⟨b, off + j * 3, none⟩ = some (.int .i64 k2) ∧ w4.cell? ⟨b, off + j * 3 + 1, none⟩ = some (.int .i64 n2) ∧ w4.cell? ⟨b, off + j * 3 + 2, none⟩ = some (.slice ao2 m2 cap2)) ∧ (w4.cell? ⟨w.heap.size + 1, 0, none⟩ = some (.int .i64 a.kind) ∧ w4.cell? ⟨w.heap.size + 1, 1, none⟩ = some (.int .i64 a.num) ∧ w4.cell? ⟨w.heap.size + 1, 2, none⟩ = some (.slice aoa a.sub.length capa)) from ⟨⟨(hb4.cell (p := ⟨w.heap.size, 0, none⟩) (by show w.heap.size < _; omega)).trans i0, (hb4.cell (p := ⟨w.heap.size, 1, none⟩) (by show w.heap.size < _; omega)).trans i1, (hb4.cell (p := ⟨w.heap.size, 2, none⟩) (by show w.heap.size < _; omega)).trans i2⟩, ⟨(hb4.cell (p := ⟨b, off + j * 3, none⟩) (by show b < _; omega)).trans e0, (hb4.cell (p := ⟨b, off + j * 3 + 1, none⟩) (by show b < _; omega)).trans e1, (hb4.cell (p := ⟨b, off + j * 3 + 2, none⟩) (by show b < _; omega)).trans e2⟩, ⟨(hb4.cell (p := ⟨w.heap.size + 1, 0, none⟩) (by show w.heap.size + 1 < _; omega)).trans a0, (hb4.cell (p := ⟨w.heap.size + 1, 1, none⟩) (by show w.heap.size + 1 < _; omega)).trans a1, (hb4.cell (p := ⟨w.heap.size + 1, 2, none⟩) (by show w.heap.size + 1 < _; omega)).trans a2⟩⟩)
        refine hK.out _ _ S4 (fun hHeld => ?_)
        clear hK K S4 hr4 hb4 hok4
        refine wpT_do (fun K hK => ?_)
        go_simp
        refine hK.out _ _ (by go_keep) (fun hHeld => ?_)
        clear hK K
        obtain ⟨i78, hi78, hy1, hy2, hy3⟩ := info_parts info78
        obtain ⟨css, p1, p2, p3⟩ := HM3.out
        have hownB := HM3.out.block
        refine wpT_do (fun K hK => ?_)
        refine step_app_made rfl _ _ 91 rfl (w.heap.size + 1 + 1 + 1) 78 i78 _ 4 48 Try.underlying91 hi78 hy1 hy2 hy3 rfl (by omega) u7 gs.length css.flatten rfl p1 HB4.out hsz3 1 [.int .i64 k4, .int .i64 n4, .slice ao4 m4 c4, .bool lg4] rfl rfl (one4 _ _ _ _ _ _) (by unfold maxLen; omega) (by omega) ?_
        intro g5 cap5 w5 ha hk5
        have hal := alloc_bel w4 (.cells #[.int .i64 k4, .int .i64 n4, .slice ao4 m4 c4, .bool lg4] 78)
        have hb5 := HB4.out.trans (hal.mono HB4.out.size)
        have hM5 : MadeG 4 78 GtC (w.heap.size + 1 + 1 < ·) (w.heap.size + 1 + 1 + 1) w5 (.slice (some ⟨g5, 0, none⟩) (gs.length + 1) cap5) (gs ++ [(y4, lg4)]) := by
          refine MadeG.app keepsC_gt (W := w4.alloc (.cells #[.int .i64 k4, .int .i64 n4, .slice ao4 m4 c4, .bool lg4] 78)) (css := css) (new := [[.int .i64 k4, .int .i64 n4, .slice ao4 m4 c4, .bool lg4]]) (fun i hi => ?_) p2 rfl (by simpa using ha) rfl (fun i hi => ?_)
          · obtain ⟨cs, r1, r2, r3⟩ := p3 i hi
            exact ⟨cs, r1, r2, keepsC_gt _ _ _ _ _ _ r3 (fun q hq => ⟨hq.1, Nat.lt_of_lt_of_le hq.2.1 hb5.size, hq.2.2⟩) fun q hq => hb5.block q hq.2.1⟩
          · obtain rfl : i = 0 := by simpa using hi
            refine ⟨_, rfl, rfl, k4, n4, ao4, m4, c4, rfl, HR4.out.keep (fun q hq => ⟨fun e => ?_, ?_, ?_⟩) fun q hq => hal.block q hq.2⟩
            · have := (hownB _ e).2; have := hq.1; omega
            · exact Nat.lt_of_lt_of_le hq.2 hal.size
            · have := hq.1; show w.heap.size + 1 + 1 < q; omega
        have hB5 : Below (w.heap.size + 1 + 1 + 1) W w5 := (HB3.out.trans (hb5.mono hsz3)).trans (ha.below (by have := hb5.size; omega) fun q hq => (hownB q hq).1)
        have kB := hk5 w.heap.size (by omega) (fun e => by have := (hownB _ e).1; omega)
        have kb := hk5 b (by omega) (fun e => by have := (hownB _ e).1; omega)
        have kA := hk5 (w.heap.size + 1) (by omega) (fun e => by have := (hownB _ e).1; omega)
        have S5 := (show (w5.cell? ⟨w.heap.size, 0, none⟩ = some (.int .i64 k) ∧ w5.cell? ⟨w.heap.size, 1, none⟩ = some (.int .i64 x) ∧ w5.cell? ⟨w.heap.size, 2, none⟩ = some (.slice (some ⟨b, off, none⟩) l.length cap)) ∧ (w5.cell? ⟨b, off + j * 3, none⟩ = some (.int .i64 k2) ∧ w5.cell? ⟨b, off + j * 3 + 1, none⟩ = some (.int .i64 n2) ∧ w5.cell? ⟨b, off + j * 3 + 2, none⟩ = some (.slice ao2 m2 cap2)) ∧ (w5.cell? ⟨w.heap.size + 1, 0, none⟩ = some (.int .i64 a.kind) ∧ w5.cell? ⟨w.heap.size + 1, 1, none⟩ = some (.int .i64 a.num) ∧ w5.cell? ⟨w.heap.size + 1, 2, none⟩ = some (.slice aoa a.sub.length capa)) from ⟨⟨(cell_keep (a := ⟨w.heap.size, 0, none⟩) kB).trans i0, (cell_keep (a := ⟨w.heap.size, 1, none⟩) kB).trans i1, (cell_keep (a := ⟨w.heap.size, 2, none⟩) kB).trans i2⟩, ⟨(cell_keep (a := ⟨b, off + j * 3, none⟩) kb).trans e0, (cell_keep (a := ⟨b, off + j * 3 + 1, none⟩) kb).trans e1, (cell_keep (a := ⟨b, off + j * 3 + 2, none⟩) kb).trans e2⟩, ⟨(cell_keep (a := ⟨w.heap.size + 1, 0, none⟩) kA).trans a0, (cell_keep (a := ⟨w.heap.size + 1, 1, none⟩) kA).trans a1, (cell_keep (a := ⟨w.heap.size + 1, 2, none⟩) kA).trans a2⟩⟩)
        rw [hgl] at hM5
        have HM5 := Lib.hid hM5
        have HB5 := Lib.hid hB5
        clear hM5 hB5 kB kb kA ha hk5 p1 p2 p3 hal hb5 hownB hi78 hy1 hy2 hy3 i0 i1 i2 e0 e1 e2 a0 a1 a2
        refine hK.out _ _ S5 (fun hHeld => ?_)
        clear hK K S5
        refine wpT_last (fun K hK => ?_)
        go_simp
        refine hK.out _ _ ?_
        clear hK K hHeld
        go_wp2_with fail
        go_roundw
        case rel =>
          refine ⟨j + 1, gs ++ [(y4, lg4)], by go_num, by omega, by simp [hgl], HM5.out, HB5.out, fun q h h2 => ?_⟩
          by_cases hq : q < gs.length
          · rw [List.getElem_append_left hq]
            exact HOKS.out q hq h2
          · have hqj : q = j := by simp at h; omega
            subst hqj
            rw [List.getElem_append_right (by omega), mpL_get _ _ _ _ _ _ hjl]
            simp only [hgl, Nat.sub_self, List.getElem_cons_zero, Nat.zero_add]
            exact HOK4.out
        case measure =>
          have q : (intOf (.int .i64 ((j : Int) + 1))).toNat = j + 1 := by show ((j : Int) + 1).toNat = _; omega
          have q2 : (intOf (.int .i64 (j : Int))).toNat = j := by show ((j : Int)).toNat = _; omega
          rw [q, q2]; omega
      · have hml : (mpL (Fat a m) k l n 0).length = gs.length := by rw [mpL_len]; omega
        have hcon := subs_w (fun q => w.heap.size + 1 + 1 < q ∧ q < wr.heap.size) k x ao l.length cap u7 gs (mpL (Fat a m) k l n 0) wr (fun q hq => hq.2) (HM.out.gots (by omega)) hml (by omega) (fun i h => HOKS.out i h (by omega)) HK.out HX.out
        have HCON := Lib.hid hcon
        clear hcon
        go_wp2_with fail
        refine HCON.out.mono ?_
        rintro e w6 ⟨k6, n6, ao6, m6, c6, lg6, y6, rfl, hb6, hr6, hok6⟩
        obtain ⟨z0, z1, z2, z3, zf, -⟩ := four ((hb6.block _ (by omega)).trans HZr.out)
        have HB6 := Lib.hid (HBW.out.trans (hb6.mono HBW.out.size))
        have HR6 := Lib.hid (hr6.keep (P' := fun q => w.heap.size + 1 + 1 < q ∧ q < w6.heap.size) (fun q hq => by
          rcases hq with h | h
          · exact ⟨h.1, Nat.lt_of_lt_of_le h.2 hb6.size⟩
          · exact ⟨by have := h.1; omega, h.2⟩) fun _ _ => rfl)
        have HOK6 := Lib.hid hok6
        clear hb6 hr6 hok6
        go_wp2_with fail
        exact bodyPost_ret (v := .agg #[.int .i64 k6, .int .i64 n6, .slice ao6 m6 c6, .bool lg6]) (by simp [results, Try.results97, go_sem, z0, z1, z2, z3]) rfl
          ⟨_, _, _, _, _, _, _, rfl, ((((HB6.out.setCell (by simp only []; omega) _).setCell (by simp only []; omega) _).setCell (by simp only []; omega) _).setCell (by simp only []; omega) _), HR6.out.keep (fun q hq => ⟨by omega, by simp only [World.setCell, Array.size_modify]; exact hq.2⟩) fun q hq => set4_off _ _ _ _ _ _ q (by omega), HOK6.out⟩
end Go.Proofs.Ythjlfjaciigfiaa
namespace Go.Proofs.Ythjlfjaciigfiaa
open Go.RowKit
set_option linter.unusedVariables false
set_option linter.unusedSimpArgs false

set_option maxRecDepth 100000 in
set_option maxHeartbeats 4000000 in
theorem refnamed_w (a : Tm) (va : Value) (nm : Int) (hsh : Shp a = true) : ∀ (d : Nat) (v : Value) (t : Tm) (n : Int) (w : World), RdN (· < w.heap.size) w d v t → gd t = true → 0 ≤ n → n + d ≤ 1048576 → Rd (· < w.heap.size) w va a →
    Calls Try.prog 104 #[v, va, .int .i64 nm, .int .i64 n] w (AnsG w (OkG (mp (Fnm a nm) t n))) := by
  intro d
  induction d with
  | zero => intro v t n w hr; exact absurd hr (fun h => h)
  | succ d ih =>
    rintro v ⟨k, x, l⟩ n w hr hg hn0 hn1 hra
    have RA := Lib.hid hra
    obtain ⟨aoa, capa, hva⟩ := hra.shape
    subst hva
    clear hra
    have hll := gd_len hg
    have hgs := gd_sub hg
    obtain ⟨hk1, hk8, hx0, hx1⟩ := gd_num hg
    have hgv : k = 1 → l = [] := fun e => by subst e; exact gd_var hg
    have hgv8 : k = 8 → l = [] := fun e => by subst e; exact gd_free hg
    have hcm0 := hr.cap
    obtain ⟨ao, cap, rfl, hlm, hk, hx, he⟩ := hr.open
    have hcm : cap ≤ maxLen := hcm0 _ _ rfl
    clear hr hcm0
    have IH := Lib.hid ih
    have HE := Lib.hid he
    have HG := Lib.hid hgs
    have HK := Lib.hid hk
    have HX := Lib.hid hx
    have HCM := Lib.hid hcm
    have HGV := Lib.hid hgv
    have HGV8 := Lib.hid hgv8
    have HN := Lib.hid (And.intro hn0 hn1)
    clear ih he hk hx hgs hg hcm hgv hgv8
    obtain ⟨W, hWd⟩ : ∃ W, W = ((w.alloc (.cells #[.int .i64 k, .int .i64 x, .slice ao l.length cap] 24)).alloc (.cells #[.int .i64 a.kind, .int .i64 a.num, .slice aoa a.sub.length capa] 24)).alloc (.cells #[.int .i64 0, .int .i64 0, .slice none 0 0, .bool false] 78) := ⟨_, rfl⟩
    have HBEL := Lib.hid (show Below w.heap.size w W by rw [hWd]; exact ((((Below.refl _ _).alloc (Nat.le_refl _) _).alloc (by simp only [World.size_alloc]; omega) _).alloc (by simp only [World.size_alloc]; omega) _))
    have HSZ := Lib.hid (show W.heap.size = w.heap.size + 3 by rw [hWd]; simp only [World.size_alloc])
    have HQ := Lib.hid (show W.heap[w.heap.size]? = some (.cells #[.int .i64 k, .int .i64 x, .slice ao l.length cap] 24) by rw [hWd]; exact (Below.heap_alloc _ _ _ (by simp only [World.size_alloc]; omega)).trans ((Below.heap_alloc _ _ _ (by simp only [World.size_alloc]; omega)).trans (heap_new _ _ _ (by first | rfl | simp only [World.size_alloc]))))
    have HA := Lib.hid (show W.heap[w.heap.size + 1]? = some (.cells #[.int .i64 a.kind, .int .i64 a.num, .slice aoa a.sub.length capa] 24) by rw [hWd]; exact (Below.heap_alloc _ _ _ (by simp only [World.size_alloc]; omega)).trans (heap_new _ _ _ (by first | rfl | simp only [World.size_alloc])))
    have HZ := Lib.hid (show W.heap[w.heap.size + 1 + 1]? = some (.cells #[.int .i64 0, .int .i64 0, .slice none 0 0, .bool false] 78) by rw [hWd]; exact heap_new _ _ _ (by first | rfl | simp only [World.size_alloc]))
    have HWD := Lib.hid hWd
    clear hWd
    by_cases h8 : k = 8 ∧ x = nm
    · obtain ⟨h8, hxm⟩ := h8
      subst h8
      have hl0 := HGV8.out rfl
      subst hl0
      replace HWD : Hid (W = ((w.alloc (.cells #[.int .i64 8, .int .i64 x, .slice ao 0 cap] 24)).alloc (.cells #[.int .i64 a.kind, .int .i64 a.num, .slice aoa a.sub.length capa] 24)).alloc (.cells #[.int .i64 0, .int .i64 0, .slice none 0 0, .bool false] 78)) := HWD.out
      replace HQ : Hid (W.heap[w.heap.size]? = some (.cells #[.int .i64 8, .int .i64 x, .slice ao 0 cap] 24)) := HQ.out
      have e : mp (Fnm a nm) (.node 8 x []) n = raise a n := by simp [mp, Fnm, hxm]
      rw [e]; clear e
      have hq : (x == nm) = true := by simp [hxm]
      have HCON := Lib.hid (refRaised_w _ a n W (RA.out.on HBEL.out) hsh ⟨by omega, by omega⟩)
      have HXN := Lib.hid hxm
      clear hxm
      go_enter Try.func104, Try.ntmps104
      go_wp2_with fail
      rw [← HWD.out]
      refine (HCON.out).mono ?_
      rintro e w1 ⟨k1, n1, ao1, m1, c1, lg1, y1, rfl, hb, hr1, hok1⟩
      obtain ⟨z0, z1, z2, z3, zf, -⟩ := four ((hb.block _ (blt HZ.out)).trans HZ.out)
      have HB1 := Lib.hid (HBEL.out.trans (hb.mono HBEL.out.size))
      have HR1 := Lib.hid (hr1.keep (P' := fun q => w.heap.size + 1 + 1 < q ∧ q < w1.heap.size) (fun q hq => ⟨by have := hq.1; have := HSZ.out; omega, hq.2⟩) fun _ _ => rfl)
      have HOK1 := Lib.hid hok1
      clear hb hr1 hok1
      go_wp2_with fail
      exact bodyPost_ret (v := .agg #[.int .i64 k1, .int .i64 n1, .slice ao1 m1 c1, .bool lg1]) (by simp [results, Try.results104, go_sem, z0, z1, z2, z3]) rfl
        ⟨_, _, _, _, _, _, _, rfl, ((((HB1.out.setCell (by simp only []; omega) _).setCell (by simp only []; omega) _).setCell (by simp only []; omega) _).setCell (by simp only []; omega) _), HR1.out.keep (fun q hq => ⟨by omega, by simp only [World.setCell, Array.size_modify]; exact hq.2⟩) fun q hq => set4_off _ _ _ _ _ _ q (by omega), HOK1.out⟩
    have e : mp (Fnm a nm) (.node k x l) n = .node k x (mpL (Fnm a nm) k l n 0) := by
      have : ¬ (k = 8 ∧ x = nm) := h8
      simp [mp, Fnm, this]
    rw [e]; clear e
    have h88 : (k == 8) = false ∨ ((k == 8) = true ∧ (x == nm) = false) := by
      by_cases q : k = 8
      · exact .inr ⟨by simp [q], by simp; exact fun e => h8 ⟨q, e⟩⟩
      · exact .inl (by simp [q])
    have H8 := Lib.hid h8
    clear h8
    rcases h88 with h88 | ⟨h88, hq3⟩
    all_goals (
      go_enter Try.func104, Try.ntmps104
      go_wp2_with fail
      rw [← HWD.out]
      have hM0 := MadeG.empty 4 78 GtC (w.heap.size + 1 + 1 < ·) (w.heap.size + 1 + 1 + 1) W (by have := HSZ.out; omega) (α := Tm × Bool)
      rw [show W.heap.size = w.heap.size + 1 + 1 + 1 from HSZ.out] at hM0
      have HM0 := Lib.hid hM0
      clear hM0
      have HBL0 := Lib.hid (alloc_bel W (.cells #[] 78))
      go_loopw [9, 10] (fun vs i wr => ∃ (j : Nat) (gs : List (Tm × Bool)), i = .int .i64 j ∧ j ≤ l.length ∧ gs.length = j ∧ MadeG 4 78 GtC (w.heap.size + 1 + 1 < ·) (w.heap.size + 1 + 1 + 1) wr vs gs ∧ Below (w.heap.size + 1 + 1 + 1) W wr ∧ (∀ q (h : q < gs.length) (h2 : q < (mpL (Fnm a nm) k l n 0).length), OkG (mpL (Fnm a nm) k l n 0)[q] gs[q].1 gs[q].2)) (fun _ i _ => l.length - (intOf i).toNat)
      case atStart => exact ⟨0, [], by go_num, Nat.zero_le _, rfl, HM0.out, HBL0.out.mono (by have := HSZ.out; omega), fun q h => absurd h (Nat.not_lt_zero _)⟩
      case round =>
        obtain ⟨j, gs, rfl, hj, hgl, hM, hb, hok⟩ := hrel
        have hbw := HBEL.out.trans (hb.mono (by omega))
        have hBl := Nat.lt_of_lt_of_le (show w.heap.size < W.heap.size by have := HSZ.out; omega) hb.size
        have HBr := Lib.hid ((hb.block w.heap.size (by omega)).trans HQ.out)
        have HZr := Lib.hid ((hb.block (w.heap.size + 1 + 1) (by omega)).trans HZ.out)
        have HAr := Lib.hid ((hb.block (w.heap.size + 1) (by omega)).trans HA.out)
        obtain ⟨i0, i1, i2, -, -⟩ := three HBr.out
        have hszr : w.heap.size + 1 + 1 + 1 ≤ wr.heap.size := by have := hb.size; have := HSZ.out; omega
        have HB := Lib.hid hb
        have HBW := Lib.hid hbw
        have HM := Lib.hid hM
        have HOKS := Lib.hid hok
        clear hb hbw hM hok
        by_cases hjl : j < l.length
        · obtain ⟨b, off, k2, n2, ao2, m2, cap2, rfl, hP, h0, h1, h2, hrd⟩ := HE.out j hjl
          have e0 := (HBW.out.cell (p := ⟨b, off + j * 3, none⟩) hP).trans h0
          have e1 := (HBW.out.cell (p := ⟨b, off + j * 3 + 1, none⟩) hP).trans h1
          have e2 := (HBW.out.cell (p := ⟨b, off + j * 3 + 2, none⟩) hP).trans h2
          have hbk := (bn_le k j)
          have hnj : (0 : Int) ≤ (j : Int) := Int.natCast_nonneg _
          have hji : (j : Int) < (l.length : Int) := by omega
          obtain ⟨a0, a1, a2, -, -⟩ := three HAr.out
          clear h0 h1 h2
          go_wp2_with fail
          have hdr : Below wr.heap.size wr wr.drew := below_drewN (Below.refl _ _) 1
          refine wp_region_order [(0, true), (1, true), (2, true), (3, true), (4, true), (5, true), (6, true), (7, true), (8, true), (9, true), (10, true), (11, false), (12, true), (13, false), (14, false), (15, false), (16, false)]
            (fun w' => (w'.cell? ⟨w.heap.size, 0, none⟩ = some (.int .i64 k) ∧ w'.cell? ⟨w.heap.size, 1, none⟩ = some (.int .i64 x) ∧ w'.cell? ⟨w.heap.size, 2, none⟩ = some (.slice (some ⟨b, off, none⟩) l.length cap)) ∧ (w'.cell? ⟨b, off + j * 3, none⟩ = some (.int .i64 k2) ∧ w'.cell? ⟨b, off + j * 3 + 1, none⟩ = some (.int .i64 n2) ∧ w'.cell? ⟨b, off + j * 3 + 2, none⟩ = some (.slice ao2 m2 cap2)) ∧ (w'.cell? ⟨w.heap.size + 1, 0, none⟩ = some (.int .i64 a.kind) ∧ w'.cell? ⟨w.heap.size + 1, 1, none⟩ = some (.int .i64 a.num) ∧ w'.cell? ⟨w.heap.size + 1, 2, none⟩ = some (.slice aoa a.sub.length capa)))
            (by kernel_rfl) (by kernel_rfl) ⟨⟨i0, i1, i2⟩, ⟨e0, e1, e2⟩, ⟨a0, a1, a2⟩⟩ (fun hHeld => ?_)
          simp only [pickT, List.getElem?_cons_zero, List.getElem?_cons_succ, Option.getD_some]
          repeat (refine wpT_take (v := ?_) (by rfl) (fun w' hSw => ?_) ?_; rotate_left; (go_simp; with_reducible rfl); simp only [Act.put, List.setIfInBounds_toArray, List.set_cons_zero, List.set_cons_succ])
          refine wpT_do (fun K hK => ?_)
          go_simp
          go_at_call 114
          refine (Beneath_w k x _ _ _ _ rfl j _).mono ?_
          rintro e w3 ⟨rfl, hb3⟩
          replace hb3 := hdr.trans hb3
          have S3 := (show (w3.cell? ⟨w.heap.size, 0, none⟩ = some (.int .i64 k) ∧ w3.cell? ⟨w.heap.size, 1, none⟩ = some (.int .i64 x) ∧ w3.cell? ⟨w.heap.size, 2, none⟩ = some (.slice (some ⟨b, off, none⟩) l.length cap)) ∧ (w3.cell? ⟨b, off + j * 3, none⟩ = some (.int .i64 k2) ∧ w3.cell? ⟨b, off + j * 3 + 1, none⟩ = some (.int .i64 n2) ∧ w3.cell? ⟨b, off + j * 3 + 2, none⟩ = some (.slice ao2 m2 cap2)) ∧ (w3.cell? ⟨w.heap.size + 1, 0, none⟩ = some (.int .i64 a.kind) ∧ w3.cell? ⟨w.heap.size + 1, 1, none⟩ = some (.int .i64 a.num) ∧ w3.cell? ⟨w.heap.size + 1, 2, none⟩ = some (.slice aoa a.sub.length capa)) from ⟨⟨(hb3.cell (p := ⟨w.heap.size, 0, none⟩) (by show w.heap.size < _; omega)).trans i0, (hb3.cell (p := ⟨w.heap.size, 1, none⟩) (by show w.heap.size < _; omega)).trans i1, (hb3.cell (p := ⟨w.heap.size, 2, none⟩) (by show w.heap.size < _; omega)).trans i2⟩, ⟨(hb3.cell (p := ⟨b, off + j * 3, none⟩) (by show b < _; omega)).trans e0, (hb3.cell (p := ⟨b, off + j * 3 + 1, none⟩) (by show b < _; omega)).trans e1, (hb3.cell (p := ⟨b, off + j * 3 + 2, none⟩) (by show b < _; omega)).trans e2⟩, ⟨(hb3.cell (p := ⟨w.heap.size + 1, 0, none⟩) (by show w.heap.size + 1 < _; omega)).trans a0, (hb3.cell (p := ⟨w.heap.size + 1, 1, none⟩) (by show w.heap.size + 1 < _; omega)).trans a1, (hb3.cell (p := ⟨w.heap.size + 1, 2, none⟩) (by show w.heap.size + 1 < _; omega)).trans a2⟩⟩)
          have hM3 := HM.out.below keepsC_gt hb3
          have hbw3 := HBW.out.trans (hb3.mono (by omega))
          have hsz3 : w.heap.size + 1 + 1 + 1 ≤ w3.heap.size := by have := hb3.size; omega
          have hcon := IH.out _ l[j] (n + bn k j) w3 (RdN.keep (P := (· < w.heap.size)) (w' := w3) (fun b hb' => Nat.lt_of_lt_of_le hb' hbw3.size) (fun b hb' => hbw3.block b hb') d _ _ hrd) (HG.out j hjl) (by omega) (by have := HN.out; omega) (RA.out.keep (fun b hb' => Nat.lt_of_lt_of_le hb' hbw3.size) (fun b hb' => hbw3.block b hb'))
          have HM3 := Lib.hid hM3
          have HB3 := Lib.hid (HB.out.trans (hb3.mono (by omega)))
          have HCON := Lib.hid hcon
          clear hb3 hdr i0 i1 i2 e0 e1 e2 a0 a1 a2 hM3 hbw3 hcon hrd
          refine hK.out _ _ S3 (fun hHeld => ?_)
          clear hK K S3
          have hwr : IntKind.i64.wrap (n + bn k j) = n + bn k j := IntWalk.i64_in _ (by have := HN.out; omega)
          repeat (refine wpT_take (v := ?_) (by rfl) (fun w' hSw => ?_) ?_; rotate_left; (go_simp; with_reducible rfl); simp only [Act.put, List.setIfInBounds_toArray, List.set_cons_zero, List.set_cons_succ])
          clear hwr
          refine wpT_do (fun K hK => ?_)
          go_simp
          go_at_call 104
          skip
          refine HCON.out.mono ?_
          rintro e w4 ⟨k4, n4, ao4, m4, c4, lg4, y4, rfl, hb4, hr4, hok4⟩
          obtain ⟨⟨i0, i1, i2⟩, ⟨e0, e1, e2⟩, ⟨a0, a1, a2⟩⟩ := hHeld
          have HR4 := Lib.hid hr4
          have HB4 := Lib.hid hb4
          have HOK4 := Lib.hid hok4
          have S4 := (show (w4.cell? ⟨w.heap.size, 0, none⟩ = some (.int .i64 k) ∧ w4.cell? ⟨w.heap.size, 1, none⟩ = some (.int .i64 x) ∧ w4.cell? ⟨w.heap.size, 2, none⟩ = some (.slice (some ⟨b, off, none⟩) l.length cap)) ∧ (w4.cell? ⟨b, off + j * 3, none⟩ = some (.int .i64 k2) ∧ w4.cell? ⟨b, off + j * 3 + 1, none⟩ = some (.int .i64 n2) ∧ w4.cell? ⟨b, off + j * 3 + 2, none⟩ = some (.slice ao2 m2 cap2)) ∧ (w4.cell? ⟨w.heap.size + 1, 0, none⟩ = some (.int .i64 a.kind) ∧ w4.cell? ⟨w.heap.size + 1, 1, none⟩ = some (.int .i64 a.num) ∧ w4.cell? ⟨w.heap.size + 1, 2, none⟩ = some (.slice aoa a.sub.length capa)) from ⟨⟨(hb4.cell (p := ⟨w.heap.size, 0, none⟩) (by show w.heap.size < _; omega)).trans i0, (hb4.cell (p := ⟨w.heap.size, 1, none⟩) (by show w.heap.size < _; omega)).trans i1, (hb4.cell (p := ⟨w.heap.size, 2, none⟩) (by show w.heap.size < _; omega)).trans i2⟩, ⟨(hb4.cell (p := ⟨b, off + j * 3, none⟩) (by show b < _; omega)).trans e0, (hb4.cell (p := ⟨b, off + j * 3 + 1, none⟩) (by show b < _; omega)).trans e1, (hb4.cell (p := ⟨b, off + j * 3 + 2, none⟩) (by show b < _; omega)).trans e2⟩, ⟨(hb4.cell (p := ⟨w.heap.size + 1, 0, none⟩) (by show w.heap.size + 1 < _; omega)).trans a0, (hb4.cell (p := ⟨w.heap.size + 1, 1, none⟩) (by show w.heap.size + 1 < _; omega)).trans a1, (hb4.cell (p := ⟨w.heap.size + 1, 2, none⟩) (by show w.heap.size + 1 < _; omega)).trans a2⟩⟩)
          refine hK.out _ _ S4 (fun hHeld => ?_)
          clear hK K S4 hr4 hb4 hok4
          refine wpT_do (fun K hK => ?_)
          go_simp
          refine hK.out _ _ (by go_keep) (fun hHeld => ?_)
          clear hK K
          obtain ⟨i78, hi78, hy1, hy2, hy3⟩ := info_parts info78
          obtain ⟨css, p1, p2, p3⟩ := HM3.out
          have hownB := HM3.out.block
          refine wpT_do (fun K hK => ?_)
          refine step_app_made rfl _ _ 91 rfl (w.heap.size + 1 + 1 + 1) 78 i78 _ 4 48 Try.underlying91 hi78 hy1 hy2 hy3 rfl (by omega) u9 gs.length css.flatten rfl p1 HB4.out hsz3 1 [.int .i64 k4, .int .i64 n4, .slice ao4 m4 c4, .bool lg4] rfl rfl (one4 _ _ _ _ _ _) (by unfold maxLen; omega) (by omega) ?_
          intro g5 cap5 w5 ha hk5
          have hal := alloc_bel w4 (.cells #[.int .i64 k4, .int .i64 n4, .slice ao4 m4 c4, .bool lg4] 78)
          have hb5 := HB4.out.trans (hal.mono HB4.out.size)
          have hM5 : MadeG 4 78 GtC (w.heap.size + 1 + 1 < ·) (w.heap.size + 1 + 1 + 1) w5 (.slice (some ⟨g5, 0, none⟩) (gs.length + 1) cap5) (gs ++ [(y4, lg4)]) := by
            refine MadeG.app keepsC_gt (W := w4.alloc (.cells #[.int .i64 k4, .int .i64 n4, .slice ao4 m4 c4, .bool lg4] 78)) (css := css) (new := [[.int .i64 k4, .int .i64 n4, .slice ao4 m4 c4, .bool lg4]]) (fun i hi => ?_) p2 rfl (by simpa using ha) rfl (fun i hi => ?_)
            · obtain ⟨cs, r1, r2, r3⟩ := p3 i hi
              exact ⟨cs, r1, r2, keepsC_gt _ _ _ _ _ _ r3 (fun q hq => ⟨hq.1, Nat.lt_of_lt_of_le hq.2.1 hb5.size, hq.2.2⟩) fun q hq => hb5.block q hq.2.1⟩
            · obtain rfl : i = 0 := by simpa using hi
              refine ⟨_, rfl, rfl, k4, n4, ao4, m4, c4, rfl, HR4.out.keep (fun q hq => ⟨fun e => ?_, ?_, ?_⟩) fun q hq => hal.block q hq.2⟩
              · have := (hownB _ e).2; have := hq.1; omega
              · exact Nat.lt_of_lt_of_le hq.2 hal.size
              · have := hq.1; show w.heap.size + 1 + 1 < q; omega
          have hB5 : Below (w.heap.size + 1 + 1 + 1) W w5 := (HB3.out.trans (hb5.mono hsz3)).trans (ha.below (by have := hb5.size; omega) fun q hq => (hownB q hq).1)
          have kB := hk5 w.heap.size (by omega) (fun e => by have := (hownB _ e).1; omega)
          have kb := hk5 b (by omega) (fun e => by have := (hownB _ e).1; omega)
          have kA := hk5 (w.heap.size + 1) (by omega) (fun e => by have := (hownB _ e).1; omega)
          have S5 := (show (w5.cell? ⟨w.heap.size, 0, none⟩ = some (.int .i64 k) ∧ w5.cell? ⟨w.heap.size, 1, none⟩ = some (.int .i64 x) ∧ w5.cell? ⟨w.heap.size, 2, none⟩ = some (.slice (some ⟨b, off, none⟩) l.length cap)) ∧ (w5.cell? ⟨b, off + j * 3, none⟩ = some (.int .i64 k2) ∧ w5.cell? ⟨b, off + j * 3 + 1, none⟩ = some (.int .i64 n2) ∧ w5.cell? ⟨b, off + j * 3 + 2, none⟩ = some (.slice ao2 m2 cap2)) ∧ (w5.cell? ⟨w.heap.size + 1, 0, none⟩ = some (.int .i64 a.kind) ∧ w5.cell? ⟨w.heap.size + 1, 1, none⟩ = some (.int .i64 a.num) ∧ w5.cell? ⟨w.heap.size + 1, 2, none⟩ = some (.slice aoa a.sub.length capa)) from ⟨⟨(cell_keep (a := ⟨w.heap.size, 0, none⟩) kB).trans i0, (cell_keep (a := ⟨w.heap.size, 1, none⟩) kB).trans i1, (cell_keep (a := ⟨w.heap.size, 2, none⟩) kB).trans i2⟩, ⟨(cell_keep (a := ⟨b, off + j * 3, none⟩) kb).trans e0, (cell_keep (a := ⟨b, off + j * 3 + 1, none⟩) kb).trans e1, (cell_keep (a := ⟨b, off + j * 3 + 2, none⟩) kb).trans e2⟩, ⟨(cell_keep (a := ⟨w.heap.size + 1, 0, none⟩) kA).trans a0, (cell_keep (a := ⟨w.heap.size + 1, 1, none⟩) kA).trans a1, (cell_keep (a := ⟨w.heap.size + 1, 2, none⟩) kA).trans a2⟩⟩)
          rw [hgl] at hM5
          have HM5 := Lib.hid hM5
          have HB5 := Lib.hid hB5
          clear hM5 hB5 kB kb kA ha hk5 p1 p2 p3 hal hb5 hownB hi78 hy1 hy2 hy3 i0 i1 i2 e0 e1 e2 a0 a1 a2
          refine hK.out _ _ S5 (fun hHeld => ?_)
          clear hK K S5
          refine wpT_last (fun K hK => ?_)
          go_simp
          refine hK.out _ _ ?_
          clear hK K hHeld
          go_wp2_with fail
          go_roundw
          case rel =>
            refine ⟨j + 1, gs ++ [(y4, lg4)], by go_num, by omega, by simp [hgl], HM5.out, HB5.out, fun q h h2 => ?_⟩
            by_cases hq : q < gs.length
            · rw [List.getElem_append_left hq]
              exact HOKS.out q hq h2
            · have hqj : q = j := by simp at h; omega
              subst hqj
              rw [List.getElem_append_right (by omega), mpL_get _ _ _ _ _ _ hjl]
              simp only [hgl, Nat.sub_self, List.getElem_cons_zero, Nat.zero_add]
              exact HOK4.out
          case measure =>
            have q : (intOf (.int .i64 ((j : Int) + 1))).toNat = j + 1 := by show ((j : Int) + 1).toNat = _; omega
            have q2 : (intOf (.int .i64 (j : Int))).toNat = j := by show ((j : Int)).toNat = _; omega
            rw [q, q2]; omega
        · have hml : (mpL (Fnm a nm) k l n 0).length = gs.length := by rw [mpL_len]; omega
          have hcon := subs_w (fun q => w.heap.size + 1 + 1 < q ∧ q < wr.heap.size) k x ao l.length cap u9 gs (mpL (Fnm a nm) k l n 0) wr (fun q hq => hq.2) (HM.out.gots (by omega)) hml (by omega) (fun i h => HOKS.out i h (by omega)) HK.out HX.out
          have HCON := Lib.hid hcon
          clear hcon
          go_wp2_with fail
          refine HCON.out.mono ?_
          rintro e w6 ⟨k6, n6, ao6, m6, c6, lg6, y6, rfl, hb6, hr6, hok6⟩
          obtain ⟨z0, z1, z2, z3, zf, -⟩ := four ((hb6.block _ (by omega)).trans HZr.out)
          have HB6 := Lib.hid (HBW.out.trans (hb6.mono HBW.out.size))
          have HR6 := Lib.hid (hr6.keep (P' := fun q => w.heap.size + 1 + 1 < q ∧ q < w6.heap.size) (fun q hq => by
            rcases hq with h | h
            · exact ⟨h.1, Nat.lt_of_lt_of_le h.2 hb6.size⟩
            · exact ⟨by have := h.1; omega, h.2⟩) fun _ _ => rfl)
          have HOK6 := Lib.hid hok6
          clear hb6 hr6 hok6
          go_wp2_with fail
          exact bodyPost_ret (v := .agg #[.int .i64 k6, .int .i64 n6, .slice ao6 m6 c6, .bool lg6]) (by simp [results, Try.results104, go_sem, z0, z1, z2, z3]) rfl
            ⟨_, _, _, _, _, _, _, rfl, ((((HB6.out.setCell (by simp only []; omega) _).setCell (by simp only []; omega) _).setCell (by simp only []; omega) _).setCell (by simp only []; omega) _), HR6.out.keep (fun q hq => ⟨by omega, by simp only [World.setCell, Array.size_modify]; exact hq.2⟩) fun q hq => set4_off _ _ _ _ _ _ q (by omega), HOK6.out⟩)
end Go.Proofs.Ythjlfjaciigfiaa
