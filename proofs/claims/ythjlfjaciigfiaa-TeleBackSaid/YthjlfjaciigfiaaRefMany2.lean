/-
  ref09.many: a contract of the walk.
  ref09.Many: a contract of the walk.
-/
import Derived.Test.YthjlfjaciigfiaaRefGot
import Derived.Test.YthjlfjaciigfiaaRun9
import Derived.IntWalk
namespace Go.Proofs.Ythjlfjaciigfiaa
open Go.RowKit
set_option linter.unusedVariables false
set_option linter.unusedSimpArgs false

/-- four cells of one each -/
theorem one4 (k n : Int) (ao : Option Addr) (m c : Nat) (b : Bool) : ∀ u ∈ [Value.int .i64 k, .int .i64 n, .slice ao m c, .bool b], u.oneCell' = true := by simp [Value.oneCell']
theorem info78 : (Try.prog.info? 78).map (fun i => (i.zero, i.size, i.bytes)) = some (some (.agg #[.int .i64 0, .int .i64 0, .slice none 0 0, .bool false]), 4, 48) := by kernel_rfl
/-- a slice of terms with flags in the making, read -/
theorem MadeG.gots {base : Nat} {w : World} {v : Value} {l : List (Tm × Bool)} {r : Nat} (h : MadeG 4 78 GtC (r < ·) base w v l) (hb : r < base) : SubG (fun q => r < q ∧ q < w.heap.size) w v l := by
  obtain ⟨ao, cap, hv, h1, h2, h3⟩ := h.cells (by omega)
  refine ⟨ao, cap, hv, h1, h2, fun i hi => ?_⟩
  obtain ⟨g, cs, r1, r2, r3, r4, r5, r6, k, n, ao2, m, c, rfl, r7⟩ := h3 i hi
  refine ⟨g, 0, _, _, _, _, _, r1, ⟨by omega, r4⟩, by have := r6 0 _ rfl; simpa using this, by have := r6 1 _ rfl; simpa using this, by have := r6 2 _ rfl; simpa using this, by have := r6 3 _ rfl; simpa using this, ?_⟩
  exact r7.keep (fun b hb => ⟨hb.2.2, hb.2.1⟩) fun _ _ => rfl

set_option maxRecDepth 100000 in
set_option maxHeartbeats 4000000 in
theorem refmany_w (al : List Tm) (lv : Value) (hsh : al.all Shp = true) (hlen : al.length ≤ 1000000) : ∀ (d : Nat) (v : Value) (t : Tm) (n : Int) (w : World), RdN (· < w.heap.size) w d v t → gd t = true → 0 ≤ n → n + d ≤ 1048576 → Ts (· < w.heap.size) w lv al →
    Calls Try.prog 93 #[v, lv, .int .i64 n] w (AnsG w (OkG (mp (Fmy al) t n))) := by
  intro d
  induction d with
  | zero => intro v t n w hr; exact absurd hr (fun h => h)
  | succ d ih =>
    rintro v ⟨k, x, l⟩ n w hr hg hn0 hn1 hts
    have TS := Lib.hid hts
    obtain ⟨aoL, capL, hlv, hlc, -, hel⟩ := hts.elem
    have HLV := Lib.hid hlv
    have HEL := Lib.hid hel
    clear hts hlv hel
    have hll := gd_len hg
    have hgs := gd_sub hg
    obtain ⟨hk1, hk8, hx0, hx1⟩ := gd_num hg
    have hgv : k = 1 → l = [] := fun e => by subst e; exact gd_var hg
    have hgv8 : k = 8 → l = [] := fun e => by subst e; exact gd_free hg
    have hcm0 := hr.cap
    obtain ⟨ao, cap, rfl, hlm, hk, hx, he⟩ := hr.open
    have hcm : cap ≤ maxLen := hcm0 _ _ rfl
    clear hr hcm0
    have IH := Lib.hid ih
    have HE := Lib.hid he
    have HG := Lib.hid hgs
    have HK := Lib.hid hk
    have HX := Lib.hid hx
    have HCM := Lib.hid hcm
    have HGV := Lib.hid hgv
    have HGV8 := Lib.hid hgv8
    have HN := Lib.hid (And.intro hn0 hn1)
    clear ih he hk hx hgs hg hcm hgv hgv8
    obtain ⟨W, hWd⟩ : ∃ W, W = (w.alloc (.cells #[.int .i64 k, .int .i64 x, .slice ao l.length cap] 24)).alloc (.cells #[.int .i64 0, .int .i64 0, .slice none 0 0, .bool false] 78) := ⟨_, rfl⟩
    have HBEL := Lib.hid (show Below w.heap.size w W by rw [hWd]; exact (((Below.refl _ _).alloc (Nat.le_refl _) _).alloc (by simp only [World.size_alloc]; omega) _))
    have HSZ := Lib.hid (show W.heap.size = w.heap.size + 2 by rw [hWd]; simp only [World.size_alloc])
    have HQ := Lib.hid (show W.heap[w.heap.size]? = some (.cells #[.int .i64 k, .int .i64 x, .slice ao l.length cap] 24) by rw [hWd]; exact (Below.heap_alloc _ _ _ (by simp only [World.size_alloc]; omega)).trans (heap_new _ _ _ (by first | rfl | simp only [World.size_alloc])))
    have HZ := Lib.hid (show W.heap[w.heap.size + 1]? = some (.cells #[.int .i64 0, .int .i64 0, .slice none 0 0, .bool false] 78) by rw [hWd]; exact heap_new _ _ _ (by first | rfl | simp only [World.size_alloc]))
    have HWD := Lib.hid hWd
    clear hWd
    have hlen0 : (0 : Int) ≤ (al.length : Int) := Int.natCast_nonneg _
    by_cases h1 : k = 1
    · subst h1
      have hl0 := HGV.out rfl
      subst hl0
      replace HWD : Hid (W = (w.alloc (.cells #[.int .i64 1, .int .i64 x, .slice ao 0 cap] 24)).alloc (.cells #[.int .i64 0, .int .i64 0, .slice none 0 0, .bool false] 78)) := HWD.out
      replace HQ : Hid (W.heap[w.heap.size]? = some (.cells #[.int .i64 1, .int .i64 x, .slice ao 0 cap] 24)) := HQ.out
      by_cases hxn : x < n
      · have e : mp (Fmy al) (.node 1 x []) n = .node 1 x [] := my_lt hxn
        rw [e]; clear e
        go_enter Try.func93, Try.ntmps93
        go_wp2_with fail
        exact bodyPost_ret (v := .agg #[.int .i64 1, .int .i64 x, .slice ao 0 cap, .bool false]) (by simp [results, Try.results93, go_sem]) rfl
          ⟨_, _, _, _, _, _, _, rfl, (((Below.refl _ _).alloc (Nat.le_refl _) _).alloc (by simp) _), Rd.leaf _ _ _ _ _ _ HCM.out (by omega) (by omega), fun _ => rfl, fun e => (by cases e)⟩
      · by_cases hin : x - n < al.length
        · obtain ⟨i, hi⟩ : ∃ i : Nat, x - n = i := ⟨(x - n).toNat, by omega⟩
          have hil : i < al.length := by omega
          have e : mp (Fmy al) (.node 1 x []) n = raise al[i] n := my_in hil (by omega)
          rw [e]; clear e
          obtain ⟨be, off, k2, n2, ao2, m2, cap2, rfl, hPb, h0, h1, h2, hrd⟩ := HEL.out i hil
          have hlv := HLV.out
          subst hlv
          have hic : (i : Int) < (al.length : Int) := by omega
          have hi0 : (0 : Int) ≤ (i : Int) := Int.natCast_nonneg _
          have e0 := (HBEL.out.cell (p := ⟨be, off + i * 3, none⟩) hPb).trans h0
          have e1 := (HBEL.out.cell (p := ⟨be, off + i * 3 + 1, none⟩) hPb).trans h1
          have e2 := (HBEL.out.cell (p := ⟨be, off + i * 3 + 2, none⟩) hPb).trans h2
          have hsi : Shp al[i] = true := by simpa using List.all_eq_true.mp hsh al[i] (List.getElem_mem hil)
          have HCON := Lib.hid (refRaised_w _ al[i] n W (hrd.keep (fun q hq => Nat.lt_of_lt_of_le hq HBEL.out.size) fun q hq => HBEL.out.block q hq) hsi ⟨hn0, by omega⟩)
          have hbeW : be < W.heap.size := Nat.lt_of_lt_of_le hPb HBEL.out.size
          clear h0 h1 h2 hrd
          rw [HWD.out] at e0 e1 e2 hbeW
          go_enter Try.func93, Try.ntmps93
          go_wp2_with fail
          rw [← HWD.out]
          clear e0 e1 e2 hbeW
          refine (HCON.out).mono ?_
          rintro e w1 ⟨k1, n1, ao1, m1, c1, lg1, y1, rfl, hb, hr1, hok1⟩
          obtain ⟨z0, z1, z2, z3, zf, -⟩ := four ((hb.block _ (blt HZ.out)).trans HZ.out)
          have HB1 := Lib.hid (HBEL.out.trans (hb.mono HBEL.out.size))
          have HR1 := Lib.hid (hr1.keep (P' := fun q => w.heap.size + 1 < q ∧ q < w1.heap.size) (fun q hq => ⟨by have := hq.1; have := HSZ.out; omega, hq.2⟩) fun _ _ => rfl)
          have HOK1 := Lib.hid hok1
          clear hb hr1 hok1
          go_wp2_with fail
          exact bodyPost_ret (v := .agg #[.int .i64 k1, .int .i64 n1, .slice ao1 m1 c1, .bool lg1]) (by simp [results, Try.results93, go_sem, z0, z1, z2, z3]) rfl
            ⟨_, _, _, _, _, _, _, rfl, ((((HB1.out.setCell (by simp only []; omega) _).setCell (by simp only []; omega) _).setCell (by simp only []; omega) _).setCell (by simp only []; omega) _), HR1.out.keep (fun q hq => ⟨by omega, by simp only [World.setCell, Array.size_modify]; exact hq.2⟩) fun q hq => set4_off _ _ _ _ _ _ q (by omega), HOK1.out⟩
        · have e : mp (Fmy al) (.node 1 x []) n = .node 1 (x - al.length) [] := my_ge (by omega)
          rw [e]; clear e
          have hlv := HLV.out
          subst hlv
          go_enter Try.func93, Try.ntmps93
          go_wp2_with fail
          rw [← HWD.out]
          refine (Leaf_w _ _ _).mono ?_
          rintro e w1 ⟨rfl, hb⟩
          obtain ⟨z0, z1, z2, z3, zf, -⟩ := four ((hb.block _ (blt HZ.out)).trans HZ.out)
          have HB1 := Lib.hid (HBEL.out.trans (hb.mono HBEL.out.size))
          clear hb
          go_wp2_with fail
          exact bodyPost_ret (v := .agg #[.int .i64 1, .int .i64 (x - al.length), .slice none 0 0, .bool false]) (by simp [results, Try.results93, go_sem, z0, z1, z2, z3]) rfl
            ⟨_, _, _, _, _, _, _, rfl, ((((HB1.out.setCell (by simp only []; omega) _).setCell (by simp only []; omega) _).setCell (by simp only []; omega) _).setCell (by simp only []; omega) _), Rd.leaf _ _ _ _ _ _ (Nat.zero_le _) (by omega) (by omega), fun _ => rfl, fun e => (by cases e)⟩
    have h1b : (k == 1) = false := by simp [h1]
    have e : mp (Fmy al) (.node k x l) n = .node k x (mpL (Fmy al) k l n 0) := by simp [mp, Fmy, h1]
    rw [e]; clear e
    go_enter Try.func93, Try.ntmps93
    go_wp2_with fail
    rw [← HWD.out]
    have hM0 := MadeG.empty 4 78 GtC (w.heap.size + 1 < ·) (w.heap.size + 1 + 1) W (by have := HSZ.out; omega) (α := Tm × Bool)
    rw [show W.heap.size = w.heap.size + 1 + 1 from HSZ.out] at hM0
    have HM0 := Lib.hid hM0
    clear hM0
    have HBL0 := Lib.hid (alloc_bel W (.cells #[] 78))
    go_loopw [7, 8] (fun vs i wr => ∃ (j : Nat) (gs : List (Tm × Bool)), i = .int .i64 j ∧ j ≤ l.length ∧ gs.length = j ∧ MadeG 4 78 GtC (w.heap.size + 1 < ·) (w.heap.size + 1 + 1) wr vs gs ∧ Below (w.heap.size + 1 + 1) W wr ∧ (∀ q (h : q < gs.length) (h2 : q < (mpL (Fmy al) k l n 0).length), OkG (mpL (Fmy al) k l n 0)[q] gs[q].1 gs[q].2)) (fun _ i _ => l.length - (intOf i).toNat)
    case atStart => exact ⟨0, [], by go_num, Nat.zero_le _, rfl, HM0.out, HBL0.out.mono (by have := HSZ.out; omega), fun q h => absurd h (Nat.not_lt_zero _)⟩
    case round =>
      obtain ⟨j, gs, rfl, hj, hgl, hM, hb, hok⟩ := hrel
      have hbw := HBEL.out.trans (hb.mono (by omega))
      have hBl := Nat.lt_of_lt_of_le (show w.heap.size < W.heap.size by have := HSZ.out; omega) hb.size
      have HBr := Lib.hid ((hb.block w.heap.size (by omega)).trans HQ.out)
      have HZr := Lib.hid ((hb.block (w.heap.size + 1) (by omega)).trans HZ.out)
      obtain ⟨i0, i1, i2, -, -⟩ := three HBr.out
      have hszr : w.heap.size + 1 + 1 ≤ wr.heap.size := by have := hb.size; have := HSZ.out; omega
      have HB := Lib.hid hb
      have HBW := Lib.hid hbw
      have HM := Lib.hid hM
      have HOKS := Lib.hid hok
      clear hb hbw hM hok
      by_cases hjl : j < l.length
      · obtain ⟨b, off, k2, n2, ao2, m2, cap2, rfl, hP, h0, h1, h2, hrd⟩ := HE.out j hjl
        have e0 := (HBW.out.cell (p := ⟨b, off + j * 3, none⟩) hP).trans h0
        have e1 := (HBW.out.cell (p := ⟨b, off + j * 3 + 1, none⟩) hP).trans h1
        have e2 := (HBW.out.cell (p := ⟨b, off + j * 3 + 2, none⟩) hP).trans h2
        have hbk := (bn_le k j)
        have hnj : (0 : Int) ≤ (j : Int) := Int.natCast_nonneg _
        have hji : (j : Int) < (l.length : Int) := by omega
        clear h0 h1 h2
        go_wp2_with fail
        have hdr : Below wr.heap.size wr wr.drew := below_drewN (Below.refl _ _) 1
        refine wp_region_order [(0, true), (1, true), (2, true), (3, true), (4, true), (5, true), (6, true), (7, true), (8, true), (9, true), (10, false), (11, true), (12, false), (13, false), (14, false), (15, false)]
          (fun w' => (w'.cell? ⟨w.heap.size, 0, none⟩ = some (.int .i64 k) ∧ w'.cell? ⟨w.heap.size, 1, none⟩ = some (.int .i64 x) ∧ w'.cell? ⟨w.heap.size, 2, none⟩ = some (.slice (some ⟨b, off, none⟩) l.length cap)) ∧ (w'.cell? ⟨b, off + j * 3, none⟩ = some (.int .i64 k2) ∧ w'.cell? ⟨b, off + j * 3 + 1, none⟩ = some (.int .i64 n2) ∧ w'.cell? ⟨b, off + j * 3 + 2, none⟩ = some (.slice ao2 m2 cap2)))
          (by kernel_rfl) (by kernel_rfl) ⟨⟨i0, i1, i2⟩, ⟨e0, e1, e2⟩⟩ (fun hHeld => ?_)
        simp only [pickT, List.getElem?_cons_zero, List.getElem?_cons_succ, Option.getD_some]
        repeat (refine wpT_take (v := ?_) (by rfl) (fun w' hSw => ?_) ?_; rotate_left; (go_simp; with_reducible rfl); simp only [Act.put, List.setIfInBounds_toArray, List.set_cons_zero, List.set_cons_succ])
        refine wpT_do (fun K hK => ?_)
        go_simp
        go_at_call 114
        refine (Beneath_w k x _ _ _ _ rfl j _).mono ?_
        rintro e w3 ⟨rfl, hb3⟩
        replace hb3 := hdr.trans hb3
        have S3 := (show (w3.cell? ⟨w.heap.size, 0, none⟩ = some (.int .i64 k) ∧ w3.cell? ⟨w.heap.size, 1, none⟩ = some (.int .i64 x) ∧ w3.cell? ⟨w.heap.size, 2, none⟩ = some (.slice (some ⟨b, off, none⟩) l.length cap)) ∧ (w3.cell? ⟨b, off + j * 3, none⟩ = some (.int .i64 k2) ∧ w3.cell? ⟨b, off + j * 3 + 1, none⟩ = some (.int .i64 n2) ∧ w3.cell? ⟨b, off + j * 3 + 2, none⟩ = some (.slice ao2 m2 cap2)) from ⟨⟨(hb3.cell (p := ⟨w.heap.size, 0, none⟩) (by show w.heap.size < _; omega)).trans i0, (hb3.cell (p := ⟨w.heap.size, 1, none⟩) (by show w.heap.size < _; omega)).trans i1, (hb3.cell (p := ⟨w.heap.size, 2, none⟩) (by show w.heap.size < _; omega)).trans i2⟩, ⟨(hb3.cell (p := ⟨b, off + j * 3, none⟩) (by show b < _; omega)).trans e0, (hb3.cell (p := ⟨b, off + j * 3 + 1, none⟩) (by show b < _; omega)).trans e1, (hb3.cell (p := ⟨b, off + j * 3 + 2, none⟩) (by show b < _; omega)).trans e2⟩⟩)
        have hM3 := HM.out.below keepsC_gt hb3
        have hbw3 := HBW.out.trans (hb3.mono (by omega))
        have hsz3 : w.heap.size + 1 + 1 ≤ w3.heap.size := by have := hb3.size; omega
        have hcon := IH.out _ l[j] (n + bn k j) w3 (RdN.keep (P := (· < w.heap.size)) (w' := w3) (fun b hb' => Nat.lt_of_lt_of_le hb' hbw3.size) (fun b hb' => hbw3.block b hb') d _ _ hrd) (HG.out j hjl) (by omega) (by have := HN.out; omega) (TS.out.keep (fun b hb' => Nat.lt_of_lt_of_le hb' hbw3.size) (fun b hb' => hbw3.block b hb'))
        have HM3 := Lib.hid hM3
        have HB3 := Lib.hid (HB.out.trans (hb3.mono (by omega)))
        have HCON := Lib.hid hcon
        clear hb3 hdr i0 i1 i2 e0 e1 e2 hM3 hbw3 hcon hrd
        refine hK.out _ _ S3 (fun hHeld => ?_)
        clear hK K S3
        have hwr : IntKind.i64.wrap (n + bn k j) = n + bn k j := IntWalk.i64_in _ (by have := HN.out; omega)
        repeat (refine wpT_take (v := ?_) (by rfl) (fun w' hSw => ?_) ?_; rotate_left; (go_simp; with_reducible rfl); simp only [Act.put, List.setIfInBounds_toArray, List.set_cons_zero, List.set_cons_succ])
        clear hwr
        refine wpT_do (fun K hK => ?_)
        go_simp
        go_at_call 93
        skip
        refine HCON.out.mono ?_
        rintro e w4 ⟨k4, n4, ao4, m4, c4, lg4, y4, rfl, hb4, hr4, hok4⟩
        obtain ⟨⟨i0, i1, i2⟩, ⟨e0, e1, e2⟩⟩ := hHeld
        have HR4 := Lib.hid hr4
        have HB4 := Lib.hid hb4
        have HOK4 := Lib.hid hok4
        have S4 := (show (w4.cell? ⟨w.heap.size, 0, none⟩ = some (.int .i64 k) ∧ w4.cell? ⟨w.heap.size, 1, none⟩ = some (.int .i64 x) ∧ w4.cell? ⟨w.heap.size, 2, none⟩ = some (.slice (some ⟨b, off, none⟩) l.length cap)) ∧ (w4.cell? ⟨b, off + j * 3, none⟩ = some (.int .i64 k2) ∧ w4.cell? ⟨b, off + j * 3 + 1, none⟩ = some (.int .i64 n2) ∧ w4.cell? ⟨b, off + j * 3 + 2, none⟩ = some (.slice ao2 m2 cap2)) from ⟨⟨(hb4.cell (p := ⟨w.heap.size, 0, none⟩) (by show w.heap.size < _; omega)).trans i0, (hb4.cell (p := ⟨w.heap.size, 1, none⟩) (by show w.heap.size < _; omega)).trans i1, (hb4.cell (p := ⟨w.heap.size, 2, none⟩) (by show w.heap.size < _; omega)).trans i2⟩, ⟨(hb4.cell (p := ⟨b, off + j * 3, none⟩) (by show b < _; omega)).trans e0, (hb4.cell (p := ⟨b, off + j * 3 + 1, none⟩) (by show b < _; omega)).trans e1, (hb4.cell (p := ⟨b, off + j * 3 + 2, none⟩) (by show b < _; omega)).trans e2⟩⟩)
        refine hK.out _ _ S4 (fun hHeld => ?_)
        clear hK K S4 hr4 hb4 hok4
        refine wpT_do (fun K hK => ?_)
        go_simp
        refine hK.out _ _ (by go_keep) (fun hHeld => ?_)
        clear hK K
        obtain ⟨i78, hi78, hy1, hy2, hy3⟩ := info_parts info78
        obtain ⟨css, p1, p2, p3⟩ := HM3.out
        have hownB := HM3.out.block
        refine wpT_do (fun K hK => ?_)
        refine step_app_made rfl _ _ 91 rfl (w.heap.size + 1 + 1) 78 i78 _ 4 48 Try.underlying91 hi78 hy1 hy2 hy3 rfl (by omega) u7 gs.length css.flatten rfl p1 HB4.out hsz3 1 [.int .i64 k4, .int .i64 n4, .slice ao4 m4 c4, .bool lg4] rfl rfl (one4 _ _ _ _ _ _) (by unfold maxLen; omega) (by omega) ?_
        intro g5 cap5 w5 ha hk5
        have hal := alloc_bel w4 (.cells #[.int .i64 k4, .int .i64 n4, .slice ao4 m4 c4, .bool lg4] 78)
        have hb5 := HB4.out.trans (hal.mono HB4.out.size)
        have hM5 : MadeG 4 78 GtC (w.heap.size + 1 < ·) (w.heap.size + 1 + 1) w5 (.slice (some ⟨g5, 0, none⟩) (gs.length + 1) cap5) (gs ++ [(y4, lg4)]) := by
          refine MadeG.app keepsC_gt (W := w4.alloc (.cells #[.int .i64 k4, .int .i64 n4, .slice ao4 m4 c4, .bool lg4] 78)) (css := css) (new := [[.int .i64 k4, .int .i64 n4, .slice ao4 m4 c4, .bool lg4]]) (fun i hi => ?_) p2 rfl (by simpa using ha) rfl (fun i hi => ?_)
          · obtain ⟨cs, r1, r2, r3⟩ := p3 i hi
            exact ⟨cs, r1, r2, keepsC_gt _ _ _ _ _ _ r3 (fun q hq => ⟨hq.1, Nat.lt_of_lt_of_le hq.2.1 hb5.size, hq.2.2⟩) fun q hq => hb5.block q hq.2.1⟩
          · obtain rfl : i = 0 := by simpa using hi
            refine ⟨_, rfl, rfl, k4, n4, ao4, m4, c4, rfl, HR4.out.keep (fun q hq => ⟨fun e => ?_, ?_, ?_⟩) fun q hq => hal.block q hq.2⟩
            · have := (hownB _ e).2; have := hq.1; omega
            · exact Nat.lt_of_lt_of_le hq.2 hal.size
            · have := hq.1; show w.heap.size + 1 < q; omega
        have hB5 : Below (w.heap.size + 1 + 1) W w5 := (HB3.out.trans (hb5.mono hsz3)).trans (ha.below (by have := hb5.size; omega) fun q hq => (hownB q hq).1)
        have kB := hk5 w.heap.size (by omega) (fun e => by have := (hownB _ e).1; omega)
        have kb := hk5 b (by omega) (fun e => by have := (hownB _ e).1; omega)
        have S5 := (show (w5.cell? ⟨w.heap.size, 0, none⟩ = some (.int .i64 k) ∧ w5.cell? ⟨w.heap.size, 1, none⟩ = some (.int .i64 x) ∧ w5.cell? ⟨w.heap.size, 2, none⟩ = some (.slice (some ⟨b, off, none⟩) l.length cap)) ∧ (w5.cell? ⟨b, off + j * 3, none⟩ = some (.int .i64 k2) ∧ w5.cell? ⟨b, off + j * 3 + 1, none⟩ = some (.int .i64 n2) ∧ w5.cell? ⟨b, off + j * 3 + 2, none⟩ = some (.slice ao2 m2 cap2)) from ⟨⟨(cell_keep (a := ⟨w.heap.size, 0, none⟩) kB).trans i0, (cell_keep (a := ⟨w.heap.size, 1, none⟩) kB).trans i1, (cell_keep (a := ⟨w.heap.size, 2, none⟩) kB).trans i2⟩, ⟨(cell_keep (a := ⟨b, off + j * 3, none⟩) kb).trans e0, (cell_keep (a := ⟨b, off + j * 3 + 1, none⟩) kb).trans e1, (cell_keep (a := ⟨b, off + j * 3 + 2, none⟩) kb).trans e2⟩⟩)
        rw [hgl] at hM5
        have HM5 := Lib.hid hM5
        have HB5 := Lib.hid hB5
        clear hM5 hB5 kB kb ha hk5 p1 p2 p3 hal hb5 hownB hi78 hy1 hy2 hy3 i0 i1 i2 e0 e1 e2
        refine hK.out _ _ S5 (fun hHeld => ?_)
        clear hK K S5
        refine wpT_last (fun K hK => ?_)
        go_simp
        refine hK.out _ _ ?_
        clear hK K hHeld
        go_wp2_with fail
        go_roundw
        case rel =>
          refine ⟨j + 1, gs ++ [(y4, lg4)], by go_num, by omega, by simp [hgl], HM5.out, HB5.out, fun q h h2 => ?_⟩
          by_cases hq : q < gs.length
          · rw [List.getElem_append_left hq]
            exact HOKS.out q hq h2
          · have hqj : q = j := by simp at h; omega
            subst hqj
            rw [List.getElem_append_right (by omega), mpL_get _ _ _ _ _ _ hjl]
            simp only [hgl, Nat.sub_self, List.getElem_cons_zero, Nat.zero_add]
            exact HOK4.out
        case measure =>
          have q : (intOf (.int .i64 ((j : Int) + 1))).toNat = j + 1 := by show ((j : Int) + 1).toNat = _; omega
          have q2 : (intOf (.int .i64 (j : Int))).toNat = j := by show ((j : Int)).toNat = _; omega
          rw [q, q2]; omega
      · have hml : (mpL (Fmy al) k l n 0).length = gs.length := by rw [mpL_len]; omega
        have hcon := subs_w (fun q => w.heap.size + 1 < q ∧ q < wr.heap.size) k x ao l.length cap u7 gs (mpL (Fmy al) k l n 0) wr (fun q hq => hq.2) (HM.out.gots (by omega)) hml (by omega) (fun i h => HOKS.out i h (by omega)) HK.out HX.out
        have HCON := Lib.hid hcon
        clear hcon
        go_wp2_with fail
        refine HCON.out.mono ?_
        rintro e w6 ⟨k6, n6, ao6, m6, c6, lg6, y6, rfl, hb6, hr6, hok6⟩
        obtain ⟨z0, z1, z2, z3, zf, -⟩ := four ((hb6.block _ (by omega)).trans HZr.out)
        have HB6 := Lib.hid (HBW.out.trans (hb6.mono HBW.out.size))
        have HR6 := Lib.hid (hr6.keep (P' := fun q => w.heap.size + 1 < q ∧ q < w6.heap.size) (fun q hq => by
          rcases hq with h | h
          · exact ⟨h.1, Nat.lt_of_lt_of_le h.2 hb6.size⟩
          · exact ⟨by have := h.1; omega, h.2⟩) fun _ _ => rfl)
        have HOK6 := Lib.hid hok6
        clear hb6 hr6 hok6
        go_wp2_with fail
        exact bodyPost_ret (v := .agg #[.int .i64 k6, .int .i64 n6, .slice ao6 m6 c6, .bool lg6]) (by simp [results, Try.results93, go_sem, z0, z1, z2, z3]) rfl
          ⟨_, _, _, _, _, _, _, rfl, ((((HB6.out.setCell (by simp only []; omega) _).setCell (by simp only []; omega) _).setCell (by simp only []; omega) _).setCell (by simp only []; omega) _), HR6.out.keep (fun q hq => ⟨by omega, by simp only [World.setCell, Array.size_modify]; exact hq.2⟩) fun q hq => set4_off _ _ _ _ _ _ q (by omega), HOK6.out⟩
end Go.Proofs.Ythjlfjaciigfiaa
namespace Go.Proofs.Ythjlfjaciigfiaa
open Go.RowKit
set_option linter.unusedVariables false
set_option linter.unusedSimpArgs false

theorem doneR_of {F : Int → Int → Int → Option Tm} {t y : Tm} {lg : Bool} (h : OkG (mp F t 0) y lg) : doneR y lg = subR F t := by
  cases lg with
  | false =>
    have e := h.1 rfl
    subst e
    unfold doneR subR
    by_cases hs : Shp (mp F t 0) = true
    · rw [if_pos ⟨rfl, hs⟩, if_pos hs]
    · rw [if_neg (fun q => hs q.2), if_neg hs]
  | true =>
    have e := h.2 rfl
    unfold doneR subR
    rw [if_neg (by simp), if_neg (fun hs => ?_)]
    have := (Shp_iff _).mp hs
    exact e ⟨this.2.2, this.1⟩
theorem allT (l : List Tm) (j : Nat) (hj : j < l.length) : (l.take (j + 1)).all Shp = ((l.take j).all Shp && Shp l[j]) := by
  rw [List.take_succ_eq_append_getElem hj]
  simp only [List.all_append, List.all_cons, List.all_nil, Bool.and_true]

set_option maxRecDepth 100000 in
set_option maxHeartbeats 4000000 in
theorem refMany9_w (vl v : Value) (l : List Tm) (t : Tm) (w : World) (hlen : l.length ≤ 1000000) (hl : Ts (· < w.heap.size) w vl l) (hr : Rd (· < w.heap.size) w v t) :
    Calls Try.prog 51 #[v, vl] w (AnsTE w (manyR t l).1 (manyR t l).2) := by
  obtain ⟨rt, rc, hres⟩ : ∃ rt rc, manyR t l = (rt, rc) := ⟨_, _, rfl⟩
  rw [hres]
  have RES := Lib.hid hres
  have HL := Lib.hid hl
  obtain ⟨aol, capl, rfl, hlm, -, he⟩ := hl.elem
  have HE := Lib.hid he
  clear hres he hl
  obtain ⟨ao, cap, rfl⟩ := hr.shape
  obtain ⟨W, hW⟩ : ∃ W, W = (w.alloc (.cells #[.int .i64 t.kind, .int .i64 t.num, .slice ao t.sub.length cap] 24)).alloc (.cells #[.int .i64 0, .int .i64 0, .slice none 0 0] 24) := ⟨_, rfl⟩
  have hb0 : Below w.heap.size w W := by rw [hW]; exact (((Below.refl _ _).alloc (Nat.le_refl _) _).alloc (by simp only [World.size_alloc]; omega) _)
  have hsW : W.heap.size = w.heap.size + 2 := by rw [hW]; simp only [World.size_alloc]
  have Q : W.heap[w.heap.size]? = some (.cells #[.int .i64 t.kind, .int .i64 t.num, .slice ao t.sub.length cap] 24) := by rw [hW]; exact (Below.heap_alloc _ _ _ (by simp only [World.size_alloc]; omega)).trans (heap_new _ _ _ rfl)
  have Z : W.heap[w.heap.size + 1]? = some (.cells #[.int .i64 0, .int .i64 0, .slice none 0 0] 24) := by rw [hW]; exact heap_new _ _ _ (by simp only [World.size_alloc])
  replace Q := Lib.hid Q
  replace Z := Lib.hid Z
  have T := Lib.hid (hr.on hb0)
  have FB0 := Lib.hid hb0
  have SW := Lib.hid hsW
  have HW := Lib.hid hW
  clear hb0 hsW hW hr
  have HS := Lib.hid (refShaped_r T.out)
  go_enter Try.func51, Try.ntmps51
  go_wp2_with fail
  rw [← HW.out]
  refine HS.out.mono ?_
  rintro e w1 ⟨rfl, hb⟩
  have HF1 := Lib.hid (FB0.out.trans (hb.mono FB0.out.size))
  have Q1 := Lib.hid ((hb.block _ (blt Q.out)).trans Q.out)
  have Z1 := Lib.hid ((hb.block _ (blt Z.out)).trans Z.out)
  have T1 := Lib.hid (T.out.on hb)
  have hsz1 : w.heap.size + 2 ≤ w1.heap.size := by have := hb.size; have := SW.out; omega
  have HST := Lib.hid (Below.refl w1.heap.size w1)
  clear hb HS
  go_wp2_with fail
  go_loopw [6, 7] (fun ok i wr => ∃ j : Nat, ok = .bool (Shp t && (l.take j).all Shp) ∧ i = .int .i64 j ∧ j ≤ l.length ∧ Below w1.heap.size w1 wr) (fun _ i _ => l.length - (intOf i).toNat)
  case atStart => exact ⟨0, by simp, by go_num, Nat.zero_le _, HST.out⟩
  case round =>
    obtain ⟨j, rfl, rfl, hj, hb⟩ := hrel
    have HBr := Lib.hid hb
    have hszr : w.heap.size + 2 ≤ wr.heap.size := by have := hb.size; omega
    have hbw := HF1.out.trans (hb.mono (by omega))
    have Zr := Lib.hid ((hb.block _ (blt Z1.out)).trans Z1.out)
    clear HST
    by_cases hjl : j < l.length
    · obtain ⟨b, off, k2, n2, ao2, m2, cap2, rfl, hP, h0, h1, h2, hrd⟩ := HE.out j hjl
      have e0 := (hbw.cell (p := ⟨b, off + j * 3, none⟩) hP).trans h0
      have e1 := (hbw.cell (p := ⟨b, off + j * 3 + 1, none⟩) hP).trans h1
      have e2 := (hbw.cell (p := ⟨b, off + j * 3 + 2, none⟩) hP).trans h2
      have hbl : b < wr.heap.size := Nat.lt_of_lt_of_le hP hbw.size
      have HBW := Lib.hid hbw
      have HA := Lib.hid (allT l j hjl)
      have hs := refShaped_r (hrd.keep (P' := (· < wr.heap.size)) (w' := wr) (fun b hb' => Nat.lt_of_lt_of_le hb' hbw.size) (fun b hb' => hbw.block b hb'))
      have HS := Lib.hid hs
      clear h0 h1 h2 hb hbw hs hrd
      have hji : (j : Int) < (l.length : Int) := by omega
      cases hok : (Shp t && (l.take j).all Shp)
      · go_wp2_with fail
        go_roundw
        case rel => exact ⟨j + 1, by rw [HA.out, ← Bool.and_assoc, hok]; rfl, by go_num, by omega, HBr.out⟩
        case measure =>
          have q : (intOf (.int .i64 ((j : Int) + 1))).toNat = j + 1 := by show ((j : Int) + 1).toNat = _; omega
          have q2 : (intOf (.int .i64 (j : Int))).toNat = j := by show ((j : Int)).toNat = _; omega
          rw [q, q2]; omega
      · go_wp2_with fail
        refine HS.out.mono ?_
        rintro e w3 ⟨rfl, hb3⟩
        have HB3 := Lib.hid (HBr.out.trans (hb3.mono HBr.out.size))
        clear hb3 e0 e1 e2
        go_wp2_with fail
        go_roundw
        case rel => exact ⟨j + 1, by rw [HA.out, ← Bool.and_assoc, hok, Bool.true_and], by go_num, by omega, HB3.out⟩
        case measure =>
          have q : (intOf (.int .i64 ((j : Int) + 1))).toNat = j + 1 := by show ((j : Int) + 1).toNat = _; omega
          have q2 : (intOf (.int .i64 (j : Int))).toNat = j := by show ((j : Int)).toNat = _; omega
          rw [q, q2]; omega
    · have ht : l.take j = l := List.take_of_length_le (by omega)
      rw [ht]
      obtain ⟨q0, q1, q2, qf, -⟩ := three ((hb.block _ (blt Q1.out)).trans Q1.out)
      obtain ⟨z0, z1, z2, zf, -⟩ := three Zr.out
      have HBW := Lib.hid hbw
      cases hok : (Shp t && l.all Shp)
      · have e : manyR t l = (tm0, 5) := by unfold manyR; rw [if_neg (fun h => by rw [h.1, h.2] at hok; cases hok)]
        rw [RES.out] at e
        injection e with e1 e2
        subst e1; subst e2
        go_wp2_with fail
        exact bodyPost_ret (v := .tuple #[.agg #[.int .i64 0, .int .i64 0, .slice none 0 0], .int .i64 5]) (by simp [results, Try.results51, go_sem, z0, z1, z2]) rfl ⟨_, _, _, _, _, rfl, (((HBW.out.setCell (by simp only []; omega) _).setCell (by simp only []; omega) _).setCell (by simp only []; omega) _), Rd.zero _ _⟩
      · simp only [Bool.and_eq_true] at hok
        have e : manyR t l = subR (Fmy l) t := by unfold manyR; rw [if_pos hok]
        rw [RES.out] at e
        have E := Lib.hid e.symm
        have hsh := (Shp_iff t).mp hok.1
        have hcon := refmany_w l _ hok.2 hlen (dep t) _ t 0 wr (T1.out.on hb).fit hsh.2.2 (by omega) (by omega) (HL.out.keep (w' := wr) (P' := (· < wr.heap.size)) (fun q hq => Nat.lt_of_lt_of_le hq hbw.size) fun q hq => hbw.block q hq)
        have HCON := Lib.hid hcon
        clear hcon e hb hbw ht hok hsh z0 z1 z2 zf
        go_wp2_with fail
        refine HCON.out.mono ?_
        rintro e w4 ⟨k4, n4, ao4, m4, c4, lg4, y4, rfl, hb4, hr4, hok4⟩
        have HB4 := Lib.hid (HBW.out.trans (hb4.mono HBW.out.size))
        have Z4 := Lib.hid ((hb4.block _ (blt Zr.out)).trans Zr.out)
        have hsz4 : w.heap.size + 2 ≤ w4.heap.size := by have := hb4.size; omega
        have hd := doneR_of hok4
        rw [E.out] at hd
        have hcd := done_w (fun q => w.heap.size + 1 < q ∧ q < w4.heap.size) k4 n4 ao4 m4 c4 lg4 y4 w4 (fun q hq => hq.2) (hr4.keep (fun q hq => ⟨by have := hq.1; omega, hq.2⟩) fun _ _ => rfl)
        rw [hd] at hcd
        have HCD := Lib.hid hcd
        clear hb4 hr4 hok4 hd hcd q0 q1 q2 qf
        go_wp2_with fail
        refine HCD.out.mono ?_
        rintro e w5 ⟨k5, n5, ao5, m5, c5, rfl, hb5, hr5⟩
        have HB5 := Lib.hid (HB4.out.trans (hb5.mono HB4.out.size))
        obtain ⟨z0, z1, z2, zf, -⟩ := three ((hb5.block _ (blt Z4.out)).trans Z4.out)
        have HR5 := Lib.hid hr5
        have hsz5 := hb5.size
        clear hb5 hr5
        go_wp2_with fail
        exact bodyPost_ret (v := .tuple #[.agg #[.int .i64 k5, .int .i64 n5, .slice ao5 m5 c5], .int .i64 rc]) (by simp [results, Try.results51, go_sem, z0, z1, z2]) rfl ⟨_, _, _, _, _, rfl, (((HB5.out.setCell (by simp only []; omega) _).setCell (by simp only []; omega) _).setCell (by simp only []; omega) _),
          HR5.out.keep (fun q hq => ⟨by omega, by simp only [World.setCell, Array.size_modify]; omega⟩) fun q hq => set3_off _ _ _ _ _ q (by omega)⟩
end Go.Proofs.Ythjlfjaciigfiaa
