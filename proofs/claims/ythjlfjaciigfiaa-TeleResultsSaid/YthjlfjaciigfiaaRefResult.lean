/-
  ref10.Result: a contract of the walk.
-/
import Derived.Test.YthjlfjaciigfiaaResult
import Derived.Test.YthjlfjaciigfiaaSames
namespace Go.Proofs.Ythjlfjaciigfiaa
open Go.RowKit
set_option linter.unusedVariables false
set_option linter.unusedSimpArgs false

set_option maxRecDepth 100000 in
set_option maxHeartbeats 4000000 in
theorem refResult_w (v : Value) (t : Tm) (vl : Value) (l : List Tm) (w : World) (hr : Rd (· < w.heap.size) w v t) (hl : Ts (· < w.heap.size) w vl l) (hlen : l.length ≤ 1000000) :
    Calls Try.prog 65 #[v, vl] w (AnsRE w (resultR t l).1 (resultR t l).2) := by
  obtain ⟨rt, rc, hres⟩ : ∃ rt rc, resultR t l = (rt, rc) := ⟨_, _, rfl⟩
  rw [hres]
  have RES := Lib.hid hres
  clear hres
  obtain ⟨aol, capl, rfl, hcl, hcl2, hel⟩ := hl.elem
  have HEL := Lib.hid hel
  have HR0 := Lib.hid hr
  clear hl hel
  obtain ⟨ao, cap, rfl⟩ := hr.shape
  obtain ⟨W, hW⟩ : ∃ W, W = (w.alloc (.cells #[.int .i64 t.kind, .int .i64 t.num, .slice ao t.sub.length cap] 24)).alloc (.cells #[.int .i64 0, .int .i64 0, .slice none 0 0] 24) := ⟨_, rfl⟩
  have hb0 : Below w.heap.size w W := by rw [hW]; exact (((Below.refl _ _).alloc (Nat.le_refl _) _).alloc (by simp only [World.size_alloc]; omega) _)
  have hsW : W.heap.size = w.heap.size + 2 := by rw [hW]; simp only [World.size_alloc]
  have Q : W.heap[w.heap.size]? = some (.cells #[.int .i64 t.kind, .int .i64 t.num, .slice ao t.sub.length cap] 24) := by rw [hW]; exact (Below.heap_alloc _ _ _ (by simp only [World.size_alloc]; omega)).trans (heap_new _ _ _ (by first | rfl | simp only [World.size_alloc]))
  replace Q := Lib.hid Q
  have Z : W.heap[w.heap.size + 1]? = some (.cells #[.int .i64 0, .int .i64 0, .slice none 0 0] 24) := by rw [hW]; exact heap_new _ _ _ (by first | rfl | simp only [World.size_alloc])
  replace Z := Lib.hid Z
  have T := Lib.hid (hr.on hb0)
  have FW := Lib.hid (Below.refl W.heap.size W)
  have FB0 := Lib.hid hb0
  have SW := Lib.hid hsW
  clear hb0 hsW
  have HW := Lib.hid hW
  clear hW hr
  obtain ⟨y, hy⟩ : ∃ y, y = Shp t := ⟨_, rfl⟩
  have HY := Lib.hid hy
  have hs := refShaped_r T.out
  rw [← hy] at hs
  have HS := Lib.hid hs
  clear hy hs
  obtain ⟨Q0, Q1, Q2, Qf, -⟩ := three Q.out
  go_enter Try.func65, Try.ntmps65
  go_wp2_with fail
  rw [← HW.out]
  clear Q0 Q1 Q2 Qf
  refine HS.out.mono ?_
  rintro e w1 ⟨rfl, hb1⟩
  replace FB0 := Lib.hid (FB0.out.trans (hb1.mono FB0.out.size))
  replace Q := Lib.hid ((hb1.block _ (blt Q.out)).trans Q.out)
  replace Z := Lib.hid ((hb1.block _ (blt Z.out)).trans Z.out)
  replace SW := Lib.hid (show w.heap.size + 2 ≤ w1.heap.size by have := SW.out; have := hb1.size; omega)
  clear hb1 HS HW FW T
  cases y
  · have e : (rt, rc) = (tm0, 5) := by rw [← RES.out]; unfold resultR; rw [if_neg (by rw [← HY.out]; simp)]
    injection e with e1 e2
    subst e1; subst e2
    obtain ⟨Z0, Z1, Z2, Zf, Zl⟩ := three Z.out
    go_wp2_with fail
    exact bodyPost_ret (v := .tuple #[.agg #[.int .i64 0, .int .i64 0, .slice none 0 0], .int .i64 5]) (by simp [results, Try.results65, go_sem, Z0, Z1, Z2]) rfl ⟨_, _, _, _, _, rfl, ((FB0.out.setCell (by simp only []; omega) _).setCell (by simp only []; omega) _).setCell (by simp only []; omega) _, Rd.zero _ _⟩
  have e : (rt, rc) = resL l t := by rw [← RES.out]; unfold resultR; rw [if_pos HY.out.symm]
  have E := Lib.hid e
  have HSH := Lib.hid HY.out.symm
  clear e RES HY
  go_wp2_with fail
  go_loopw [6] (fun i wr => ∃ (j : Nat) (cur : Tm) (aoc : Option Addr) (capc : Nat), i = .int .i64 j ∧ j ≤ l.length ∧ Shp cur = true ∧ resL l t = resL (l.drop j) cur ∧ wr.heap[w.heap.size]? = some (.cells #[.int .i64 cur.kind, .int .i64 cur.num, .slice aoc cur.sub.length capc] 24) ∧
      Rd (fun q => q ≠ w.heap.size ∧ q ≠ w.heap.size + 1 ∧ q < wr.heap.size) wr (.agg #[.int .i64 cur.kind, .int .i64 cur.num, .slice aoc cur.sub.length capc]) cur ∧
      wr.heap[w.heap.size + 1]? = some (.cells #[.int .i64 0, .int .i64 0, .slice none 0 0] 24) ∧ Below w.heap.size w wr) (fun i _ => l.length - (intOf i).toNat)
  case atStart =>
    refine ⟨0, t, ao, cap, rfl, Nat.zero_le _, HSH.out, rfl, Q.out, HR0.out.keep (fun q hq => ⟨by omega, by omega, by have := FB0.out.size; omega⟩) fun q hq => FB0.out.block q hq, Z.out, FB0.out⟩
  case round =>
    obtain ⟨j, cur, aoc, capc, rfl, hj, hsc, hspl, hA2, hcur, hz, hb⟩ := hrel
    have HAX := Lib.hid hA2
    have HCX := Lib.hid hcur
    have ZX := Lib.hid hz
    have HB := Lib.hid hb
    have HSPL := Lib.hid hspl
    have HSC := Lib.hid hsc
    clear hA2 hcur hz hb hspl hsc Z Q FB0 HSH HR0 SW
    have hszw : w.heap.size + 2 ≤ wr.heap.size := by have := blt ZX.out; omega
    have hj0 : (0 : Int) ≤ (j : Int) := Int.natCast_nonneg _
    obtain ⟨a0, a1, a2, af, al⟩ := three HAX.out
    by_cases hjl : j < l.length
    · have hji : (j : Int) < (l.length : Int) := by omega
      by_cases hk : cur.kind = 3
      · obtain ⟨k, x, ls⟩ := cur
        have hk3 : k = 3 := hk
        subst hk3
        obtain ⟨a, b, rfl, ga, gb⟩ := gd_pi ((Shp_iff _).mp HSC.out).2.2
        obtain ⟨g, offg, cap', ka, na, aoa, ma, ca, kb, nb, aob, mb, cb, hsl, h2, hP, q0, q1, q2, qa, r0, r1, r2, qb⟩ := pi_cells HCX.out
        simp only [Tm.kind, Tm.num, Tm.sub, List.length_cons, List.length_nil, Nat.zero_add, Nat.reduceAdd, Value.slice.injEq, true_and] at hsl a0 a1 a2 HAX
        obtain ⟨rfl, rfl⟩ := hsl
        have HQB := Lib.hid (qb.keep (P' := (· < wr.heap.size)) (w' := wr) (fun q hq => hq.2.2) fun _ _ => rfl)
        obtain ⟨y, c, hyc⟩ : ∃ y c, manyR b [l[j]] = (y, c) := ⟨_, _, rfl⟩
        have HYC := Lib.hid hyc
        have hgl : g < wr.heap.size := by omega
        obtain ⟨be, off, k0, n0, ao0, m0, c0, rfl, hPb, h0, h1, h2', hrd⟩ := HEL.out j hjl
        have e0 := (HB.out.cell (p := ⟨be, off + j * 3, none⟩) hPb).trans h0
        have e1 := (HB.out.cell (p := ⟨be, off + j * 3 + 1, none⟩) hPb).trans h1
        have e2 := (HB.out.cell (p := ⟨be, off + j * 3 + 2, none⟩) hPb).trans h2'
        have hbw : be < wr.heap.size := Nat.lt_of_lt_of_le hPb HB.out.size
        have HRX := Lib.hid (hrd.keep (P' := (· < wr.heap.size)) (w' := wr) (fun q hq => Nat.lt_of_lt_of_le hq HB.out.size) fun q hq => HB.out.block q hq)
        have HBX := HB
        have hge : decide ((l.length : Int) ≤ (j : Int)) = false := by simp; omega
        have hge2 : decide (l.length ≤ j) = false := by simp; omega
        have hge3 : ¬ ((l.length : Int) ≤ (j : Int)) := by omega
        have hge4 : ¬ (l.length ≤ j) := by omega
        clear qa qb hyc q0 q1 q2 hk h0 h1 h2' hrd HCX HB
        go_wp2_with fail
        have hdr : Below wr.heap.size wr wr.drew := below_drewN (Below.refl _ _) 1
        refine wp_region_tree (.one 0 true (.one 1 true (.one 2 true (.one 3 true (.one 4 true (.one 5 true (.one 6 true (.one 7 true (.two 8 (.two 9 (.rest [(10, true), (11, true), (12, true), (13, false), (14, false), (15, false)]) 13 (.rest [(9, false), (10, true), (11, true), (12, true), (14, false), (15, false)])) 13 (.rest [(8, false), (9, false), (10, true), (11, true), (12, true), (14, false), (15, false)])))))))))) (fun w' => w'.cell? ⟨w.heap.size, 2, none⟩ = some (.slice (some ⟨g, offg, none⟩) 2 capc) ∧ w'.cell? ⟨g, offg + 3, none⟩ = some (.int .i64 kb) ∧ w'.cell? ⟨g, offg + 3 + 1, none⟩ = some (.int .i64 nb) ∧ w'.cell? ⟨g, offg + 3 + 2, none⟩ = some (.slice aob mb cb) ∧ w'.cell? ⟨be, off + j * 3, none⟩ = some (.int .i64 k0) ∧ w'.cell? ⟨be, off + j * 3 + 1, none⟩ = some (.int .i64 n0) ∧ w'.cell? ⟨be, off + j * 3 + 2, none⟩ = some (.slice ao0 m0 c0)) (by kernel_rfl) (by kernel_rfl) ⟨a2, r0, r1, r2, e0, e1, e2⟩ (fun hHeld => ?_)
        generalize hwD : wr.drew = wD at hdr hHeld ⊢
        simp only [pickR, pickT, opIn, List.getElem?_cons_zero, List.getElem?_cons_succ, Option.getD_some]
        repeat (refine wpR_take (v := ?_) (by rfl) (fun w' hSw => ?_) ?_; rotate_left; (go_simp; with_reducible rfl); simp only [Act.put, List.setIfInBounds_toArray, List.set_cons_zero, List.set_cons_succ])
        refine wpR_two ?_ ?_
        · skip
          have hal1 := alloc_bel wD (.cells #[.int .i64 k0, .int .i64 n0, .slice ao0 m0 c0] 24)
          have hbB := hdr.trans (hal1.mono hdr.size)
          have hTs := one_ts (heap_new wD (.cells #[.int .i64 k0, .int .i64 n0, .slice ao0 m0 c0] 24) _ rfl) ((HRX.out.on hdr).on hal1)
          refine wpR_do (fun K hK => ?_)
          go_simp
          have HTS := Lib.hid hTs
          have hZB := hal1.block
          have hBZ := hal1.size
          clear hal1 hTs
          generalize hwB : wD.alloc (.cells #[.int .i64 k0, .int .i64 n0, .slice ao0 m0 c0] 24) = wB at hbB HTS hZB hBZ ⊢
          refine hK.out _ _ ⟨((hbB).cell (p := ⟨w.heap.size, 2, none⟩) (by first | exact al | (show _ < wr.heap.size; exact al))).trans a2, ((hbB).cell (p := ⟨g, offg + 3, none⟩) (by first | exact hgl | (show _ < wr.heap.size; exact hgl))).trans r0, ((hbB).cell (p := ⟨g, offg + 3 + 1, none⟩) (by first | exact hgl | (show _ < wr.heap.size; exact hgl))).trans r1, ((hbB).cell (p := ⟨g, offg + 3 + 2, none⟩) (by first | exact hgl | (show _ < wr.heap.size; exact hgl))).trans r2, ((hbB).cell (p := ⟨be, off + j * 3, none⟩) (by first | exact hbw | (show _ < wr.heap.size; exact hbw))).trans e0, ((hbB).cell (p := ⟨be, off + j * 3 + 1, none⟩) (by first | exact hbw | (show _ < wr.heap.size; exact hbw))).trans e1, ((hbB).cell (p := ⟨be, off + j * 3 + 2, none⟩) (by first | exact hbw | (show _ < wr.heap.size; exact hbw))).trans e2⟩ (fun hHeld => ?_)
          clear hK K hHeld hwB
          refine wpR_two ?_ ?_
          · skip
            have hcon := refMany9_q HYC.out (by simp) (HTS.out) (HQB.out.on hbB)
            have HCON := Lib.hid hcon
            clear hcon
            refine wpR_do (fun K hK => ?_)
            go_simp
            refine HCON.out.mono ?_
            rintro e w1 ⟨k1, n1, ao1, m1, c1, rfl, hb, hr⟩
            have hbC := hbB.trans (hb.mono hbB.size)
            refine hK.out _ _ ⟨((hbC).cell (p := ⟨w.heap.size, 2, none⟩) (by first | exact al | (show _ < wr.heap.size; exact al))).trans a2, ((hbC).cell (p := ⟨g, offg + 3, none⟩) (by first | exact hgl | (show _ < wr.heap.size; exact hgl))).trans r0, ((hbC).cell (p := ⟨g, offg + 3 + 1, none⟩) (by first | exact hgl | (show _ < wr.heap.size; exact hgl))).trans r1, ((hbC).cell (p := ⟨g, offg + 3 + 2, none⟩) (by first | exact hgl | (show _ < wr.heap.size; exact hgl))).trans r2, ((hbC).cell (p := ⟨be, off + j * 3, none⟩) (by first | exact hbw | (show _ < wr.heap.size; exact hbw))).trans e0, ((hbC).cell (p := ⟨be, off + j * 3 + 1, none⟩) (by first | exact hbw | (show _ < wr.heap.size; exact hbw))).trans e1, ((hbC).cell (p := ⟨be, off + j * 3 + 2, none⟩) (by first | exact hbw | (show _ < wr.heap.size; exact hbw))).trans e2⟩ (fun hHeld => ?_)
            clear hK K hHeld HCON
            refine wpR_rest ?_
            repeat (refine wpT_take (v := ?_) (by rfl) (fun w' hSw => ?_) ?_; rotate_left; (go_simp; with_reducible rfl); simp only [Act.put, List.setIfInBounds_toArray, List.set_cons_zero, List.set_cons_succ])
            have hrF := hr.keep (P' := fun q => wr.heap.size ≤ q ∧ q < w1.heap.size) (w' := w1) (fun q hq => ⟨by have := hq.1; have h5 : wr.heap.size ≤ wB.heap.size := hbB.size; omega, hq.2⟩) fun _ _ => rfl
            have halz := alloc_bel w1 (.cells #[.int .i64 0, .int .i64 0, .slice none 0 0] 24)
            have hbZ := hbC.trans (halz.mono hbC.size)
            have hxZ := heap_new w1 (.cells #[.int .i64 0, .int .i64 0, .slice none 0 0] 24) _ rfl
            have hXl := hbC.size
            have hZs : w1.heap.size < (w1.alloc (.cells #[.int .i64 0, .int .i64 0, .slice none 0 0] 24)).heap.size := by rw [World.size_alloc]; omega
            refine wpT_do (fun K hK => ?_)
            go_simp
            refine hK.out _ _ ⟨((hbZ).cell (p := ⟨w.heap.size, 2, none⟩) (by first | exact al | (show _ < wr.heap.size; exact al))).trans a2, ((hbZ).cell (p := ⟨g, offg + 3, none⟩) (by first | exact hgl | (show _ < wr.heap.size; exact hgl))).trans r0, ((hbZ).cell (p := ⟨g, offg + 3 + 1, none⟩) (by first | exact hgl | (show _ < wr.heap.size; exact hgl))).trans r1, ((hbZ).cell (p := ⟨g, offg + 3 + 2, none⟩) (by first | exact hgl | (show _ < wr.heap.size; exact hgl))).trans r2, ((hbZ).cell (p := ⟨be, off + j * 3, none⟩) (by first | exact hbw | (show _ < wr.heap.size; exact hbw))).trans e0, ((hbZ).cell (p := ⟨be, off + j * 3 + 1, none⟩) (by first | exact hbw | (show _ < wr.heap.size; exact hbw))).trans e1, ((hbZ).cell (p := ⟨be, off + j * 3 + 2, none⟩) (by first | exact hbw | (show _ < wr.heap.size; exact hbw))).trans e2⟩ (fun hHeld => ?_)
            clear hK K hHeld
            have hrX := hrF.keep (w' := w1.alloc (.cells #[.int .i64 0, .int .i64 0, .slice none 0 0] 24)) (P' := fun q => q ≠ w1.heap.size ∧ wr.heap.size ≤ q ∧ q < (w1.alloc (.cells #[.int .i64 0, .int .i64 0, .slice none 0 0] 24)).heap.size) (fun q hq => ⟨Nat.ne_of_lt hq.2, hq.1, Nat.lt_of_lt_of_le hq.2 halz.size⟩) fun q hq => halz.block q hq.2
            have hx := hxZ
            have hbA := hbZ
            clear hxZ hbZ halz hZs hbC hb hr hrF hbB HTS hZB hBZ
            generalize w1.alloc (.cells #[.int .i64 0, .int .i64 0, .slice none 0 0] 24) = wA at hbA hx hrX ⊢
            obtain ⟨x0, x1, x2, xf, xl⟩ := three hx
            have xf0 := xf 0
            have xf1 := xf 1
            have xf2 := xf 2
            obtain ⟨hbS, hxS, hrS⟩ := put3F (a := .int .i64 k1) (b := .int .i64 n1) (c := .slice ao1 m1 c1) hbA hx hXl
            have hr1 := hrS _ _ _ hrX
            refine wpT_do (fun K hK => ?_)
            go_simp
            clear x0 x1 x2 xf xf0 xf1 xf2 xl hrS hbA hx hrX
            generalize (((wA).setCell ⟨w1.heap.size, 0, none⟩ (.int .i64 k1)).setCell ⟨w1.heap.size, 1, none⟩ (.int .i64 n1)).setCell ⟨w1.heap.size, 2, none⟩ (.slice ao1 m1 c1) = wS at hbS hxS hr1 ⊢
            refine hK.out _ _ ⟨((hbS).cell (p := ⟨w.heap.size, 2, none⟩) (by first | exact al | (show _ < wr.heap.size; exact al))).trans a2, ((hbS).cell (p := ⟨g, offg + 3, none⟩) (by first | exact hgl | (show _ < wr.heap.size; exact hgl))).trans r0, ((hbS).cell (p := ⟨g, offg + 3 + 1, none⟩) (by first | exact hgl | (show _ < wr.heap.size; exact hgl))).trans r1, ((hbS).cell (p := ⟨g, offg + 3 + 2, none⟩) (by first | exact hgl | (show _ < wr.heap.size; exact hgl))).trans r2, ((hbS).cell (p := ⟨be, off + j * 3, none⟩) (by first | exact hbw | (show _ < wr.heap.size; exact hbw))).trans e0, ((hbS).cell (p := ⟨be, off + j * 3 + 1, none⟩) (by first | exact hbw | (show _ < wr.heap.size; exact hbw))).trans e1, ((hbS).cell (p := ⟨be, off + j * 3 + 2, none⟩) (by first | exact hbw | (show _ < wr.heap.size; exact hbw))).trans e2⟩ (fun hHeld => ?_)
            clear hK K hHeld
            refine wpT_last (fun K hK => ?_)
            go_simp
            refine hK.out _ _ ?_
            clear hK K
            have R1 := Lib.hid hr1
            have B1 := Lib.hid hxS
            have XL1 := Lib.hid hXl
            clear hr1 hxS hXl
            clear a2 r0 r1 r2 e0 e1 e2
            replace HBX := Lib.hid (HBX.out.trans (hbS.mono HBX.out.size))
            replace HAX := Lib.hid ((hbS.block _ (blt HAX.out)).trans HAX.out)
            replace ZX := Lib.hid ((hbS.block _ (blt ZX.out)).trans ZX.out)
            clear hbS a0 a1 af
            obtain ⟨c0', c1', c2', cf, cl⟩ := three HAX.out
            by_cases hc : c = 0
            · have hc0 := hc
              subst hc0
              have HY2 := Lib.hid (manyR_shp HYC.out)
              have hXA : w1.heap.size ≠ w.heap.size := by have := XL1.out; omega
              obtain ⟨u0, u1, u2, uf, ul⟩ := three B1.out
              obtain ⟨aoy, cy, hvy⟩ := R1.out.shape
              injection hvy with hvy
              simp only [Array.mk.injEq, List.cons.injEq, Value.int.injEq, Value.slice.injEq, true_and, and_true] at hvy
              obtain ⟨rfl, rfl, rfl, rfl, rfl⟩ := hvy
              have HXA := Lib.hid (set3_blk (a := .int .i64 y.kind) (b := .int .i64 y.num) (c := .slice ao1 y.sub.length c1) HAX.out)
              have HOF := Lib.hid (set3_off wS w.heap.size (.int .i64 y.kind) (.int .i64 y.num) (.slice ao1 y.sub.length c1))
              go_wp2_with fail
              go_roundw
              case rel =>
                refine ⟨j + 1, y, ao1, c1, by go_num, by omega, HY2.out, HSPL.out.trans (resL_ok hjl HYC.out), HXA.out, R1.out.keep (fun q hq => ⟨by have := hq.2.1; omega, by have := hq.2.1; omega, by rw [set3_size]; exact hq.2.2⟩) fun q hq => HOF.out q (by have := hq.2.1; omega), (HOF.out _ (by omega)).trans ZX.out, ((HBX.out.setCell (by simp only []; omega) _).setCell (by simp only []; omega) _).setCell (by simp only []; omega) _⟩
              case measure =>
                have q : (intOf (.int .i64 ((j : Int) + 1))).toNat = j + 1 := by show ((j : Int) + 1).toNat = _; omega
                have q2 : (intOf (.int .i64 (j : Int))).toNat = j := by show ((j : Int)).toNat = _; omega
                rw [q, q2]; omega
            · have hcb : (c == 0) = false := by simpa using hc
              have e : (rt, rc) = (tm0, c) := by rw [E.out, HSPL.out]; exact resL_er hjl HYC.out hc
              injection e with e1 e2
              subst e1; subst e2
              obtain ⟨Z0, Z1, Z2, Zf, Zl⟩ := three ZX.out
              go_wp2_with fail
              exact bodyPost_ret (v := .tuple #[.agg #[.int .i64 0, .int .i64 0, .slice none 0 0], .int .i64 rc]) (by simp [results, Try.results65, go_sem, Z0, Z1, Z2]) rfl ⟨_, _, _, _, _, rfl, ((HBX.out.setCell (by simp only []; omega) _).setCell (by simp only []; omega) _).setCell (by simp only []; omega) _, Rd.zero _ _⟩
          · skip
            have halz := alloc_bel wB (.cells #[.int .i64 0, .int .i64 0, .slice none 0 0] 24)
            have hbZ := hbB.trans (halz.mono hbB.size)
            have hxZ := heap_new wB (.cells #[.int .i64 0, .int .i64 0, .slice none 0 0] 24) _ rfl
            have hXl := hbB.size
            have hZs : wB.heap.size < (wB.alloc (.cells #[.int .i64 0, .int .i64 0, .slice none 0 0] 24)).heap.size := by rw [World.size_alloc]; omega
            refine wpR_do (fun K hK => ?_)
            go_simp
            refine hK.out _ _ ⟨((hbZ).cell (p := ⟨w.heap.size, 2, none⟩) (by first | exact al | (show _ < wr.heap.size; exact al))).trans a2, ((hbZ).cell (p := ⟨g, offg + 3, none⟩) (by first | exact hgl | (show _ < wr.heap.size; exact hgl))).trans r0, ((hbZ).cell (p := ⟨g, offg + 3 + 1, none⟩) (by first | exact hgl | (show _ < wr.heap.size; exact hgl))).trans r1, ((hbZ).cell (p := ⟨g, offg + 3 + 2, none⟩) (by first | exact hgl | (show _ < wr.heap.size; exact hgl))).trans r2, ((hbZ).cell (p := ⟨be, off + j * 3, none⟩) (by first | exact hbw | (show _ < wr.heap.size; exact hbw))).trans e0, ((hbZ).cell (p := ⟨be, off + j * 3 + 1, none⟩) (by first | exact hbw | (show _ < wr.heap.size; exact hbw))).trans e1, ((hbZ).cell (p := ⟨be, off + j * 3 + 2, none⟩) (by first | exact hbw | (show _ < wr.heap.size; exact hbw))).trans e2⟩ (fun hHeld => ?_)
            clear hK K hHeld
            refine wpR_rest ?_
            generalize hwZ : wB.alloc (.cells #[.int .i64 0, .int .i64 0, .slice none 0 0] 24) = wZ at halz hbZ hxZ hZs ⊢
            have hcon := refMany9_q HYC.out (by simp) (HTS.out.on halz) (HQB.out.on hbZ)
            have HCON := Lib.hid hcon
            clear hcon
            refine wpT_do (fun K hK => ?_)
            go_simp
            refine HCON.out.mono ?_
            rintro e w1 ⟨k1, n1, ao1, m1, c1, rfl, hb, hr⟩
            have hbC := hbZ.trans (hb.mono hbZ.size)
            refine hK.out _ _ ⟨((hbC).cell (p := ⟨w.heap.size, 2, none⟩) (by first | exact al | (show _ < wr.heap.size; exact al))).trans a2, ((hbC).cell (p := ⟨g, offg + 3, none⟩) (by first | exact hgl | (show _ < wr.heap.size; exact hgl))).trans r0, ((hbC).cell (p := ⟨g, offg + 3 + 1, none⟩) (by first | exact hgl | (show _ < wr.heap.size; exact hgl))).trans r1, ((hbC).cell (p := ⟨g, offg + 3 + 2, none⟩) (by first | exact hgl | (show _ < wr.heap.size; exact hgl))).trans r2, ((hbC).cell (p := ⟨be, off + j * 3, none⟩) (by first | exact hbw | (show _ < wr.heap.size; exact hbw))).trans e0, ((hbC).cell (p := ⟨be, off + j * 3 + 1, none⟩) (by first | exact hbw | (show _ < wr.heap.size; exact hbw))).trans e1, ((hbC).cell (p := ⟨be, off + j * 3 + 2, none⟩) (by first | exact hbw | (show _ < wr.heap.size; exact hbw))).trans e2⟩ (fun hHeld => ?_)
            clear hK K hHeld HCON
            have hx := (hb.block _ (blt hxZ)).trans hxZ
            have hbA := hbC
            have hrX := hr.keep (P' := fun q => q ≠ wB.heap.size ∧ wr.heap.size ≤ q ∧ q < w1.heap.size) (fun q hq => ⟨by have := hq.1; omega, by have := hq.1; omega, hq.2⟩) fun _ _ => rfl
            repeat (refine wpT_take (v := ?_) (by rfl) (fun w' hSw => ?_) ?_; rotate_left; (go_simp; with_reducible rfl); simp only [Act.put, List.setIfInBounds_toArray, List.set_cons_zero, List.set_cons_succ])
            clear hxZ hbZ halz hZs hbC hb hr hbB HTS hwZ hZB hBZ
            obtain ⟨x0, x1, x2, xf, xl⟩ := three hx
            have xf0 := xf 0
            have xf1 := xf 1
            have xf2 := xf 2
            obtain ⟨hbS, hxS, hrS⟩ := put3F (a := .int .i64 k1) (b := .int .i64 n1) (c := .slice ao1 m1 c1) hbA hx hXl
            have hr1 := hrS _ _ _ hrX
            refine wpT_do (fun K hK => ?_)
            go_simp
            clear x0 x1 x2 xf xf0 xf1 xf2 xl hrS hbA hx hrX
            generalize (((w1).setCell ⟨wB.heap.size, 0, none⟩ (.int .i64 k1)).setCell ⟨wB.heap.size, 1, none⟩ (.int .i64 n1)).setCell ⟨wB.heap.size, 2, none⟩ (.slice ao1 m1 c1) = wS at hbS hxS hr1 ⊢
            refine hK.out _ _ ⟨((hbS).cell (p := ⟨w.heap.size, 2, none⟩) (by first | exact al | (show _ < wr.heap.size; exact al))).trans a2, ((hbS).cell (p := ⟨g, offg + 3, none⟩) (by first | exact hgl | (show _ < wr.heap.size; exact hgl))).trans r0, ((hbS).cell (p := ⟨g, offg + 3 + 1, none⟩) (by first | exact hgl | (show _ < wr.heap.size; exact hgl))).trans r1, ((hbS).cell (p := ⟨g, offg + 3 + 2, none⟩) (by first | exact hgl | (show _ < wr.heap.size; exact hgl))).trans r2, ((hbS).cell (p := ⟨be, off + j * 3, none⟩) (by first | exact hbw | (show _ < wr.heap.size; exact hbw))).trans e0, ((hbS).cell (p := ⟨be, off + j * 3 + 1, none⟩) (by first | exact hbw | (show _ < wr.heap.size; exact hbw))).trans e1, ((hbS).cell (p := ⟨be, off + j * 3 + 2, none⟩) (by first | exact hbw | (show _ < wr.heap.size; exact hbw))).trans e2⟩ (fun hHeld => ?_)
            clear hK K hHeld
            refine wpT_last (fun K hK => ?_)
            go_simp
            refine hK.out _ _ ?_
            clear hK K
            have R1 := Lib.hid hr1
            have B1 := Lib.hid hxS
            have XL1 := Lib.hid hXl
            clear hr1 hxS hXl
            clear a2 r0 r1 r2 e0 e1 e2
            replace HBX := Lib.hid (HBX.out.trans (hbS.mono HBX.out.size))
            replace HAX := Lib.hid ((hbS.block _ (blt HAX.out)).trans HAX.out)
            replace ZX := Lib.hid ((hbS.block _ (blt ZX.out)).trans ZX.out)
            clear hbS a0 a1 af
            obtain ⟨c0', c1', c2', cf, cl⟩ := three HAX.out
            by_cases hc : c = 0
            · have hc0 := hc
              subst hc0
              have HY2 := Lib.hid (manyR_shp HYC.out)
              have hXA : wB.heap.size ≠ w.heap.size := by have := XL1.out; omega
              obtain ⟨u0, u1, u2, uf, ul⟩ := three B1.out
              obtain ⟨aoy, cy, hvy⟩ := R1.out.shape
              injection hvy with hvy
              simp only [Array.mk.injEq, List.cons.injEq, Value.int.injEq, Value.slice.injEq, true_and, and_true] at hvy
              obtain ⟨rfl, rfl, rfl, rfl, rfl⟩ := hvy
              have HXA := Lib.hid (set3_blk (a := .int .i64 y.kind) (b := .int .i64 y.num) (c := .slice ao1 y.sub.length c1) HAX.out)
              have HOF := Lib.hid (set3_off wS w.heap.size (.int .i64 y.kind) (.int .i64 y.num) (.slice ao1 y.sub.length c1))
              go_wp2_with fail
              go_roundw
              case rel =>
                refine ⟨j + 1, y, ao1, c1, by go_num, by omega, HY2.out, HSPL.out.trans (resL_ok hjl HYC.out), HXA.out, R1.out.keep (fun q hq => ⟨by have := hq.2.1; omega, by have := hq.2.1; omega, by rw [set3_size]; exact hq.2.2⟩) fun q hq => HOF.out q (by have := hq.2.1; omega), (HOF.out _ (by omega)).trans ZX.out, ((HBX.out.setCell (by simp only []; omega) _).setCell (by simp only []; omega) _).setCell (by simp only []; omega) _⟩
              case measure =>
                have q : (intOf (.int .i64 ((j : Int) + 1))).toNat = j + 1 := by show ((j : Int) + 1).toNat = _; omega
                have q2 : (intOf (.int .i64 (j : Int))).toNat = j := by show ((j : Int)).toNat = _; omega
                rw [q, q2]; omega
            · have hcb : (c == 0) = false := by simpa using hc
              have e : (rt, rc) = (tm0, c) := by rw [E.out, HSPL.out]; exact resL_er hjl HYC.out hc
              injection e with e1 e2
              subst e1; subst e2
              obtain ⟨Z0, Z1, Z2, Zf, Zl⟩ := three ZX.out
              go_wp2_with fail
              exact bodyPost_ret (v := .tuple #[.agg #[.int .i64 0, .int .i64 0, .slice none 0 0], .int .i64 rc]) (by simp [results, Try.results65, go_sem, Z0, Z1, Z2]) rfl ⟨_, _, _, _, _, rfl, ((HBX.out.setCell (by simp only []; omega) _).setCell (by simp only []; omega) _).setCell (by simp only []; omega) _, Rd.zero _ _⟩
        · skip
          have halz := alloc_bel wD (.cells #[.int .i64 0, .int .i64 0, .slice none 0 0] 24)
          have hbZ := hdr.trans (halz.mono hdr.size)
          have hxZ := heap_new wD (.cells #[.int .i64 0, .int .i64 0, .slice none 0 0] 24) _ rfl
          have hXl := hdr.size
          have hZs : wD.heap.size < (wD.alloc (.cells #[.int .i64 0, .int .i64 0, .slice none 0 0] 24)).heap.size := by rw [World.size_alloc]; omega
          refine wpR_do (fun K hK => ?_)
          go_simp
          refine hK.out _ _ ⟨((hbZ).cell (p := ⟨w.heap.size, 2, none⟩) (by first | exact al | (show _ < wr.heap.size; exact al))).trans a2, ((hbZ).cell (p := ⟨g, offg + 3, none⟩) (by first | exact hgl | (show _ < wr.heap.size; exact hgl))).trans r0, ((hbZ).cell (p := ⟨g, offg + 3 + 1, none⟩) (by first | exact hgl | (show _ < wr.heap.size; exact hgl))).trans r1, ((hbZ).cell (p := ⟨g, offg + 3 + 2, none⟩) (by first | exact hgl | (show _ < wr.heap.size; exact hgl))).trans r2, ((hbZ).cell (p := ⟨be, off + j * 3, none⟩) (by first | exact hbw | (show _ < wr.heap.size; exact hbw))).trans e0, ((hbZ).cell (p := ⟨be, off + j * 3 + 1, none⟩) (by first | exact hbw | (show _ < wr.heap.size; exact hbw))).trans e1, ((hbZ).cell (p := ⟨be, off + j * 3 + 2, none⟩) (by first | exact hbw | (show _ < wr.heap.size; exact hbw))).trans e2⟩ (fun hHeld => ?_)
          clear hK K hHeld
          refine wpR_rest ?_
          generalize hwZ : wD.alloc (.cells #[.int .i64 0, .int .i64 0, .slice none 0 0] 24) = wZ at halz hbZ hxZ hZs ⊢
          have hal1 := alloc_bel wZ (.cells #[.int .i64 k0, .int .i64 n0, .slice ao0 m0 c0] 24)
          have hbB := hbZ.trans (hal1.mono hbZ.size)
          have hTs := one_ts (heap_new wZ (.cells #[.int .i64 k0, .int .i64 n0, .slice ao0 m0 c0] 24) _ rfl) ((HRX.out.on hbZ).on hal1)
          refine wpT_do (fun K hK => ?_)
          go_simp
          have HTS := Lib.hid hTs
          have hZB := hal1.block
          have hBZ := hal1.size
          clear hal1 hTs
          generalize hwB : wZ.alloc (.cells #[.int .i64 k0, .int .i64 n0, .slice ao0 m0 c0] 24) = wB at hbB HTS hZB hBZ ⊢
          refine hK.out _ _ ⟨((hbB).cell (p := ⟨w.heap.size, 2, none⟩) (by first | exact al | (show _ < wr.heap.size; exact al))).trans a2, ((hbB).cell (p := ⟨g, offg + 3, none⟩) (by first | exact hgl | (show _ < wr.heap.size; exact hgl))).trans r0, ((hbB).cell (p := ⟨g, offg + 3 + 1, none⟩) (by first | exact hgl | (show _ < wr.heap.size; exact hgl))).trans r1, ((hbB).cell (p := ⟨g, offg + 3 + 2, none⟩) (by first | exact hgl | (show _ < wr.heap.size; exact hgl))).trans r2, ((hbB).cell (p := ⟨be, off + j * 3, none⟩) (by first | exact hbw | (show _ < wr.heap.size; exact hbw))).trans e0, ((hbB).cell (p := ⟨be, off + j * 3 + 1, none⟩) (by first | exact hbw | (show _ < wr.heap.size; exact hbw))).trans e1, ((hbB).cell (p := ⟨be, off + j * 3 + 2, none⟩) (by first | exact hbw | (show _ < wr.heap.size; exact hbw))).trans e2⟩ (fun hHeld => ?_)
          clear hK K hHeld hwB
          have hcon := refMany9_q HYC.out (by simp) (HTS.out) (HQB.out.on hbB)
          have HCON := Lib.hid hcon
          clear hcon
          refine wpT_do (fun K hK => ?_)
          go_simp
          refine HCON.out.mono ?_
          rintro e w1 ⟨k1, n1, ao1, m1, c1, rfl, hb, hr⟩
          have hbC := hbB.trans (hb.mono hbB.size)
          refine hK.out _ _ ⟨((hbC).cell (p := ⟨w.heap.size, 2, none⟩) (by first | exact al | (show _ < wr.heap.size; exact al))).trans a2, ((hbC).cell (p := ⟨g, offg + 3, none⟩) (by first | exact hgl | (show _ < wr.heap.size; exact hgl))).trans r0, ((hbC).cell (p := ⟨g, offg + 3 + 1, none⟩) (by first | exact hgl | (show _ < wr.heap.size; exact hgl))).trans r1, ((hbC).cell (p := ⟨g, offg + 3 + 2, none⟩) (by first | exact hgl | (show _ < wr.heap.size; exact hgl))).trans r2, ((hbC).cell (p := ⟨be, off + j * 3, none⟩) (by first | exact hbw | (show _ < wr.heap.size; exact hbw))).trans e0, ((hbC).cell (p := ⟨be, off + j * 3 + 1, none⟩) (by first | exact hbw | (show _ < wr.heap.size; exact hbw))).trans e1, ((hbC).cell (p := ⟨be, off + j * 3 + 2, none⟩) (by first | exact hbw | (show _ < wr.heap.size; exact hbw))).trans e2⟩ (fun hHeld => ?_)
          clear hK K hHeld HCON
          have hx := (hb.block _ (by omega)).trans ((hZB _ (blt hxZ)).trans hxZ)
          have hbA := hbC
          have hrX := hr.keep (P' := fun q => q ≠ wD.heap.size ∧ wr.heap.size ≤ q ∧ q < w1.heap.size) (fun q hq => ⟨by have := hq.1; omega, by have := hq.1; omega, hq.2⟩) fun _ _ => rfl
          repeat (refine wpT_take (v := ?_) (by rfl) (fun w' hSw => ?_) ?_; rotate_left; (go_simp; with_reducible rfl); simp only [Act.put, List.setIfInBounds_toArray, List.set_cons_zero, List.set_cons_succ])
          clear hxZ hbZ halz hZs hbC hb hr hbB HTS hwZ hZB hBZ
          obtain ⟨x0, x1, x2, xf, xl⟩ := three hx
          have xf0 := xf 0
          have xf1 := xf 1
          have xf2 := xf 2
          obtain ⟨hbS, hxS, hrS⟩ := put3F (a := .int .i64 k1) (b := .int .i64 n1) (c := .slice ao1 m1 c1) hbA hx hXl
          have hr1 := hrS _ _ _ hrX
          refine wpT_do (fun K hK => ?_)
          go_simp
          clear x0 x1 x2 xf xf0 xf1 xf2 xl hrS hbA hx hrX
          generalize (((w1).setCell ⟨wD.heap.size, 0, none⟩ (.int .i64 k1)).setCell ⟨wD.heap.size, 1, none⟩ (.int .i64 n1)).setCell ⟨wD.heap.size, 2, none⟩ (.slice ao1 m1 c1) = wS at hbS hxS hr1 ⊢
          refine hK.out _ _ ⟨((hbS).cell (p := ⟨w.heap.size, 2, none⟩) (by first | exact al | (show _ < wr.heap.size; exact al))).trans a2, ((hbS).cell (p := ⟨g, offg + 3, none⟩) (by first | exact hgl | (show _ < wr.heap.size; exact hgl))).trans r0, ((hbS).cell (p := ⟨g, offg + 3 + 1, none⟩) (by first | exact hgl | (show _ < wr.heap.size; exact hgl))).trans r1, ((hbS).cell (p := ⟨g, offg + 3 + 2, none⟩) (by first | exact hgl | (show _ < wr.heap.size; exact hgl))).trans r2, ((hbS).cell (p := ⟨be, off + j * 3, none⟩) (by first | exact hbw | (show _ < wr.heap.size; exact hbw))).trans e0, ((hbS).cell (p := ⟨be, off + j * 3 + 1, none⟩) (by first | exact hbw | (show _ < wr.heap.size; exact hbw))).trans e1, ((hbS).cell (p := ⟨be, off + j * 3 + 2, none⟩) (by first | exact hbw | (show _ < wr.heap.size; exact hbw))).trans e2⟩ (fun hHeld => ?_)
          clear hK K hHeld
          refine wpT_last (fun K hK => ?_)
          go_simp
          refine hK.out _ _ ?_
          clear hK K
          have R1 := Lib.hid hr1
          have B1 := Lib.hid hxS
          have XL1 := Lib.hid hXl
          clear hr1 hxS hXl
          clear a2 r0 r1 r2 e0 e1 e2
          replace HBX := Lib.hid (HBX.out.trans (hbS.mono HBX.out.size))
          replace HAX := Lib.hid ((hbS.block _ (blt HAX.out)).trans HAX.out)
          replace ZX := Lib.hid ((hbS.block _ (blt ZX.out)).trans ZX.out)
          clear hbS a0 a1 af
          obtain ⟨c0', c1', c2', cf, cl⟩ := three HAX.out
          by_cases hc : c = 0
          · have hc0 := hc
            subst hc0
            have HY2 := Lib.hid (manyR_shp HYC.out)
            have hXA : wD.heap.size ≠ w.heap.size := by have := XL1.out; omega
            obtain ⟨u0, u1, u2, uf, ul⟩ := three B1.out
            obtain ⟨aoy, cy, hvy⟩ := R1.out.shape
            injection hvy with hvy
            simp only [Array.mk.injEq, List.cons.injEq, Value.int.injEq, Value.slice.injEq, true_and, and_true] at hvy
            obtain ⟨rfl, rfl, rfl, rfl, rfl⟩ := hvy
            have HXA := Lib.hid (set3_blk (a := .int .i64 y.kind) (b := .int .i64 y.num) (c := .slice ao1 y.sub.length c1) HAX.out)
            have HOF := Lib.hid (set3_off wS w.heap.size (.int .i64 y.kind) (.int .i64 y.num) (.slice ao1 y.sub.length c1))
            go_wp2_with fail
            go_roundw
            case rel =>
              refine ⟨j + 1, y, ao1, c1, by go_num, by omega, HY2.out, HSPL.out.trans (resL_ok hjl HYC.out), HXA.out, R1.out.keep (fun q hq => ⟨by have := hq.2.1; omega, by have := hq.2.1; omega, by rw [set3_size]; exact hq.2.2⟩) fun q hq => HOF.out q (by have := hq.2.1; omega), (HOF.out _ (by omega)).trans ZX.out, ((HBX.out.setCell (by simp only []; omega) _).setCell (by simp only []; omega) _).setCell (by simp only []; omega) _⟩
            case measure =>
              have q : (intOf (.int .i64 ((j : Int) + 1))).toNat = j + 1 := by show ((j : Int) + 1).toNat = _; omega
              have q2 : (intOf (.int .i64 (j : Int))).toNat = j := by show ((j : Int)).toNat = _; omega
              rw [q, q2]; omega
          · have hcb : (c == 0) = false := by simpa using hc
            have e : (rt, rc) = (tm0, c) := by rw [E.out, HSPL.out]; exact resL_er hjl HYC.out hc
            injection e with e1 e2
            subst e1; subst e2
            obtain ⟨Z0, Z1, Z2, Zf, Zl⟩ := three ZX.out
            go_wp2_with fail
            exact bodyPost_ret (v := .tuple #[.agg #[.int .i64 0, .int .i64 0, .slice none 0 0], .int .i64 rc]) (by simp [results, Try.results65, go_sem, Z0, Z1, Z2]) rfl ⟨_, _, _, _, _, rfl, ((HBX.out.setCell (by simp only []; omega) _).setCell (by simp only []; omega) _).setCell (by simp only []; omega) _, Rd.zero _ _⟩
      · have e : (rt, rc) = (tm0, 6) := by rw [E.out, HSPL.out]; exact resL_no hjl hk
        injection e with e1 e2
        subst e1; subst e2
        obtain ⟨Z0, Z1, Z2, Zf, Zl⟩ := three ZX.out
        go_wp2_with fail
        exact bodyPost_ret (v := .tuple #[.agg #[.int .i64 0, .int .i64 0, .slice none 0 0], .int .i64 6]) (by simp [results, Try.results65, go_sem, Z0, Z1, Z2]) rfl ⟨_, _, _, _, _, rfl, ((HB.out.setCell (by simp only []; omega) _).setCell (by simp only []; omega) _).setCell (by simp only []; omega) _, Rd.zero _ _⟩
    · have e : (rt, rc) = (cur, 0) := by
        rw [E.out, HSPL.out, List.drop_eq_nil_of_le (by omega)]; rfl
      injection e with e1 e2
      subst e1; subst e2
      obtain ⟨Z0, Z1, Z2, Zf, Zl⟩ := three ZX.out
      go_wp2_with fail
      exact bodyPost_ret (v := .tuple #[.agg #[.int .i64 rt.kind, .int .i64 rt.num, .slice aoc rt.sub.length capc], .int .i64 0]) (by simp [results, Try.results65, go_sem, Z0, Z1, Z2]) rfl ⟨_, _, _, _, _, rfl, ((HB.out.setCell (by simp only []; omega) _).setCell (by simp only []; omega) _).setCell (by simp only []; omega) _, HCX.out.keep (fun q hq => by rw [set3_size]; exact hq.2.2) fun q hq => set3_off _ _ _ _ _ q hq.2.1⟩
end Go.Proofs.Ythjlfjaciigfiaa
