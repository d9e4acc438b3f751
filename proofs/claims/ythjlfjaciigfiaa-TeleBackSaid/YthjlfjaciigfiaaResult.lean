/-
  tele.Result: a contract of the walk.
-/
import Derived.Test.YthjlfjaciigfiaaAwake9
import Derived.Test.YthjlfjaciigfiaaOrdT
import Derived.Test.YthjlfjaciigfiaaPureSp
namespace Go.Proofs.Ythjlfjaciigfiaa
open Go.RowKit
set_option linter.unusedVariables false
set_option linter.unusedSimpArgs false

/-- what a type of functions is, with arguments -/
def resL : List Tm → Tm → Tm × Int
  | [], t => (t, 0)
  | a :: l, t => if t.kind = 3 then (if (manyR (t.sub.getD 1 tm0) [a]).2 = 0 then resL l (manyR (t.sub.getD 1 tm0) [a]).1 else (tm0, (manyR (t.sub.getD 1 tm0) [a]).2)) else (tm0, 6)
def resultR (t : Tm) (l : List Tm) : Tm × Int := if Shp t = true then resL l t else (tm0, 5)
theorem resL_no {l : List Tm} {t : Tm} {j : Nat} (hj : j < l.length) (h : t.kind ≠ 3) : resL (l.drop j) t = (tm0, 6) := by
  rw [List.drop_eq_getElem_cons hj, resL, if_neg h]
theorem resL_er {l : List Tm} {n : Int} {a b x : Tm} {c : Int} {j : Nat} (hj : j < l.length) (h : manyR b [l[j]] = (x, c)) (hc : c ≠ 0) : resL (l.drop j) (.node 3 n [a, b]) = (tm0, c) := by
  rw [List.drop_eq_getElem_cons hj, resL]
  simp [Tm.kind, Tm.sub, h, hc]
theorem resL_ok {l : List Tm} {n : Int} {a b x : Tm} {j : Nat} (hj : j < l.length) (h : manyR b [l[j]] = (x, 0)) : resL (l.drop j) (.node 3 n [a, b]) = resL (l.drop (j + 1)) x := by
  rw [List.drop_eq_getElem_cons hj, resL]
  simp [Tm.kind, Tm.sub, h]
theorem manyR_shp {t x : Tm} {l : List Tm} (h : manyR t l = (x, 0)) : Shp x = true := by
  unfold manyR subR at h
  split at h
  · split at h
    · next hs => injection h with h1 h2; subst h1; exact hs
    · injection h with h1 h2; cases h2
  · injection h with h1 h2; cases h2
theorem put3F {W w1 : World} {X : Nat} {z0 z1 z2 a b c : Value} {ty : TypeId} (hb : Below W.heap.size W w1) (hx : w1.heap[X]? = some (.cells #[z0, z1, z2] ty)) (hX : W.heap.size ≤ X) :
    Below W.heap.size W (((w1.setCell ⟨X, 0, none⟩ a).setCell ⟨X, 1, none⟩ b).setCell ⟨X, 2, none⟩ c) ∧ (((w1.setCell ⟨X, 0, none⟩ a).setCell ⟨X, 1, none⟩ b).setCell ⟨X, 2, none⟩ c).heap[X]? = some (.cells #[a, b, c] ty) ∧
      ∀ (v : Value) (t : Tm) (G : Nat → Prop), Rd (fun q => q ≠ X ∧ G q ∧ q < w1.heap.size) w1 v t → Rd (fun q => q ≠ X ∧ G q ∧ q < (((w1.setCell ⟨X, 0, none⟩ a).setCell ⟨X, 1, none⟩ b).setCell ⟨X, 2, none⟩ c).heap.size) (((w1.setCell ⟨X, 0, none⟩ a).setCell ⟨X, 1, none⟩ b).setCell ⟨X, 2, none⟩ c) v t :=
  ⟨((hb.setCell (by simpa using hX) _).setCell (by simpa using hX) _).setCell (by simpa using hX) _, set3_blk hx, fun v t G h => h.keep (fun q hq => ⟨hq.1, hq.2.1, by rw [set3_size]; exact hq.2.2⟩) fun q hq => set3_off _ _ _ _ _ q hq.1⟩

set_option maxRecDepth 100000 in
set_option maxHeartbeats 4000000 in
theorem Result_w (v : Value) (t : Tm) (vl : Value) (l : List Tm) (w : World) (hr : Rd (· < w.heap.size) w v t) (hl : Ts (· < w.heap.size) w vl l) (hlen : l.length ≤ 1000000) :
    Calls Try.prog 64 #[v, vl] w (AnsTE w (resultR t l).1 (resultR t l).2) := by
  obtain ⟨rt, rc, hres⟩ : ∃ rt rc, resultR t l = (rt, rc) := ⟨_, _, rfl⟩
  rw [hres]
  have RES := Lib.hid hres
  clear hres
  obtain ⟨aol, capl, rfl, hcl, hcl2, hel⟩ := hl.elem
  have HEL := Lib.hid hel
  clear hl hel
  obtain ⟨ao, cap, rfl⟩ := hr.shape
  obtain ⟨W, hW⟩ : ∃ W, W = (w.alloc (.cells #[.int .i64 t.kind, .int .i64 t.num, .slice ao t.sub.length cap] 24)).alloc (.cells #[.int .i64 0, .int .i64 0, .slice none 0 0] 24) := ⟨_, rfl⟩
  have hb0 : Below w.heap.size w W := by rw [hW]; exact (((Below.refl _ _).alloc (Nat.le_refl _) _).alloc (by simp only [World.size_alloc]; omega) _)
  have hsW : W.heap.size = w.heap.size + 2 := by rw [hW]; simp only [World.size_alloc]
  have Q : W.heap[w.heap.size]? = some (.cells #[.int .i64 t.kind, .int .i64 t.num, .slice ao t.sub.length cap] 24) := by rw [hW]; exact (Below.heap_alloc _ _ _ (by simp only [World.size_alloc]; omega)).trans (heap_new _ _ _ (by first | rfl | simp only [World.size_alloc]))
  replace Q := Lib.hid Q
  have Z : W.heap[w.heap.size + 1]? = some (.cells #[.int .i64 0, .int .i64 0, .slice none 0 0] 24) := by rw [hW]; exact heap_new _ _ _ (by first | rfl | simp only [World.size_alloc])
  replace Z := Lib.hid Z
  have T := Lib.hid (hr.on hb0)
  have FW := Lib.hid (Below.refl W.heap.size W)
  have FB0 := Lib.hid hb0
  have SW := Lib.hid hsW
  clear hb0 hsW
  have HW := Lib.hid hW
  clear hW hr
  obtain ⟨y, hy⟩ : ∃ y, y = Shp t := ⟨_, rfl⟩
  have HY := Lib.hid hy
  have hs := Shaped_r T.out
  rw [← hy] at hs
  have HS := Lib.hid hs
  clear hy hs
  obtain ⟨Q0, Q1, Q2, Qf, -⟩ := three Q.out
  go_enter Try.func64, Try.ntmps64
  go_wp2_with fail
  rw [← HW.out]
  clear Q0 Q1 Q2 Qf
  refine HS.out.mono ?_
  rintro e w1 ⟨rfl, hb1⟩
  replace FB0 := Lib.hid (FB0.out.trans (hb1.mono FB0.out.size))
  replace Q := Lib.hid ((hb1.block _ (blt Q.out)).trans Q.out)
  replace Z := Lib.hid ((hb1.block _ (blt Z.out)).trans Z.out)
  replace T := Lib.hid (T.out.on hb1)
  replace SW := Lib.hid (show w.heap.size + 2 ≤ w1.heap.size by have := SW.out; have := hb1.size; omega)
  clear hb1 HS HW FW
  cases y
  · have e : (rt, rc) = (tm0, 5) := by rw [← RES.out]; unfold resultR; rw [if_neg (by rw [← HY.out]; simp)]
    injection e with e1 e2
    subst e1; subst e2
    obtain ⟨Z0, Z1, Z2, Zf, Zl⟩ := three Z.out
    go_wp2_with fail
    exact bodyPost_ret (v := .tuple #[.agg #[.int .i64 0, .int .i64 0, .slice none 0 0], .int .i64 5]) (by simp [results, Try.results64, go_sem, Z0, Z1, Z2]) rfl ⟨_, _, _, _, _, rfl, ((FB0.out.setCell (by simp only []; omega) _).setCell (by simp only []; omega) _).setCell (by simp only []; omega) _, Rd.zero _ _⟩
  have e : (rt, rc) = resL l t := by rw [← RES.out]; unfold resultR; rw [if_pos HY.out.symm]
  have E := Lib.hid e
  have hcopy := Copy_w _ t w1 T.out
  rw [show copyR t = t by unfold copyR; rw [if_pos HY.out.symm]] at hcopy
  have HCOPY := Lib.hid hcopy
  have HSH := Lib.hid HY.out.symm
  clear hcopy e RES HY
  obtain ⟨Q0, Q1, Q2, Qf, -⟩ := three Q.out
  go_wp2_with fail
  clear Q0 Q1 Q2 Qf
  refine HCOPY.out.mono ?_
  rintro e w2 ⟨k1, n1, ao1, m1, c1, rfl, hb2, hr2⟩
  obtain ⟨ao1', c1', hv⟩ := hr2.shape
  injection hv with hv
  simp only [Array.mk.injEq, List.cons.injEq, Value.int.injEq, Value.slice.injEq, true_and, and_true] at hv
  obtain ⟨rfl, rfl, rfl, rfl, rfl⟩ := hv
  have hsz2 : w.heap.size + 2 ≤ w2.heap.size := by have := SW.out; have := hb2.size; omega
  have FB2 := Lib.hid (FB0.out.trans (hb2.mono FB0.out.size))
  have hr3 : Rd (fun q => w.heap.size + 2 ≤ q ∧ q ≠ w2.heap.size ∧ q < w2.heap.size) w2 _ t := hr2.keep (fun q hq => ⟨by have := SW.out; have := hq.1; omega, Nat.ne_of_lt hq.2, hq.2⟩) fun _ _ => rfl
  have R2 := Lib.hid hr3
  replace Z := Lib.hid ((hb2.block _ (blt Z.out)).trans Z.out)
  clear hb2 hr2 hr3 FB0 T Q HCOPY
  go_wp2_with fail
  have hbA := alloc_bel w2 (.cells #[.int .i64 t.kind, .int .i64 t.num, .slice ao1 t.sub.length c1] 24)
  have HBA := Lib.hid hbA
  clear hbA
  generalize hA : w2.heap.size = A at hsz2 R2 ⊢
  go_loopw [19] (fun i wr => ∃ (j : Nat) (cur : Tm) (aoc : Option Addr) (capc : Nat), i = .int .i64 j ∧ j ≤ l.length ∧ Shp cur = true ∧ resL l t = resL (l.drop j) cur ∧ wr.heap[A]? = some (.cells #[.int .i64 cur.kind, .int .i64 cur.num, .slice aoc cur.sub.length capc] 24) ∧
      Rd (fun q => w.heap.size + 2 ≤ q ∧ q ≠ A ∧ q < wr.heap.size) wr (.agg #[.int .i64 cur.kind, .int .i64 cur.num, .slice aoc cur.sub.length capc]) cur ∧
      wr.heap[w.heap.size + 1]? = some (.cells #[.int .i64 0, .int .i64 0, .slice none 0 0] 24) ∧ Below w.heap.size w wr) (fun i _ => l.length - (intOf i).toNat)
  case atStart =>
    refine ⟨0, t, ao1, c1, rfl, Nat.zero_le _, HSH.out, rfl, heap_new _ _ _ hA.symm, R2.out.keep (fun q hq => ⟨hq.1, hq.2.1, by have := HBA.out.size; have := hq.2.2; omega⟩) fun q hq => HBA.out.block q (by have := hq.2.2; omega), (HBA.out.block _ (blt Z.out)).trans Z.out, FB2.out.trans (HBA.out.mono FB2.out.size)⟩
  case round =>
    obtain ⟨j, cur, aoc, capc, rfl, hj, hsc, hspl, hA2, hcur, hz, hb⟩ := hrel
    have HAB := Lib.hid hA2
    have HCUR := Lib.hid hcur
    have Z' := Lib.hid hz
    have HB := Lib.hid hb
    have HSPL := Lib.hid hspl
    have HSC := Lib.hid hsc
    clear hA2 hcur hz hb hspl hsc HBA R2 Z FB2 hA HSH
    have hj0 : (0 : Int) ≤ (j : Int) := Int.natCast_nonneg _
    by_cases hjl : j < l.length
    · have hji : (j : Int) < (l.length : Int) := by omega
      obtain ⟨be, off, k0, n0, ao0, m0, c0, rfl, hPb, h0, h1, h2, hrd⟩ := HEL.out j hjl
      have e0 := (HB.out.cell (p := ⟨be, off + j * 3, none⟩) hPb).trans h0
      have e1 := (HB.out.cell (p := ⟨be, off + j * 3 + 1, none⟩) hPb).trans h1
      have e2 := (HB.out.cell (p := ⟨be, off + j * 3 + 2, none⟩) hPb).trans h2
      have hbw : be < wr.heap.size := Nat.lt_of_lt_of_le hPb HB.out.size
      have HRD := Lib.hid (hrd.keep (P' := (· < wr.heap.size)) (w' := wr) (fun q hq => Nat.lt_of_lt_of_le hq HB.out.size) fun q hq => HB.out.block q hq)
      clear h0 h1 h2 hrd
      obtain ⟨Wx, hWx⟩ : ∃ Wx, Wx = wr.alloc (.cells #[.int .i64 k0, .int .i64 n0, .slice ao0 m0 c0] 24) := ⟨_, rfl⟩
      have hbx : Below wr.heap.size wr Wx := by rw [hWx]; exact alloc_bel _ _
      have X := Lib.hid (show Wx.heap[wr.heap.size]? = some (.cells #[.int .i64 k0, .int .i64 n0, .slice ao0 m0 c0] 24) by rw [hWx]; exact heap_new _ _ _ rfl)
      have HAX := Lib.hid ((hbx.block _ (blt HAB.out)).trans HAB.out)
      have ZX := Lib.hid ((hbx.block _ (blt Z'.out)).trans Z'.out)
      have HBX := Lib.hid (HB.out.trans (hbx.mono HB.out.size))
      have HRX := Lib.hid (HRD.out.on hbx)
      have HCX := Lib.hid (HCUR.out.keep (P' := fun q => w.heap.size + 2 ≤ q ∧ q ≠ A ∧ q < wr.heap.size) (w' := Wx) (fun q hq => hq) fun q hq => hbx.block q hq.2.2)
      have hszx := hbx.size
      have HWX := Lib.hid hWx
      obtain ⟨a0, a1, a2, af, al⟩ := three HAX.out
      have a0' := a0
      rw [hWx] at a0'
      clear hWx hbx
      by_cases hk : cur.kind = 3
      · obtain ⟨k, x, ls⟩ := cur
        have hk3 : k = 3 := hk
        subst hk3
        obtain ⟨a, b, rfl, ga, gb⟩ := gd_pi ((Shp_iff _).mp HSC.out).2.2
        obtain ⟨g, offg, cap', ka, na, aoa, ma, ca, kb, nb, aob, mb, cb, hsl, h2, hP, q0, q1, q2, qa, r0, r1, r2, qb⟩ := pi_cells HCX.out
        simp only [Tm.kind, Tm.num, Tm.sub, List.length_cons, List.length_nil, Nat.zero_add, Nat.reduceAdd, Value.slice.injEq, true_and] at hsl a0 a1 a2 a0' HAX HAB
        obtain ⟨rfl, rfl⟩ := hsl
        have HQB := Lib.hid (qb.keep (P' := (· < Wx.heap.size)) (w' := Wx) (fun q hq => Nat.lt_of_lt_of_le hq.2.2 hszx) fun _ _ => rfl)
        obtain ⟨y, c, hyc⟩ : ∃ y c, manyR b [l[j]] = (y, c) := ⟨_, _, rfl⟩
        have HYC := Lib.hid hyc
        have hgl : g < Wx.heap.size := by omega
        clear qa qb hyc q0 q1 q2 hk
        go_wp2_with fail
        rw [← HWX.out]
        clear e0 e1 e2 a0' hbw HWX HCUR HCX HAB Z' HB HRD
        obtain ⟨x0, x1, x2, -, xl⟩ := three X.out
        have hdr : Below Wx.heap.size Wx Wx.drew := below_drewN (Below.refl _ _) 1
        refine wp_region_tree (.one 0 true (.one 1 true (.one 2 true (.one 3 true (.one 4 true (.two 5 (.rest [(6, true), (7, true), (8, true), (9, false), (10, false), (11, false)]) 9 (.rest [(5, false), (6, true), (7, true), (8, true), (10, false), (11, false)]))))))) (fun w' => w'.cell? ⟨A, 2, none⟩ = some (.slice (some ⟨g, offg, none⟩) 2 capc) ∧ w'.cell? ⟨g, offg + 3, none⟩ = some (.int .i64 kb) ∧ w'.cell? ⟨g, offg + 3 + 1, none⟩ = some (.int .i64 nb) ∧ w'.cell? ⟨g, offg + 3 + 2, none⟩ = some (.slice aob mb cb) ∧ w'.cell? ⟨wr.heap.size, 0, none⟩ = some (.int .i64 k0) ∧ w'.cell? ⟨wr.heap.size, 1, none⟩ = some (.int .i64 n0) ∧ w'.cell? ⟨wr.heap.size, 2, none⟩ = some (.slice ao0 m0 c0)) (by kernel_rfl) (by kernel_rfl) ⟨a2, r0, r1, r2, x0, x1, x2⟩ (fun hHeld => ?_)
        simp only [pickR, pickT, opIn, List.getElem?_cons_zero, List.getElem?_cons_succ, Option.getD_some]
        repeat (refine wpR_take (v := ?_) (by rfl) (fun w' hSw => ?_) ?_; rotate_left; (go_simp; with_reducible rfl); simp only [Act.put, List.setIfInBounds_toArray, List.set_cons_zero, List.set_cons_succ])
        refine wpR_two ?_ ?_
        · skip
          have hcon := One_q HYC.out (HRX.out.on hdr) (HQB.out.on hdr)
          have HCON := Lib.hid hcon
          clear hcon
          refine wpR_do (fun K hK => ?_)
          go_simp
          refine HCON.out.mono ?_
          rintro e w1 ⟨k1, n1, ao1, m1, c1, rfl, hb, hr⟩
          have hb' := hdr.trans (hb.mono hdr.size)
          refine hK.out _ _ ⟨((hb').cell (p := ⟨A, 2, none⟩) (by first | exact al | (show _ < Wx.heap.size; exact al))).trans a2, ((hb').cell (p := ⟨g, offg + 3, none⟩) (by first | exact hgl | (show _ < Wx.heap.size; exact hgl))).trans r0, ((hb').cell (p := ⟨g, offg + 3 + 1, none⟩) (by first | exact hgl | (show _ < Wx.heap.size; exact hgl))).trans r1, ((hb').cell (p := ⟨g, offg + 3 + 2, none⟩) (by first | exact hgl | (show _ < Wx.heap.size; exact hgl))).trans r2, ((hb').cell (p := ⟨wr.heap.size, 0, none⟩) (by first | exact xl | (show _ < Wx.heap.size; exact xl))).trans x0, ((hb').cell (p := ⟨wr.heap.size, 1, none⟩) (by first | exact xl | (show _ < Wx.heap.size; exact xl))).trans x1, ((hb').cell (p := ⟨wr.heap.size, 2, none⟩) (by first | exact xl | (show _ < Wx.heap.size; exact xl))).trans x2⟩ (fun hHeld => ?_)
          clear hK K
          refine wpR_rest ?_
          repeat (refine wpT_take (v := ?_) (by rfl) (fun w' hSw => ?_) ?_; rotate_left; (go_simp; with_reducible rfl); simp only [Act.put, List.setIfInBounds_toArray, List.set_cons_zero, List.set_cons_succ])
          have hal := alloc_bel w1 (.cells #[.int .i64 0, .int .i64 0, .slice none 0 0] 24)
          have hbA := hb'.trans (hal.mono hb'.size)
          have hx := heap_new w1 (.cells #[.int .i64 0, .int .i64 0, .slice none 0 0] 24) _ rfl
          have hXl : Wx.heap.size ≤ w1.heap.size := hb'.size
          have hrX := hr.keep (w' := w1.alloc (.cells #[.int .i64 0, .int .i64 0, .slice none 0 0] 24)) (P' := fun q => q ≠ w1.heap.size ∧ Wx.heap.size ≤ q ∧ q < (w1.alloc (.cells #[.int .i64 0, .int .i64 0, .slice none 0 0] 24)).heap.size) (fun q hq => ⟨Nat.ne_of_lt hq.2, hq.1, Nat.lt_of_lt_of_le hq.2 hal.size⟩) fun q hq => hal.block q hq.2
          refine wpT_do (fun K hK => ?_)
          go_simp
          clear hal hb' hb hr HCON
          generalize w1.alloc (.cells #[.int .i64 0, .int .i64 0, .slice none 0 0] 24) = wA at hbA hx hrX ⊢
          refine hK.out _ _ ⟨((hbA).cell (p := ⟨A, 2, none⟩) (by first | exact al | (show _ < Wx.heap.size; exact al))).trans a2, ((hbA).cell (p := ⟨g, offg + 3, none⟩) (by first | exact hgl | (show _ < Wx.heap.size; exact hgl))).trans r0, ((hbA).cell (p := ⟨g, offg + 3 + 1, none⟩) (by first | exact hgl | (show _ < Wx.heap.size; exact hgl))).trans r1, ((hbA).cell (p := ⟨g, offg + 3 + 2, none⟩) (by first | exact hgl | (show _ < Wx.heap.size; exact hgl))).trans r2, ((hbA).cell (p := ⟨wr.heap.size, 0, none⟩) (by first | exact xl | (show _ < Wx.heap.size; exact xl))).trans x0, ((hbA).cell (p := ⟨wr.heap.size, 1, none⟩) (by first | exact xl | (show _ < Wx.heap.size; exact xl))).trans x1, ((hbA).cell (p := ⟨wr.heap.size, 2, none⟩) (by first | exact xl | (show _ < Wx.heap.size; exact xl))).trans x2⟩ (fun hHeld => ?_)
          clear hK K hHeld
          obtain ⟨x0, x1, x2, xf, xl⟩ := three hx
          have xf0 := xf 0
          have xf1 := xf 1
          have xf2 := xf 2
          obtain ⟨hbS, hxS, hrS⟩ := put3F (a := .int .i64 k1) (b := .int .i64 n1) (c := .slice ao1 m1 c1) hbA hx hXl
          have hr1 := hrS _ _ _ hrX
          refine wpT_do (fun K hK => ?_)
          go_simp
          clear x0 x1 x2 xf xf0 xf1 xf2 xl hrS hbA hx hrX
          generalize (((wA).setCell ⟨w1.heap.size, 0, none⟩ (.int .i64 k1)).setCell ⟨w1.heap.size, 1, none⟩ (.int .i64 n1)).setCell ⟨w1.heap.size, 2, none⟩ (.slice ao1 m1 c1) = wS at hbS hxS hr1 ⊢
          refine hK.out _ _ ⟨((hbS).cell (p := ⟨A, 2, none⟩) (by first | exact al | (show _ < Wx.heap.size; exact al))).trans a2, ((hbS).cell (p := ⟨g, offg + 3, none⟩) (by first | exact hgl | (show _ < Wx.heap.size; exact hgl))).trans r0, ((hbS).cell (p := ⟨g, offg + 3 + 1, none⟩) (by first | exact hgl | (show _ < Wx.heap.size; exact hgl))).trans r1, ((hbS).cell (p := ⟨g, offg + 3 + 2, none⟩) (by first | exact hgl | (show _ < Wx.heap.size; exact hgl))).trans r2, ((hbS).cell (p := ⟨wr.heap.size, 0, none⟩) (by first | exact xl | (show _ < Wx.heap.size; exact xl))).trans x0, ((hbS).cell (p := ⟨wr.heap.size, 1, none⟩) (by first | exact xl | (show _ < Wx.heap.size; exact xl))).trans x1, ((hbS).cell (p := ⟨wr.heap.size, 2, none⟩) (by first | exact xl | (show _ < Wx.heap.size; exact xl))).trans x2⟩ (fun hHeld => ?_)
          clear hK K hHeld
          refine wpT_last (fun K hK => ?_)
          go_simp
          refine hK.out _ _ ?_
          clear hK K
          have R1 := Lib.hid hr1
          have B1 := Lib.hid hxS
          have XL1 := Lib.hid hXl
          clear hr1 hxS hXl hdr
          clear a2 r0 r1 r2 x0 x1 x2
          replace HBX := Lib.hid (HBX.out.trans (hbS.mono HBX.out.size))
          replace HAX := Lib.hid ((hbS.block _ (blt HAX.out)).trans HAX.out)
          replace ZX := Lib.hid ((hbS.block _ (blt ZX.out)).trans ZX.out)
          clear hbS a0 a1 af
          have hszw : w.heap.size + 2 ≤ Wx.heap.size := by omega
          obtain ⟨c0', c1', c2', cf, cl⟩ := three HAX.out
          by_cases hc : c = 0
          · have hc0 := hc
            subst hc0
            have HY2 := Lib.hid (manyR_shp HYC.out)
            have hXA : w1.heap.size ≠ A := by have := XL1.out; omega
            obtain ⟨u0, u1, u2, uf, ul⟩ := three B1.out
            obtain ⟨aoy, cy, hvy⟩ := R1.out.shape
            injection hvy with hvy
            simp only [Array.mk.injEq, List.cons.injEq, Value.int.injEq, Value.slice.injEq, true_and, and_true] at hvy
            obtain ⟨rfl, rfl, rfl, rfl, rfl⟩ := hvy
            have HXA := Lib.hid (set3_blk (a := .int .i64 y.kind) (b := .int .i64 y.num) (c := .slice ao1 y.sub.length c1) HAX.out)
            have HOF := Lib.hid (set3_off wS A (.int .i64 y.kind) (.int .i64 y.num) (.slice ao1 y.sub.length c1))
            go_wp2_with fail
            go_roundw
            case rel =>
              refine ⟨j + 1, y, ao1, c1, by go_num, by omega, HY2.out, HSPL.out.trans (resL_ok hjl HYC.out), HXA.out, R1.out.keep (fun q hq => ⟨by have := hq.2.1; omega, by have := hq.2.1; omega, by rw [set3_size]; exact hq.2.2⟩) fun q hq => HOF.out q (by have := hq.2.1; omega), (HOF.out _ (by omega)).trans ZX.out, ((HBX.out.setCell (by simp only []; omega) _).setCell (by simp only []; omega) _).setCell (by simp only []; omega) _⟩
            case measure =>
              have q : (intOf (.int .i64 ((j : Int) + 1))).toNat = j + 1 := by show ((j : Int) + 1).toNat = _; omega
              have q2 : (intOf (.int .i64 (j : Int))).toNat = j := by show ((j : Int)).toNat = _; omega
              rw [q, q2]; omega
          · have hcb : (c == 0) = false := by simpa using hc
            have e : (rt, rc) = (tm0, c) := by rw [E.out, HSPL.out]; exact resL_er hjl HYC.out hc
            injection e with e1 e2
            subst e1; subst e2
            obtain ⟨Z0, Z1, Z2, Zf, Zl⟩ := three ZX.out
            go_wp2_with fail
            exact bodyPost_ret (v := .tuple #[.agg #[.int .i64 0, .int .i64 0, .slice none 0 0], .int .i64 rc]) (by simp [results, Try.results64, go_sem, Z0, Z1, Z2]) rfl ⟨_, _, _, _, _, rfl, ((HBX.out.setCell (by simp only []; omega) _).setCell (by simp only []; omega) _).setCell (by simp only []; omega) _, Rd.zero _ _⟩
        · skip
          have hal : Below Wx.heap.size Wx (Wx.alloc (.cells #[.int .i64 0, .int .i64 0, .slice none 0 0] 24)).drew := below_drewN (alloc_bel Wx (.cells #[.int .i64 0, .int .i64 0, .slice none 0 0] 24)) 1
          have hx0 : (Wx.alloc (.cells #[.int .i64 0, .int .i64 0, .slice none 0 0] 24)).drew.heap[Wx.heap.size]? = some (.cells #[.int .i64 0, .int .i64 0, .slice none 0 0] 24) := heap_new Wx (.cells #[.int .i64 0, .int .i64 0, .slice none 0 0] 24) _ rfl
          have hcon := One_q HYC.out (HRX.out.on hal) (HQB.out.on hal)
          have HCON := Lib.hid hcon
          clear hcon
          refine wpR_do (fun K hK => ?_)
          go_simp
          refine hK.out _ _ ⟨((hal).cell (p := ⟨A, 2, none⟩) (by first | exact al | (show _ < Wx.heap.size; exact al))).trans a2, ((hal).cell (p := ⟨g, offg + 3, none⟩) (by first | exact hgl | (show _ < Wx.heap.size; exact hgl))).trans r0, ((hal).cell (p := ⟨g, offg + 3 + 1, none⟩) (by first | exact hgl | (show _ < Wx.heap.size; exact hgl))).trans r1, ((hal).cell (p := ⟨g, offg + 3 + 2, none⟩) (by first | exact hgl | (show _ < Wx.heap.size; exact hgl))).trans r2, ((hal).cell (p := ⟨wr.heap.size, 0, none⟩) (by first | exact xl | (show _ < Wx.heap.size; exact xl))).trans x0, ((hal).cell (p := ⟨wr.heap.size, 1, none⟩) (by first | exact xl | (show _ < Wx.heap.size; exact xl))).trans x1, ((hal).cell (p := ⟨wr.heap.size, 2, none⟩) (by first | exact xl | (show _ < Wx.heap.size; exact xl))).trans x2⟩ (fun hHeld => ?_)
          clear hK K hHeld
          refine wpR_rest ?_
          refine wpT_do (fun K hK => ?_)
          go_simp
          refine HCON.out.mono ?_
          rintro e w1 ⟨k1, n1, ao1, m1, c1, rfl, hb, hr⟩
          have hbA := hal.trans (hb.mono hal.size)
          have hx := (hb.block _ (blt hx0)).trans hx0
          have hXl : Wx.heap.size ≤ Wx.heap.size := Nat.le_refl _
          have hrX := hr.keep (P' := fun q => q ≠ Wx.heap.size ∧ Wx.heap.size ≤ q ∧ q < w1.heap.size) (fun q hq => ⟨by have h1 := hq.1; have h2 := blt hx0; omega, by have h1 := hq.1; have h2 := blt hx0; omega, hq.2⟩) fun _ _ => rfl
          refine hK.out _ _ ⟨((hbA).cell (p := ⟨A, 2, none⟩) (by first | exact al | (show _ < Wx.heap.size; exact al))).trans a2, ((hbA).cell (p := ⟨g, offg + 3, none⟩) (by first | exact hgl | (show _ < Wx.heap.size; exact hgl))).trans r0, ((hbA).cell (p := ⟨g, offg + 3 + 1, none⟩) (by first | exact hgl | (show _ < Wx.heap.size; exact hgl))).trans r1, ((hbA).cell (p := ⟨g, offg + 3 + 2, none⟩) (by first | exact hgl | (show _ < Wx.heap.size; exact hgl))).trans r2, ((hbA).cell (p := ⟨wr.heap.size, 0, none⟩) (by first | exact xl | (show _ < Wx.heap.size; exact xl))).trans x0, ((hbA).cell (p := ⟨wr.heap.size, 1, none⟩) (by first | exact xl | (show _ < Wx.heap.size; exact xl))).trans x1, ((hbA).cell (p := ⟨wr.heap.size, 2, none⟩) (by first | exact xl | (show _ < Wx.heap.size; exact xl))).trans x2⟩ (fun hHeld => ?_)
          clear hK K hHeld hal hb hr HCON hx0
          repeat (refine wpT_take (v := ?_) (by rfl) (fun w' hSw => ?_) ?_; rotate_left; (go_simp; with_reducible rfl); simp only [Act.put, List.setIfInBounds_toArray, List.set_cons_zero, List.set_cons_succ])
          obtain ⟨x0, x1, x2, xf, xl⟩ := three hx
          have xf0 := xf 0
          have xf1 := xf 1
          have xf2 := xf 2
          obtain ⟨hbS, hxS, hrS⟩ := put3F (a := .int .i64 k1) (b := .int .i64 n1) (c := .slice ao1 m1 c1) hbA hx hXl
          have hr1 := hrS _ _ _ hrX
          refine wpT_do (fun K hK => ?_)
          go_simp
          clear x0 x1 x2 xf xf0 xf1 xf2 xl hrS hbA hx hrX
          generalize (((w1).setCell ⟨Wx.heap.size, 0, none⟩ (.int .i64 k1)).setCell ⟨Wx.heap.size, 1, none⟩ (.int .i64 n1)).setCell ⟨Wx.heap.size, 2, none⟩ (.slice ao1 m1 c1) = wS at hbS hxS hr1 ⊢
          refine hK.out _ _ ⟨((hbS).cell (p := ⟨A, 2, none⟩) (by first | exact al | (show _ < Wx.heap.size; exact al))).trans a2, ((hbS).cell (p := ⟨g, offg + 3, none⟩) (by first | exact hgl | (show _ < Wx.heap.size; exact hgl))).trans r0, ((hbS).cell (p := ⟨g, offg + 3 + 1, none⟩) (by first | exact hgl | (show _ < Wx.heap.size; exact hgl))).trans r1, ((hbS).cell (p := ⟨g, offg + 3 + 2, none⟩) (by first | exact hgl | (show _ < Wx.heap.size; exact hgl))).trans r2, ((hbS).cell (p := ⟨wr.heap.size, 0, none⟩) (by first | exact xl | (show _ < Wx.heap.size; exact xl))).trans x0, ((hbS).cell (p := ⟨wr.heap.size, 1, none⟩) (by first | exact xl | (show _ < Wx.heap.size; exact xl))).trans x1, ((hbS).cell (p := ⟨wr.heap.size, 2, none⟩) (by first | exact xl | (show _ < Wx.heap.size; exact xl))).trans x2⟩ (fun hHeld => ?_)
          clear hK K hHeld
          refine wpT_last (fun K hK => ?_)
          go_simp
          refine hK.out _ _ ?_
          clear hK K
          have R1 := Lib.hid hr1
          have B1 := Lib.hid hxS
          have XL1 := Lib.hid hXl
          clear hr1 hxS hXl hdr
          clear a2 r0 r1 r2 x0 x1 x2
          replace HBX := Lib.hid (HBX.out.trans (hbS.mono HBX.out.size))
          replace HAX := Lib.hid ((hbS.block _ (blt HAX.out)).trans HAX.out)
          replace ZX := Lib.hid ((hbS.block _ (blt ZX.out)).trans ZX.out)
          clear hbS a0 a1 af
          have hszw : w.heap.size + 2 ≤ Wx.heap.size := by omega
          obtain ⟨c0', c1', c2', cf, cl⟩ := three HAX.out
          by_cases hc : c = 0
          · have hc0 := hc
            subst hc0
            have HY2 := Lib.hid (manyR_shp HYC.out)
            have hXA : Wx.heap.size ≠ A := by have := XL1.out; omega
            obtain ⟨u0, u1, u2, uf, ul⟩ := three B1.out
            obtain ⟨aoy, cy, hvy⟩ := R1.out.shape
            injection hvy with hvy
            simp only [Array.mk.injEq, List.cons.injEq, Value.int.injEq, Value.slice.injEq, true_and, and_true] at hvy
            obtain ⟨rfl, rfl, rfl, rfl, rfl⟩ := hvy
            have HXA := Lib.hid (set3_blk (a := .int .i64 y.kind) (b := .int .i64 y.num) (c := .slice ao1 y.sub.length c1) HAX.out)
            have HOF := Lib.hid (set3_off wS A (.int .i64 y.kind) (.int .i64 y.num) (.slice ao1 y.sub.length c1))
            go_wp2_with fail
            go_roundw
            case rel =>
              refine ⟨j + 1, y, ao1, c1, by go_num, by omega, HY2.out, HSPL.out.trans (resL_ok hjl HYC.out), HXA.out, R1.out.keep (fun q hq => ⟨by have := hq.2.1; omega, by have := hq.2.1; omega, by rw [set3_size]; exact hq.2.2⟩) fun q hq => HOF.out q (by have := hq.2.1; omega), (HOF.out _ (by omega)).trans ZX.out, ((HBX.out.setCell (by simp only []; omega) _).setCell (by simp only []; omega) _).setCell (by simp only []; omega) _⟩
            case measure =>
              have q : (intOf (.int .i64 ((j : Int) + 1))).toNat = j + 1 := by show ((j : Int) + 1).toNat = _; omega
              have q2 : (intOf (.int .i64 (j : Int))).toNat = j := by show ((j : Int)).toNat = _; omega
              rw [q, q2]; omega
          · have hcb : (c == 0) = false := by simpa using hc
            have e : (rt, rc) = (tm0, c) := by rw [E.out, HSPL.out]; exact resL_er hjl HYC.out hc
            injection e with e1 e2
            subst e1; subst e2
            obtain ⟨Z0, Z1, Z2, Zf, Zl⟩ := three ZX.out
            go_wp2_with fail
            exact bodyPost_ret (v := .tuple #[.agg #[.int .i64 0, .int .i64 0, .slice none 0 0], .int .i64 rc]) (by simp [results, Try.results64, go_sem, Z0, Z1, Z2]) rfl ⟨_, _, _, _, _, rfl, ((HBX.out.setCell (by simp only []; omega) _).setCell (by simp only []; omega) _).setCell (by simp only []; omega) _, Rd.zero _ _⟩
      · have e : (rt, rc) = (tm0, 6) := by rw [E.out, HSPL.out]; exact resL_no hjl hk
        injection e with e1 e2
        subst e1; subst e2
        obtain ⟨Z0, Z1, Z2, Zf, Zl⟩ := three ZX.out
        have Z0' := Z0
        have Z1' := Z1
        have Z2' := Z2
        have Zf' := Zf
        rw [HWX.out] at Z0' Z1' Z2' Zf'
        go_wp2_with fail
        rw [← HWX.out]
        exact bodyPost_ret (v := .tuple #[.agg #[.int .i64 0, .int .i64 0, .slice none 0 0], .int .i64 6]) (by simp [results, Try.results64, go_sem, Z0, Z1, Z2]) rfl ⟨_, _, _, _, _, rfl, ((HBX.out.setCell (by simp only []; omega) _).setCell (by simp only []; omega) _).setCell (by simp only []; omega) _, Rd.zero _ _⟩
    · have e : (rt, rc) = (cur, 0) := by
        rw [E.out, HSPL.out, List.drop_eq_nil_of_le (by omega)]; rfl
      injection e with e1 e2
      subst e1; subst e2
      obtain ⟨Z0, Z1, Z2, Zf, Zl⟩ := three Z'.out
      obtain ⟨a0, a1, a2, af, al⟩ := three HAB.out
      go_wp2_with fail
      exact bodyPost_ret (v := .tuple #[.agg #[.int .i64 rt.kind, .int .i64 rt.num, .slice aoc rt.sub.length capc], .int .i64 0]) (by simp [results, Try.results64, go_sem, Z0, Z1, Z2]) rfl ⟨_, _, _, _, _, rfl, ((HB.out.setCell (by simp only []; omega) _).setCell (by simp only []; omega) _).setCell (by simp only []; omega) _, HCUR.out.keep (fun q hq => ⟨by have := hq.1; omega, by rw [set3_size]; exact hq.2.2⟩) fun q hq => set3_off _ _ _ _ _ q (by have := hq.1; omega)⟩
end Go.Proofs.Ythjlfjaciigfiaa
