/-
  tele.Split: a contract of the walk.
-/
import Derived.Test.YthjlfjaciigfiaaPureSp
namespace Go.Proofs.Ythjlfjaciigfiaa
open Go.RowKit
set_option linter.unusedVariables false
set_option linter.unusedSimpArgs false

/-- 'out = append(out, x)', x read from older memory -/
theorem run_old {F : Nat → Prop} {base : Nat} {W : World} {v : Value} {l : List Tm} {k n : Int} {ao : Option Addr} {m c : Nat} {x : Tm} (ty : TypeId) (h : MadeG 3 24 RdC F base W v l) (hlen : l.length + 1 ≤ 1000000000) (hbase : base ≤ W.heap.size)
    (hx : Rd (fun q => v.ownBlock ≠ some q ∧ q < W.heap.size ∧ F q) W (.agg #[.int .i64 k, .int .i64 n, .slice ao m c]) x) :
    ∃ ao2 c2 w', (Builtin.append_ #[22, 22] ty #[v, .slice (some ⟨W.heap.size, 0, none⟩) 1 1]).run Try.prog (W.alloc (.cells #[.int .i64 k, .int .i64 n, .slice ao m c] 24)) = .ok (.slice ao2 (l.length + 1) c2) w' ∧
      MadeG 3 24 RdC F base w' (.slice ao2 (l.length + 1) c2) (l ++ [x]) ∧ (∀ b, b < W.heap.size → v.ownBlock ≠ some b → w'.heap[b]? = W.heap[b]?) ∧ Below base W w' := by
  have ha := alloc_bel W (.cells #[.int .i64 k, .int .i64 n, .slice ao m c] 24)
  have h1 := h.below keepsC_rd ha
  have hown := h.block
  have hsrc := one_sub (Pg := fun _ => True) (P := fun g => v.ownBlock ≠ some g ∧ g < (W.alloc (.cells #[.int .i64 k, .int .i64 n, .slice ao m c] 24)).heap.size ∧ F g) (heap_new W (.cells #[.int .i64 k, .int .i64 n, .slice ao m c] 24) _ rfl) trivial
    (hx.keep (fun q hq => ⟨hq.1, Nat.lt_of_lt_of_le hq.2.1 ha.size, hq.2.2⟩) fun q hq => ha.block q hq.2.1)
  obtain ⟨ao2, c2, w', hr, hM, hg, hbk⟩ := run_terms (xs := [x]) ty h1 hsrc (by simpa using hlen) (by rw [World.size_alloc]; omega)
  refine ⟨ao2, c2, w', hr, hM, fun b hb' hv => (hg.block b (by rw [World.size_alloc]; omega) (fun e => hv e.symm)).trans (ha.block b hb'), ?_⟩
  refine (ha.mono (by omega)).trans ⟨hg.os, hg.tape, hg.output, hg.size, fun b hb' => hg.block b (by rw [World.size_alloc]; omega) (fun e => by have := (hown b e.symm).1; omega)⟩

theorem MadeG.set3 {F : Nat → Prop} {base B : Nat} {w : World} {v a b c : Value} {l : List Tm} (h : MadeG 3 24 RdC F base w v l) (hB : B < base) (hF : ¬ F B) :
    MadeG 3 24 RdC F base (((w.setCell ⟨B, 0, none⟩ a).setCell ⟨B, 1, none⟩ b).setCell ⟨B, 2, none⟩ c) v l := by
  refine h.keep keepsC_rd (some B) ⟨rfl, rfl, rfl, by simp [World.setCell], fun k hk hne => ?_⟩ (.inr fun e => by have := (h.block B e).1; omega) (fun b e _ => by injection e with e; subst e; exact hF)
  have hkB : k ≠ B := fun e => hne (by rw [e])
  rw [Below.heap_setCell _ _ _ _ hkB, Below.heap_setCell _ _ _ _ hkB, Below.heap_setCell _ _ _ _ hkB]

/-- a list, a term and an error in new memory are answered -/
def AnsSF (w : World) (r : List Tm × Tm × Int) (e : Ending) (w' : World) : Prop :=
  ∃ al ml cl k n ao m c, e = .returned (.tuple #[.slice al ml cl, .agg #[.int .i64 k, .int .i64 n, .slice ao m c], .int .i64 r.2.2]) ∧ Below w.heap.size w w' ∧ Ts (Fr w w') w' (.slice al ml cl) r.1 ∧
    Rd (Fr w w') w' (.agg #[.int .i64 k, .int .i64 n, .slice ao m c]) r.2.1

set_option maxRecDepth 100000 in
set_option maxHeartbeats 4000000 in
theorem Split_w (v : Value) (t : Tm) (n : Int) (w : World) (hr : Rd (· < w.heap.size) w v t) : Calls Try.prog 44 #[v, .int .i64 n] w (AnsSF w (splitR t n)) := by
  obtain ⟨rl, rt, rc, hres⟩ : ∃ rl rt rc, splitR t n = (rl, rt, rc) := ⟨_, _, _, rfl⟩
  rw [hres]
  have RES := Lib.hid hres
  clear hres
  obtain ⟨ao, cap, rfl⟩ := hr.shape
  obtain ⟨W, hW⟩ : ∃ W, W = (w.alloc (.cells #[.int .i64 t.kind, .int .i64 t.num, .slice ao t.sub.length cap] 24)).alloc (.cells #[.int .i64 0, .int .i64 0, .slice none 0 0] 24) := ⟨_, rfl⟩
  have hb0 : Below w.heap.size w W := by rw [hW]; exact (((Below.refl _ _).alloc (Nat.le_refl _) _).alloc (by simp only [World.size_alloc]; omega) _)
  have hsW : W.heap.size = w.heap.size + 2 := by rw [hW]; simp only [World.size_alloc]
  have Q : W.heap[w.heap.size]? = some (.cells #[.int .i64 t.kind, .int .i64 t.num, .slice ao t.sub.length cap] 24) := by rw [hW]; exact (Below.heap_alloc _ _ _ (by simp only [World.size_alloc]; omega)).trans (heap_new _ _ _ (by first | rfl | simp only [World.size_alloc]))
  replace Q := Lib.hid Q
  have Z : W.heap[w.heap.size + 1]? = some (.cells #[.int .i64 0, .int .i64 0, .slice none 0 0] 24) := by rw [hW]; exact heap_new _ _ _ (by first | rfl | simp only [World.size_alloc])
  replace Z := Lib.hid Z
  have T := Lib.hid (hr.on hb0)
  have FB0 := Lib.hid hb0
  have SW := Lib.hid hsW
  clear hb0 hsW
  have HW := Lib.hid hW
  clear hW hr
  obtain ⟨y, hy⟩ : ∃ y, y = Shp t := ⟨_, rfl⟩
  have HY := Lib.hid hy
  have hs := Shaped_r T.out
  rw [← hy] at hs
  have HS := Lib.hid hs
  clear hy hs
  obtain ⟨Q0, Q1, Q2, Qf, -⟩ := three Q.out
  go_enter Try.func44, Try.ntmps44
  go_wp2_with fail
  rw [← HW.out]
  clear Q0 Q1 Q2 Qf
  refine HS.out.mono ?_
  rintro e w1 ⟨rfl, hb1⟩
  replace FB0 := Lib.hid (FB0.out.trans (hb1.mono FB0.out.size))
  replace Q := Lib.hid ((hb1.block _ (blt Q.out)).trans Q.out)
  replace Z := Lib.hid ((hb1.block _ (blt Z.out)).trans Z.out)
  replace T := Lib.hid (T.out.on hb1)
  replace SW := Lib.hid (show w.heap.size + 2 ≤ w1.heap.size by have := SW.out; have := hb1.size; omega)
  clear hb1 HS HW
  obtain ⟨Z0, Z1, Z2, Zf, Zl⟩ := three Z.out
  cases y
  · have e : (rl, rt, rc) = ([], tm0, 5) := by rw [← RES.out]; unfold splitR; rw [if_neg (by rw [← HY.out]; simp)]
    injection e with e1 e2
    injection e2 with e2 e3
    subst e1; subst e2; subst e3
    go_wp2_with fail
    exact bodyPost_ret (v := .tuple #[.slice none 0 0, .agg #[.int .i64 0, .int .i64 0, .slice none 0 0], .int .i64 5]) (by simp [results, Try.results44, go_sem, Z0, Z1, Z2]) rfl ⟨_, _, _, _, _, _, _, _, rfl, ((FB0.out.setCell (by simp only []; omega) _).setCell (by simp only []; omega) _).setCell (by simp only []; omega) _, (Lst.nil w.heap.size _).terms.keep (fun q hq => hq) fun _ _ => rfl, Rd.zero _ _⟩
  by_cases h0 : n < 0
  · have e : (rl, rt, rc) = ([], tm0, 5) := by rw [← RES.out]; unfold splitR; rw [if_neg (by omega)]
    injection e with e1 e2
    injection e2 with e2 e3
    subst e1; subst e2; subst e3
    go_wp2_with fail
    exact bodyPost_ret (v := .tuple #[.slice none 0 0, .agg #[.int .i64 0, .int .i64 0, .slice none 0 0], .int .i64 5]) (by simp [results, Try.results44, go_sem, Z0, Z1, Z2]) rfl ⟨_, _, _, _, _, _, _, _, rfl, ((FB0.out.setCell (by simp only []; omega) _).setCell (by simp only []; omega) _).setCell (by simp only []; omega) _, (Lst.nil w.heap.size _).terms.keep (fun q hq => hq) fun _ _ => rfl, Rd.zero _ _⟩
  by_cases h24 : 24 < n
  · have e : (rl, rt, rc) = ([], tm0, 2) := by rw [← RES.out]; unfold splitR; rw [if_pos ⟨HY.out.symm, by omega⟩, if_pos h24]
    injection e with e1 e2
    injection e2 with e2 e3
    subst e1; subst e2; subst e3
    go_wp2_with fail
    exact bodyPost_ret (v := .tuple #[.slice none 0 0, .agg #[.int .i64 0, .int .i64 0, .slice none 0 0], .int .i64 2]) (by simp [results, Try.results44, go_sem, Z0, Z1, Z2]) rfl ⟨_, _, _, _, _, _, _, _, rfl, ((FB0.out.setCell (by simp only []; omega) _).setCell (by simp only []; omega) _).setCell (by simp only []; omega) _, (Lst.nil w.heap.size _).terms.keep (fun q hq => hq) fun _ _ => rfl, Rd.zero _ _⟩
  obtain ⟨N, hN⟩ : ∃ N : Nat, n = N := ⟨n.toNat, by omega⟩
  subst hN
  have e : (rl, rt, rc) = match spl N t with | some p => (p.1, p.2, 0) | none => ([], tm0, 6) := by rw [← RES.out]; unfold splitR; rw [if_pos ⟨HY.out.symm, by omega⟩, if_neg h24]; rfl
  have E := Lib.hid e
  clear e RES
  obtain ⟨Q0, Q1, Q2, Qf, -⟩ := three Q.out
  have hcopy := Copy_w _ t w1 T.out
  rw [show copyR t = t by unfold copyR; rw [if_pos HY.out.symm]] at hcopy
  have HCOPY := Lib.hid hcopy
  have HG := Lib.hid ((Shp_iff t).mp HY.out.symm).2.2
  clear hcopy
  go_wp2_with fail
  clear Q0 Q1 Q2 Qf Z0 Z1 Z2 Zf Zl
  refine HCOPY.out.mono ?_
  rintro e w2 ⟨k1, n1, ao1, m1, c1, rfl, hb2, hr2⟩
  obtain ⟨ao1', c1', hv⟩ := hr2.shape
  injection hv with hv
  simp only [Array.mk.injEq, List.cons.injEq, Value.int.injEq, Value.slice.injEq, true_and, and_true] at hv
  obtain ⟨rfl, rfl, rfl, rfl, rfl⟩ := hv
  have S2 := Lib.hid hb2.size
  have FB2 := Lib.hid (FB0.out.trans (hb2.mono FB0.out.size))
  have R2 := Lib.hid hr2
  replace Z := Lib.hid ((hb2.block _ (blt Z.out)).trans Z.out)
  clear hb2 hr2 FB0 T Q
  go_wp2_with fail
  have hbA := alloc_bel w2 (.cells #[.int .i64 t.kind, .int .i64 t.num, .slice ao1 t.sub.length c1] 24)
  go_loopw [7, 25] (fun v i wr => ∃ (j : Nat) (acc : List Tm) (cur : Tm) (aoc : Option Addr) (capc : Nat), i = .int .i64 j ∧ j ≤ N ∧ acc.length = j ∧ gd cur = true ∧ spl N t = (spl (N - j) cur).map (fun p => (acc ++ p.1, p.2)) ∧
      MadeG 3 24 RdC (fun q => w1.heap.size ≤ q ∧ q < w2.heap.size) (w2.heap.size + 1) wr v acc ∧ wr.heap[w2.heap.size]? = some (.cells #[.int .i64 cur.kind, .int .i64 cur.num, .slice aoc cur.sub.length capc] 24) ∧
      Rd (fun q => w1.heap.size ≤ q ∧ q < w2.heap.size) wr (.agg #[.int .i64 cur.kind, .int .i64 cur.num, .slice aoc cur.sub.length capc]) cur ∧
      wr.heap[w.heap.size + 1]? = some (.cells #[.int .i64 0, .int .i64 0, .slice none 0 0] 24) ∧ Below w.heap.size w wr ∧ w2.heap.size < wr.heap.size) (fun _ i _ => N - (intOf i).toNat)
  case atStart =>
    refine ⟨0, [], t, ao1, c1, rfl, Nat.zero_le _, rfl, HG.out, by cases spl (N - 0) t <;> simp_all, MadeG.nil _ _ _ _ _ _, heap_new _ _ _ rfl, R2.out.keep (fun q hq => hq) fun q hq => hbA.block q hq.2, (hbA.block _ (blt Z.out)).trans Z.out, FB2.out.trans (hbA.mono FB2.out.size), by simp [World.size_alloc]⟩
  case round =>
    obtain ⟨j, acc, cur, aoc, capc, rfl, hj, hlen, hgd, hspl, hM, hbx, hcur, hz, hb, hsz⟩ := hrel
    have HM := Lib.hid hM
    have HBX := Lib.hid hbx
    have HCUR := Lib.hid hcur
    have HZ := Lib.hid hz
    have HB := Lib.hid hb
    have HSZ := Lib.hid hsz
    have HSPL := Lib.hid hspl
    have HGD := Lib.hid hgd
    clear hM hbx hcur hz hb hsz hspl hgd hbA
    obtain ⟨c0, c1', c2', cf, cl⟩ := three HBX.out
    by_cases hjN : j < N
    · by_cases hk : cur.kind = 3
      · obtain ⟨k, x, l⟩ := cur
        have hk3 : k = 3 := hk
        subst hk3
        obtain ⟨a, b, rfl, ga, gb⟩ := gd_pi HGD.out
        obtain ⟨g, off, cap', ka, na, aoa, ma, ca, kb, nb, aob, mb, cb, hsl, h2, hP, q0, q1, q2, qa, r0, r1, r2, qb⟩ := pi_cells HCUR.out
        simp only [Tm.kind, Tm.num, Tm.sub, List.length_cons, List.length_nil, Nat.zero_add, Nat.reduceAdd, Value.slice.injEq, true_and] at hsl c0 c1' c2' HBX
        obtain ⟨rfl, rfl⟩ := hsl
        obtain ⟨aob', cb', hvb⟩ := qb.shape
        injection hvb with hvb
        simp only [Array.mk.injEq, List.cons.injEq, Value.int.injEq, Value.slice.injEq, true_and, and_true] at hvb
        obtain ⟨rfl, rfl, rfl, rfl, rfl⟩ := hvb
        have hown := HM.out.block
        have hB := HB.out.size
        obtain ⟨ao2, c2, w', hr, hM2, hk2, hb2⟩ := run_old 22 HM.out (by omega) (by omega) (qa.keep (P' := fun q => _ ≠ some q ∧ q < wr.heap.size ∧ _) (fun q hq => ⟨fun e => by have := (hown q e).1; omega, by omega, hq⟩) fun _ _ => rfl)
        have hgo : u7.ownBlock ≠ some g := fun e => by have := (hown g e).1; omega
        have hbo : u7.ownBlock ≠ some w2.heap.size := fun e => by have := (hown _ e).1; omega
        have hzo : u7.ownBlock ≠ some (w.heap.size + 1) := fun e => by have := (hown _ e).1; have := SW.out; omega
        have hgl : g < wr.heap.size := by omega
        have hbx2 := (hk2 _ cl hbo).trans HBX.out
        have hz2 := (hk2 _ (blt HZ.out) hzo).trans HZ.out
        have HK2 := Lib.hid hk2
        have HGB := Lib.hid (hk2 g hgl hgo)
        have HR := Lib.hid hr
        have HM2 := Lib.hid hM2
        have HB2 := Lib.hid (HB.out.trans (hb2.mono (by have := SW.out; have := S2.out; omega)))
        have HBX2 := Lib.hid hbx2
        have HZ2 := Lib.hid hz2
        have HQB := Lib.hid (qb.keep (P' := fun q => w1.heap.size ≤ q ∧ q < w2.heap.size) (w' := w') (fun q hq => hq) fun q hq => hk2 q (by omega) fun e => by have := (hown q e).1; omega)
        obtain ⟨d0, d1, d2, df, dl⟩ := three hbx2
        have hs2 := blt hz2
        have df0 := df 0
        have df1 := df 1
        have df2 := df 2
        have hcell : ∀ o, w'.cell? ⟨g, o, none⟩ = wr.cell? ⟨g, o, none⟩ := fun o => by unfold World.cell?; simp only [HGB.out]
        have s0 := (hcell _).trans r0
        have s1 := (hcell _).trans r1
        have s2 := (hcell _).trans r2
        have hji : (j : Int) < (N : Int) := by omega
        clear hr hM2 hk2 hb2 hbx2 hz2 qa qb hown df hcell r0 r1 r2
        go_wp2_with (at_builtin; refine wpList_run_append rfl _ _ _ rfl _ _ _ rfl rfl HR.out ?_)
        go_roundw
        case rel =>
          refine ⟨j + 1, acc ++ [a], b, _, _, by go_num, by omega, by simp [hlen], gb, ?_, MadeG.set3 (v := .slice ao2 (j + 1) c2) (hlen ▸ HM2.out) (B := w2.heap.size) (by omega) (by omega), set123 HBX2.out, ?_, ?_, ?_, ?_⟩
          · rw [HSPL.out]
            obtain ⟨M, hM⟩ : ∃ M, N - j = M + 1 := ⟨N - j - 1, by omega⟩
            rw [hM, spl_step, show N - (j + 1) = M by omega]
            cases spl M b <;> simp
          · refine HQB.out.keep (fun q hq => hq) fun q hq => ?_
            have hne : q ≠ w2.heap.size := by omega
            rw [Below.heap_setCell _ _ _ _ hne, Below.heap_setCell _ _ _ _ hne, Below.heap_setCell _ _ _ _ hne]
          · have hne : w.heap.size + 1 ≠ w2.heap.size := by have := SW.out; have := S2.out; omega
            rw [Below.heap_setCell _ _ _ _ hne, Below.heap_setCell _ _ _ _ hne, Below.heap_setCell _ _ _ _ hne]
            exact HZ2.out
          · have hge : w.heap.size ≤ w2.heap.size := by have := SW.out; have := S2.out; omega
            exact ((HB2.out.setCell hge _).setCell hge _).setCell hge _
          · simp only [World.size_setCell]; omega
        case measure =>
          have q : (intOf (.int .i64 ((j : Int) + 1))).toNat = j + 1 := by show ((j : Int) + 1).toNat = _; omega
          have q2 : (intOf (.int .i64 (j : Int))).toNat = j := by show ((j : Int)).toNat = _; omega
          rw [q, q2]; omega
      · obtain ⟨Z0, Z1, Z2, Zf, Zl⟩ := three HZ.out
        have e : (rl, rt, rc) = ([], tm0, 6) := by
          rw [E.out, HSPL.out]
          obtain ⟨M, hM⟩ : ∃ M, N - j = M + 1 := ⟨N - j - 1, by omega⟩
          rw [hM]
          rw [spl_no hk]; rfl
        injection e with e1 e2
        injection e2 with e2 e3
        subst e1; subst e2; subst e3
        go_wp2_with fail
        exact bodyPost_ret (v := .tuple #[.slice none 0 0, .agg #[.int .i64 0, .int .i64 0, .slice none 0 0], .int .i64 6]) (by simp [results, Try.results44, go_sem, Z0, Z1, Z2]) rfl ⟨_, _, _, _, _, _, _, _, rfl, ((HB.out.setCell (by simp only []; omega) _).setCell (by simp only []; omega) _).setCell (by simp only []; omega) _, (Lst.nil w.heap.size _).terms.keep (fun q hq => hq) fun _ _ => rfl, Rd.zero _ _⟩
    · have e : (rl, rt, rc) = (acc, cur, 0) := by
        rw [E.out, HSPL.out, show N - j = 0 by omega]
        simp [spl]
      injection e with e1 e2
      injection e2 with e2 e3
      subst e1; subst e2; subst e3
      obtain ⟨Z0, Z1, Z2, Zf, Zl⟩ := three HZ.out
      have Zf0 := Zf 0
      have Zf1 := Zf 1
      have Zf2 := Zf 2
      have hzw : w.heap.size + 1 ≠ w2.heap.size := by have := SW.out; have := S2.out; omega
      obtain ⟨aol, cl7, hv7, -⟩ := MadeG.cells HM.out (by omega)
      rename_i v7 _
      subst hv7
      go_wp2_with fail
      go_region
      go_wp2_with fail
      have hsw := SW.out
      have hs2 := S2.out
      have hnz : ∀ q : Nat, w1.heap.size ≤ q → q ≠ w.heap.size + 1 := fun q hq => by omega
      have ht : Ts (· < wr.heap.size) wr (.slice aol rl.length cl7) rl := MadeG.terms HM.out _ (fun q h _ => h) fun q _ h => h
      have ht2 : Ts (fun q => w1.heap.size ≤ q ∧ q < wr.heap.size) wr (.slice aol rl.length cl7) rl := MadeG.terms HM.out _ (fun q h h2 => ⟨h2.1, h⟩) fun q h2 h => ⟨by omega, h⟩
      have hset : ∀ (x y u : Value) (q : Nat), q ≠ w.heap.size + 1 → (((wr.setCell ⟨w.heap.size + 1, 0, none⟩ x).setCell ⟨w.heap.size + 1, 1, none⟩ y).setCell ⟨w.heap.size + 1, 2, none⟩ u).heap[q]? = wr.heap[q]? := fun x y u q hne => by
        rw [Below.heap_setCell _ _ _ _ hne, Below.heap_setCell _ _ _ _ hne, Below.heap_setCell _ _ _ _ hne]
      refine bodyPost_ret (v := .tuple #[.slice aol rl.length cl7, .agg #[.int .i64 rt.kind, .int .i64 rt.num, .slice aoc rt.sub.length capc], .int .i64 0]) (by simp [results, Try.results44, go_sem, Z0, Z1, Z2]) rfl ⟨_, _, _, _, _, _, _, _, rfl, (((below_drewN HB.out 1).setCell (by simp only []; omega) _).setCell (by simp only []; omega) _).setCell (by simp only []; omega) _, ?_, ?_⟩
      · exact ht2.keep (fun q hq => ⟨by omega, by simp only [World.size_drew, World.size_setCell]; exact hq.2⟩) (fun q hq => hset _ _ _ q (hnz q hq.1))
      · exact HCUR.out.keep (fun q hq => ⟨by omega, by simp only [World.size_drew, World.size_setCell]; omega⟩) (fun q hq => hset _ _ _ q (hnz q hq.1))
end Go.Proofs.Ythjlfjaciigfiaa
