/-
  ref07.Size: a contract of the walk, at any term that can be read.
-/
import Derived.Test.YthjlfjaciigfiaaApp
import Derived.Test.YthjlfjaciigfiaaMeas
import Derived.IntWalk
namespace Go.Proofs.Ythjlfjaciigfiaa
open Go.RowKit
set_option linter.unusedVariables false
set_option linter.unusedSimpArgs false

/-- a literal of one term -/
theorem MadeG.lit {w : World} {F : Nat → Prop} {base g : Nat} {k n : Int} {ao : Option Addr} {m c : Nat} {t : Tm} (hg : w.heap[g]? = some (.cells #[.int .i64 k, .int .i64 n, .slice ao m c] 24)) (hb : base ≤ g)
    (hr : Rd (fun q => g ≠ q ∧ q < w.heap.size ∧ F q) w (.agg #[.int .i64 k, .int .i64 n, .slice ao m c]) t) : MadeG 3 24 RdC F base w (.slice (some ⟨g, 0, none⟩) 1 1) [t] := by
  refine ⟨[[.int .i64 k, .int .i64 n, .slice ao m c]], ⟨rfl, .inr ⟨g, 1, _, rfl, hb, hg, Nat.le_refl _, by unfold maxLen; omega, rfl, rfl⟩⟩, rfl, fun i hi => ?_⟩
  obtain rfl : i = 0 := by simpa using hi
  exact ⟨_, rfl, rfl, k, n, ao, m, c, rfl, hr.keep (fun q hq => ⟨fun e => hq.1 (by injection e), hq.2⟩) fun _ _ => rfl⟩
/-- the first n of a slice in the making, as a source -/
theorem MadeG.src {F : Nat → Prop} {base : Nat} {w : World} {ao : Option Addr} {len cap : Nat} {l : List Tm} (h : MadeG 3 24 RdC F base w (.slice ao len cap) l) (n : Nat) (hn : n ≤ l.length) :
    SubR (fun g => base ≤ g ∧ g < w.heap.size) w (Rd (fun g => g < w.heap.size ∧ F g) w) (.slice ao n cap) (l.take n) := by
  obtain ⟨ao', cap', hv, h1, h2, h3⟩ := h.cells (by omega)
  injection hv with e1 e2 e3
  subst e1; subst e3
  have hl : (l.take n).length = n := by simp; omega
  refine ⟨ao, cap, by rw [hl], by omega, h2, fun i hi => ?_⟩
  obtain ⟨g, cs, r1, r2, r3, r4, r5, r6, k, x, ao2, m, c, rfl, r7⟩ := h3 i (by omega)
  refine ⟨g, 0, _, _, _, r1, ⟨r3, r4⟩, by have := r6 0 _ rfl; simpa using this, by have := r6 1 _ rfl; simpa using this, by have := r6 2 _ rfl; simpa using this, ?_⟩
  rw [List.getElem_take]
  exact r7.keep (fun b hb => hb.2) fun _ _ => rfl
theorem SubR.take {P : Nat → Prop} {w : World} {R : Value → Tm → Prop} {ao : Option Addr} {len cap : Nat} {l : List Tm} (h : SubR P w R (.slice ao len cap) l) (n : Nat) (hn : n ≤ l.length) : SubR P w R (.slice ao n cap) (l.take n) := by
  obtain ⟨ao', cap', hv, h1, h2, h3⟩ := h
  injection hv with e1 e2 e3
  subst e1; subst e3
  have hl : (l.take n).length = n := by simp; omega
  refine ⟨ao, cap, by rw [hl], by omega, h2, fun i hi => ?_⟩
  rw [List.getElem_take]
  exact h3 i (by omega)
theorem SubR.keep {P P' Q Q' : Nat → Prop} {w w' : World} {v : Value} {l : List Tm} (h : SubR P w (Rd Q w) v l) (hP : ∀ b, P b → P' b) (hk : ∀ b, P b → w'.heap[b]? = w.heap[b]?) (hQ : ∀ b, Q b → Q' b) (hk2 : ∀ b, Q b → w'.heap[b]? = w.heap[b]?) : SubR P' w' (Rd Q' w') v l :=
  h.mono hP hk fun u t _ hr => hr.keep hQ hk2
theorem Rd.subs {P : Nat → Prop} {w : World} {k' n' : Int} {s : Value} {k n : Int} {l : List Tm} (h : Rd P w (.agg #[.int .i64 k', .int .i64 n', s]) (.node k n l)) : k' = k ∧ n' = n ∧ SubR P w (Rd P w) s l ∧ (-9223372036854775808 ≤ k ∧ k ≤ 9223372036854775807) ∧ (-9223372036854775808 ≤ n ∧ n ≤ 9223372036854775807) := by
  obtain ⟨d, h⟩ := h
  cases d with
  | zero => exact absurd h (fun h => h)
  | succ d =>
    obtain ⟨s', e, h2, h3, h4⟩ := h
    injection e with e; injection e with e; injection e with e3 e; injection e with e4 e; injection e with e e6
    injection e3 with _ e3; injection e4 with _ e4
    subst e3; subst e4; subst e
    exact ⟨rfl, rfl, h4.mono (fun _ h => h) (fun _ _ => rfl) fun u t _ hr => ⟨d, hr⟩, h2, h3⟩

set_option maxRecDepth 100000 in
set_option maxHeartbeats 4000000 in
theorem refSize_w (d : Nat) (v : Value) (t : Tm) (w : World) (hr : RdN (· < w.heap.size) w d v t) :
    Calls Try.prog 29 #[v] w (Ans w (.int .i64 (min (nsz t) 8193 : Nat))) := by
  obtain ⟨k0, n0, l0⟩ := t
  obtain ⟨d, rfl⟩ : ∃ d', d = d' + 1 := ⟨d - 1, by cases d with | zero => exact absurd hr (fun h => h) | succ d => rfl⟩
  have hr0 := hr
  obtain ⟨ao0, cap0, rfl, hlm, hk, hn, he⟩ := hr.open
  have HR := Lib.hid hr0
  clear hr hr0 he hk hn hlm
  go_enter Try.func29, Try.ntmps29
  go_wp2_with fail
  have hbw0 : Below w.heap.size w ((w.alloc (.cells #[.int .i64 k0, .int .i64 n0, .slice ao0 l0.length cap0] 24)).alloc (.cells #[.int .i64 k0, .int .i64 n0, .slice ao0 l0.length cap0] 24)) := ((Below.refl _ _).alloc (Nat.le_refl _) _).alloc (by simp) _
  have hst : MadeG 3 24 RdC (· < w.heap.size) w.heap.size ((w.alloc (.cells #[.int .i64 k0, .int .i64 n0, .slice ao0 l0.length cap0] 24)).alloc (.cells #[.int .i64 k0, .int .i64 n0, .slice ao0 l0.length cap0] 24)) (.slice (some ⟨w.heap.size + 1, 0, none⟩) 1 1) [.node k0 n0 l0] :=
    MadeG.lit (heap_new _ _ _ (by simp)) (by omega) (Rd.keep ⟨_, HR.out⟩ (fun b hb => ⟨by omega, by simp; omega, hb⟩) fun b hb => hbw0.block b hb)
  go_loopw [3, 4] (fun v c wr => ∃ (l : List Tm) (g : Nat), c = .int .i64 g ∧ g ≤ 8193 ∧ l.length ≤ 8193 * (g + 1) ∧ min (g + nszL l) 8193 = min (nsz (.node k0 n0 l0)) 8193 ∧ MadeG 3 24 RdC (· < w.heap.size) w.heap.size wr v l ∧ Below w.heap.size w wr) (fun _ c _ => 8193 - (intOf c).toNat)
  case atStart => exact ⟨_, 0, by go_num, by omega, by simp, by simp [nszL], hst, hbw0⟩
  case round =>
    obtain ⟨l, g, rfl, hg, hlen, hmin, hM, hb⟩ := hrel
    clear hst hbw0
    rename_i v3 _
    obtain ⟨ao, cap, hv3, hlcap, -, hcel⟩ := hM.cells (by omega)
    subst hv3
    by_cases hl0 : l.length = 0
    · have hl1 : l = [] := List.eq_nil_of_length_eq_zero hl0
      subst hl1
      have HM := Lib.hid hmin
      clear hmin hM hcel hl0
      go_wp2_with fail
      go_ret
      exact ⟨by rw [← HM.out]; simp [nszL]; omega, hb⟩
    · obtain ⟨N, hN⟩ : ∃ N, l.length = N + 1 := ⟨l.length - 1, by omega⟩
      obtain ⟨gr, cs, rfl, -, hgb, hgl, hcs, hcc, k1, n1, ao1, m1, c1, rfl, hrx⟩ := hcel N (by omega)
      obtain ⟨x, hx⟩ : ∃ x, l[N]'(by omega) = x := ⟨_, rfl⟩
      rw [hx] at hrx
      have hsp : l = l.take N ++ [x] := by rw [← hx, ← List.take_succ_eq_append_getElem (by omega), List.take_of_length_le (by omega)]
      have HSP := Lib.hid hsp
      have e0 := hcc 0 _ rfl
      have e1 := hcc 1 _ rfl
      have e2 := hcc 2 _ rfl
      rw [Nat.add_zero] at e0
      have HMIN := Lib.hid hmin
      have HNN := Lib.hid hN
      have HM := Lib.hid hM
      have HB := Lib.hid hb
      have HX := Lib.hid hrx
      have hlen2 : N + 1 ≤ 8193 * (g + 1) := by omega
      have hlcap : N + 1 ≤ cap := by omega
      rw [hN]
      clear hmin hcc hcel hM hcs hb hrx hl0 hlen hsp hx hN
      by_cases hg2 : g ≤ 8192
      · go_wp2_with fail
        obtain ⟨kx, nx, lx⟩ := x
        obtain ⟨rfl, rfl, hsx, -, -⟩ := HX.out.subs
        have hm1 : m1 = lx.length := by obtain ⟨_, _, e, -⟩ := hsx; injection e
        subst hm1
        have HSX := Lib.hid hsx
        have q0 := heap_new wr (.cells #[.int .i64 k1, .int .i64 n1, .slice ao1 lx.length c1] 24) _ rfl
        have hbel : Below wr.heap.size wr (wr.alloc (.cells #[.int .i64 k1, .int .i64 n1, .slice ao1 lx.length c1] 24)).drew := below_drewN ((Below.refl _ _).alloc (Nat.le_refl _) _) 1
        have hlw : wr.heap.size < (wr.alloc (.cells #[.int .i64 k1, .int .i64 n1, .slice ao1 lx.length c1] 24)).drew.heap.size := by show _ < (wr.alloc _).heap.size; rw [World.size_alloc]; omega
        have hbel' : Below wr.heap.size wr (wr.alloc (.cells #[.int .i64 k1, .int .i64 n1, .slice ao1 lx.length c1] 24)) := (Below.refl _ _).alloc (Nat.le_refl _) _
        obtain ⟨-, -, c2, -, -⟩ := three q0
        generalize wr.alloc (.cells #[.int .i64 k1, .int .i64 n1, .slice ao1 lx.length c1] 24) = wa at hbel hbel' q0 hlw c2 ⊢
        have hlc1 : lx.length ≤ c1 := by obtain ⟨_, _, e, h, -⟩ := hsx; injection e with _ _ e; omega
        clear hsx e0 e1 e2 q0
        refine wp_region_order [(1, true), (2, true), (7, true), (9, true), (3, true), (4, true), (5, true), (8, true), (10, true), (11, true), (12, true), (13, true), (0, false), (6, false), (14, false), (15, false)]
          (fun w' => w'.cell? ⟨wr.heap.size, 2, none⟩ = some (.slice ao1 lx.length c1)) (by kernel_rfl) (by kernel_rfl) c2 (fun hHeld => ?_)
        simp only [pickT, List.getElem?_cons_zero, List.getElem?_cons_succ, Option.getD_some]
        have hNc : (N : Int) ≤ (cap : Int) := by omega
        have hN0 : (0 : Int) ≤ (N : Int) := Int.natCast_nonneg _
        have hl0 : (0 : Int) ≤ (lx.length : Int) := Int.natCast_nonneg _
        have hlc2 : (lx.length : Int) ≤ (c1 : Int) := by omega
        have hwr : IntKind.i64.wrap (N : Int) = (N : Int) := IntWalk.i64_in _ (by omega)
        obtain ⟨M, hM⟩ : ∃ M, M = min lx.length 8193 := ⟨_, rfl⟩
        have hmn : (if (8193 : Int) < (lx.length : Int) then (8193 : Int) else (lx.length : Int)) = (M : Int) := by split <;> omega
        have hM0 : (0 : Int) ≤ (M : Int) := Int.natCast_nonneg _
        have hMc : (M : Int) ≤ (c1 : Int) := by omega
        have HMM := Lib.hid hM
        clear hM
        repeat (refine wpT_take (v := ?_) (by rfl) (fun w' hSw => ?_) ?_; rotate_left; (go_simp; with_reducible rfl); simp only [Act.put, List.setIfInBounds_toArray, List.set_cons_zero, List.set_cons_succ])
        refine wpT_do (fun K hK => ?_)
        go_simp
        have hB := HB.out
        have hbelW : Below wr.heap.size wr (wa.alloc (.cells #[] 24)).drew := below_drewN (hbel'.alloc hbel'.size _) 1
        have hWl : wr.heap.size < wa.heap.size := hlw
        have hE : MadeG 3 24 RdC (· < w.heap.size) w.heap.size (wa.alloc (.cells #[] 24)).drew (.slice (some ⟨wa.heap.size, 0, none⟩) 0 0) ([] : List Tm) :=
          (MadeG.empty 3 24 RdC (· < w.heap.size) w.heap.size wa (by have := hB.size; omega)).below keepsC_rd (below_drewN (Below.refl _ _) 1)
        have hWs : (wa.alloc (.cells #[] 24)).drew.heap.size = wa.heap.size + 1 := by show (wa.alloc _).heap.size = _; rw [World.size_alloc]
        have hl2 : (l.take N).length = N := by have := HNN.out; simp; omega
        have hBs := hB.size
        obtain ⟨a5, c5, w5, hr5, hM5, hg5, hb5⟩ := run_terms 22 hE (SubR.keep (HM.out.src N (by have := HNN.out; omega)) (fun _ h => h) (fun b hb' => hbelW.block b hb'.2) (Q' := fun g => (Value.slice (some ⟨wa.heap.size, 0, none⟩) 0 0).ownBlock ≠ some g ∧ g < (wa.alloc (.cells #[] 24)).drew.heap.size ∧ g < w.heap.size)
          (fun b hb' => ⟨fun e => by injection e with e; have : wa.heap.size = b := e; omega, by omega, hb'.2⟩) (fun b hb' => hbelW.block b hb'.1)) (by rw [hl2]; simp; omega) (by omega)
        have hM5b : ∀ k, (Value.slice a5 (([] : List Tm).length + (l.take N).length) c5).ownBlock = some k → w.heap.size ≤ k := fun k e => (hM5.block k e).1
        have hk5 : ∀ b, b < w.heap.size → w5.heap[b]? = wr.heap[b]? := fun b hb' => (hg5.block b (by omega) (fun e => by injection e with e; have : b = wa.heap.size := e; omega)).trans (hbelW.block b (by omega))
        obtain ⟨a6, c6, w6, hr6, hM6, hg6, hb6⟩ := run_terms 22 hM5 (SubR.keep (HSX.out.take M (by have := HMM.out; omega)) (fun _ h => h) (fun b hb' => hk5 b hb'.2.2) (Q' := fun g => (Value.slice a5 (([] : List Tm).length + (l.take N).length) c5).ownBlock ≠ some g ∧ g < w5.heap.size ∧ g < w.heap.size)
          (fun b hb' => ⟨fun e => by have := hM5b _ e; omega, by have := hg5.size; omega, hb'.2.2⟩) (fun b hb' => hk5 b hb'.2.2)) (by have := HMM.out; simp only [List.nil_append, List.length_take]; omega) (by have := hg5.size; omega)
        have hS5 : w5.cell? ⟨wr.heap.size, 2, none⟩ = some (.slice ao1 lx.length c1) := (cell_keep (a := ⟨wr.heap.size, 2, none⟩) (hg5.block _ (by show wr.heap.size < _; omega) (fun e => by injection e with e; have : wr.heap.size = wa.heap.size := e; omega))).trans ((cell_keep (a := ⟨wr.heap.size, 2, none⟩) (Below.heap_alloc _ _ _ hWl)).trans c2)
        have hn6 : (Value.slice a5 (([] : List Tm).length + (l.take N).length) c5).ownBlock ≠ some wr.heap.size := by
          rcases hb5 with e | e <;> rw [e]
          · intro e; injection e with e; have : wa.heap.size = wr.heap.size := e; omega
          · intro e; injection e with e; omega
        have hS6 : w6.cell? ⟨wr.heap.size, 2, none⟩ = some (.slice ao1 lx.length c1) := (cell_keep (a := ⟨wr.heap.size, 2, none⟩) (hg6.block _ (by have := hg5.size; show wr.heap.size < _; omega) (fun e => hn6 e.symm))).trans hS5
        have hb6' : Below w.heap.size w w6 := by
          refine ⟨hg6.os.trans (hg5.os.trans (hbelW.os.trans hB.os)), hg6.tape.trans (hg5.tape.trans (hbelW.tape.trans hB.tape)), hg6.output.trans (hg5.output.trans (hbelW.output.trans hB.output)), by have := hg6.size; have := hg5.size; omega, fun b hb' => ?_⟩
          exact (hg6.block b (by have := hg5.size; omega) (fun e => by have := hM5b _ e.symm; omega)).trans ((hk5 b hb').trans (hB.block b hb'))
        have hfin : min (g + 1 + nszL ([] ++ l.take N ++ lx.take M)) 8193 = min (nsz (.node k0 n0 l0)) 8193 := by
          have q1 := HMIN.out
          have q2 := congrArg nszL HSP.out
          rw [nszL_append] at q2
          simp only [nszL, nsz] at q2
          rw [List.nil_append, nszL_append]
          have q3 := nszL_len (lx.take M)
          have q4 := nszL_len lx
          have q5 := nszL_take lx M
          have q6 := HMM.out
          by_cases hm : lx.length ≤ 8193
          · have : lx.take M = lx := List.take_of_length_le (by omega)
            rw [this]; omega
          · have : (lx.take M).length = 8193 := by simp; omega
            omega
        have hlen' : ([] ++ l.take N ++ lx.take M).length ≤ 8193 * (g + 1 + 1) := by
          have := HMM.out
          simp only [List.nil_append, List.length_append, List.length_take]; omega
        generalize (([] : List Tm) ++ l.take N).length + (lx.take M).length = L6 at hr6 hM6 hb6
        have HR5 := Lib.hid hr5
        have HR6 := Lib.hid hr6
        have HM6 := Lib.hid hM6
        have HB6 := Lib.hid hb6'
        have HF := Lib.hid (And.intro hfin hlen')
        clear hfin hlen' hb6' hM6 hr6 hr5 hM5 hg5 hg6 hb5 hb6 hk5 hM5b hE hbelW hbel hbel' hn6
        refine hK.out _ _ (by go_keep) (fun hHeld => ?_)
        clear hK K
        refine wpT_do (fun K hK => ?_)
        refine step_run_append rfl _ _ _ rfl _ _ _ rfl rfl HR5.out ?_
        refine hK.out _ _ hS5 (fun hHeld => ?_)
        clear hK K
        refine wpT_do (fun K hK => ?_)
        refine step_run_append rfl _ _ _ rfl _ _ _ rfl rfl HR6.out ?_
        refine hK.out _ _ hS6 (fun hHeld => ?_)
        clear hK K
        refine wpT_last (fun K hK => ?_)
        go_simp
        refine hK.out _ _ ?_
        clear hK K
        go_wp2_with fail
        go_roundw
        case rel => exact ⟨_, g + 1, by go_num, by omega, HF.out.2, HF.out.1, HM6.out, HB6.out⟩
        case measure =>
          have q : (intOf (.int .i64 ((g : Int) + 1))).toNat = g + 1 := by show ((g : Int) + 1).toNat = _; omega
          have q2 : (intOf (.int .i64 (g : Int))).toNat = g := by show ((g : Int)).toNat = _; omega
          rw [q, q2]; omega
      · go_wp2_with fail
        go_ret
        have q : min (nsz (.node k0 n0 l0)) 8193 = g := by have := HMIN.out; omega
        exact ⟨by rw [q]; rfl, HB.out⟩
end Go.Proofs.Ythjlfjaciigfiaa
