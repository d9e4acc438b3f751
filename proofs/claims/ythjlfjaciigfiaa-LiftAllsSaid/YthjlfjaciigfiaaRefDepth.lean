/-
  ref07.Depth, ref07.Shaped: contracts of the walk, at any term that can be read.
-/
import Derived.Test.YthjlfjaciigfiaaRefSize
namespace Go.Proofs.Ythjlfjaciigfiaa
open Go.RowKit
set_option linter.unusedVariables false
set_option linter.unusedSimpArgs false

theorem depL_append (a b : List Tm) : depL (a ++ b) = max (depL a) (depL b) := by
  induction a with
  | nil => simp [depL]
  | cons t l ih => simp only [List.cons_append, depL, ih]; omega
theorem nszL_subs (l : List Tm) : nszL (l.flatMap Tm.sub) + l.length = nszL l := by
  induction l with
  | nil => simp [nszL]
  | cons t l ih =>
    obtain ⟨k, n, s⟩ := t
    simp only [List.flatMap_cons, nszL_append, nszL, nsz, List.length_cons, Tm.sub]; omega
theorem depL_subs (l : List Tm) (h : l ≠ []) : depL l = 1 + depL (l.flatMap Tm.sub) := by
  induction l with
  | nil => exact absurd rfl h
  | cons t l ih =>
    obtain ⟨k, n, s⟩ := t
    simp only [List.flatMap_cons, depL_append, depL, dep, Tm.sub]
    by_cases h0 : l = []
    · subst h0; simp [depL]
    · have := ih h0; omega

set_option maxRecDepth 100000 in
set_option maxHeartbeats 4000000 in
theorem refDepth_w (d : Nat) (v : Value) (t : Tm) (w : World) (hr : RdN (· < w.heap.size) w d v t) :
    Calls Try.prog 30 #[v] w (Ans w (.int .i64 (depth t))) := by
  obtain ⟨k0, n0, l0⟩ := t
  obtain ⟨d, rfl⟩ : ∃ d', d = d' + 1 := ⟨d - 1, by cases d with | zero => exact absurd hr (fun h => h) | succ d => rfl⟩
  have hr0 := hr
  obtain ⟨ao0, cap0, rfl, hlm, hk, hn, he⟩ := hr.open
  have HR := Lib.hid hr0
  have hbx : ∀ o : Obj, Below w.heap.size w (w.alloc o) := fun o => (Below.refl _ _).alloc (Nat.le_refl _) _
  have HBX := Lib.hid hbx
  clear hr hr0 he hk hn hlm hbx
  obtain ⟨M, hM⟩ : ∃ M, M = min (nsz (.node k0 n0 l0)) 8193 := ⟨_, rfl⟩
  have hcon := refSize_w (d + 1) _ (.node k0 n0 l0) _ (RdN.on HR.out (HBX.out (.cells #[.int .i64 k0, .int .i64 n0, .slice ao0 l0.length cap0] 24)))
  rw [← hM] at hcon
  have HCON := Lib.hid hcon
  have HM := Lib.hid hM
  clear hcon hM
  by_cases hbig : 8192 < M
  · have e : depth (.node k0 n0 l0) = 129 := depth_max _ (by have := HM.out; omega)
    rw [e]; clear e
    go_enter Try.func30, Try.ntmps30
    go_wp2_with fail
    refine HCON.out.mono ?_
    rintro e w1 ⟨rfl, hb⟩
    go_wp2_with fail
    go_ret
    exact ⟨rfl, (HBX.out _).trans (hb.mono (HBX.out _).size)⟩
  · have e : depth (.node k0 n0 l0) = min (dep (.node k0 n0 l0)) 129 := depth_min _ (by have := HM.out; omega)
    rw [e]; clear e
    go_enter Try.func30, Try.ntmps30
    go_wp2_with fail
    refine HCON.out.mono ?_
    rintro e w1 ⟨rfl, hb⟩
    have hb1 := (HBX.out _).trans (hb.mono (HBX.out _).size)
    obtain ⟨e0, e1, e2⟩ := box3 hb
    have HB1 := Lib.hid hb1
    clear hb hb1 HCON
    have hdb : decide ((8192 : Int) < (M : Int)) = false := by simp; omega
    go_wp2_with fail
    have hbw0 : Below w.heap.size w (w1.alloc (.cells #[.int .i64 k0, .int .i64 n0, .slice ao0 l0.length cap0] 24)) := HB1.out.alloc HB1.out.size _
    have hst : MadeG 3 24 RdC (· < w.heap.size) w.heap.size (w1.alloc (.cells #[.int .i64 k0, .int .i64 n0, .slice ao0 l0.length cap0] 24)) (.slice (some ⟨w1.heap.size, 0, none⟩) 1 1) [.node k0 n0 l0] :=
      MadeG.lit (heap_new _ _ _ rfl) HB1.out.size (Rd.keep ⟨_, HR.out⟩ (fun b hb => ⟨by have := HB1.out.size; omega, by rw [World.size_alloc]; have := HB1.out.size; omega, hb⟩) fun b hb => hbw0.block b hb)
    have hns : nsz (.node k0 n0 l0) ≤ 8192 := by have := HM.out; omega
    have HNS := Lib.hid hns
    clear hns hdb
    go_loopw [3, 4] (fun v c wr => ∃ (l : List Tm) (g : Nat), c = .int .i64 g ∧ g ≤ 129 ∧ nszL l ≤ 8192 ∧ min (g + depL l) 129 = min (dep (.node k0 n0 l0)) 129 ∧ MadeG 3 24 RdC (· < w.heap.size) w.heap.size wr v l ∧ Below w.heap.size w wr) (fun _ c _ => 129 - (intOf c).toNat)
    case atStart => exact ⟨_, 0, by go_num, by omega, by simp only [nszL]; have := HNS.out; omega, by simp [depL], hst, hbw0⟩
    case round =>
      obtain ⟨l, g, rfl, hg, hlen, hmin, hM, hb⟩ := hrel
      clear hst hbw0
      rename_i v3 _
      obtain ⟨ao, cap, hv3, hlcap, -, hcel⟩ := hM.cells (by omega)
      subst hv3
      have HMIN := Lib.hid hmin
      have HMD := Lib.hid hM
      have HB := Lib.hid hb
      have HC := Lib.hid hcel
      clear hmin hM hb hcel
      by_cases hl0 : l.length = 0
      · rw [hl0]
        go_wp2_with fail
        go_ret
        have hl1 : l = [] := List.eq_nil_of_length_eq_zero hl0
        have q : min (dep (.node k0 n0 l0)) 129 = g := by have := HMIN.out; rw [hl1] at this; simp only [depL] at this; omega
        exact ⟨by rw [q]; rfl, HB.out⟩
      by_cases hg2 : g < 129
      · obtain ⟨L, hL⟩ : ∃ L, l.length = L := ⟨_, rfl⟩
        have HL := Lib.hid hL
        rw [hL]
        rw [hL] at hl0
        have hLb : L ≤ 8192 := by have := nszL_len l; omega
        clear hL hlcap
        have hLp : 0 < L := by omega
        have hgd : decide ((g : Int) < 129) = true := by simp; omega
        go_wp2_with fail
        clear hgd
        have hst : MadeG 3 24 RdC (· < w.heap.size) wr.heap.size (wr.alloc (.cells #[] 24)) (.slice (some ⟨wr.heap.size, 0, none⟩) 0 0) ([] : List Tm) := MadeG.empty 3 24 RdC (· < w.heap.size) wr.heap.size wr (Nat.le_refl _)
        have hbi : Below wr.heap.size wr (wr.alloc (.cells #[] 24)) := (Below.refl _ _).alloc (Nat.le_refl _) _
        obtain ⟨wo, hwo⟩ : ∃ wo, wo = wr := ⟨_, rfl⟩
        rw [← hwo] at hst hbi HB HMD HC ⊢
        clear hwo wr
        go_loopw [5, 6] (fun v c wi => ∃ j : Nat, c = .int .i64 j ∧ j ≤ L ∧ MadeG 3 24 RdC (· < w.heap.size) wo.heap.size wi v ((l.take j).flatMap Tm.sub) ∧ Below wo.heap.size wo wi) (fun _ c _ => L - (intOf c).toNat)
        case atStart => exact ⟨0, rfl, Nat.zero_le _, hst, hbi⟩
        case round =>
          obtain ⟨j, rfl, hj, hMi, hbi2⟩ := hrel
          clear hst hbi
          by_cases hjl : j < L
          · obtain ⟨gr, cs, rfl, -, hgb, hgl, -, hcc, k1, n1, ao1, m1, c1, rfl, hrx⟩ := HC.out j (by rw [HL.out]; exact hjl)
            have e2 := (hbi2.cell (p := ⟨gr, j * 3 + 2, none⟩) hgl).trans (hcc 2 _ rfl)
            obtain ⟨x, hx⟩ : ∃ x, l[j]'(by rw [HL.out]; exact hjl) = x := ⟨_, rfl⟩
            rw [hx] at hrx
            obtain ⟨kx, nx, lx⟩ := x
            obtain ⟨rfl, rfl, hsx, -, -⟩ := hrx.subs
            have hBs := HB.out.size
            have hsx2 : SubR _ wr (Rd _ wr) (.slice ao1 m1 c1) lx := SubR.keep hsx (fun _ h => h) (fun b hb => hbi2.block b hb.2.1) (Q' := fun q => u5.ownBlock ≠ some q ∧ q < wr.heap.size ∧ q < w.heap.size) (fun b hb => ⟨fun e => by have := (hMi.block _ e).1; omega, by have := hbi2.size; omega, hb.2.2⟩) (fun b hb => hbi2.block b hb.2.1)
            have hflat : (l.take j).flatMap Tm.sub ++ lx = (l.take (j + 1)).flatMap Tm.sub := by
              rw [List.take_succ_eq_append_getElem (by rw [HL.out]; exact hjl), List.flatMap_append, hx]; simp [Tm.sub]
            have hle : ((l.take j).flatMap Tm.sub).length + lx.length ≤ 8192 := by
              rw [← List.length_append, hflat]
              have q1 := nszL_len ((l.take (j + 1)).flatMap Tm.sub)
              have q2 := nszL_subs (l.take (j + 1))
              have q3 := nszL_take l (j + 1)
              omega
            obtain ⟨a5, c5, w5, hr5, hM5, hg5, hb5⟩ := run_terms 22 hMi hsx2 (by omega) hbi2.size
            rw [hflat] at hM5
            generalize ((l.take j).flatMap Tm.sub).length + lx.length = L5 at hr5 hM5 hb5
            have hb6 : Below wo.heap.size wo w5 := hbi2.trans ⟨hg5.os, hg5.tape, hg5.output, hg5.size, fun b hb => hg5.block b (by have := hbi2.size; omega) (fun e => by have := (hMi.block _ e.symm).1; omega)⟩
            have hglw : gr < wr.heap.size := Nat.lt_of_lt_of_le hgl hbi2.size
            have HR5 := Lib.hid hr5
            have HM5 := Lib.hid hM5
            have HB6 := Lib.hid hb6
            clear hr5 hM5 hb6 hb5 hg5 hle hflat hsx2 hsx hrx hcc hMi hbi2 HC hx
            go_wp2_with (at_builtin; refine wpList_run_append rfl _ _ _ rfl _ _ _ rfl rfl HR5.out ?_)
            go_roundw
            case rel => exact ⟨j + 1, by go_num, by omega, HM5.out, HB6.out⟩
            case measure =>
              have q : (intOf (.int .i64 ((j : Int) + 1))).toNat = j + 1 := by show ((j : Int) + 1).toNat = _; omega
              have q2 : (intOf (.int .i64 (j : Int))).toNat = j := by show ((j : Int)).toNat = _; omega
              rw [q, q2]; omega
          · have hsub : l.take j = l := List.take_of_length_le (by rw [HL.out]; omega)
            rw [hsub] at hMi
            have hb6 : Below w.heap.size w wr := HB.out.trans (hbi2.mono HB.out.size)
            have hfin : nszL (l.flatMap Tm.sub) ≤ 8192 ∧ min (g + 1 + depL (l.flatMap Tm.sub)) 129 = min (dep (.node k0 n0 l0)) 129 := by
              have q1 := HMIN.out
              have q2 := depL_subs l (fun e => by rw [e] at HL; have := HL.out; simp at this; omega)
              have q3 := nszL_subs l
              exact ⟨by omega, by omega⟩
            have hM7 : MadeG 3 24 RdC (· < w.heap.size) w.heap.size wr u5 (l.flatMap Tm.sub) := by
              obtain ⟨css, q1, q2, q3⟩ := hMi
              refine ⟨css, ⟨q1.1, ?_⟩, q2, q3⟩
              rcases q1.2 with h | ⟨g1, cap1, cur1, h1, h2, h3⟩
              · exact .inl h
              · exact .inr ⟨g1, cap1, cur1, h1, by have := HB.out.size; omega, h3⟩
            have HM7 := Lib.hid hM7
            have HB6 := Lib.hid hb6
            have HF := Lib.hid hfin
            clear hMi hM7 hb6 hfin hsub hbi2
            go_wp2_with fail
            go_roundw
            case rel => exact ⟨_, g + 1, by go_num, by omega, HF.out.1, HF.out.2, HM7.out, HB6.out⟩
            case measure =>
              have q : (intOf (.int .i64 ((g : Int) + 1))).toNat = g + 1 := by show ((g : Int) + 1).toNat = _; omega
              have q2 : (intOf (.int .i64 (g : Int))).toNat = g := by show ((g : Int)).toNat = _; omega
              rw [q, q2]; omega
      · have hlp : 0 < l.length := by omega
        go_wp2_with fail
        go_ret
        have q : min (dep (.node k0 n0 l0)) 129 = g := by have := HMIN.out; omega
        exact ⟨by rw [q]; rfl, HB.out⟩
set_option maxHeartbeats 1000000 in
theorem refShaped_w (d : Nat) (v : Value) (t : Tm) (w : World) (hr : RdN (· < w.heap.size) w d v t) :
    Calls Try.prog 28 #[v] w (Ans w (.bool (Shp t))) := by
  have hr0 := hr
  obtain ⟨ao, cap, hv, -, -⟩ := hr.shape
  clear hr
  subst hv
  have H := Lib.hid hr0
  clear hr0
  have hbx : ∀ o : Obj, Below w.heap.size w (w.alloc o) := fun o => (Below.refl _ _).alloc (Nat.le_refl _) _
  have HBX := Lib.hid hbx
  clear hbx
  unfold Shp
  go_enter Try.func28, Try.ntmps28
  go_wp2_with fail
  refine (refDepth_w d _ t _ (RdN.on H.out (HBX.out _))).mono ?_
  rintro e w1 ⟨rfl, hb⟩
  have hb1 := (HBX.out _).trans (hb.mono (HBX.out _).size)
  obtain ⟨e0, e1, e2⟩ := box3 hb
  have hr1 := RdN.on H.out hb1
  have H1 := Lib.hid hr1
  clear hb hr1
  by_cases hd : depth t ≤ 128
  · have ed : (decide (depth t ≤ 128) && gd t) = gd t := by simp [hd]
    go_wp2_with fail
    refine (refgood_w d _ t _ H1.out).mono ?_
    rintro e w2 ⟨rfl, hb2⟩
    go_wp2_with fail
    go_ret
    exact ⟨by rw [ed]; rfl, hb1.trans (hb2.mono hb1.size)⟩
  · have ed : (decide (depth t ≤ 128) && gd t) = false := by simp [hd]
    go_wp2_with fail
    go_ret
    exact ⟨by first | rfl | (rw [ed]; rfl), hb1⟩
end Go.Proofs.Ythjlfjaciigfiaa
