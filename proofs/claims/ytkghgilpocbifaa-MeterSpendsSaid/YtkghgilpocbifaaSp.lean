/-
  MeterSpends: the walk: it returns true and writes nothing that was there. No condition.
-/
import Derived.Test.YtkghgilpocbifaaBase
import Derived.BigQuiet
import Derived.Deep.QuietTactic
import Derived.Deep.RegionWith
import Derived.Deep.DeepCutAuto
import Derived.Deep.LoopGhost
import Derived.Deep.Light
namespace Go.Proofs.Ytkghgilpocbifaa
open Go.ChangeShapes Go.WideShapes Go.ChangeAt Go.RowKit
set_option linter.unusedVariables false
set_option linter.unusedSimpArgs false

theorem refspend_ok (l u n : Int) (w : World) (h0 : 0 ≤ n) (h1 : n ≤ l) (hl : l ≤ 1048576) (hu : 0 ≤ u) (hu' : u ≤ 1048576) :
    Calls Try.prog 9 #[.agg #[.int .i64 l, .int .i64 u], .int .i64 n] w fun e w' => e = .returned (.tuple #[.agg #[.int .i64 (l - n), .int .i64 (u + n)], .bool true]) ∧ Below w.heap.size w w' := by
  go_enter Try.func9, Try.ntmps9
  go_wp2_with fail
  exact bodyPost_ret (v := .tuple #[.agg #[.int .i64 (l - n), .int .i64 (u + n)], .bool true]) (by simp [results, Try.results9, go_sem]) rfl ⟨rfl, ((Below.refl _ _).alloc (Nat.le_refl _) _).alloc (by simp) _⟩
theorem refspend_no (l u n : Int) (w : World) (h0 : n < 0 ∨ l < n) :
    Calls Try.prog 9 #[.agg #[.int .i64 l, .int .i64 u], .int .i64 n] w fun e w' => e = .returned (.tuple #[.agg #[.int .i64 l, .int .i64 u], .bool false]) ∧ Below w.heap.size w w' := by
  by_cases h : n < 0
  · go_enter Try.func9, Try.ntmps9
    go_wp2_with fail
    exact bodyPost_ret (v := .tuple #[.agg #[.int .i64 l, .int .i64 u], .bool false]) (by simp [results, Try.results9, go_sem]) rfl ⟨rfl, ((Below.refl _ _).alloc (Nat.le_refl _) _).alloc (by simp) _⟩
  · have h' : l < n := by omega
    go_enter Try.func9, Try.ntmps9
    go_wp2_with fail
    exact bodyPost_ret (v := .tuple #[.agg #[.int .i64 l, .int .i64 u], .bool false]) (by simp [results, Try.results9, go_sem]) rfl ⟨rfl, ((Below.refl _ _).alloc (Nat.le_refl _) _).alloc (by simp) _⟩

theorem bcell {W w1 : World} (hb : Below W.heap.size W w1) : (∀ b o, b < W.heap.size → w1.cell? ⟨b, o, none⟩ = W.cell? ⟨b, o, none⟩) ∧ (∀ b o, b < W.heap.size → w1.frozen? ⟨b, o, none⟩ = W.frozen? ⟨b, o, none⟩) :=
  ⟨fun b o h => hb.cell (p := ⟨b, o, none⟩) h, fun b o h => hb.frozen (p := ⟨b, o, none⟩) h⟩

/-- block b is the document's meter -/
def IsR (w : World) (b : Nat) (l u : Int) : Prop := w.heap[b]? = some (.cells #[.int .i64 l, .int .i64 u] 29 (0, 0))
theorem IsR.c0 {w : World} {b : Nat} {l u : Int} (h : IsR w b l u) : w.cell? ⟨b, 0, none⟩ = some (.int .i64 l) := by
  unfold IsR at h; simp [World.cell?, h]
theorem IsR.c1 {w : World} {b : Nat} {l u : Int} (h : IsR w b l u) : w.cell? ⟨b, 1, none⟩ = some (.int .i64 u) := by
  unfold IsR at h; simp [World.cell?, h]
theorem IsR.f0 {w : World} {b : Nat} {l u : Int} (h : IsR w b l u) (o : Nat) : w.frozen? ⟨b, o, none⟩ = false := by
  unfold IsR at h; simp [World.frozen?, h]

theorem IsR.set0 {w : World} {b : Nat} {l u : Int} (h : IsR w b l u) (x : Int) : IsR (w.setCell ⟨b, 0, none⟩ (.int .i64 x)) b x u := by
  unfold IsR at *
  simp [World.setCell, Array.getElem?_modify, h]
theorem IsR.set1 {w : World} {b : Nat} {l u : Int} (h : IsR w b l u) (x : Int) : IsR (w.setCell ⟨b, 1, none⟩ (.int .i64 x)) b l x := by
  unfold IsR at *
  simp [World.setCell, Array.getElem?_modify, h]
theorem isR_new (w : World) (l u : Int) : IsR (w.alloc (.cells #[.int .i64 l, .int .i64 u] 29)) w.heap.size l u := by
  show (w.heap.push _)[w.heap.size]? = _
  simp
theorem IsR.below {w w' : World} {b B : Nat} {l u : Int} (h : IsR w b l u) (hb : Below B w w') (hB : b < B) : IsR w' b l u := (hb.block b hB).trans h
theorem IsM.below {w w' : World} {b B : Nat} {l u : Int} (h : IsM w b l u) (hb : Below B w w') (hB : b < B) : IsM w' b l u := (hb.block b hB).trans h
theorem IsR.lt {w : World} {b : Nat} {l u : Int} (h : IsR w b l u) : b < w.heap.size := (Array.getElem?_eq_some_iff.1 h).1
theorem IsR.only {w w' : World} {b c : Nat} {l u : Int} (h : IsR w c l u) (hb : Only b w w') (hB : c ≠ b) : IsR w' c l u := (hb.block c hB).trans h

theorem refA (wr w3 : World) (l u : Int) (ok : Bool) (hb3 : Below wr.drew.heap.size wr.drew w3) :
    ∃ X, Value.pointer (some ⟨w3.heap.size, 0, none⟩) = .pointer (some ⟨X, 0, none⟩) ∧ wr.heap.size ≤ X ∧ IsR (w3.alloc (.cells #[.int .i64 l, .int .i64 u] 29)) X l u ∧ Value.bool ok = .bool ok ∧
      Below wr.heap.size wr (w3.alloc (.cells #[.int .i64 l, .int .i64 u] 29)) :=
  have h : Below wr.heap.size wr w3 := (Below.refl _ _).drew.trans hb3
  ⟨w3.heap.size, rfl, h.size, isR_new _ _ _, rfl, h.alloc h.size _⟩
theorem refB (wr w3 : World) (l u : Int) (ok : Bool) (hb3 : Below (wr.alloc (.cells #[.int .i64 0, .int .i64 0] 29)).drew.heap.size (wr.alloc (.cells #[.int .i64 0, .int .i64 0] 29)).drew w3) :
    ∃ X, Value.pointer (some ⟨wr.heap.size, 0, none⟩) = .pointer (some ⟨X, 0, none⟩) ∧ wr.heap.size ≤ X ∧ IsR ((w3.setCell ⟨wr.heap.size, 0, none⟩ (.int .i64 l)).setCell ⟨wr.heap.size, 1, none⟩ (.int .i64 u)) X l u ∧ Value.bool ok = .bool ok ∧
      Below wr.heap.size wr ((w3.setCell ⟨wr.heap.size, 0, none⟩ (.int .i64 l)).setCell ⟨wr.heap.size, 1, none⟩ (.int .i64 u)) := by
  have h0 : Below wr.heap.size wr (wr.alloc (.cells #[.int .i64 0, .int .i64 0] 29)) := (Below.refl _ _).alloc (Nat.le_refl _) _
  have h : Below wr.heap.size wr w3 := h0.drew.trans (hb3.mono (by show _ ≤ (wr.alloc _).heap.size; simp))
  have hr : IsR w3 wr.heap.size 0 0 := IsR.below (w := (wr.alloc (.cells #[.int .i64 0, .int .i64 0] 29)).drew) (isR_new wr 0 0) hb3 (by show _ < (wr.alloc _).heap.size; simp)
  exact ⟨wr.heap.size, rfl, Nat.le_refl _, (hr.set0 l).set1 u, rfl, (h.setCell (Nat.le_refl _) _).setCell (Nat.le_refl _) _⟩

set_option maxRecDepth 100000 in
set_option maxHeartbeats 4000000 in
theorem spends_row (fuel : Int) (b off len cap : Nat) (zs : List Int) (w : World) (hf0 : 0 ≤ fuel) (hf1 : fuel ≤ 1048576) (hl : len ≤ cap) (hm : cap ≤ maxLen) (hz : zs.length = cap)
    (hcell : ∀ i, i < zs.length → w.cell? ⟨b, off + i, none⟩ = some (.int .i64 (zs.getD i 0))) (hbl : len ≠ 0 → b < w.heap.size) :
    Calls Try.prog 3 #[.int .i64 fuel, .slice (some ⟨b, off, none⟩) len cap] w fun e w' => e = .returned (.bool true) ∧ Below w.heap.size w w' := by
  unfold maxLen at hm
  go_enter Try.func3, Try.ntmps3
  go_wp2_with fail
  refine (new_ok _ w (by omega) (by omega)).mono ?_
  rintro e w1 ⟨rfl, hw⟩
  have hm1 : IsM w1 w.heap.size fuel 0 := by rw [← hw]; exact isM_new _ _ _
  have hb1 : Below w.heap.size w w1 := by rw [← hw]; exact (Below.refl _ _).alloc (Nat.le_refl _) _
  have hs1 : w.heap.size < w1.heap.size := hm1.lt
  clear hw
  go_wp2_with fail
  have hr1 : IsR (w1.alloc (.cells #[.int .i64 fuel, .int .i64 0] 29)) w1.heap.size fuel 0 := by
    show (w1.heap.push _)[w1.heap.size]? = _
    simp
  have hm2 := hm1.alloc (.cells #[.int .i64 fuel, .int .i64 0] 29)
  have hb2 := hb1.alloc hb1.size (.cells #[.int .i64 fuel, .int .i64 0] 29)
  obtain ⟨B, hB⟩ : ∃ B, B = w.heap.size := ⟨_, rfl⟩
  obtain ⟨R, hR⟩ : ∃ R, R = w1.heap.size := ⟨_, rfl⟩
  obtain ⟨W, hW⟩ : ∃ W, W = w1.alloc (.cells #[.int .i64 fuel, .int .i64 0] 29) := ⟨_, rfl⟩
  rw [← hW] at hr1 hm2 hb2 ⊢
  rw [← hB] at hm2 hs1 ⊢
  rw [← hR] at hs1 hr1 ⊢
  have HB : Hid (B = w.heap.size) := hB
  clear hW hm1 hb1 hR hB
  go_loopg [8] 101 (fun g i wr => ∃ (k : Nat) (l u : Int), i = .int .i64 k ∧ k ≤ len ∧ k + g = 101 ∧ 0 ≤ l ∧ 0 ≤ u ∧ l + u = fuel ∧ IsM wr B l u ∧ IsR wr R l u ∧ Below w.heap.size w wr)
  case atStart => exact ⟨0, fuel, 0, rfl, by omega, by omega, hf0, by omega, by omega, hm2, hr1, hb2⟩
  case round =>
    obtain ⟨k, l, u, rfl, hk, hk1, h0, h1, h2, hm, hr, hb⟩ := hrel
    clear hm2 hr1 hb2
    have HK : Hid (k + gk = 101) := hk1
    have hk100 : k ≤ 101 := by omega
    clear hk1
    have H2 : Hid (l + u = fuel) := h2
    have hlf : l ≤ fuel := by omega
    have huf : u ≤ fuel := by omega
    clear h2
    by_cases hlt : k < len
    · by_cases h100 : k < 100
      · have hc : wr.cell? ⟨b, off + k, none⟩ = some (.int .i64 (zs.getD k 0)) := by
          rw [hb.cell (by have := hbl (by omega); exact this)]; exact hcell k (by omega)
        obtain ⟨x, hx⟩ : ∃ x, x = zs.getD k 0 := ⟨_, rfl⟩
        rw [← hx] at hc
        clear hx
        have hbw : b < wr.heap.size := Nat.lt_of_lt_of_le (hbl (by omega)) hb.size
        have hRw : R < wr.heap.size := (Array.getElem?_eq_some_iff.1 hr).1
        by_cases hv : 0 ≤ x ∧ x ≤ l
        · go_upto_region 10 with fail
          go_cut [9, 10] (fun s9 s10 wx => ∃ X, s9 = .pointer (some ⟨X, 0, none⟩) ∧ wr.heap.size ≤ X ∧ IsR wx X (l - x) (u + x) ∧ s10 = .bool true ∧ Below wr.heap.size wr wx)
          case first =>
            have hrc0 := hr.c0
            have hrc1 := hr.c1
            go_region_with (go_at_call 9; refine (refspend_ok _ _ _ _ hv.1 hv.2 (by omega) (by omega) (by omega)).mono ?_; rintro e w3 ⟨rfl, hb3⟩; obtain ⟨hcc, hff⟩ := bcell hb3)
            all_goals (go_wp2_with fail; go_meet)
            all_goals (first | exact refA _ _ _ _ _ hb3 | exact refB _ _ _ _ _ hb3)
          case rest => 
            obtain ⟨X, rfl, hX, hrX, rfl, hbX⟩ := hcut
            have hBw := hm.lt
            have hc' : wc.cell? ⟨b, off + k, none⟩ = some (.int .i64 x) := (hbX.cell hbw).trans hc
            have hmc := hm.below hbX hBw
            have hrc := hr.below hbX hRw
            have hbc := hb.trans (hbX.mono hb.size)
            have hbcw : b < wc.heap.size := Nat.lt_of_lt_of_le hbw hbX.size
            clear hc hm hr hb hbX
            go_wp2_with fail
            refine (spend_ok _ _ _ _ _ hmc hv.1 hv.2 (by omega) (by omega) (by omega)).mono ?_
            rintro e wd ⟨rfl, hmd, ho⟩
            have hbB : b ≠ B := by have := HB.out; have := hbl (by omega); omega
            have hcd : wd.cell? ⟨b, off + k, none⟩ = some (.int .i64 x) := (World.cell?_of_block (w := wc) (a := ⟨b, off + k, none⟩) (ho.block b hbB)).trans hc'
            have hrd := hrc.only ho (by omega)
            have hrXd := hrX.only ho (by omega)
            have hbd := hbc.trans (ho.below (by have := HB.out; omega))
            clear hrc hrX hmc hc' ho hbc
            obtain ⟨t, ht⟩ : ∃ t : Bool, t = decide (x = 1 ∧ k % 2 = 0) := ⟨_, rfl⟩
            have HT : Hid (t = decide (x = 1 ∧ k % 2 = 0)) := ht
            clear ht
            go_upto_region 12 with fail
            go_cut [70] (fun s70 wx => s70 = .bool t ∧ wx = wd)
            case first =>
              by_cases hx1 : x = 1
              · have ht : t = decide ((k : Int) % 2 = 0) := by rw [HT.out, hx1]; simp; omega
                subst hx1
                clear HT
                go_wp2_with fail
                go_meet
                exact ⟨by rw [ht]; rfl, rfl⟩
              · have ht : t = false := by rw [HT.out]; simp [hx1]
                subst ht
                clear HT
                go_wp2_with fail
                go_meet
                exact ⟨rfl, rfl⟩
            case rest =>
              obtain ⟨rfl, rfl⟩ := hcut
              go_upto_if 70 with fail
              go_cut [10, 11] (fun s10 s11 wx => ∃ (l2 u2 : Int) (ok : Bool), s10 = .bool ok ∧ s11 = .int .i64 (if ok then 0 else 8) ∧ 0 ≤ l2 ∧ 0 ≤ u2 ∧ Hid (l2 + u2 = fuel) ∧ l2 ≤ fuel ∧ u2 ≤ fuel ∧ IsM wx B l2 u2 ∧ IsR wx X l2 u2 ∧ IsR wx R l u ∧ Below w.heap.size w wx)
              case first =>
                cases t
                · go_wp2_with fail
                  go_meet
                  exact ⟨l - x, u + x, true, rfl, rfl, by omega, by omega, by have := H2.out; show _ = _; omega, by omega, by have := H2.out; omega, hmd, hrXd, hrd, hbd⟩
                · have ⟨hx1, hk2⟩ : x = 1 ∧ k % 2 = 0 := by have := HT.out; simpa using this
                  clear HT
                  subst hx1
                  have q0 := hrXd.c0
                  have q1 := hrXd.c1
                  by_cases hl1 : 1 ≤ l - 1
                  · go_wp2_with fail
                    refine (refspend_ok _ _ _ _ (by omega) (by omega) (by omega) (by omega) (by have := H2.out; omega)).mono ?_
                    rintro e we ⟨rfl, hbe⟩
                    have hXw := hrXd.lt
                    have hrXe := hrXd.below hbe hXw
                    have hme := hmd.below hbe hmd.lt
                    have hre := hrd.below hbe hrd.lt
                    have hbe' := hbd.trans (hbe.mono hbd.size)
                    have p0 := hrXe.c0
                    have p1 := hrXe.c1
                    have p2 := hrXe.f0 0
                    have p3 := hrXe.f0 1
                    clear q0 q1 hrXd hmd hrd hbd hbe
                    have ho := (only_set we X 0 (.int .i64 (l - 1 - 1))).trans (only_set _ X 1 (.int .i64 (u + 1 + 1)))
                    have hmf := ho.isM (by omega) hme
                    have hrf := hre.only ho (by omega)
                    have hrXf := (hrXe.set0 (l - 1 - 1)).set1 (u + 1 + 1)
                    have hbf := hbe'.trans (ho.below (by have := HB.out; omega))
                    clear ho hme hre hbe' hrXe
                    go_wp2_with fail
                    refine (step_ok _ _ _ _ hmf (by omega) (by omega) (by omega) (by have := H2.out; omega)).mono ?_
                    rintro e wf ⟨rfl, hmg, ho⟩
                    have hrg := hrf.only ho (by omega)
                    have hrXg := hrXf.only ho (by omega)
                    have hbg := hbf.trans (ho.below (by have := HB.out; omega))
                    clear p0 p1 p2 p3 hmf hrf hrXf hbf ho
                    go_wp2_with fail
                    go_meet
                    exact ⟨l - 1 - 1, u + 1 + 1, true, rfl, rfl, by omega, by omega, by have := H2.out; show _ = _; omega, by omega, by have := H2.out; omega, hmg, hrXg, hrg, hbg⟩
                  · go_wp2_with fail
                    refine (refspend_no _ _ _ _ (by omega)).mono ?_
                    rintro e we ⟨rfl, hbe⟩
                    have hXw := hrXd.lt
                    have hrXe := hrXd.below hbe hXw
                    have hme := hmd.below hbe hmd.lt
                    have hre := hrd.below hbe hrd.lt
                    have hbe' := hbd.trans (hbe.mono hbd.size)
                    have p0 := hrXe.c0
                    have p1 := hrXe.c1
                    have p2 := hrXe.f0 0
                    have p3 := hrXe.f0 1
                    clear q0 q1 hrXd hmd hrd hbd hbe
                    have ho := (only_set we X 0 (.int .i64 (l - 1))).trans (only_set _ X 1 (.int .i64 (u + 1)))
                    have hmf := ho.isM (by omega) hme
                    have hrf := hre.only ho (by omega)
                    have hrXf := (hrXe.set0 (l - 1)).set1 (u + 1)
                    have hbf := hbe'.trans (ho.below (by have := HB.out; omega))
                    clear ho hme hre hbe' hrXe
                    go_wp2_with fail
                    refine (step_no _ _ _ _ hmf (by omega)).mono ?_
                    rintro e wf ⟨rfl, rfl⟩
                    clear p0 p1 p2 p3
                    go_wp2_with fail
                    go_meet
                    exact ⟨l - 1, u + 1, false, rfl, rfl, by omega, by omega, by have := H2.out; show _ = _; omega, by omega, by have := H2.out; omega, hmf, hrXf, hrf, hbf⟩
              case rest =>
                obtain ⟨l2, u2, ok, rfl, rfl, k0, k1, K2, k3, k4, hm2, hrX2, hr2, hb2⟩ := hcut
                have p0 := hrX2.c0
                have p1 := hrX2.c1
                have r0 := hr2.c0
                have r1 := hr2.c1
                have r2 := hr2.f0 0
                have r3 := hr2.f0 1
                clear hmd hrXd hrd hbd hcd hrX2
                have ho := (only_set wc R 0 (.int .i64 l2)).trans (only_set _ R 1 (.int .i64 u2))
                have hr3 := (hr2.set0 l2).set1 u2
                have hm3 := ho.isM (by omega) hm2
                have hb3 := hb2.trans (ho.below (by have := HB.out; omega))
                clear ho hr2 hm2 hb2
                have hws : IntKind.i64.wrap (l2 + u2) = fuel := by rw [K2.out]; exact IntWalk.i64_in _ (by omega)
                cases ok
                all_goals
                  go_wp2_with fail
                  generalize hwq : (wc.setCell { block := R, off := 0 } (Value.int IntKind.i64 l2)).setCell { block := R, off := 1 } (Value.int IntKind.i64 u2) = wq at *
                  clear hwq p0 p1 r0 r1 r2 r3
                  have t0 := hr3.c0
                  have t1 := hr3.c1
                  go_quiet ((first | (go_at_call 12; exact Calls.quiet_of_same ((left_ok _ _ _ _ (by assumption)).mono fun _ _ h => ⟨h.1, h.2.symm⟩)) | (go_at_call 13; exact Calls.quiet_of_same ((used_ok _ _ _ _ (by assumption)).mono fun _ _ h => ⟨h.1, h.2.symm⟩))))
                  have hr4 : IsR (wq.drewN nq) R l2 u2 := hr3
                  have hm4 : IsM (wq.drewN nq) B l2 u2 := hm3
                  have hb4 : Below w.heap.size w (wq.drewN nq) := ⟨hb3.os, hb3.tape, hb3.output, hb3.size, hb3.block⟩
                  clear hr3 hm3 hb3 t0 t1 hws
                  go_wp2_with fail
                  go_roundg (gk - 1)
                  case measure => have := HK.out; omega
                  case rel => exact ⟨k + 1, l2, u2, by go_num, by omega, by have := HK.out; omega, k0, k1, K2.out, hm4, hr4, hb4⟩
        · go_upto_region 10 with fail
          go_cut [9, 10] (fun s9 s10 wx => ∃ X, s9 = .pointer (some ⟨X, 0, none⟩) ∧ wr.heap.size ≤ X ∧ IsR wx X l u ∧ s10 = .bool false ∧ Below wr.heap.size wr wx)
          case first =>
            have hrc0 := hr.c0
            have hrc1 := hr.c1
            go_region_with (go_at_call 9; refine (refspend_no _ _ _ _ (by omega)).mono ?_; rintro e w3 ⟨rfl, hb3⟩; obtain ⟨hcc, hff⟩ := bcell hb3)
            all_goals (go_wp2_with fail; go_meet)
            all_goals (first | exact refA _ _ _ _ _ hb3 | exact refB _ _ _ _ _ hb3)
          case rest => 
            obtain ⟨X, rfl, hX, hrX, rfl, hbX⟩ := hcut
            have hBw := hm.lt
            have hc' : wc.cell? ⟨b, off + k, none⟩ = some (.int .i64 x) := (hbX.cell hbw).trans hc
            have hmc := hm.below hbX hBw
            have hrc := hr.below hbX hRw
            have hbc := hb.trans (hbX.mono hb.size)
            have hbcw : b < wc.heap.size := Nat.lt_of_lt_of_le hbw hbX.size
            clear hc hm hr hb hbX
            go_wp2_with fail
            refine (spend_no _ _ _ _ _ hmc (by omega)).mono ?_
            rintro e w' ⟨rfl, rfl⟩
            obtain ⟨wd, rfl⟩ : ∃ wd, wd = wc := ⟨_, rfl⟩
            have hcd := hc'
            have hrd := hrc
            have hrXd := hrX
            have hbd := hbc
            have hmd := hmc
            clear hrc hrX hmc hc' hbc
            obtain ⟨t, ht⟩ : ∃ t : Bool, t = decide (x = 1 ∧ k % 2 = 0) := ⟨_, rfl⟩
            have HT : Hid (t = decide (x = 1 ∧ k % 2 = 0)) := ht
            clear ht
            go_upto_region 12 with fail
            go_cut [70] (fun s70 wx => s70 = .bool t ∧ wx = wd)
            case first =>
              by_cases hx1 : x = 1
              · have ht : t = decide ((k : Int) % 2 = 0) := by rw [HT.out, hx1]; simp; omega
                subst hx1
                clear HT
                go_wp2_with fail
                go_meet
                exact ⟨by rw [ht]; rfl, rfl⟩
              · have ht : t = false := by rw [HT.out]; simp [hx1]
                subst ht
                clear HT
                go_wp2_with fail
                go_meet
                exact ⟨rfl, rfl⟩
            case rest =>
              obtain ⟨rfl, rfl⟩ := hcut
              go_upto_if 70 with fail
              go_cut [10, 11] (fun s10 s11 wx => ∃ (l2 u2 : Int) (ok : Bool), s10 = .bool ok ∧ s11 = .int .i64 (if ok then 0 else 8) ∧ 0 ≤ l2 ∧ 0 ≤ u2 ∧ Hid (l2 + u2 = fuel) ∧ l2 ≤ fuel ∧ u2 ≤ fuel ∧ IsM wx B l2 u2 ∧ IsR wx X l2 u2 ∧ IsR wx R l u ∧ Below w.heap.size w wx)
              case first =>
                cases t
                · go_wp2_with fail
                  go_meet
                  exact ⟨l, u, false, rfl, rfl, by omega, by omega, H2, by omega, by omega, hmd, hrXd, hrd, hbd⟩
                · have ⟨hx1, hk2⟩ : x = 1 ∧ k % 2 = 0 := by have := HT.out; simpa using this
                  clear HT
                  subst hx1
                  have q0 := hrXd.c0
                  have q1 := hrXd.c1
                  go_wp2_with fail
                  refine (refspend_no _ _ _ _ (by omega)).mono ?_
                  rintro e we ⟨rfl, hbe⟩
                  have hXw := hrXd.lt
                  have hrXe := hrXd.below hbe hXw
                  have hme := hmd.below hbe hmd.lt
                  have hre := hrd.below hbe hrd.lt
                  have hbe' := hbd.trans (hbe.mono hbd.size)
                  have p0 := hrXe.c0
                  have p1 := hrXe.c1
                  have p2 := hrXe.f0 0
                  have p3 := hrXe.f0 1
                  clear q0 q1 hrXd hmd hrd hbd hbe
                  have ho := (only_set we X 0 (.int .i64 l)).trans (only_set _ X 1 (.int .i64 u))
                  have hmf := ho.isM (by omega) hme
                  have hrf := hre.only ho (by omega)
                  have hrXf := (hrXe.set0 l).set1 u
                  have hbf := hbe'.trans (ho.below (by have := HB.out; omega))
                  clear ho hme hre hbe' hrXe
                  go_wp2_with fail
                  refine (step_no _ _ _ _ hmf (by omega)).mono ?_
                  rintro e wf ⟨rfl, rfl⟩
                  clear p0 p1 p2 p3
                  go_wp2_with fail
                  go_meet
                  exact ⟨l, u, false, rfl, rfl, by omega, by omega, H2, by omega, by omega, hmf, hrXf, hrf, hbf⟩
              case rest =>
                obtain ⟨l2, u2, ok, rfl, rfl, k0, k1, K2, k3, k4, hm2, hrX2, hr2, hb2⟩ := hcut
                have p0 := hrX2.c0
                have p1 := hrX2.c1
                have r0 := hr2.c0
                have r1 := hr2.c1
                have r2 := hr2.f0 0
                have r3 := hr2.f0 1
                clear hmd hrXd hrd hbd hcd hrX2
                have ho := (only_set wc R 0 (.int .i64 l2)).trans (only_set _ R 1 (.int .i64 u2))
                have hr3 := (hr2.set0 l2).set1 u2
                have hm3 := ho.isM (by omega) hm2
                have hb3 := hb2.trans (ho.below (by have := HB.out; omega))
                clear ho hr2 hm2 hb2
                have hws : IntKind.i64.wrap (l2 + u2) = fuel := by rw [K2.out]; exact IntWalk.i64_in _ (by omega)
                cases ok
                all_goals
                  go_wp2_with fail
                  generalize hwq : (wc.setCell { block := R, off := 0 } (Value.int IntKind.i64 l2)).setCell { block := R, off := 1 } (Value.int IntKind.i64 u2) = wq at *
                  clear hwq p0 p1 r0 r1 r2 r3
                  have t0 := hr3.c0
                  have t1 := hr3.c1
                  go_quiet ((first | (go_at_call 12; exact Calls.quiet_of_same ((left_ok _ _ _ _ (by assumption)).mono fun _ _ h => ⟨h.1, h.2.symm⟩)) | (go_at_call 13; exact Calls.quiet_of_same ((used_ok _ _ _ _ (by assumption)).mono fun _ _ h => ⟨h.1, h.2.symm⟩))))
                  have hr4 : IsR (wq.drewN nq) R l2 u2 := hr3
                  have hm4 : IsM (wq.drewN nq) B l2 u2 := hm3
                  have hb4 : Below w.heap.size w (wq.drewN nq) := ⟨hb3.os, hb3.tape, hb3.output, hb3.size, hb3.block⟩
                  clear hr3 hm3 hb3 t0 t1 hws
                  go_wp2_with fail
                  go_roundg (gk - 1)
                  case measure => have := HK.out; omega
                  case rel => exact ⟨k + 1, l2, u2, by go_num, by omega, by have := HK.out; omega, k0, k1, K2.out, hm4, hr4, hb4⟩
      · go_wp2_with fail
        refine (awake_ok _).mono ?_
        rintro e w5 ⟨rfl, hb5⟩
        go_wp2_with fail
        go_ret
        exact ⟨rfl, hb.trans (hb5.mono hb.size)⟩
    · go_wp2_with fail
      refine (awake_ok _).mono ?_
      rintro e w5 ⟨rfl, hb5⟩
      go_wp2_with fail
      go_ret
      exact ⟨rfl, hb.trans (hb5.mono hb.size)⟩
end Go.Proofs.Ytkghgilpocbifaa
