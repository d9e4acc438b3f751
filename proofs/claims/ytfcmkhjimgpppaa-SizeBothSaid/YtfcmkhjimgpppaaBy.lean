/-
  scholiumref31.in, By: contracts: a number is told; where By tells true, the matrices are of one size, the order is right, and each falls by it.
-/
import Derived.Test.YtfcmkhjimgpppaaSzs
namespace Go.Proofs.Ytfcmkhjimgpppaa
open Go.RowKit Go.Maps
set_option linter.unusedVariables false
set_option linter.unusedSimpArgs false

theorem RowR.get {w : World} {P : Nat → Prop} {v : Value} {l : List Int} (h : RowR P w v l) : ∃ ao cap, v = .slice ao l.length cap ∧ l.length ≤ cap ∧ cap ≤ 9223372036854775807 ∧
    ∀ i, i < l.length → ∃ b off, ao = some ⟨b, off, none⟩ ∧ P b ∧ w.cell? ⟨b, off + i, none⟩ = some (.int .i64 (l.getD i 0)) := by
  obtain ⟨ao, cap, hv, hlc, hcm, he⟩ := h
  refine ⟨ao, cap, hv, hlc, by unfold maxLen at hcm; omega, fun i hi => ?_⟩
  obtain ⟨b, off, h1, h2, h3⟩ := he i hi
  refine ⟨b, off, h1, h2, ?_⟩
  rw [List.getD_eq_getElem?_getD, List.getElem?_eq_getElem hi]; exact h3
theorem RowR.take {w : World} {P : Nat → Prop} {ao : Option Addr} {n c : Nat} {l : List Int} (h : RowR P w (.slice ao n c) l) (k : Nat) (hk : k ≤ l.length) : RowR P w (.slice ao k c) (l.take k) := by
  obtain ⟨ao', cap, hv, hlc, hcm, he⟩ := h
  injection hv with h1 h2 h3; subst h1; subst h3
  have hl : (l.take k).length = k := by rw [List.length_take]; omega
  refine ⟨_, _, by rw [hl], by omega, hcm, fun i hi => ?_⟩
  obtain ⟨b, off, q1, q2, q3⟩ := he i (by omega)
  exact ⟨b, off, q1, q2, by rw [List.getElem_take]; exact q3⟩
set_option maxHeartbeats 1000000 in
theorem in47_w {P : Nat → Prop} (v : Value) (l : List Int) (x : Int) (w : World) (h : RowR P w v l) :
    Calls Try.prog 47 #[v, .int .i64 x] w fun e w' => e = .returned (.bool (decide (x ∈ l))) ∧ w = w' := by
  obtain ⟨y, hy⟩ : ∃ y, y = decide (x ∈ l) := ⟨_, rfl⟩
  rw [← hy]
  have HY := Lib.hid hy
  obtain ⟨ao, cap, rfl, hlc, hcm, he⟩ := h.get
  have HE := Lib.hid he
  clear h he hy
  have hlm : l.length ≤ 9223372036854775807 := by omega
  go_enter Try.func47, Try.ntmps47
  go_wp2_with fail
  go_loop [5] (fun i => ∃ k : Nat, i = .int .i64 k ∧ k ≤ l.length ∧ ∀ k', k' < k → l.getD k' 0 ≠ x) (fun i => l.length - (intOf i).toNat)
  case atStart => exact ⟨0, rfl, Nat.zero_le _, fun _ h => absurd h (Nat.not_lt_zero _)⟩
  case round =>
    obtain ⟨k, rfl, hk, hall⟩ := hrel
    have HALL := Lib.hid hall
    clear hall
    by_cases hlt : k < l.length
    · obtain ⟨b, off, rfl, hb, hc⟩ := HE.out k hlt
      obtain ⟨z, hz⟩ : ∃ z, z = l.getD k 0 := ⟨_, rfl⟩
      rw [← hz] at hc
      have HZ := Lib.hid hz
      clear hz
      by_cases hzx : z = x
      · have hb1 : (z == x) = true := by simp [hzx]
        have HZX := Lib.hid hzx
        clear hzx
        go_wp2_with fail
        go_ret
        refine ⟨?_, rfl⟩
        have : y = true := by
          rw [HY.out, decide_eq_true_iff, ← HZX.out, HZ.out, List.getD_eq_getElem?_getD, List.getElem?_eq_getElem hlt]
          exact List.getElem_mem hlt
        rw [this]; rfl
      · have hb1 : (z == x) = false := by simp [hzx]
        have HZX := Lib.hid hzx
        clear hzx
        go_wp2_with fail
        go_round
        case rel => exact ⟨k + 1, by go_num, by omega, fun k' h' => by
          by_cases hkk : k' = k
          · subst hkk; rw [← HZ.out]; exact HZX.out
          · exact HALL.out k' (by omega)⟩
        case measure => simp [intOf]; omega
    · have hkl : k = l.length := by omega
      go_wp2_with fail
      go_ret
      refine ⟨?_, rfl⟩
      have : y = false := by
        rw [HY.out, decide_eq_false_iff_not]
        intro hx
        obtain ⟨i, hi, he⟩ := List.getElem_of_mem hx
        exact HALL.out i (by omega) (by rw [List.getD_eq_getElem?_getD, List.getElem?_eq_getElem hi]; exact he)
      rw [this]; rfl

/-- what By asks -/
def ByOk (l : List Mx) (order : List Int) : Prop :=
  rightsB l = true ∧ (∀ k, k < order.length → 0 ≤ order.getD k 0 ∧ (0 < l.length → order.getD k 0 < ((l.getD 0 []).length : Int))) ∧ ∀ i, i < l.length → fallsBy (order.map Int.toNat) (l.getD i [])
def AnsBy (w : World) (l : List Mx) (order : List Int) (e : Ending) (w' : World) : Prop := ∃ b : Bool, e = .returned (.bool b) ∧ Below w.heap.size w w' ∧ (b = true → ByOk l order)

set_option maxRecDepth 100000 in
set_option maxHeartbeats 4000000 in
theorem By_w (va : Value) (l : List Mx) (vo : Value) (order : List Int) (w : World) (h : MatsR (· < w.heap.size) w va l) (ho : RowR (· < w.heap.size) w vo order) (hol : order.length ≤ 30) :
    Calls Try.prog 33 #[va, vo] w (AnsBy w l order) := by
  have kr := refRight31_w va l w h
  have H := Lib.hid h
  obtain ⟨ao, cap, rfl, hlm, he⟩ := h.get
  have HE := Lib.hid he
  have HO := Lib.hid ho
  obtain ⟨aoo, capo, rfl, hoc, hocm, hoe⟩ := ho.get
  have HOE := Lib.hid hoe
  clear h he ho hoe
  cases hrb : rightsB l
  · rw [hrb] at kr
    have KR := Lib.hid kr
    clear kr hrb
    go_enter Try.func33, Try.ntmps33
    go_wp2_with fail
    refine KR.out.mono ?_
    rintro e w2 ⟨rfl, hb2⟩
    go_wp2_with fail
    go_ret
    exact ⟨false, rfl, hb2, fun h => by cases h⟩
  rw [hrb] at kr
  have KR := Lib.hid kr
  have HRB := Lib.hid hrb
  obtain ⟨n0, hn0⟩ : ∃ n, n = (l.getD 0 []).length := ⟨_, rfl⟩
  have hsq := rightsB_sqs hrb
  rw [← hn0] at hsq
  have HSQ := Lib.hid hsq
  have HN0 := Lib.hid hn0
  clear kr hrb hsq hn0
  go_enter Try.func33, Try.ntmps33
  go_wp2_with fail
  refine KR.out.mono ?_
  rintro e w2 ⟨rfl, hb2⟩
  have HB2 := Lib.hid hb2
  clear hb2 KR
  go_wp2_with fail
  go_loopw [5] (fun i wr => ∃ k : Nat, i = .int .i64 k ∧ k ≤ order.length ∧ Below w.heap.size w wr ∧ ∀ k', k' < k → 0 ≤ order.getD k' 0 ∧ (0 < l.length → order.getD k' 0 < (n0 : Int))) (fun i _ => order.length - (intOf i).toNat)
  case atStart => exact ⟨0, rfl, Nat.zero_le _, HB2.out, fun _ h => absurd h (Nat.not_lt_zero _)⟩
  case round =>
    obtain ⟨k, rfl, hk, hbr, hall⟩ := hrel
    obtain ⟨w5, rfl⟩ : ∃ x : World, x = wr := ⟨_, rfl⟩
    have HALL := Lib.hid hall
    have HBR := Lib.hid hbr
    have HO5 := Lib.hid (RowR.keep HO.out (P' := (· < w5.heap.size)) (w' := w5) (fun q hq => Nat.lt_of_lt_of_le hq hbr.size) fun q hq => hbr.block q hq)
    clear hall hbr HB2
    by_cases hlt : k < order.length
    · obtain ⟨bo, oo, rfl, hbo, hco⟩ := HOE.out k hlt
      have e1 := (HBR.out.cell (p := ⟨bo, oo + k, none⟩) hbo).trans hco
      obtain ⟨x, hx⟩ : ∃ x, x = order.getD k 0 := ⟨_, rfl⟩
      rw [← hx] at e1
      have HX := Lib.hid hx
      have hk1 : (k : Int) < (order.length : Int) := by omega
      have hk0 : (0 : Int) ≤ (k : Int) := Int.natCast_nonneg _
      have hkc : k ≤ capo := by omega
      have hkc2 : (k : Int) ≤ (capo : Int) := by omega
      clear hx hco
      by_cases hx0 : x < 0
      · have hxb : decide (x < 0) = true := decide_eq_true hx0
        have e1' := e1
        clear hx0
        go_wp2_with fail
        refine wp_region_order [(0, true), (1, true), (2, true), (3, true), (4, true), (5, true), (6, true), (7, true), (8, true), (9, true), (10, true), (11, true), (12, true), (13, true), (14, true), (15, true), (16, true), (17, true), (18, true), (19, true), (20, true), (21, true), (22, true), (23, true), (24, true), (25, true), (26, true), (27, true), (28, true), (29, true), (30, true), (31, true), (32, true), (33, true), (34, true), (35, true), (36, false), (37, false)]
          (fun w' => w'.cell? ⟨bo, oo + k, none⟩ = some (.int .i64 x)) (by kernel_rfl) (by kernel_rfl) e1 (fun hHeld => ?_)
        simp only [pickT, List.getElem?_cons_zero, List.getElem?_cons_succ, Option.getD_some]
        repeat (first | (refine wpT_take (v := ?_) (by rfl) (fun w' hSw => ?_) ?_; rotate_left; (go_simp; with_reducible rfl); simp only [Act.put, List.setIfInBounds_toArray, List.set_cons_zero, List.set_cons_succ]) | (refine wpT_skip (by rfl) ?_; simp only [Act.put, List.setIfInBounds_toArray, List.set_cons_zero, List.set_cons_succ]))
        refine wpT_do (fun K hK => ?_)
        go_simp
        refine hK.out _ _ e1 (fun hHeld => ?_)
        clear hK K
        refine wpT_last (fun K hK => ?_)
        go_simp
        refine hK.out _ _ ?_
        clear hK K hHeld
        go_wp2_with fail
        go_ret
        exact ⟨false, rfl, below_drewN HBR.out 1, fun h => by cases h⟩
      have hxb : decide (x < 0) = false := decide_eq_false hx0
      by_cases hx24 : 24 ≤ x
      · have hxb2 : decide (24 ≤ x) = true := decide_eq_true hx24
        clear hx24 hx0
        go_wp2_with fail
        refine wp_region_order [(0, true), (1, true), (2, true), (3, true), (4, true), (5, true), (6, true), (7, true), (8, true), (9, true), (10, true), (11, true), (12, true), (13, true), (14, true), (15, true), (16, true), (17, true), (18, true), (19, true), (20, true), (21, true), (22, true), (23, true), (24, true), (25, true), (26, true), (27, true), (28, true), (29, true), (30, true), (31, true), (32, true), (33, true), (34, true), (35, true), (36, false), (37, false)]
          (fun w' => w'.cell? ⟨bo, oo + k, none⟩ = some (.int .i64 x)) (by kernel_rfl) (by kernel_rfl) e1 (fun hHeld => ?_)
        simp only [pickT, List.getElem?_cons_zero, List.getElem?_cons_succ, Option.getD_some]
        repeat (first | (refine wpT_take (v := ?_) (by rfl) (fun w' hSw => ?_) ?_; rotate_left; (go_simp; with_reducible rfl); simp only [Act.put, List.setIfInBounds_toArray, List.set_cons_zero, List.set_cons_succ]) | (refine wpT_skip (by rfl) ?_; simp only [Act.put, List.setIfInBounds_toArray, List.set_cons_zero, List.set_cons_succ]))
        refine wpT_do (fun K hK => ?_)
        go_simp
        refine hK.out _ _ e1 (fun hHeld => ?_)
        clear hK K
        refine wpT_last (fun K hK => ?_)
        go_simp
        refine hK.out _ _ ?_
        clear hK K hHeld
        go_wp2_with fail
        go_ret
        exact ⟨false, rfl, below_drewN HBR.out 1, fun h => by cases h⟩
      have hxb2 : decide (24 ≤ x) = false := decide_eq_false hx24
      by_cases hl0 : l.length = 0
      · have hlb : decide ((0 : Int) < (l.length : Int)) = false := by rw [hl0]; rfl
        have hlb2 : decide (0 < l.length) = false := by rw [hl0]; rfl
        have hlb3 : ¬ (0 < l.length) := by omega
        have HXB := Lib.hid (show 0 ≤ x ∧ (0 < l.length → x < (n0 : Int)) from ⟨by omega, fun h => by omega⟩)
        clear hx24 hx0 hl0
        have ki := in47_w _ _ x w5.drew (RowR.take (HO5.out.keep (w' := w5.drew) (P' := (· < w5.drew.heap.size)) (fun _ h => h) fun _ _ => rfl) k (by omega))
        obtain ⟨y, hy⟩ : ∃ y, y = decide (x ∈ order.take k) := ⟨_, rfl⟩
        rw [← hy] at ki
        have KI := Lib.hid ki
        clear ki hy
        cases y
        · skip
          go_wp2_with fail
          refine wp_region_order [(0, true), (1, true), (2, true), (3, true), (4, true), (5, true), (6, true), (7, true), (8, true), (9, true), (10, true), (11, true), (12, true), (13, true), (14, true), (15, true), (16, true), (17, true), (18, true), (19, true), (20, true), (21, true), (22, true), (23, true), (24, true), (25, true), (26, true), (27, true), (28, true), (29, true), (30, true), (31, true), (32, true), (33, true), (34, true), (35, true), (36, false), (37, false)]
            (fun w' => w'.cell? ⟨bo, oo + k, none⟩ = some (.int .i64 x)) (by kernel_rfl) (by kernel_rfl) e1 (fun hHeld => ?_)
          simp only [pickT, List.getElem?_cons_zero, List.getElem?_cons_succ, Option.getD_some]
          repeat (first | (refine wpT_take (v := ?_) (by rfl) (fun w' hSw => ?_) ?_; rotate_left; (go_simp; with_reducible rfl); simp only [Act.put, List.setIfInBounds_toArray, List.set_cons_zero, List.set_cons_succ]) | (refine wpT_skip (by rfl) ?_; simp only [Act.put, List.setIfInBounds_toArray, List.set_cons_zero, List.set_cons_succ]))
          refine wpT_do (fun K hK => ?_)
          go_simp
          go_at_call 47
          refine KI.out.mono ?_
          rintro e w' ⟨rfl, rfl⟩
          refine hK.out _ _ e1 (fun hHeld => ?_)
          clear hK K
          refine wpT_last (fun K hK => ?_)
          go_simp
          refine hK.out _ _ ?_
          clear hK K hHeld
          go_wp2_with fail
          go_roundw
          case rel => exact ⟨k + 1, by go_num, by omega, below_drewN HBR.out 1, fun k' h' => by
            by_cases hkk : k' = k
            · subst hkk; rw [← HX.out]; exact HXB.out
            · exact HALL.out k' (by omega)⟩
          case measure => simp [intOf]; omega
        · skip
          go_wp2_with fail
          refine wp_region_order [(0, true), (1, true), (2, true), (3, true), (4, true), (5, true), (6, true), (7, true), (8, true), (9, true), (10, true), (11, true), (12, true), (13, true), (14, true), (15, true), (16, true), (17, true), (18, true), (19, true), (20, true), (21, true), (22, true), (23, true), (24, true), (25, true), (26, true), (27, true), (28, true), (29, true), (30, true), (31, true), (32, true), (33, true), (34, true), (35, true), (36, false), (37, false)]
            (fun w' => w'.cell? ⟨bo, oo + k, none⟩ = some (.int .i64 x)) (by kernel_rfl) (by kernel_rfl) e1 (fun hHeld => ?_)
          simp only [pickT, List.getElem?_cons_zero, List.getElem?_cons_succ, Option.getD_some]
          repeat (first | (refine wpT_take (v := ?_) (by rfl) (fun w' hSw => ?_) ?_; rotate_left; (go_simp; with_reducible rfl); simp only [Act.put, List.setIfInBounds_toArray, List.set_cons_zero, List.set_cons_succ]) | (refine wpT_skip (by rfl) ?_; simp only [Act.put, List.setIfInBounds_toArray, List.set_cons_zero, List.set_cons_succ]))
          refine wpT_do (fun K hK => ?_)
          go_simp
          go_at_call 47
          refine KI.out.mono ?_
          rintro e w' ⟨rfl, rfl⟩
          refine hK.out _ _ e1 (fun hHeld => ?_)
          clear hK K
          refine wpT_last (fun K hK => ?_)
          go_simp
          refine hK.out _ _ ?_
          clear hK K hHeld
          go_wp2_with fail
          go_ret
          exact ⟨false, rfl, below_drewN HBR.out 1, fun h => by cases h⟩
      have hlb : decide ((0 : Int) < (l.length : Int)) = true := decide_eq_true (by omega)
      have hlb2 : decide (0 < l.length) = true := decide_eq_true (by omega)
      have hlb3 : 0 < l.length := by omega
      have hl1 : (0 : Int) < (l.length : Int) := by omega
      obtain ⟨b, off, a0, c0, rfl, hb, hc0, -⟩ := HE.out 0 (by omega)
      rw [Nat.add_zero, ← HN0.out] at hc0
      have e0 := (HBR.out.cell (p := ⟨b, off, none⟩) hb).trans hc0
      clear hc0
      by_cases hxn : (n0 : Int) ≤ x
      · have hxb3 : decide ((n0 : Int) ≤ x) = true := decide_eq_true hxn
        clear hx24 hx0 hl0 hxn
        go_wp2_with fail
        refine wp_region_order [(0, true), (1, true), (2, true), (3, true), (4, true), (5, true), (6, true), (7, true), (8, true), (9, true), (10, true), (11, true), (12, true), (13, true), (14, true), (15, true), (16, true), (17, true), (18, true), (19, true), (20, true), (21, true), (22, true), (23, true), (24, true), (25, true), (26, true), (27, true), (28, true), (29, true), (30, true), (31, true), (32, true), (33, true), (34, true), (35, true), (36, false), (37, false)]
          (fun w' => w'.cell? ⟨bo, oo + k, none⟩ = some (.int .i64 x) ∧ w'.cell? ⟨b, off, none⟩ = some (.slice a0 n0 c0)) (by kernel_rfl) (by kernel_rfl) ⟨e1, e0⟩ (fun hHeld => ?_)
        simp only [pickT, List.getElem?_cons_zero, List.getElem?_cons_succ, Option.getD_some]
        repeat (first | (refine wpT_take (v := ?_) (by rfl) (fun w' hSw => ?_) ?_; rotate_left; (go_simp; with_reducible rfl); simp only [Act.put, List.setIfInBounds_toArray, List.set_cons_zero, List.set_cons_succ]) | (refine wpT_skip (by rfl) ?_; simp only [Act.put, List.setIfInBounds_toArray, List.set_cons_zero, List.set_cons_succ]))
        refine wpT_do (fun K hK => ?_)
        go_simp
        refine hK.out _ _ ⟨e1, e0⟩ (fun hHeld => ?_)
        clear hK K
        refine wpT_last (fun K hK => ?_)
        go_simp
        refine hK.out _ _ ?_
        clear hK K hHeld
        go_wp2_with fail
        go_ret
        exact ⟨false, rfl, below_drewN HBR.out 1, fun h => by cases h⟩
      · have hxb3 : decide ((n0 : Int) ≤ x) = false := decide_eq_false hxn
        have HXB := Lib.hid (show 0 ≤ x ∧ (0 < l.length → x < (n0 : Int)) from ⟨by omega, fun h => by omega⟩)
        clear hx24 hx0 hl0 hxn
        have ki := in47_w _ _ x w5.drew (RowR.take (HO5.out.keep (w' := w5.drew) (P' := (· < w5.drew.heap.size)) (fun _ h => h) fun _ _ => rfl) k (by omega))
        obtain ⟨y, hy⟩ : ∃ y, y = decide (x ∈ order.take k) := ⟨_, rfl⟩
        rw [← hy] at ki
        have KI := Lib.hid ki
        clear ki hy
        cases y
        · skip
          go_wp2_with fail
          refine wp_region_order [(0, true), (1, true), (2, true), (3, true), (4, true), (5, true), (6, true), (7, true), (8, true), (9, true), (10, true), (11, true), (12, true), (13, true), (14, true), (15, true), (16, true), (17, true), (18, true), (19, true), (20, true), (21, true), (22, true), (23, true), (24, true), (25, true), (26, true), (27, true), (28, true), (29, true), (30, true), (31, true), (32, true), (33, true), (34, true), (35, true), (36, false), (37, false)]
            (fun w' => w'.cell? ⟨bo, oo + k, none⟩ = some (.int .i64 x) ∧ w'.cell? ⟨b, off, none⟩ = some (.slice a0 n0 c0)) (by kernel_rfl) (by kernel_rfl) ⟨e1, e0⟩ (fun hHeld => ?_)
          simp only [pickT, List.getElem?_cons_zero, List.getElem?_cons_succ, Option.getD_some]
          repeat (first | (refine wpT_take (v := ?_) (by rfl) (fun w' hSw => ?_) ?_; rotate_left; (go_simp; with_reducible rfl); simp only [Act.put, List.setIfInBounds_toArray, List.set_cons_zero, List.set_cons_succ]) | (refine wpT_skip (by rfl) ?_; simp only [Act.put, List.setIfInBounds_toArray, List.set_cons_zero, List.set_cons_succ]))
          refine wpT_do (fun K hK => ?_)
          go_simp
          go_at_call 47
          refine KI.out.mono ?_
          rintro e w' ⟨rfl, rfl⟩
          refine hK.out _ _ ⟨e1, e0⟩ (fun hHeld => ?_)
          clear hK K
          refine wpT_last (fun K hK => ?_)
          go_simp
          refine hK.out _ _ ?_
          clear hK K hHeld
          go_wp2_with fail
          go_roundw
          case rel => exact ⟨k + 1, by go_num, by omega, below_drewN HBR.out 1, fun k' h' => by
            by_cases hkk : k' = k
            · subst hkk; rw [← HX.out]; exact HXB.out
            · exact HALL.out k' (by omega)⟩
          case measure => simp [intOf]; omega
        · skip
          go_wp2_with fail
          refine wp_region_order [(0, true), (1, true), (2, true), (3, true), (4, true), (5, true), (6, true), (7, true), (8, true), (9, true), (10, true), (11, true), (12, true), (13, true), (14, true), (15, true), (16, true), (17, true), (18, true), (19, true), (20, true), (21, true), (22, true), (23, true), (24, true), (25, true), (26, true), (27, true), (28, true), (29, true), (30, true), (31, true), (32, true), (33, true), (34, true), (35, true), (36, false), (37, false)]
            (fun w' => w'.cell? ⟨bo, oo + k, none⟩ = some (.int .i64 x) ∧ w'.cell? ⟨b, off, none⟩ = some (.slice a0 n0 c0)) (by kernel_rfl) (by kernel_rfl) ⟨e1, e0⟩ (fun hHeld => ?_)
          simp only [pickT, List.getElem?_cons_zero, List.getElem?_cons_succ, Option.getD_some]
          repeat (first | (refine wpT_take (v := ?_) (by rfl) (fun w' hSw => ?_) ?_; rotate_left; (go_simp; with_reducible rfl); simp only [Act.put, List.setIfInBounds_toArray, List.set_cons_zero, List.set_cons_succ]) | (refine wpT_skip (by rfl) ?_; simp only [Act.put, List.setIfInBounds_toArray, List.set_cons_zero, List.set_cons_succ]))
          refine wpT_do (fun K hK => ?_)
          go_simp
          go_at_call 47
          refine KI.out.mono ?_
          rintro e w' ⟨rfl, rfl⟩
          refine hK.out _ _ ⟨e1, e0⟩ (fun hHeld => ?_)
          clear hK K
          refine wpT_last (fun K hK => ?_)
          go_simp
          refine hK.out _ _ ?_
          clear hK K hHeld
          go_wp2_with fail
          go_ret
          exact ⟨false, rfl, below_drewN HBR.out 1, fun h => by cases h⟩
    · have hkl : k = order.length := by omega
      have HORD := Lib.hid (show ∀ k', k' < order.length → 0 ≤ order.getD k' 0 ∧ (0 < l.length → order.getD k' 0 < (n0 : Int)) from fun k' h' => HALL.out k' (by omega))
      obtain ⟨ord, hord⟩ : ∃ o : List Nat, o = order.map Int.toNat := ⟨_, rfl⟩
      have HOR := Lib.hid hord
      go_wp2_with fail
      clear hlt hk HALL hkl hord
      go_loopw [6] (fun i wr => ∃ j : Nat, i = .int .i64 j ∧ j ≤ l.length ∧ Below w.heap.size w wr ∧ ∀ j', j' < j → fallsBy ord (l.getD j' [])) (fun i _ => l.length - (intOf i).toNat)
      case atStart => exact ⟨0, rfl, Nat.zero_le _, HBR.out, fun _ h => absurd h (Nat.not_lt_zero _)⟩
      case round =>
        obtain ⟨j, rfl, hj, hbj, hall⟩ := hrel
        obtain ⟨w6, rfl⟩ : ∃ x : World, x = wr := ⟨_, rfl⟩
        have HALL := Lib.hid hall
        have HBJ := Lib.hid hbj
        clear hall hbj HBR HO5
        by_cases hjl : j < l.length
        · obtain ⟨b, off, a1, c1, rfl, hb, hc, hm⟩ := HE.out j hjl
          obtain ⟨hrm, hnm⟩ := HSQ.out _ (getD_mem hjl)
          obtain ⟨m, hm'⟩ : ∃ m, m = l.getD j [] := ⟨_, rfl⟩
          rw [← hm'] at hc hm hrm hnm
          rw [hnm] at hc hm
          have HC := Lib.hid hc
          have HM := Lib.hid hm
          have HMV := Lib.hid hm'
          have HRM := Lib.hid hrm
          have HNM := Lib.hid hnm
          have h0l : 0 < l.length := by omega
          have hj1 : (j : Int) < (l.length : Int) := by omega
          clear hc hm hm' hrm hnm
          go_wp2_with fail
          go_loopw [7, 8] (fun ok i wr => ∃ (t : Bool) (k : Nat), ok = .bool t ∧ i = .int .i64 k ∧ Below w.heap.size w wr ∧ ((k ≤ order.length ∧ t = false ∧ ∀ q, q < k → G m (ord.getD q 0) (ord.getD q 0) = 1) ∨ (k = order.length + 1 ∧ (t = true → fallsBy ord m)))) (fun _ i _ => order.length + 1 - (intOf i).toNat)
          case atStart => exact ⟨false, 0, rfl, rfl, HBJ.out, .inl ⟨Nat.zero_le _, rfl, fun _ h => absurd h (Nat.not_lt_zero _)⟩⟩
          case round =>
            obtain ⟨t, k, rfl, rfl, hbk, hst⟩ := hrel
            obtain ⟨w7, rfl⟩ : ∃ x : World, x = wr := ⟨_, rfl⟩
            have HBK := Lib.hid hbk
            clear hbk HBJ
            rcases hst with ⟨hk, rfl, hones⟩ | ⟨hk, ht⟩
            · have HONES := Lib.hid hones
              clear hones
              by_cases hlt : k < order.length
              · obtain ⟨bo, oo, rfl, hbo, hco⟩ := HOE.out k hlt
                obtain ⟨hx0, hxn⟩ := HORD.out k hlt
                have hxn := hxn (by omega)
                have e1 := (HBK.out.cell (p := ⟨bo, oo + k, none⟩) hbo).trans hco
                obtain ⟨x, hx⟩ : ∃ x : Nat, order.getD k 0 = (x : Int) := ⟨(order.getD k 0).toNat, by omega⟩
                rw [hx] at e1 hxn
                have hok : ord.getD k 0 = x := by
                  rw [HOR.out, List.getD_eq_getElem?_getD, List.getElem?_map, List.getElem?_eq_getElem hlt]
                  rw [List.getD_eq_getElem?_getD, List.getElem?_eq_getElem hlt] at hx
                  simp only [Option.getD_some] at hx
                  simp only [Option.map_some, Option.getD_some, hx]
                  omega
                have hxn' : x < n0 := by omega
                obtain ⟨r1, r2, r3⟩ := right_sq HRM.out
                have hm7 := MatR.keep HM.out (P' := (· < w7.heap.size)) (w' := w7) (fun q hq => Nat.lt_of_lt_of_le hq HBK.out.size) fun q hq => HBK.out.block q hq
                obtain ⟨mb, mo, mc, B, O, C, hS, -, -⟩ := hm7.sq HNM.out (by omega) (fun i hi => by rw [r2 i (by rw [HNM.out]; exact hi), HNM.out])
                have hv := hS.val
                injection hv with hv1 _ hv3; subst hv1; subst hv3
                have e2 := (HBK.out.cell (p := ⟨b, off + j, none⟩) hb).trans HC.out
                have e3 := hS.row x hxn'
                have e4 := hS.cell x x hxn' hxn'
                obtain ⟨B1, hB1⟩ : ∃ q, q = B x := ⟨_, rfl⟩
                obtain ⟨O1, hO1⟩ : ∃ q, q = O x := ⟨_, rfl⟩
                obtain ⟨C1, hC1⟩ : ∃ q, q = C x := ⟨_, rfl⟩
                rw [← hB1, ← hO1] at e4
                rw [← hB1, ← hO1, ← hC1] at e3
                obtain ⟨y, hy⟩ : ∃ y, y = G m x x := ⟨_, rfl⟩
                have hyb := r3 x x (by rw [HNM.out]; exact hxn') (by rw [HNM.out]; exact hxn')
                rw [← hy] at e4 hyb
                have HY := Lib.hid hy
                have HOK := Lib.hid hok
                have hk1 : (k : Int) < (order.length : Int) := by omega
                have hx1 : (x : Int) < (n0 : Int) := by omega
                have hx00 : (0 : Int) ≤ (x : Int) := Int.natCast_nonneg _
                clear hco hx hok hm7 hS hB1 hO1 hC1 hy r1 r2 r3 hx0 hxn
                have hyc : y = 1 ∨ y = 2 ∨ y = 0 := by omega
                clear hyb
                rcases hyc with rfl | rfl | rfl
                · go_wp2_with fail
                  go_quiet (fail)
                  go_wp2_with fail
                  go_roundw
                  case rel => exact ⟨false, k + 1, rfl, by go_num, by first | exact HBK.out | exact below_drewN HBK.out 2 | exact below_drewN HBK.out _, .inl ⟨by omega, rfl, fun q hq => by
                    by_cases hqk : q = k
                    · subst hqk; rw [HOK.out, ← HY.out]
                    · exact HONES.out q (by omega)⟩⟩
                  case measure => simp [intOf]; omega
                · go_wp2_with fail
                  go_quiet (fail)
                  go_wp2_with fail
                  go_roundw
                  case rel => exact ⟨true, order.length + 1, rfl, by go_num, by first | exact HBK.out | exact below_drewN HBK.out 2 | exact below_drewN HBK.out _, .inr ⟨rfl, fun _ => ⟨k, by rw [HOR.out, List.length_map]; exact hlt, by rw [HOK.out, ← HY.out], fun q hq => by rw [HONES.out q hq]; omega⟩⟩⟩
                  case measure => simp [intOf]; omega
                · go_wp2_with fail
                  go_quiet (fail)
                  go_wp2_with fail
                  go_roundw
                  case rel => exact ⟨false, order.length + 1, rfl, by go_num, by first | exact HBK.out | exact below_drewN HBK.out 2 | exact below_drewN HBK.out _, .inr ⟨rfl, fun h => by cases h⟩⟩
                  case measure => simp [intOf]; omega
              · have hkl : k = order.length := by omega
                go_wp2_with fail
                go_ret
                exact ⟨false, rfl, HBK.out, fun h => by cases h⟩
            · have HT := Lib.hid ht
              have hkl : ¬ ((k : Int) < (order.length : Int)) := by omega
              have hkl2 : ¬ (k < order.length) := by omega
              clear ht
              cases t
              · go_wp2_with fail
                go_ret
                exact ⟨false, rfl, HBK.out, fun h => by cases h⟩
              · go_wp2_with fail
                go_roundw
                case rel => exact ⟨j + 1, by go_num, by omega, HBK.out, fun j' h' => by
                  by_cases hjj : j' = j
                  · subst hjj; rw [← HMV.out]; exact HT.out rfl
                  · exact HALL.out j' (by omega)⟩
                case measure => simp [intOf]; omega
        · have hjj : j = l.length := by omega
          go_wp2_with fail
          go_ret
          exact ⟨true, rfl, HBJ.out, fun _ => ⟨HRB.out, fun k' h' => by rw [← HN0.out]; exact HORD.out k' h', fun i hi => by rw [← HOR.out]; exact HALL.out i (by omega)⟩⟩
end Go.Proofs.Ytfcmkhjimgpppaa
