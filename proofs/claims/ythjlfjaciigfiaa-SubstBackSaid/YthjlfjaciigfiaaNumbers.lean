/-
  ref07.put, Numbers: contracts of the walk.
-/
import Derived.Test.YthjlfjaciigfiaaTopsO
namespace Go.Proofs.Ythjlfjaciigfiaa
open Go.RowKit
set_option linter.unusedVariables false
set_option linter.unusedSimpArgs false

/-- a row of ints in new memory is answered -/
def AnsI (w : World) (Q : List Int → Prop) (e : Ending) (w' : World) : Prop := ∃ ao m c l, e = .returned (.slice ao m c) ∧ Below w.heap.size w w' ∧ RowR (Fr w w') w' (.slice ao m c) l ∧ Q l
theorem info3 : (Try.prog.info? 3).map (fun i => (i.zero, i.size, i.bytes)) = some (some (.int .i64 0), 1, 8) := by kernel_rfl
theorem RowR.get {P : Nat → Prop} {w : World} {v : Value} {r : List Int} (h : RowR P w v r) : ∃ ao cap, v = .slice ao r.length cap ∧ r.length ≤ cap ∧ cap ≤ maxLen ∧ ∀ i (hi : i < r.length), ∃ b off, ao = some ⟨b, off, none⟩ ∧ P b ∧ w.cell? ⟨b, off + i, none⟩ = some (.int .i64 r[i]) := h

set_option maxRecDepth 100000 in
set_option maxHeartbeats 4000000 in
theorem put_w (lv : Value) (l : List Int) (n : Int) (w : World) (hl : RowR (· < w.heap.size) w lv l) (hlen : l.length ≤ 1000000) :
    Calls Try.prog 101 #[lv, .int .i64 n] w (AnsI w fun l' => (∀ x, x ∈ l' ↔ x ∈ l ∨ x = n) ∧ l'.length ≤ l.length + 1) := by
  obtain ⟨i3, hi3, hx1, hx2, hx3⟩ := info_parts info3
  obtain ⟨al, cl, rfl, hlc, hcm, he⟩ := hl.get
  have HE := Lib.hid he
  clear he hl
  go_enter Try.func101, Try.ntmps101
  go_wp2_with fail
  have hM0 : Made w.heap.size (w.alloc (.cells #[] 3)) 3 IntV (.slice (some ⟨w.heap.size, 0, none⟩) 0 0) [] := Made.empty w w.heap.size 3 IntV (Nat.le_refl _)
  have HM0 := Lib.hid hM0
  have HB0 := Lib.hid (alloc_bel w (.cells #[] 3))
  clear hM0
  go_loopw [5, 6, 7] (fun vs dv i wr => ∃ (j : Nat) (xs : List Int) (dn : Bool), dv = .bool dn ∧ i = .int .i64 j ∧ j ≤ l.length ∧ Made w.heap.size wr 3 IntV vs xs ∧ Below w.heap.size w wr ∧ (∀ x, x ∈ xs ↔ x ∈ l.take j ∨ (dn = true ∧ x = n)) ∧ xs.length ≤ j + (if dn = true then 1 else 0)) (fun _ _ i _ => l.length - (intOf i).toNat)
  case atStart => exact ⟨0, [], false, by go_num, by go_num, Nat.zero_le _, HM0.out, HB0.out, fun x => by simp, by simp⟩
  case round =>
    obtain ⟨j, xs, dn, rfl, rfl, hj, hM, hB, hmem, hxl⟩ := hrel
    have HMEM := Lib.hid hmem
    clear hmem HM0 HB0
    by_cases hjl : j < l.length
    · obtain ⟨b, off, rfl, hPb, h0⟩ := HE.out j hjl
      have e0 := (hB.cell (p := ⟨b, off + j, none⟩) hPb).trans h0
      have hbw : b < wr.heap.size := Nat.lt_of_lt_of_le hPb hB.size
      have hji : (j : Int) < (l.length : Int) := by omega
      have hj0 : (0 : Int) ≤ (j : Int) := Int.natCast_nonneg _
      have H0 := Lib.hid h0
      clear h0
      have hx1l : xs.length ≤ j + 1 := by split at hxl <;> omega
      cases dn
      · simp only [Bool.false_eq_true, ↓reduceIte, Nat.add_zero] at hxl
        by_cases hge : n ≤ l[j]
        · by_cases hgt : n < l[j]
          · have HGT := Lib.hid hgt
            obtain ⟨vals, hvo, hvr⟩ := hM
            have hvl : vals.length = xs.length := by have := hvo.1; omega
            have HVR := Lib.hid hvr
            have HVL := Lib.hid hvl
            have hblk := fun q hq => (hvo.lt q hq).1
            have HBL := Lib.hid hblk
            have HBB := Lib.hid hB
            clear hvr hvl hblk hB
            go_wp2_with (at_builtin; refine wpList_app rfl _ _ 58 rfl w.heap.size 3 i3 (.int .i64 0) 1 8 Try.underlying58 hi3 hx1 hx2 hx3 rfl (by decide) u5 xs.length vals rfl (hvo.alloc _) ⟨wr.heap.size, 0, none⟩ 1 1 [.int .i64 (n)] rfl rfl (cell_one_new _ _ _) (by intro u hu; simp at hu; subst hu; rfl) (by unfold maxLen; omega) (by omega) (by have := HBB.out.size; simp only [World.size_alloc]; omega) ?_)
            intro v3 w3 happ
            have hM : Made w.heap.size w3 3 IntV v3 (xs ++ [n]) := by
              have hvr := HVR.out
              have hal : Below wr.heap.size wr (wr.alloc (.cells #[.int .i64 (n)] 3)) := alloc_bel _ _
              exact Made.app keeps_int (W := wr.alloc (.cells #[.int .i64 (n)] 3)) (fun i hi => hvr i hi) HVL.out happ rfl rfl
            have hB : Below w.heap.size w w3 := (HBB.out.alloc HBB.out.size (.cells #[.int .i64 (n)] 3)).trans (happ.below (B := w.heap.size) (by have := HBB.out.size; simp only [World.size_alloc]; omega) (fun q hq => HBL.out q hq))
            clear happ HVR HVL HBL HBB hvo
            have e3 := (hB.cell (p := ⟨b, off + j, none⟩) hPb).trans H0.out
            have hb3 : b < w3.heap.size := Nat.lt_of_lt_of_le hPb hB.size
            have hxs3 : (xs ++ [n]).length ≤ j + 1 := by simp; omega
            obtain ⟨ys, hys⟩ : ∃ ys, ys = xs ++ [n] := ⟨_, rfl⟩
            rw [← hys] at hM hxs3
            have HYS := Lib.hid hys
            clear hys
            obtain ⟨vals3, hvo, hvr⟩ := hM
            have hvl : vals3.length = ys.length := by have := hvo.1; omega
            have HVR := Lib.hid hvr
            have HVL := Lib.hid hvl
            have hblk := fun q hq => (hvo.lt q hq).1
            have HBL := Lib.hid hblk
            have HBB := Lib.hid hB
            clear hvr hvl hblk hB
            go_wp2_with (at_builtin; refine wpList_app rfl _ _ 58 rfl w.heap.size 3 i3 (.int .i64 0) 1 8 Try.underlying58 hi3 hx1 hx2 hx3 rfl (by decide) v3 ys.length vals3 rfl (hvo.alloc _) ⟨w3.heap.size, 0, none⟩ 1 1 [.int .i64 (l[j])] rfl rfl (cell_one_new _ _ _) (by intro u hu; simp at hu; subst hu; rfl) (by unfold maxLen; omega) (by omega) (by have := HBB.out.size; simp only [World.size_alloc]; omega) ?_)
            intro v4 w4 happ
            have hM : Made w.heap.size w4 3 IntV v4 (ys ++ [l[j]]) := by
              have hvr := HVR.out
              have hal : Below w3.heap.size w3 (w3.alloc (.cells #[.int .i64 (l[j])] 3)) := alloc_bel _ _
              exact Made.app keeps_int (W := w3.alloc (.cells #[.int .i64 (l[j])] 3)) (fun i hi => hvr i hi) HVL.out happ rfl rfl
            have hB : Below w.heap.size w w4 := (HBB.out.alloc HBB.out.size (.cells #[.int .i64 (l[j])] 3)).trans (happ.below (B := w.heap.size) (by have := HBB.out.size; simp only [World.size_alloc]; omega) (fun q hq => HBL.out q hq))
            clear happ HVR HVL HBL HBB hvo
            go_wp2_with fail
            go_roundw
            case rel =>
              refine ⟨j + 1, ys ++ [l[j]], true, by go_num, by go_num, by omega, hM, hB, fun x => ?_, by simp only [List.length_append, List.length_cons, List.length_nil, ↓reduceIte, Bool.false_eq_true]; omega⟩
              rw [List.take_succ_eq_append_getElem hjl]
              have hm := HMEM.out x
              simp only [List.mem_append, List.mem_singleton, hm]
              rw [HYS.out]
              simp only [List.mem_append, List.mem_singleton, hm]
              simp
              exact or_right_comm
            case measure =>
              have q : (intOf (.int .i64 ((j : Int) + 1))).toNat = j + 1 := by show ((j : Int) + 1).toNat = _; omega
              have q2 : (intOf (.int .i64 (j : Int))).toNat = j := by show ((j : Int)).toNat = _; omega
              rw [q, q2]; omega
          · have hle : l[j] = n := by omega
            have HLE := Lib.hid hle
            clear hle
            obtain ⟨vals, hvo, hvr⟩ := hM
            have hvl : vals.length = xs.length := by have := hvo.1; omega
            have HVR := Lib.hid hvr
            have HVL := Lib.hid hvl
            have hblk := fun q hq => (hvo.lt q hq).1
            have HBL := Lib.hid hblk
            have HBB := Lib.hid hB
            clear hvr hvl hblk hB
            go_wp2_with (at_builtin; refine wpList_app rfl _ _ 58 rfl w.heap.size 3 i3 (.int .i64 0) 1 8 Try.underlying58 hi3 hx1 hx2 hx3 rfl (by decide) u5 xs.length vals rfl (hvo.alloc _) ⟨wr.heap.size, 0, none⟩ 1 1 [.int .i64 (l[j])] rfl rfl (cell_one_new _ _ _) (by intro u hu; simp at hu; subst hu; rfl) (by unfold maxLen; omega) (by omega) (by have := HBB.out.size; simp only [World.size_alloc]; omega) ?_)
            intro v4 w4 happ
            have hM : Made w.heap.size w4 3 IntV v4 (xs ++ [l[j]]) := by
              have hvr := HVR.out
              have hal : Below wr.heap.size wr (wr.alloc (.cells #[.int .i64 (l[j])] 3)) := alloc_bel _ _
              exact Made.app keeps_int (W := wr.alloc (.cells #[.int .i64 (l[j])] 3)) (fun i hi => hvr i hi) HVL.out happ rfl rfl
            have hB : Below w.heap.size w w4 := (HBB.out.alloc HBB.out.size (.cells #[.int .i64 (l[j])] 3)).trans (happ.below (B := w.heap.size) (by have := HBB.out.size; simp only [World.size_alloc]; omega) (fun q hq => HBL.out q hq))
            clear happ HVR HVL HBL HBB hvo
            go_wp2_with fail
            go_roundw
            case rel =>
              refine ⟨j + 1, xs ++ [l[j]], true, by go_num, by go_num, by omega, hM, hB, fun x => ?_, by simp only [List.length_append, List.length_cons, List.length_nil, ↓reduceIte, Bool.false_eq_true]; omega⟩
              rw [List.take_succ_eq_append_getElem hjl]
              have hm := HMEM.out x
              simp only [List.mem_append, List.mem_singleton, hm]
              rw [HLE.out]
              simp
            case measure =>
              have q : (intOf (.int .i64 ((j : Int) + 1))).toNat = j + 1 := by show ((j : Int) + 1).toNat = _; omega
              have q2 : (intOf (.int .i64 (j : Int))).toNat = j := by show ((j : Int)).toNat = _; omega
              rw [q, q2]; omega
        · skip
          obtain ⟨vals, hvo, hvr⟩ := hM
          have hvl : vals.length = xs.length := by have := hvo.1; omega
          have HVR := Lib.hid hvr
          have HVL := Lib.hid hvl
          have hblk := fun q hq => (hvo.lt q hq).1
          have HBL := Lib.hid hblk
          have HBB := Lib.hid hB
          clear hvr hvl hblk hB
          go_wp2_with (at_builtin; refine wpList_app rfl _ _ 58 rfl w.heap.size 3 i3 (.int .i64 0) 1 8 Try.underlying58 hi3 hx1 hx2 hx3 rfl (by decide) u5 xs.length vals rfl (hvo.alloc _) ⟨wr.heap.size, 0, none⟩ 1 1 [.int .i64 (l[j])] rfl rfl (cell_one_new _ _ _) (by intro u hu; simp at hu; subst hu; rfl) (by unfold maxLen; omega) (by omega) (by have := HBB.out.size; simp only [World.size_alloc]; omega) ?_)
          intro v4 w4 happ
          have hM : Made w.heap.size w4 3 IntV v4 (xs ++ [l[j]]) := by
            have hvr := HVR.out
            have hal : Below wr.heap.size wr (wr.alloc (.cells #[.int .i64 (l[j])] 3)) := alloc_bel _ _
            exact Made.app keeps_int (W := wr.alloc (.cells #[.int .i64 (l[j])] 3)) (fun i hi => hvr i hi) HVL.out happ rfl rfl
          have hB : Below w.heap.size w w4 := (HBB.out.alloc HBB.out.size (.cells #[.int .i64 (l[j])] 3)).trans (happ.below (B := w.heap.size) (by have := HBB.out.size; simp only [World.size_alloc]; omega) (fun q hq => HBL.out q hq))
          clear happ HVR HVL HBL HBB hvo
          go_wp2_with fail
          go_roundw
          case rel =>
            refine ⟨j + 1, xs ++ [l[j]], false, by go_num, by go_num, by omega, hM, hB, fun x => ?_, by simp only [List.length_append, List.length_cons, List.length_nil, ↓reduceIte, Bool.false_eq_true]; omega⟩
            rw [List.take_succ_eq_append_getElem hjl]
            have hm := HMEM.out x
            simp only [List.mem_append, List.mem_singleton, hm]
            simp
          case measure =>
            have q : (intOf (.int .i64 ((j : Int) + 1))).toNat = j + 1 := by show ((j : Int) + 1).toNat = _; omega
            have q2 : (intOf (.int .i64 (j : Int))).toNat = j := by show ((j : Int)).toNat = _; omega
            rw [q, q2]; omega
      · skip
        obtain ⟨vals, hvo, hvr⟩ := hM
        have hvl : vals.length = xs.length := by have := hvo.1; omega
        have HVR := Lib.hid hvr
        have HVL := Lib.hid hvl
        have hblk := fun q hq => (hvo.lt q hq).1
        have HBL := Lib.hid hblk
        have HBB := Lib.hid hB
        clear hvr hvl hblk hB
        go_wp2_with (at_builtin; refine wpList_app rfl _ _ 58 rfl w.heap.size 3 i3 (.int .i64 0) 1 8 Try.underlying58 hi3 hx1 hx2 hx3 rfl (by decide) u5 xs.length vals rfl (hvo.alloc _) ⟨wr.heap.size, 0, none⟩ 1 1 [.int .i64 (l[j])] rfl rfl (cell_one_new _ _ _) (by intro u hu; simp at hu; subst hu; rfl) (by unfold maxLen; omega) (by omega) (by have := HBB.out.size; simp only [World.size_alloc]; omega) ?_)
        intro v4 w4 happ
        have hM : Made w.heap.size w4 3 IntV v4 (xs ++ [l[j]]) := by
          have hvr := HVR.out
          have hal : Below wr.heap.size wr (wr.alloc (.cells #[.int .i64 (l[j])] 3)) := alloc_bel _ _
          exact Made.app keeps_int (W := wr.alloc (.cells #[.int .i64 (l[j])] 3)) (fun i hi => hvr i hi) HVL.out happ rfl rfl
        have hB : Below w.heap.size w w4 := (HBB.out.alloc HBB.out.size (.cells #[.int .i64 (l[j])] 3)).trans (happ.below (B := w.heap.size) (by have := HBB.out.size; simp only [World.size_alloc]; omega) (fun q hq => HBL.out q hq))
        clear happ HVR HVL HBL HBB hvo
        go_wp2_with fail
        go_roundw
        case rel =>
          refine ⟨j + 1, xs ++ [l[j]], true, by go_num, by go_num, by omega, hM, hB, fun x => ?_, by simp only [List.length_append, List.length_cons, List.length_nil, ↓reduceIte, Bool.false_eq_true]; omega⟩
          rw [List.take_succ_eq_append_getElem hjl]
          have hm := HMEM.out x
          simp only [List.mem_append, List.mem_singleton, hm]
          simp
          exact or_right_comm
        case measure =>
          have q : (intOf (.int .i64 ((j : Int) + 1))).toNat = j + 1 := by show ((j : Int) + 1).toNat = _; omega
          have q2 : (intOf (.int .i64 (j : Int))).toNat = j := by show ((j : Int)).toNat = _; omega
          rw [q, q2]; omega
    · have htk : l.take j = l := List.take_of_length_le (by omega)
      have hxj : xs.length ≤ l.length + 1 := by split at hxl <;> omega
      cases dn
      · have hxj2 : xs.length ≤ l.length := by simp at hxl; omega
        obtain ⟨vals, hvo, hvr⟩ := hM
        have hvl : vals.length = xs.length := by have := hvo.1; omega
        have HVR := Lib.hid hvr
        have HVL := Lib.hid hvl
        have hblk := fun q hq => (hvo.lt q hq).1
        have HBL := Lib.hid hblk
        have HBB := Lib.hid hB
        clear hvr hvl hblk hB
        go_wp2_with (at_builtin; refine wpList_app rfl _ _ 58 rfl w.heap.size 3 i3 (.int .i64 0) 1 8 Try.underlying58 hi3 hx1 hx2 hx3 rfl (by decide) u5 xs.length vals rfl (hvo.alloc _) ⟨wr.heap.size, 0, none⟩ 1 1 [.int .i64 (n)] rfl rfl (cell_one_new _ _ _) (by intro u hu; simp at hu; subst hu; rfl) (by unfold maxLen; omega) (by omega) (by have := HBB.out.size; simp only [World.size_alloc]; omega) ?_)
        intro v4 w4 happ
        have hM : Made w.heap.size w4 3 IntV v4 (xs ++ [n]) := by
          have hvr := HVR.out
          have hal : Below wr.heap.size wr (wr.alloc (.cells #[.int .i64 (n)] 3)) := alloc_bel _ _
          exact Made.app keeps_int (W := wr.alloc (.cells #[.int .i64 (n)] 3)) (fun i hi => hvr i hi) HVL.out happ rfl rfl
        have hB : Below w.heap.size w w4 := (HBB.out.alloc HBB.out.size (.cells #[.int .i64 (n)] 3)).trans (happ.below (B := w.heap.size) (by have := HBB.out.size; simp only [World.size_alloc]; omega) (fun q hq => HBL.out q hq))
        clear happ HVR HVL HBL HBB hvo
        have hrow := hM.row (fun q => w.heap.size ≤ q ∧ q < w4.heap.size) (fun g _ h1 h2 => ⟨h1, h2⟩)
        obtain ⟨a4, c4, hv4, -⟩ := hrow.get
        subst hv4
        go_wp2_with fail
        go_ret
        refine ⟨_, _, _, _, rfl, hB, hrow.keep (fun q h => h) fun _ _ => rfl, fun x => ?_, by simp; omega⟩
        have hm := HMEM.out x
        rw [htk] at hm
        simp only [List.mem_append, List.mem_singleton, hm]
        simp
      · have hrow := hM.row (fun q => w.heap.size ≤ q ∧ q < wr.heap.size) (fun g _ h1 h2 => ⟨h1, h2⟩)
        obtain ⟨a4, c4, hv4, -⟩ := hrow.get
        subst hv4
        go_wp2_with fail
        go_ret
        refine ⟨_, _, _, _, rfl, hB, hrow.keep (fun q h => h) fun _ _ => rfl, fun x => ?_, by omega⟩
        have hm := HMEM.out x
        rw [htk] at hm
        simp only [hm]
        simp
theorem hasFL_append (nm : Int) (a b : List Tm) : hasFL nm (a ++ b) = (hasFL nm a || hasFL nm b) := by
  induction a with
  | nil => simp [hasFL]
  | cons x a ih => simp [hasFL, ih, Bool.or_assoc]
set_option maxRecDepth 100000 in
set_option maxHeartbeats 4000000 in
theorem Numbers_w : ∀ (d : Nat) (v : Value) (t : Tm) (w : World), RdN (· < w.heap.size) w d v t → gd t = true → nsz t ≤ 100000 →
    Calls Try.prog 60 #[v, .int .i64 8, .int .i64 8] w (AnsI w fun l' => (∀ x, x ∈ l' ↔ hasF x t = true) ∧ l'.length ≤ nsz t) := by
  obtain ⟨i3, hi3, hx1, hx2, hx3⟩ := info_parts info3
  intro d
  induction d with
  | zero => intro v t w hr; exact absurd hr (fun h => h)
  | succ d ih =>
    rintro v ⟨k, x, l⟩ w hr hg hsz
    have hll := gd_len hg
    have hgs := gd_sub hg
    obtain ⟨hk1, hk8, hx0, hx1'⟩ := gd_num hg
    have hgv8 : k = 8 → l = [] := fun e => by subst e; exact gd_free hg
    obtain ⟨ao, cap, rfl, hlm, hk, hx, he⟩ := hr.open
    have IH := Lib.hid ih
    have HE := Lib.hid he
    have HG := Lib.hid hgs
    have HGV8 := Lib.hid hgv8
    have HSZ := Lib.hid hsz
    clear hr ih he hgs hg hgv8 hsz hk hx
    obtain ⟨W, hWd⟩ : ∃ W, W = w.alloc (.cells #[.int .i64 k, .int .i64 x, .slice ao l.length cap] 24) := ⟨_, rfl⟩
    have HQ := Lib.hid (show W.heap[w.heap.size]? = some (.cells #[.int .i64 k, .int .i64 x, .slice ao l.length cap] 24) by rw [hWd]; exact heap_new _ _ _ rfl)
    have HBEL := Lib.hid (show Below w.heap.size w W by rw [hWd]; exact alloc_bel _ _)
    have hWs : W.heap.size = w.heap.size + 1 := by rw [hWd, World.size_alloc]
    have HWD := Lib.hid hWd
    clear hWd
    obtain ⟨q0, q1, q2, -, ql⟩ := three HQ.out
    by_cases h8 : k = 8
    · subst h8
      have hl0 := HGV8.out rfl
      subst hl0
      have hB : Below w.heap.size w ((w.alloc (.cells #[.int .i64 8, .int .i64 x, .slice ao 0 cap] 24)).alloc (.cells #[] 3)) := ((Below.refl _ _).alloc (Nat.le_refl _) _).alloc (by simp) _
      obtain ⟨xs, hxs⟩ : ∃ xs : List Int, xs = [] := ⟨_, rfl⟩
      have hM : Made w.heap.size ((w.alloc (.cells #[.int .i64 8, .int .i64 x, .slice ao 0 cap] 24)).alloc (.cells #[] 3)) 3 IntV (.slice (some ⟨w.heap.size + 1, 0, none⟩) 0 0) xs := by
        rw [hxs]
        have := Made.empty (w.alloc (.cells #[.int .i64 8, .int .i64 x, .slice ao 0 cap] 24)) w.heap.size 3 IntV (by simp)
        rw [World.size_alloc] at this
        exact this
      have HXS := Lib.hid hxs
      have hxl : xs.length = 0 := by rw [hxs]; rfl
      have HQ1 := Lib.hid (show ((w.alloc (.cells #[.int .i64 8, .int .i64 x, .slice ao 0 cap] 24)).alloc (.cells #[] 3)).heap[w.heap.size]? = some (.cells #[.int .i64 8, .int .i64 x, .slice ao 0 cap] 24) from (Below.heap_alloc _ _ _ (by simp)).trans (heap_new _ _ _ rfl))
      clear hxs q0 q1 q2 ql HQ HBEL HWD hWs
      go_enter Try.func60, Try.ntmps60
      obtain ⟨vals, hvo, hvr⟩ := hM
      have hvl : vals.length = xs.length := by have := hvo.1; omega
      have HVR := Lib.hid hvr
      have HVL := Lib.hid hvl
      have hblk := fun q hq => (hvo.lt q hq).1
      have HBL := Lib.hid hblk
      have HBB := Lib.hid hB
      clear hvr hvl hblk hB
      go_wp2_with (at_builtin; refine wpList_app rfl _ _ 58 rfl w.heap.size 3 i3 (.int .i64 0) 1 8 Try.underlying58 hi3 hx1 hx2 hx3 rfl (by decide) (.slice (some ⟨w.heap.size + 1, 0, none⟩) 0 0) xs.length vals rfl (hvo.alloc _) ⟨w.heap.size + 1 + 1, 0, none⟩ 1 1 [.int .i64 (x)] rfl rfl (by have h := cell_one_new (((w.alloc (.cells #[.int .i64 8, .int .i64 x, .slice ao 0 cap] 24)).alloc (.cells #[] 3))) (.int .i64 (x)) 3; simp only [World.size_alloc] at h; exact h) (by intro u hu; simp at hu; subst hu; rfl) (by unfold maxLen; omega) (by omega) (by have := HBB.out.size; simp only [World.size_alloc]; omega) ?_)
      intro v4 w4 happ
      have hM : Made w.heap.size w4 3 IntV v4 (xs ++ [x]) := by
        have hvr := HVR.out
        have hal : Below ((w.alloc (.cells #[.int .i64 8, .int .i64 x, .slice ao 0 cap] 24)).alloc (.cells #[] 3)).heap.size ((w.alloc (.cells #[.int .i64 8, .int .i64 x, .slice ao 0 cap] 24)).alloc (.cells #[] 3)) (((w.alloc (.cells #[.int .i64 8, .int .i64 x, .slice ao 0 cap] 24)).alloc (.cells #[] 3)).alloc (.cells #[.int .i64 (x)] 3)) := alloc_bel _ _
        exact Made.app keeps_int (W := ((w.alloc (.cells #[.int .i64 8, .int .i64 x, .slice ao 0 cap] 24)).alloc (.cells #[] 3)).alloc (.cells #[.int .i64 (x)] 3)) (fun i hi => hvr i hi) HVL.out (by rw [hxl]; exact happ) rfl rfl
      have hB : Below w.heap.size w w4 := (HBB.out.alloc HBB.out.size (.cells #[.int .i64 (x)] 3)).trans (happ.below (B := w.heap.size) (by have := HBB.out.size; simp only [World.size_alloc]; omega) (fun q hq => HBL.out q hq))
      have hoth := fun q hq hv => (happ.other (b := q) hq hv).1
      clear happ HVR HVL HBL HBB hvo
      have HO := Lib.hid ((hoth w.heap.size (by simp only [World.size_alloc]; omega) (by intro e; injection e with e; have : w.heap.size + 1 = w.heap.size := e; omega)).trans ((Below.heap_alloc _ _ _ (by simp only [World.size_alloc]; omega)).trans HQ1.out))
      clear hoth
      obtain ⟨q0, q1, q2, -, ql⟩ := three HO.out
      have hrow := hM.row (fun q => w.heap.size ≤ q ∧ q < w4.heap.size) (fun g _ h1 h2 => ⟨h1, h2⟩)
      obtain ⟨a4, c4, hv4, -⟩ := hrow.get
      subst hv4
      have HROW := Lib.hid hrow
      have HB := Lib.hid hB
      clear hM hB hrow
      go_wp2_with fail
      refine wp_loop_rounds 1 ?_
      rw [rounds_succ]
      go_wp2_with fail
      go_ret
      refine ⟨_, _, _, _, rfl, HB.out, HROW.out, fun z => ?_, ?_⟩
      · rw [HXS.out]; simp [hasF, hasFL]; exact eq_comm
      · rw [HXS.out]; simp [nsz, nszL]
    · have h8b : (k == 8) = false := by simp [h8]
      have H8 := Lib.hid h8
      clear h8
      have HR0 := Lib.hid (show RowR (fun q => w.heap.size ≤ q ∧ q < (W.alloc (.cells #[] 3)).heap.size) (W.alloc (.cells #[] 3)) (.slice (some ⟨w.heap.size + 1, 0, none⟩) 0 0) [] from ⟨_, 0, rfl, Nat.le_refl _, Nat.zero_le _, fun i h => absurd h (Nat.not_lt_zero _)⟩)
      have HB0 := Lib.hid (alloc_bel W (.cells #[] 3))
      rw [HWD.out] at q0 q1 q2 ql
      go_enter Try.func60, Try.ntmps60
      go_wp2_with fail
      rw [← HWD.out] at q0 q1 q2 ql ⊢
      clear q0 q1 q2 ql
      go_loopw [7, 8] (fun vs i wr => ∃ (j : Nat) (xs : List Int), i = .int .i64 j ∧ j ≤ l.length ∧ RowR (fun q => w.heap.size ≤ q ∧ q < wr.heap.size) wr vs xs ∧ Below W.heap.size W wr ∧ (∀ z, z ∈ xs ↔ hasFL z (l.take j) = true) ∧ xs.length ≤ nszL (l.take j)) (fun _ i _ => l.length - (intOf i).toNat)
      case atStart => exact ⟨0, [], by go_num, Nat.zero_le _, HR0.out, HB0.out, fun z => by simp [hasFL], by simp⟩
      case round =>
        obtain ⟨j, xs, rfl, hj, hrow, hb, hmem, hxl⟩ := hrel
        have HBW := Lib.hid (HBEL.out.trans (hb.mono (by omega)))
        have HQr := Lib.hid ((hb.block w.heap.size (by omega)).trans HQ.out)
        have HB := Lib.hid hb
        have HROW := Lib.hid hrow
        have HMEM := Lib.hid hmem
        have hszr : w.heap.size + 1 ≤ wr.heap.size := by have := hb.size; omega
        clear hb hrow hmem HR0 HB0
        obtain ⟨q0, q1, q2, -, ql⟩ := three HQr.out
        by_cases hjl : j < l.length
        · obtain ⟨b, off, k2, n2, ao2, m2, cap2, rfl, hP, h0, h1, h2, hrd⟩ := HE.out j hjl
          have e0 := (HBW.out.cell (p := ⟨b, off + j * 3, none⟩) hP).trans h0
          have e1 := (HBW.out.cell (p := ⟨b, off + j * 3 + 1, none⟩) hP).trans h1
          have e2 := (HBW.out.cell (p := ⟨b, off + j * 3 + 2, none⟩) hP).trans h2
          have hbw : b < wr.heap.size := Nat.lt_of_lt_of_le hP HBW.out.size
          have hji : (j : Int) < (l.length : Int) := by omega
          have hj0 : (0 : Int) ≤ (j : Int) := Int.natCast_nonneg _
          have hszj : nsz l[j] ≤ nszL l := nszL_get l j hjl
          have hszt : nszL l ≤ 100000 := by have := HSZ.out; simp only [nsz] at this; omega
          have HCON := Lib.hid (IH.out _ l[j] wr (RdN.keep (P := (· < w.heap.size)) (w' := wr) (fun b hb' => Nat.lt_of_lt_of_le hb' HBW.out.size) (fun b hb' => HBW.out.block b hb') d _ _ hrd) (HG.out j hjl) (by omega))
          have htk : nszL (l.take (j + 1)) = nszL (l.take j) + nsz l[j] := by rw [List.take_succ_eq_append_getElem hjl, nszL_append]; simp [nszL]
          have htk2 : nszL (l.take (j + 1)) ≤ nszL l := nszL_take l _
          have hfk : ∀ z, hasFL z (l.take (j + 1)) = (hasFL z (l.take j) || hasF z l[j]) := fun z => by rw [List.take_succ_eq_append_getElem hjl, hasFL_append]; simp [hasFL]
          have HFK := Lib.hid hfk
          clear h0 h1 h2 hrd hfk
          go_wp2_with fail
          refine HCON.out.mono ?_
          rintro e w1 ⟨a1, m1, c1, ys, rfl, hb1, hr1, hm1, hl1⟩
          obtain ⟨a1', c1', hv1, hyc, hyc2, hel⟩ := hr1.get
          injection hv1 with hv1 hv2 hv3
          subst hv1; subst hv2; subst hv3
          have HEL := Lib.hid hel
          have HM1 := Lib.hid hm1
          have HROW1 := Lib.hid (HROW.out.keep (w' := w1) (P' := fun q => w.heap.size ≤ q ∧ q < w1.heap.size) (fun q hq => ⟨hq.1, Nat.lt_of_lt_of_le hq.2 hb1.size⟩) fun q hq => hb1.block q hq.2)
          have HB1 := Lib.hid (HB.out.trans (hb1.mono HB.out.size))
          have hsz1 : w.heap.size + 1 ≤ w1.heap.size := by have := hb1.size; omega
          clear hb1 hr1 hel hm1 q0 q1 q2 ql e0 e1 e2
          go_wp2_with fail
          go_loopw [7, 10] (fun vs i wq => ∃ (q : Nat) (zs : List Int), i = .int .i64 q ∧ q ≤ ys.length ∧ RowR (fun p => w.heap.size ≤ p ∧ p < wq.heap.size) wq vs zs ∧ Below w1.heap.size w1 wq ∧ (∀ z, z ∈ zs ↔ z ∈ xs ∨ z ∈ ys.take q) ∧ zs.length ≤ xs.length + q) (fun _ i _ => ys.length - (intOf i).toNat)
          case atStart => exact ⟨0, xs, by go_num, Nat.zero_le _, HROW1.out, Below.refl _ _, fun z => by simp, by simp⟩
          case round =>
            obtain ⟨q, zs, rfl, hq, hrow2, hb2, hmem2, hzl⟩ := hrel
            have HMEM2 := Lib.hid hmem2
            have HB2 := Lib.hid hb2
            clear hmem2
            by_cases hql : q < ys.length
            · obtain ⟨b2, off2, rfl, hP2, h0⟩ := HEL.out q hql
              have e0 := (hb2.cell (p := ⟨b2, off2 + q, none⟩) hP2.2).trans h0
              have hbw2 : b2 < wr.heap.size := Nat.lt_of_lt_of_le hP2.2 hb2.size
              have hqi : (q : Int) < (ys.length : Int) := by omega
              have hq0 : (0 : Int) ≤ (q : Int) := Int.natCast_nonneg _
              have hszw : w1.heap.size ≤ wr.heap.size := hb2.size
              have hput := put_w _ zs ys[q] wr (hrow2.keep (P' := (· < wr.heap.size)) (fun p hp => hp.2) fun _ _ => rfl) (by omega)
              have HPUT := Lib.hid hput
              clear h0 hb2 hrow2 hput
              go_wp2_with fail
              refine HPUT.out.mono ?_
              rintro e w2 ⟨a2, m2', c2, vs2, rfl, hb3, hr3, hm3, hl3⟩
              have HR3 := Lib.hid (hr3.keep (P' := fun p => w.heap.size ≤ p ∧ p < w2.heap.size) (fun p hp => ⟨by have := hp.1; omega, hp.2⟩) fun _ _ => rfl)
              have HB3 := Lib.hid (HB2.out.trans (hb3.mono HB2.out.size))
              have HM3 := Lib.hid hm3
              clear hb3 hr3 hm3 e0
              go_wp2_with fail
              go_roundw
              case rel =>
                refine ⟨q + 1, vs2, by go_num, by omega, HR3.out, HB3.out, fun z => ?_, by omega⟩
                rw [List.take_succ_eq_append_getElem hql, HM3.out z, HMEM2.out z]
                simp only [List.mem_append, List.mem_singleton, or_assoc]
              case measure =>
                have q' : (intOf (.int .i64 ((q : Int) + 1))).toNat = q + 1 := by show ((q : Int) + 1).toNat = _; omega
                have q2 : (intOf (.int .i64 (q : Int))).toNat = q := by show ((q : Int)).toNat = _; omega
                rw [q', q2]; omega
            · have hty : ys.take q = ys := List.take_of_length_le (by omega)
              have HROW2 := Lib.hid hrow2
              clear hrow2 hb2
              go_wp2_with fail
              go_roundw
              case rel =>
                refine ⟨j + 1, zs, by go_num, by omega, HROW2.out, HB1.out.trans (HB2.out.mono HB1.out.size), fun z => ?_, ?_⟩
                · rw [HMEM2.out z, hty, HMEM.out z, HM1.out z, HFK.out z, Bool.or_eq_true]
                · rw [htk]; omega
              case measure =>
                have q' : (intOf (.int .i64 ((j : Int) + 1))).toNat = j + 1 := by show ((j : Int) + 1).toNat = _; omega
                have q2 : (intOf (.int .i64 (j : Int))).toNat = j := by show ((j : Int)).toNat = _; omega
                rw [q', q2]; omega
        · have htl : l.take j = l := List.take_of_length_le (by omega)
          rw [htl] at hxl
          obtain ⟨a4, c4, hv4, -⟩ := HROW.out.get
          subst hv4
          go_wp2_with fail
          go_ret
          refine ⟨_, _, _, _, rfl, HBW.out, HROW.out, fun z => ?_, by simp only [nsz]; omega⟩
          rw [HMEM.out z, htl]
          have hn8 : decide (k = 8 ∧ x = z) = false := by simp; exact fun e => absurd e H8.out
          simp only [hasF, hn8, Bool.false_or]
end Go.Proofs.Ythjlfjaciigfiaa
