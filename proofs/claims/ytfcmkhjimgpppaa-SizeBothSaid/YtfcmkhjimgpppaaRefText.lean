/-
  The document's Text: contract at a right matrix.
-/
import Derived.Test.YtfcmkhjimgpppaaText
namespace Go.Proofs.Ytfcmkhjimgpppaa
open Go.RowKit
set_option linter.unusedVariables false
set_option linter.unusedSimpArgs false

theorem str_snoc (l : List Int) (x : Int) : strOfNums l ++ ⟨#[UInt8.ofNat x.toNat]⟩ = strOfNums (l ++ [x]) := by
  apply ByteArray.ext
  simp [strOfNums]

set_option maxHeartbeats 4000000 in
theorem reftext_sq (va : Value) (m : List (List Int)) (n b off cap : Nat) (B O C : Nat → Nat) (w : World) (h24 : n ≤ 24) (hs : SqR w va m n b off cap B O C) (hlen : ∀ i, i < n → (m.getD i []).length = n)
    (hv : ∀ i j, i < n → j < n → 0 ≤ G m i j ∧ G m i j ≤ 2) (h0 : n ≠ 0) :
    Calls Try.prog 27 #[va] w fun e w' => e = .returned (.string (strOfNums (txt m n))) ∧ Below w.heap.size w w' := by
  have hav := hs.val
  subst hav
  have HT := Lib.hid (txt_le m n h24 hlen)
  have hbw : b < w.heap.size := lt_of_cell (hs.row 0 (by omega))
  have hBw : ∀ i, i < n → B i < w.heap.size := fun i hi => lt_of_cell (hs.cell i 0 hi (by omega))
  have hkeep : ∀ w', Below w.heap.size w w' → SqR w' (.slice (some ⟨b, off, none⟩) n cap) m n b off cap B O C := fun w' hbl => hs.keep (fun _ => hbl.block _ hbw) fun i hi => hbl.block _ (hBw i hi)
  have HK := Lib.hid hkeep
  have HLEN := Lib.hid hlen
  have HBB := Lib.hid hBw
  clear hkeep hs hlen hBw
  go_enter Try.func27, Try.ntmps27
  go_wp2_with fail
  go_loopg [3, 4] n (fun g v i wr => ∃ k : Nat, i = .int .i64 k ∧ k + g = n ∧ v = .string (strOfNums (txt m k)) ∧ Below w.heap.size w wr)
  case atStart => exact ⟨0, rfl, Nat.zero_add _, rfl, Below.refl _ _⟩
  case round =>
    obtain ⟨k, rfl, hkg, rfl, hbel⟩ := hrel
    obtain ⟨w2, rfl⟩ : ∃ w2 : World, w2 = wr := ⟨_, rfl⟩
    obtain ⟨gO, rfl⟩ : ∃ gO, gO = gk := ⟨_, rfl⟩
    have hk : k ≤ n := by omega
    have HKG := Lib.hid hkg
    clear hkg
    by_cases hlt : k < n
    · have hlen := HT.out k hk
      obtain ⟨T, hTe⟩ : ∃ T, T = strOfNums (txt m k) := ⟨_, rfl⟩
      have hTs : T.size ≤ 25 * k := by rw [hTe, strOfNums_size]; exact hlen
      rw [← hTe]
      have HTE := Lib.hid hTe
      clear hTe hlen
      go_upto_if 13 with fail
      go_cut [3] (fun s3 wx => s3 = .string (strOfNums (txt m k ++ (if 0 < k then [47] else []))) ∧ wx = w2)
      case first =>
        by_cases hk0 : k = 0
        · subst hk0
          go_wp2_with fail
          go_meet
          exact ⟨by rw [HTE.out]; rfl, rfl⟩
        · have hk1 : 0 < k := by omega
          clear hk0
          go_wp2_with fail
          go_meet
          refine ⟨?_, rfl⟩
          rw [if_pos hk1, HTE.out]
          exact congrArg Value.string (str_snoc (txt m k) 47)
      case rest =>
        obtain ⟨rfl, rfl⟩ := hcut
        obtain ⟨pre, hpre⟩ : ∃ pre, pre = txt m k ++ (if 0 < k then [47] else []) := ⟨_, rfl⟩
        rw [← hpre]
        have hprelen : pre.length ≤ 25 * k + 1 := by rw [hpre, List.length_append]; have := HT.out k hk; split <;> simp <;> omega
        have HPRE := Lib.hid hpre
        clear hpre
        have c1 := (HK.out wc hbel).row k hlt
        go_wp2_with fail
        go_loopw [3, 5] (fun v i wr => ∃ j : Nat, i = .int .i64 j ∧ j ≤ n ∧ v = .string (strOfNums (pre ++ (List.range j).map fun j' => sym (G m k j'))) ∧ Below w.heap.size w wr) (fun _ i _ => n - (intOf i).toNat)
        case atStart => exact ⟨0, rfl, Nat.zero_le _, by simp, hbel⟩
        case round =>
          obtain ⟨j, rfl, hj, rfl, hbd⟩ := hrel
          have c1 := (HK.out wr hbd).row k hlt
          by_cases hjl : j < n
          · have c2 := (HK.out wr hbd).cell k j hlt hjl
            have r1 := hv k j hlt hjl
            have hBk : B k < wr.heap.size := Nat.lt_of_lt_of_le (HBB.out k hlt) hbd.size
            have hbk : b < wr.heap.size := Nat.lt_of_lt_of_le hbw hbd.size
            obtain ⟨L, hL⟩ : ∃ L, L = pre ++ (List.range j).map fun j' => sym (G m k j') := ⟨_, rfl⟩
            have hLl : L.length = pre.length + j := by rw [hL]; simp
            obtain ⟨S, hS⟩ : ∃ S, S = strOfNums L := ⟨_, rfl⟩
            have hSs : S.size ≤ 25 * k + 1 + j := by rw [hS, strOfNums_size]; omega
            rw [← hL, ← hS]
            obtain ⟨x, hx⟩ : ∃ x, x = G m k j := ⟨_, rfl⟩
            rw [← hx] at c2 r1
            have HX := Lib.hid hx
            have HL := Lib.hid hL
            have HS := Lib.hid hS
            clear hx hL hS hLl
            have hx3 : x = 0 ∨ x = 1 ∨ x = 2 := by omega
            have fin : ∀ y : Int, sym x = y → Value.string (S ++ ⟨#[UInt8.ofNat y.toNat]⟩) = .string (strOfNums (pre ++ (List.range (j + 1)).map fun j' => sym (G m k j'))) := fun y hy => by
              rw [HS.out, str_snoc, HL.out, List.range_succ, List.map_append, ← List.append_assoc, ← hy, HX.out]; rfl
            have HF := Lib.hid fin
            clear fin r1
            rcases hx3 with rfl | rfl | rfl
            · go_wp2_with fail
              go_roundw
              case rel => exact ⟨j + 1, by go_num, by omega, HF.out 63 rfl, hbd.alloc hbd.size _⟩
              case measure => simp [intOf]; omega
            · go_wp2_with fail
              go_roundw
              case rel => exact ⟨j + 1, by go_num, by omega, HF.out 61 rfl, hbd.alloc hbd.size _⟩
              case measure => simp [intOf]; omega
            · go_wp2_with fail
              go_roundw
              case rel => exact ⟨j + 1, by go_num, by omega, HF.out 60 rfl, hbd.alloc hbd.size _⟩
              case measure => simp [intOf]; omega
          · have hjj : j = n := by omega
            have HJ := Lib.hid hjj
            clear hjj
            go_wp2_with fail
            go_roundg (gO - 1)
            case measure => have := HKG.out; omega
            case rel => exact ⟨k + 1, by go_num, by have := HKG.out; omega, by rw [txt_step m k pre HPRE.out n (HLEN.out k hlt), ← HJ.out], hbd⟩
    · have hkn : k = n := by omega
      subst hkn
      go_wp2_with fail
      go_ret
      exact ⟨rfl, hbel⟩

theorem reftext_nil (ao : Option Addr) (cap : Nat) (w : World) :
    Calls Try.prog 27 #[.slice ao 0 cap] w fun e w' => e = .returned (.string (strOfNums [])) ∧ w = w' := by
  go_enter Try.func27, Try.ntmps27
  go_wp2_with fail
  refine wp_loop_rounds 1 ?_
  rw [rounds_succ]
  go_wp2_with fail
  go_ret
  exact ⟨rfl, rfl⟩
theorem refText_w {P : Nat → Prop} (va : Value) (m : List (List Int)) (w : World) (h : MatR P w va m) (hr : right m = true) :
    Calls Try.prog 27 #[va] w fun e w' => e = .returned (.string (strOfNums (txt m m.length))) ∧ Below w.heap.size w w' := by
  obtain ⟨r1, r2, r3⟩ := right_sq hr
  by_cases h0 : m.length = 0
  · obtain ⟨ao, ca, rfl⟩ := h.shape
    rw [h0]
    exact (reftext_nil ao ca w).mono fun _ _ h => ⟨h.1, h.2 ▸ Below.refl _ _⟩
  · obtain ⟨b, off, cap, B, O, C, hS, -, -⟩ := h.sq rfl h0 r2
    exact reftext_sq va m m.length b off cap B O C w r1 hS r2 r3 h0
end Go.Proofs.Ytfcmkhjimgpppaa
