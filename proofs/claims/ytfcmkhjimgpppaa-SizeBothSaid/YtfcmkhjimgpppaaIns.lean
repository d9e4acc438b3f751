/-
  scholiumref30.In, scholiumlaw30.few: contracts, at any matrices that can be read.
-/
import Derived.Test.YtfcmkhjimgpppaaClosure
namespace Go.Proofs.Ytfcmkhjimgpppaa
open Go.RowKit Go.Maps
set_option linter.unusedVariables false
set_option linter.unusedSimpArgs false

theorem drewN_read {w : World} {v : Value} {l : List Mx} (h : MatsR (· < w.heap.size) w v l) (n : Nat) : MatsR (· < (w.drewN n).heap.size) (w.drewN n) v l := MatsR.keep h (fun _ h => h) fun _ _ => rfl
set_option maxHeartbeats 2000000 in
theorem In_w (va vm : Value) (l : List Mx) (m : Mx) (w : World) (h : MatsR (· < w.heap.size) w va l) (hm : MatR (· < w.heap.size) w vm m) :
    Calls Try.prog 31 #[va, vm] w (Drawn w (decide (m ∈ l))) := by
  have H := Lib.hid h
  have HM := Lib.hid hm
  obtain ⟨ao, cap, rfl, hlm, he⟩ := h.get
  obtain ⟨am, cm, rfl⟩ := hm.shape
  have HE := Lib.hid he
  clear h hm he
  go_enter Try.func31, Try.ntmps31
  go_wp2_with fail
  go_loopw [5] (fun i wr => ∃ (k d : Nat), i = .int .i64 k ∧ k ≤ l.length ∧ wr = w.drewN d ∧ ∀ k', k' < k → l.getD k' [] ≠ m) (fun i _ => l.length - (intOf i).toNat)
  case atStart => exact ⟨0, 0, rfl, Nat.zero_le _, rfl, fun _ h => absurd h (Nat.not_lt_zero _)⟩
  case round =>
    obtain ⟨k, d, rfl, hk, rfl, hall⟩ := hrel
    have HALL := Lib.hid hall
    clear hall
    by_cases hlt : k < l.length
    · obtain ⟨b, off, a1, c1, rfl, hb, hc, hx⟩ := HE.out k hlt
      obtain ⟨x, hxe⟩ : ∃ x, x = l.getD k [] := ⟨_, rfl⟩
      rw [← hxe] at hc hx
      have ks := same_w _ _ _ _ (w.drewN d) (hx.keep (w' := w.drewN d) (P' := (· < (w.drewN d).heap.size)) (fun _ h => h) fun _ _ => rfl) (HM.out.keep (w' := w.drewN d) (P' := (· < (w.drewN d).heap.size)) (fun _ h => h) fun _ _ => rfl)
      have hc1 : (w.drewN d).cell? ⟨b, off + k, none⟩ = some (.slice a1 x.length c1) := hc
      obtain ⟨xl, hxl⟩ : ∃ n, n = x.length := ⟨_, rfl⟩
      rw [← hxl] at hc1 ks
      have HX := Lib.hid hxe
      clear hxe hx hc
      by_cases hxm : x = m
      · rw [decide_eq_true hxm] at ks
        have KS := Lib.hid ks
        have HXM := Lib.hid hxm
        clear ks hxm hxl
        go_wp2_with fail
        refine KS.out.mono ?_
        rintro e w' ⟨rfl, n, rfl⟩
        go_wp2_with fail
        go_ret
        refine ⟨?_, _, rfl⟩
        rw [decide_eq_true (show m ∈ l by rw [← HXM.out, HX.out]; exact getD_mem hlt)]; rfl
      · rw [decide_eq_false hxm] at ks
        have KS := Lib.hid ks
        have HXM := Lib.hid hxm
        clear ks hxm hxl
        go_wp2_with fail
        refine KS.out.mono ?_
        rintro e w' ⟨rfl, n, rfl⟩
        go_wp2_with fail
        go_roundw
        case rel => exact ⟨k + 1, _, by go_num, by omega, rfl, fun k' hk' => by
          by_cases hkk : k' = k
          · subst hkk; rw [← HX.out]; exact HXM.out
          · exact HALL.out k' (by omega)⟩
        case measure => simp [intOf]; omega
    · have HK := Lib.hid (show k = l.length by omega)
      go_wp2_with fail
      go_ret
      refine ⟨?_, _, rfl⟩
      rw [decide_eq_false (show m ∉ l from fun hm => by
        obtain ⟨i, hi, hx⟩ := mem_getD hm
        exact HALL.out i (by have := HK.out; omega) hx)]; rfl

def fewB (l : List Mx) : Bool := decide (l.length ≤ 6) && l.all fun m => decide (m.length ≤ 3) && lightB m
theorem fewB_no {l : List Mx} {k : Nat} (hk : k < l.length) (h : 3 < (l.getD k []).length ∨ lightB (l.getD k []) = false) : fewB l = false := by
  unfold fewB
  rw [Bool.and_eq_false_iff]
  right
  rw [List.all_eq_false]
  refine ⟨_, getD_mem hk, fun hh => ?_⟩
  rw [Bool.and_eq_true, decide_eq_true_iff] at hh
  rcases h with h | h
  · omega
  · rw [h] at hh; exact absurd hh.2 (by decide)
theorem fewB_yes {l : List Mx} (h6 : l.length ≤ 6) (h : ∀ k, k < l.length → (l.getD k []).length ≤ 3 ∧ lightB (l.getD k []) = true) : fewB l = true := by
  unfold fewB
  rw [decide_eq_true h6, Bool.true_and, List.all_eq_true]
  intro m hm
  obtain ⟨i, hi, rfl⟩ := mem_getD hm
  obtain ⟨h1, h2⟩ := h i hi
  rw [decide_eq_true h1, h2]; rfl
set_option maxHeartbeats 2000000 in
theorem few_w (va : Value) (l : List Mx) (w : World) (h : MatsR (· < w.heap.size) w va l) :
    Calls Try.prog 28 #[va] w fun e w' => e = .returned (.bool (fewB l)) ∧ w = w' := by
  obtain ⟨ao, cap, rfl, hlm, he⟩ := h.get
  have HE := Lib.hid he
  clear h he
  by_cases h6 : 6 < l.length
  · have hr : fewB l = false := by unfold fewB; rw [decide_eq_false (by omega)]; rfl
    go_enter Try.func28, Try.ntmps28
    go_wp2_with fail
    go_ret
    exact ⟨by rw [hr]; rfl, rfl⟩
  have h6' : l.length ≤ 6 := by omega
  go_enter Try.func28, Try.ntmps28
  go_wp2_with fail
  go_loop [3] (fun i => ∃ k : Nat, i = .int .i64 k ∧ k ≤ l.length ∧ ∀ k', k' < k → (l.getD k' []).length ≤ 3 ∧ lightB (l.getD k' []) = true) (fun i => l.length - (intOf i).toNat)
  case atStart => exact ⟨0, rfl, Nat.zero_le _, fun _ h => absurd h (Nat.not_lt_zero _)⟩
  case round =>
    obtain ⟨k, rfl, hk, hall⟩ := hrel
    have HALL := Lib.hid hall
    clear hall
    by_cases hlt : k < l.length
    · obtain ⟨b, off, a1, c1, rfl, hb, hc, hx⟩ := HE.out k hlt
      have kl := light_w _ _ w hx
      obtain ⟨x, hxe⟩ : ∃ x, x = l.getD k [] := ⟨_, rfl⟩
      rw [← hxe] at hc kl
      obtain ⟨xl, hxl⟩ : ∃ n, n = x.length := ⟨_, rfl⟩
      obtain ⟨y, hy⟩ : ∃ y, y = lightB x := ⟨_, rfl⟩
      rw [← hxl] at hc kl
      rw [← hy] at kl
      have HX := Lib.hid hxe
      have HXL := Lib.hid hxl
      have HY := Lib.hid hy
      have KL := Lib.hid kl
      clear hxe hxl hy kl hx
      by_cases h3 : 3 < xl
      · go_wp2_with fail
        go_ret
        exact ⟨by rw [fewB_no hlt (.inl (by rw [← HX.out, ← HXL.out]; exact h3))]; rfl, rfl⟩
      · cases y
        · go_wp2_with fail
          refine KL.out.mono ?_
          rintro e w' ⟨rfl, rfl⟩
          go_wp2_with fail
          go_ret
          exact ⟨by rw [fewB_no hlt (.inr (by rw [← HX.out, ← HY.out]))]; rfl, rfl⟩
        · go_wp2_with fail
          refine KL.out.mono ?_
          rintro e w' ⟨rfl, rfl⟩
          go_wp2_with fail
          go_round
          case rel => exact ⟨k + 1, by go_num, by omega, fun k' hk' => by
            by_cases hkk : k' = k
            · subst hkk; rw [← HX.out, ← HXL.out, ← HY.out]; exact ⟨by omega, rfl⟩
            · exact HALL.out k' (by omega)⟩
          case measure => simp [intOf]; omega
    · have HK := Lib.hid (show k = l.length by omega)
      go_wp2_with fail
      go_ret
      exact ⟨by rw [fewB_yes h6' fun i hi => HALL.out i (by have := HK.out; omega)]; rfl, rfl⟩
end Go.Proofs.Ytfcmkhjimgpppaa
