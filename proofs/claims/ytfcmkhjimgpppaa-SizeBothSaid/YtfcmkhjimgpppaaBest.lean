/-
  best and the document's product: contracts of the walk, at two right matrices of one size.
-/
import Derived.Test.YtfcmkhjimgpppaaProds
import Derived.LoopN
namespace Go.Proofs.Ytfcmkhjimgpppaa
open Go.RowKit
set_option linter.unusedVariables false
set_option linter.unusedSimpArgs false

theorem best_w (va vb : Value) (a b : List (List Int)) (n ba oa ca bb ob cb : Nat) (A1 A2 A3 B1 B2 B3 : Nat → Nat) (w : World) (i j : Nat) (hi : i < n) (hj : j < n) (h24 : n ≤ 24)
    (ha : SqR w va a n ba oa ca A1 A2 A3) (hb : SqR w vb b n bb ob cb B1 B2 B3) (ha2 : ∀ i j, i < n → j < n → 0 ≤ G a i j ∧ G a i j ≤ 2) (hb2 : ∀ i j, i < n → j < n → 0 ≤ G b i j ∧ G b i j ≤ 2) :
    Calls Try.prog 44 #[va, vb, .int .i64 i, .int .i64 j] w fun e w' => e = .returned (.int .i64 (pc a b i j n)) ∧ w = w' := by
  obtain rfl := ha.val
  obtain rfl := hb.val
  go_enter Try.func44, Try.ntmps44
  go_wp2_with fail
  go_loop [9, 10] (fun o l => ∃ k : Nat, l = .int .i64 k ∧ k ≤ n ∧ o = .int .i64 (pc a b i j k) ∧ pc a b i j k ≤ 1) (fun _ l => n - (intOf l).toNat)
  case atStart => exact ⟨0, rfl, Nat.zero_le _, rfl, by simp [pc]⟩
  case round =>
    obtain ⟨k, rfl, hk, rfl, hp⟩ := hrel
    by_cases hkn : k < n
    · have c1 := ha.row i hi
      have c2 := ha.cell i k hi hkn
      have c3 := hb.row k hkn
      have c4 := hb.cell k j hkn hj
      have r1 := ha2 i k hi hkn
      have r2 := hb2 k j hkn hj
      have p0 := (pc_bd a b i j k).1
      obtain ⟨x, hx⟩ : ∃ x, x = G a i k := ⟨_, rfl⟩
      obtain ⟨y, hy⟩ : ∃ y, y = G b k j := ⟨_, rfl⟩
      rw [← hx] at c2 r1
      rw [← hy] at c4 r2
      have HX : Hid (x = G a i k) := hx
      have HY : Hid (y = G b k j) := hy
      clear hx hy
      by_cases hz : x = 0 ∨ y = 0
      · have ht : pc a b i j (k + 1) = pc a b i j k := by
          simp only [pc]; rw [← HX.out, ← HY.out]; unfold tm; rw [if_pos hz]; omega
        have HT := Lib.hid ht
        clear ht
        by_cases hx0 : x = 0
        · have e1 : (x == 0) = true := by simp [hx0]
          clear hz hx0
          go_wp2_with fail
          go_round
          case rel => exact ⟨k + 1, by go_num, by omega, by rw [HT.out], by rw [HT.out]; exact hp⟩
          case measure => simp [intOf]; omega
        · have e1 : (x == 0) = false := by simp [hx0]
          have e2 : (y == 0) = true := by simp; omega
          clear hz hx0
          go_wp2_with fail
          go_round
          case rel => exact ⟨k + 1, by go_num, by omega, by rw [HT.out], by rw [HT.out]; exact hp⟩
          case measure => simp [intOf]; omega
      · have e1 : (x == 0) = false := by simp; omega
        have e2 : (y == 0) = false := by simp; omega
        by_cases hw : x = 2 ∨ y = 2
        · have ht : pc a b i j n = 2 := pc_two a b i j k n hkn (by rw [← HX.out, ← HY.out]; unfold tm; rw [if_neg hz, if_pos hw])
          have HT := Lib.hid ht
          clear ht
          by_cases hx2 : x = 2
          · have e3 : (x == 2) = true := by simp [hx2]
            clear hz hw hx2
            go_wp2_with fail
            go_ret
            exact ⟨by rw [HT.out]; rfl, rfl⟩
          · have e3 : (x == 2) = false := by simp [hx2]
            have e4 : (y == 2) = true := by simp; omega
            clear hz hw hx2
            go_wp2_with fail
            go_ret
            exact ⟨by rw [HT.out]; rfl, rfl⟩
        · have e3 : (x == 2) = false := by simp; omega
          have e4 : (y == 2) = false := by simp; omega
          have ht : pc a b i j (k + 1) = 1 := by
            simp only [pc]; rw [← HX.out, ← HY.out]; unfold tm; rw [if_neg hz, if_neg hw]; omega
          have HT := Lib.hid ht
          clear hz hw ht
          go_wp2_with fail
          go_round
          case rel => exact ⟨k + 1, by go_num, by omega, by rw [HT.out], by rw [HT.out]; exact Int.le_refl _⟩
          case measure => simp [intOf]; omega
    · have hkk : k = n := by omega
      subst hkk
      go_wp2_with fail
      go_ret
      exact ⟨rfl, rfl⟩
end Go.Proofs.Ytfcmkhjimgpppaa
