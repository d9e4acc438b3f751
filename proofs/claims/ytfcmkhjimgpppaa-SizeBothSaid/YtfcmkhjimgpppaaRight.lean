/-
  Right, the program's and the document's: contracts of the walk, for any matrix that can be read.
-/
import Derived.Test.YtfcmkhjimgpppaaRows
import Derived.Test.YtfcmkhjimgpppaaMem
import Derived.Test.YtfcmkhjimgpppaaPlain
import Derived.WalkLawsBesides
import Derived.WalkSpells
import Derived.Outline
namespace Go.Proofs.Ytfcmkhjimgpppaa
open Go.RowKit
set_option linter.unusedVariables false
set_option linter.unusedSimpArgs false

set_option maxHeartbeats 1000000 in
theorem right_w {P : Nat → Prop} (v : Value) (m : List (List Int)) (w : World) (h : MatR P w v m) :
    Calls Try.prog 15 #[v] w fun e w' => e = .returned (.bool (right m)) ∧ w = w' := by
  obtain ⟨ao, cap, rfl, hl, hc, he⟩ := h
  have hml : m.length ≤ 9223372036854775807 := by unfold maxLen at hc; omega
  by_cases h24 : 24 < m.length
  · have hr := right_len h24
    go_enter Try.func15, Try.ntmps15
    go_wp2_with fail
    go_ret
    exact ⟨by rw [hr]; rfl, rfl⟩
  have H24 : m.length ≤ 24 := by omega
  go_enter Try.func15, Try.ntmps15
  go_wp2_with fail
  go_loop [12] (fun i => ∃ k : Nat, i = .int .i64 k ∧ k ≤ m.length ∧ ∀ k' (h : k' < m.length), k' < k → rowOk m.length m[k'] = true) (fun i => m.length - (intOf i).toNat)
  case atStart => exact ⟨0, rfl, Nat.zero_le _, fun _ _ h => absurd h (Nat.not_lt_zero _)⟩
  case round =>
    obtain ⟨k, rfl, hk, hrows⟩ := hrel
    by_cases hlt : k < m.length
    · obtain ⟨b, off, rfl, hP, hcell⟩ := he k hlt
      obtain ⟨u, hu, hrow⟩ := hcell
      obtain ⟨ao2, cap2, rfl, hl2, hc2, he2⟩ := hrow
      obtain ⟨r, hr⟩ : ∃ r, r = m[k] := ⟨_, rfl⟩
      rw [← hr] at hu hl2 he2
      have HR : Hid (r = m[k]) := hr
      clear hr
      have hrl : r.length ≤ 9223372036854775807 := by unfold maxLen at hc2; omega
      by_cases hlen : r.length = m.length
      · have hb1 : ((r.length : Int) != (m.length : Int)) = false := by simp [hlen]
        have HL : Hid (r.length = m.length) := hlen
        clear hlen
        go_wp2_with fail
        go_loop [23] (fun j => ∃ jj : Nat, j = .int .i64 jj ∧ jj ≤ r.length ∧ ∀ j' (h : j' < r.length), j' < jj → 0 ≤ r[j'] ∧ r[j'] ≤ 2) (fun j => r.length - (intOf j).toNat)
        case atStart => exact ⟨0, rfl, Nat.zero_le _, fun _ _ h => absurd h (Nat.not_lt_zero _)⟩
        case round =>
          obtain ⟨j, rfl, hj, hxs⟩ := hrel
          by_cases hjl : j < r.length
          · obtain ⟨b2, off2, rfl, hP2, hx⟩ := he2 j hjl
            unfold IntR at hx
            obtain ⟨x, hxe⟩ : ∃ x, x = r[j] := ⟨_, rfl⟩
            rw [← hxe] at hx
            have HX : Hid (x = r[j]) := hxe
            clear hxe
            by_cases hx0 : x < 0
            · go_wp2_with fail
              go_ret
              exact ⟨by rw [right_no k hlt (by rw [← HR.out]; exact rowOk_no j hjl (by rw [← HX.out]; omega))]; rfl, rfl⟩
            · by_cases hx2 : 2 < x
              · go_wp2_with fail
                go_ret
                exact ⟨by rw [right_no k hlt (by rw [← HR.out]; exact rowOk_no j hjl (by rw [← HX.out]; omega))]; rfl, rfl⟩
              · go_wp2_with fail
                go_round
                case rel => exact ⟨j + 1, by go_num, by omega, fun j' h' hj' => by
                  by_cases hjj : j' = j
                  · subst hjj; rw [← HX.out]; omega
                  · exact hxs j' h' (by omega)⟩
                case measure => simp [intOf]; omega
          · go_wp2_with fail
            go_round
            case rel => exact ⟨k + 1, by go_num, by omega, fun k' h' hk' => by
              by_cases hkk : k' = k
              · subst hkk; rw [← HR.out]; exact rowOk_iff.2 ⟨HL.out, fun j' h' => hxs j' h' (by omega)⟩
              · exact hrows k' h' (by omega)⟩
            case measure => simp [intOf]; omega
      · have hb1 : ((r.length : Int) != (m.length : Int)) = true := by simp; omega
        go_wp2_with fail
        go_ret
        exact ⟨by rw [right_no k hlt (by rw [← HR.out]; exact rowOk_len hlen)]; rfl, rfl⟩
    · have hkk : k = m.length := by omega
      have HK : Hid (k = m.length) := hkk
      clear hkk
      go_wp2_with fail
      go_ret
      exact ⟨by rw [right_iff.2 ⟨H24, fun i hi => hrows i hi (by have := HK.out; omega)⟩]; rfl, rfl⟩
end Go.Proofs.Ytfcmkhjimgpppaa
