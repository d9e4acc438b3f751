/-
  Unit: contracts.
-/
import Derived.Test.YtfcmkhjimgpppaaProd
import Derived.Test.YtfcmkhjimgpppaaAlg
import Derived.Deep.DeepCutAuto
namespace Go.Proofs.Ytfcmkhjimgpppaa
open Go.RowKit
set_option linter.unusedVariables false
set_option linter.unusedSimpArgs false

theorem unit_no (n : Int) (w : World) (h : n < 0 ∨ 24 < n) : Calls Try.prog 22 #[.int .i64 n] w fun e w' => e = .returned (.tuple #[.slice none 0 0, .int .i64 5]) ∧ w = w' := by
  by_cases h0 : n < 0
  · go_enter Try.func22, Try.ntmps22
    go_wp2_with fail
    go_ret2
    exact ⟨rfl, rfl⟩
  · have h1 : 24 < n := by omega
    go_enter Try.func22, Try.ntmps22
    go_wp2_with fail
    go_ret2
    exact ⟨rfl, rfl⟩

def urow (n i : Nat) : List Int := (List.range n).map fun j => if j = i then 1 else 0
theorem urow_set (n i : Nat) : (List.replicate n (0 : Int)).set i 1 = urow n i := by
  apply List.ext_getElem (by simp [urow])
  intro x h1 h2
  rw [List.getElem_set]
  by_cases hx : i = x
  · subst hx; simp [urow]
  · rw [if_neg hx]; simp [urow]; omega

theorem made_list (n : Nat) : madeCells #[.int .i64 0] n = ((List.replicate n 0).map (Value.int .i64)).toArray := by
  apply Array.ext (by simp [size_madeCells])
  intro i h1 h2
  simp [madeCells, Nat.mod_one]

set_option maxHeartbeats 1000000 in
theorem unit_w (n : Nat) (w : World) (h24 : n ≤ 24) : Calls Try.prog 22 #[.int .i64 n] w (MadeOk w (unit n)) := by
  obtain ⟨i29, hi29, hy1, hy2, hy3⟩ := info_parts info29
  go_enter Try.func22, Try.ntmps22
  go_wp2_with fail
  go_loopw [4, 14] (fun v i wr => ∃ k : Nat, i = .int .i64 k ∧ k ≤ n ∧ Made w.heap.size wr 29 RowR v ((List.range k).map (urow n)) ∧ Below w.heap.size w wr) (fun _ i _ => n - (intOf i).toNat)
  case atStart => exact ⟨0, rfl, Nat.zero_le _, Made.nil _ _ _ _, Below.refl _ _⟩
  case round =>
    obtain ⟨k, rfl, hk, hrows, hbel⟩ := hrel
    obtain ⟨w2, rfl⟩ : ∃ w2 : World, w2 = wr := ⟨_, rfl⟩
    by_cases hlt : k < n
    · have hmk := run_make_row' (P := Try.prog) 29 3 (.int .i64 0) 8 Try.underlying29 info3 rfl .i64 .i64 n (by omega) (by omega)
      have hblk := hrows.block
      have hin : OwnInts (w2.alloc (.cells ((madeCells #[.int .i64 0] n).setIfInBounds k (.int .i64 1)) 3)) w2.heap.size 3 (urow n k) := by
        rw [← urow_set, made_list, List.setIfInBounds_toArray, ← List.map_set]
        show (w2.heap.push _)[w2.heap.size]? = _
        rw [Array.getElem?_push_size]
      have hb1 : Below w2.heap.size w2 (w2.alloc (.cells ((madeCells #[.int .i64 0] n).setIfInBounds k (.int .i64 1)) 3)) := (Below.refl _ _).alloc (Nat.le_refl _) _
      have hsz : (w2.alloc (.cells ((madeCells #[.int .i64 0] n).setIfInBounds k (.int .i64 1)) 3)).heap.size = w2.heap.size + 1 := by simp
      have c1 := (made_zero w2 n).cell k (by simpa using hlt)
      have c2 := (made_zero w2 n).frozen k
      go_upto_region 9 with fail
      clear c1 c2
      generalize w2.alloc (.cells ((madeCells #[.int .i64 0] n).setIfInBounds k (.int .i64 1)) 3) = wm at hin hb1 hsz ⊢
      clear hmk
      have hs1 := hbel.size
      have hMd : Made w.heap.size (wm.alloc (.cells #[.slice (some ⟨w2.heap.size, 0, none⟩) n n] 29)) 29 RowR u4 ((List.range k).map (urow n)) := hrows.below keeps_row (hb1.alloc hb1.size _)
      have hbelW : Below w.heap.size w (wm.alloc (.cells #[.slice (some ⟨w2.heap.size, 0, none⟩) n n] 29)) := (hbel.trans (hb1.mono hs1)).alloc (by omega) _
      have hrow : RowR (fun b => u4.ownBlock ≠ some b ∧ b < (wm.alloc (.cells #[.slice (some ⟨w2.heap.size, 0, none⟩) n n] 29)).heap.size) (wm.alloc (.cells #[.slice (some ⟨w2.heap.size, 0, none⟩) n n] 29)) (.slice (some ⟨w2.heap.size, 0, none⟩) n n) (urow n k) := by
        have := (hin.keep (w' := wm.alloc (.cells #[.slice (some ⟨w2.heap.size, 0, none⟩) n n] 29)) (Below.heap_alloc _ _ _ hin.lt)).row (fun b => u4.ownBlock ≠ some b ∧ b < (wm.alloc (.cells #[.slice (some ⟨w2.heap.size, 0, none⟩) n n] 29)).heap.size)
          ⟨fun e => by have := (hblk _ e).2; omega, by have := hin.lt; simp only [World.size_alloc]; omega⟩ (by simp [urow]; unfold maxLen; omega)
        rw [show (urow n k).length = n from by simp [urow]] at this
        exact this
      obtain ⟨vals, hvo, hvr⟩ := hMd
      have hvl : vals.length = ((List.range k).map (urow n)).length := by have := hvo.1; omega
      have hk2 : ((List.range k).map (urow n)).length = k := by simp
      have HVR := Lib.hid hvr
      have HVL := Lib.hid hvl
      have HK2 := Lib.hid hk2
      have HSZ := Lib.hid hsz
      have HS1 := Lib.hid hs1
      clear hvr hvl hrows hin hbel hb1 hsz hs1
      rw [hk2] at hvo
      clear hk2
      go_wp2_with (at_builtin; refine wpList_app rfl _ _ 22 rfl w.heap.size 29 i29 (.slice none 0 0) 1 24 Try.underlying22 hi29 hy1 hy2 hy3 rfl (by decide) u4 k vals rfl hvo ⟨wm.heap.size, 0, none⟩ 1 1 [.slice (some ⟨w2.heap.size, 0, none⟩) n n] rfl rfl ?c1 ?c2 ?c3 ?c4 ?c5 ?_)
      case c1 => exact cell_one_new _ _ _
      case c2 => intro u hu; simp at hu; subst hu; rfl
      case c3 => unfold maxLen; omega
      case c4 => omega
      case c5 => have := hbelW.size; simpa using this
      intro v' w3 happ
      have hM : Made w.heap.size w3 29 RowR v' ((List.range (k + 1)).map (urow n)) := by
        rw [List.range_succ, List.map_append]
        exact Made.app keeps_row HVR.out HVL.out (by rw [HK2.out]; exact happ) rfl hrow
      have hB3 := hbelW.trans (happ.below hbelW.size (fun q hq => (hblk q hq).1))
      clear happ HVR HVL hrow hbelW hvo
      go_wp2_with fail
      go_roundw
      case rel => exact ⟨k + 1, by go_num, by omega, hM, hB3⟩
      case measure => simp [intOf]; omega
    · have hkn : k = n := by omega
      subst hkn
      go_wp2_with fail
      go_ret2
      exact ⟨_, rfl, hrows.mat, hbel⟩
end Go.Proofs.Ytfcmkhjimgpppaa
