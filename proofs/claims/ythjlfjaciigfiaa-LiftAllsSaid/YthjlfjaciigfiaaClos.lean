/-
  The closures of Lower and Swap: contracts of the walk.
-/
import Derived.Test.YthjlfjaciigfiaaPureLow
namespace Go.Proofs.Ythjlfjaciigfiaa
open Go.RowKit
set_option linter.unusedVariables false
set_option linter.unusedSimpArgs false

theorem set1 {w : World} {B : Nat} {a v : Value} {z : TypeId} (h : w.heap[B]? = some (.cells #[a] z)) : (w.setCell ⟨B, 0, none⟩ v).heap[B]? = some (.cells #[v] z) := by
  simp [World.setCell, Array.getElem?_modify, h]

def StLow (bn' bk bo : Nat) (k n : Int) (s : Bool) (w : World) : Prop := w.cell? ⟨bn', 0, none⟩ = some (.int .i64 n) ∧ w.cell? ⟨bk, 0, none⟩ = some (.int .i64 k) ∧ w.heap[bo]? = some (.cells #[.bool s] 4)
theorem lower1_w (bn' bk bo : Nat) (hne : bn' ≠ bo ∧ bk ≠ bo) (k n : Int) (hk : fit k = true) (hn : fit n = true) :
    Clo 81 #[.pointer (some ⟨bn', 0, none⟩), .pointer (some ⟨bk, 0, none⟩), .pointer (some ⟨bo, 0, none⟩)] (some bo) (fun b => b = bn' ∨ b = bk ∨ b = bo) (StLow bn' bk bo k n) (fLower k n) (gLower k n) := by
  rw [fit_iff] at hk hn
  refine ⟨fun s m w hm0 hm1 hs => ?_, fun s w w' ⟨h1, h2, h3⟩ hk => ⟨(cell_keep (hk _ (.inl rfl))).trans h1, (cell_keep (hk _ (.inr (.inl rfl)))).trans h2, (hk _ (.inr (.inr rfl))).trans h3⟩, fun args w => by kernel_rfl, fun m hm0 hm1 => by unfold fLower; split <;> (try split) <;> omega⟩
  show Calls Try.prog 81 #[.int .i64 m, .pointer (some ⟨bn', 0, none⟩), .pointer (some ⟨bk, 0, none⟩), .pointer (some ⟨bo, 0, none⟩)] w (CloAns (some bo) (StLow bn' bk bo k n) w (fLower k n m) (s && gLower k n m))
  obtain ⟨h1, h2, h3⟩ := hs
  obtain ⟨o0, of, hol⟩ := one1 h3
  have H1 := Lib.hid h1
  have H2 := Lib.hid h2
  have H3 := Lib.hid h3
  by_cases hlt : m < n
  · have e : fLower k n m = m := by simp [fLower, hlt]
    have e2 : gLower k n m = true := by simp [gLower]; omega
    rw [e, e2, Bool.and_true]; clear e e2
    go_enter Try.func81, Try.ntmps81
    go_wp2_with fail
    go_ret
    exact ⟨rfl, Bx.refl _ _ _, H1.out, H2.out, H3.out⟩
  · by_cases hlt2 : m < n + k
    · have e : fLower k n m = 0 := by simp [fLower, hlt, hlt2]
      have e2 : gLower k n m = false := by simp [gLower]; omega
      rw [e, e2, Bool.and_false]; clear e e2
      go_enter Try.func81, Try.ntmps81
      go_wp2_with fail
      go_ret
      refine ⟨rfl, (Bx.refl (some bo) _ _).setCell (p := ⟨bo, 0, none⟩) (.inr rfl) _, ?_, ?_, set1 H3.out⟩
      · exact (cell_keep (Below.heap_setCell _ _ _ _ hne.1)).trans H1.out
      · exact (cell_keep (Below.heap_setCell _ _ _ _ hne.2)).trans H2.out
    · have e : fLower k n m = m - k := by simp [fLower, hlt, hlt2]
      have e2 : gLower k n m = true := by simp [gLower]; omega
      rw [e, e2, Bool.and_true]; clear e e2
      go_enter Try.func81, Try.ntmps81
      go_wp2_with fail
      go_ret
      exact ⟨rfl, Bx.refl _ _ _, H1.out, H2.out, H3.out⟩

def fSwap (n m : Int) : Int := if m = n then n + 1 else if m = n + 1 then n else m
theorem swap1_w (bn' : Nat) (n : Int) (hn : fit n = true) :
    Clo 83 #[.pointer (some ⟨bn', 0, none⟩)] none (fun b => b = bn') (fun s w => s = true ∧ w.cell? ⟨bn', 0, none⟩ = some (.int .i64 n)) (fSwap n) (fun _ => true) := by
  rw [fit_iff] at hn
  refine ⟨fun s m w hm0 hm1 ⟨hs, h1⟩ => ?_, fun s w w' ⟨hs, h1⟩ hk => ⟨hs, (cell_keep (hk _ rfl)).trans h1⟩, fun args w => by kernel_rfl, fun m hm0 hm1 => by unfold fSwap; split <;> (try split) <;> omega⟩
  subst hs
  show Calls Try.prog 83 #[.int .i64 m, .pointer (some ⟨bn', 0, none⟩)] w (CloAns none (fun s w => s = true ∧ w.cell? ⟨bn', 0, none⟩ = some (.int .i64 n)) w (fSwap n m) true)
  have H1 := Lib.hid h1
  by_cases h : m = n
  · have e : fSwap n m = n + 1 := by simp [fSwap, h]
    have hq : (m == n) = true := by simp [h]
    rw [e]; clear e h
    go_enter Try.func83, Try.ntmps83
    go_wp2_with fail
    go_ret
    exact ⟨rfl, Bx.refl _ _ _, rfl, H1.out⟩
  · have hq : (m == n) = false := by simp [h]
    by_cases h' : m = n + 1
    · have e : fSwap n m = n := by simp [fSwap, h, h']
      have hq2 : (m == n + 1) = true := by simp [h']
      rw [e]; clear e h h'
      go_enter Try.func83, Try.ntmps83
      go_wp2_with fail
      go_ret
      exact ⟨rfl, Bx.refl _ _ _, rfl, H1.out⟩
    · have e : fSwap n m = m := by simp [fSwap, h, h']
      have hq2 : (m == n + 1) = false := by simp [h']
      rw [e]; clear e h h'
      go_enter Try.func83, Try.ntmps83
      go_wp2_with fail
      go_ret
      exact ⟨rfl, Bx.refl _ _ _, rfl, H1.out⟩
end Go.Proofs.Ythjlfjaciigfiaa
