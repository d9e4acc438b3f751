/-
  The meter's own functions: contracts of the walk. No condition beyond those that each theorem names.
-/
import Derived.Test.YtkghgilpocbifaaRows
import Derived.WalkKit
import Derived.WalkLawsBesides
import Derived.WalkSpells
import Derived.ProofKit
import Derived.OpenShut
import Derived.ShutString
import Derived.ChangeOld
import Derived.Below
import Derived.Outline
import Derived.Laws.LoneSync
import Derived.Lib.Hide
namespace Go.Proofs.Ytkghgilpocbifaa
open Go.ChangeShapes Go.WideShapes Go.ChangeAt Go.RowKit
set_option linter.unusedVariables false
set_option linter.unusedSimpArgs false

/-- block b is a meter -/
def IsM (w : World) (b : Nat) (l u : Int) : Prop := w.heap[b]? = some (.cells #[.int .i64 l, .int .i64 u] 66 (0, 0))

theorem IsM.c0 {w : World} {b : Nat} {l u : Int} (h : IsM w b l u) : w.cell? ⟨b, 0, none⟩ = some (.int .i64 l) := by
  unfold IsM at h; simp [World.cell?, h]
theorem IsM.c1 {w : World} {b : Nat} {l u : Int} (h : IsM w b l u) : w.cell? ⟨b, 1, none⟩ = some (.int .i64 u) := by
  unfold IsM at h; simp [World.cell?, h]
theorem IsM.f0 {w : World} {b : Nat} {l u : Int} (h : IsM w b l u) (o : Nat) : w.frozen? ⟨b, o, none⟩ = false := by
  unfold IsM at h; simp [World.frozen?, h]
theorem IsM.lt {w : World} {b : Nat} {l u : Int} (h : IsM w b l u) : b < w.heap.size := by
  unfold IsM at h; exact (Array.getElem?_eq_some_iff.1 h).1

theorem store (a : Addr) (y : Int) (w : World) (hc : ∃ u, w.cell? a = some u) (hz : w.frozen? a = false) :
    Calls Try.prog 19 #[.pointer (some a), .int .i64 y] w fun e w' => e = .returned (.tuple #[]) ∧ w' = w.setCell a (.int .i64 y) := by
  obtain ⟨u, hc⟩ := hc
  have hst := run_call_store (P := Try.prog) Try.func27 (by kernel_rfl) (by kernel_rfl) (by kernel_rfl) (by kernel_rfl) (k := .i64) (y := y) hc hz
  go_enter Try.func19, Try.ntmps19
  go_wp2
  go_end0
  exact ⟨rfl, rfl⟩

theorem load (a : Addr) (y : Int) (w : World) (hc : w.cell? a = some (.int .i64 y)) :
    Calls Try.prog 20 #[.pointer (some a)] w fun e w' => e = .returned (.int .i64 y) ∧ w = w' := by
  have hst := run_call_load (P := Try.prog) Try.func28 (by kernel_rfl) (by kernel_rfl) (by kernel_rfl) (k := .i64) (by kernel_rfl) hc
  go_enter Try.func20, Try.ntmps20
  go_wp2
  go_ret
  exact ⟨rfl, rfl⟩

theorem add (a : Addr) (x y : Int) (w : World) (hc : w.cell? a = some (.int .i64 x)) (hz : w.frozen? a = false) (h0 : -9223372036854775808 ≤ x + y) (h1 : x + y ≤ 9223372036854775807) :
    Calls Try.prog 21 #[.pointer (some a), .int .i64 y] w fun e w' => e = .returned (.int .i64 (x + y)) ∧ w.setCell a (.int .i64 (x + y)) = w' := by
  have hst := run_call_add (P := Try.prog) Try.func29 (by kernel_rfl) (by kernel_rfl) (by kernel_rfl) (k := .i64) (by kernel_rfl) (y := y) (s := x + y) hc hz (by simp only [go_sem]; rw [IntWalk.i64_in _ (by omega)]; rfl)
  go_enter Try.func21, Try.ntmps21
  go_wp2
  go_ret
  exact ⟨rfl, rfl⟩

theorem isM_new (w : World) (l u : Int) : IsM (w.alloc (.cells #[.int .i64 l, .int .i64 u] 66)) w.heap.size l u := by
  show (w.heap.push _)[w.heap.size]? = _
  simp
theorem setm0 (w : World) (n : Int) : (w.alloc (.cells #[.int .i64 0, .int .i64 0] 66)).setCell ⟨w.heap.size, 0, none⟩ (.int .i64 n) = w.alloc (.cells #[.int .i64 n, .int .i64 0] 66) := by
  rw [World.setCell_alloc_at _ _ _ _ _ rfl]; simp

theorem new_ok (n : Int) (w : World) (h0 : 0 ≤ n) (h1 : n ≤ 1048576) :
    Calls Try.prog 7 #[.int .i64 n] w fun e w' => e = .returned (.tuple #[.pointer (some ⟨w.heap.size, 0, none⟩), .int .i64 0]) ∧ w.alloc (.cells #[.int .i64 n, .int .i64 0] 66) = w' := by
  go_enter Try.func7, Try.ntmps7
  go_wp2_with fail
  refine (store _ _ _ ⟨.int .i64 0, by rw [World.cell?_alloc_at _ _ _ _ rfl]; rfl⟩ (World.frozen?_alloc_at _ _ _ _ rfl)).mono ?_
  rintro e w' ⟨rfl, rfl⟩
  rw [setm0]
  go_wp2_with fail
  go_ret2
  exact ⟨rfl, rfl⟩

theorem new_no (n : Int) (w : World) (h0 : n < 0 ∨ 1048576 < n) :
    Calls Try.prog 7 #[.int .i64 n] w fun e w' => e = .returned (.tuple #[.pointer none, .int .i64 5]) ∧ w = w' := by
  rcases h0 with h0 | h0
  · go_enter Try.func7, Try.ntmps7
    go_wp2
    go_ret2
    exact ⟨rfl, rfl⟩
  · have h0' : ¬ n < 0 := by omega
    go_enter Try.func7, Try.ntmps7
    go_wp2
    go_ret2
    exact ⟨rfl, rfl⟩

theorem spend_nil (n : Int) (w : World) : 
    Calls Try.prog 10 #[.pointer none, .int .i64 n] w fun e w' => e = .returned (.int .i64 8) ∧ w = w' := by
  go_enter Try.func10, Try.ntmps10
  go_wp2
  go_ret
  exact ⟨rfl, rfl⟩

theorem spend_no (b : Nat) (l u n : Int) (w : World) (hm : IsM w b l u) (h : n < 0 ∨ l < n) : 
    Calls Try.prog 10 #[.pointer (some ⟨b, 0, none⟩), .int .i64 n] w fun e w' => e = .returned (.int .i64 8) ∧ w = w' := by
  have hc := hm.c0
  rcases h with h | h
  · go_enter Try.func10, Try.ntmps10
    go_wp2
    go_ret
    exact ⟨rfl, rfl⟩
  · by_cases h' : n < 0
    · go_enter Try.func10, Try.ntmps10
      go_wp2
      go_ret
      exact ⟨rfl, rfl⟩
    · go_enter Try.func10, Try.ntmps10
      go_wp2_with (go_at_call 20; refine (load _ _ _ hc).mono ?_; rintro e w' ⟨rfl, rfl⟩)
      go_ret
      exact ⟨rfl, rfl⟩

theorem IsM.alloc {w : World} {b : Nat} {l u : Int} (h : IsM w b l u) (o : Obj) : IsM (w.alloc o) b l u := by
  unfold IsM at *
  rw [Below.heap_alloc _ _ _ (IsM.lt h)]; exact h

/-- all but block b is as it was -/
structure Only (b : Nat) (w w' : World) : Prop where
  os : w'.os = w.os
  tape : w'.tape = w.tape
  output : w'.output = w.output
  size : w'.heap.size = w.heap.size
  block : ∀ k, k ≠ b → w'.heap[k]? = w.heap[k]?

theorem Only.below {b : Nat} {w w' : World} (h : Only b w w') {B : Nat} (hb : B ≤ b) : Below B w w' :=
  ⟨h.os, h.tape, h.output, by rw [h.size]; exact Nat.le_refl _, fun k hk => h.block k (by omega)⟩
theorem Only.trans {b : Nat} {w w' w'' : World} (h : Only b w w') (g : Only b w' w'') : Only b w w'' :=
  ⟨g.os.trans h.os, g.tape.trans h.tape, g.output.trans h.output, g.size.trans h.size, fun k hk => (g.block k hk).trans (h.block k hk)⟩
theorem Only.refl (b : Nat) (w : World) : Only b w w := ⟨rfl, rfl, rfl, rfl, fun _ _ => rfl⟩
theorem Only.isM {b c : Nat} {w w' : World} (h : Only b w w') (hc : c ≠ b) {l u : Int} (hm : IsM w c l u) : IsM w' c l u := (h.block c hc).trans hm

theorem IsM.set0 {w : World} {b : Nat} {l u : Int} (h : IsM w b l u) (x : Int) : IsM (w.setCell ⟨b, 0, none⟩ (.int .i64 x)) b x u := by
  unfold IsM at *
  simp [World.setCell, Array.getElem?_modify, h]
theorem IsM.set1 {w : World} {b : Nat} {l u : Int} (h : IsM w b l u) (x : Int) : IsM (w.setCell ⟨b, 1, none⟩ (.int .i64 x)) b l x := by
  unfold IsM at *
  simp [World.setCell, Array.getElem?_modify, h]
theorem only_set (w : World) (b o : Nat) (x : Value) : Only b w (w.setCell ⟨b, o, none⟩ x) :=
  ⟨rfl, rfl, rfl, by simp [World.setCell], fun k hk => Below.heap_setCell _ _ _ _ (by simpa using hk)⟩

theorem spend_ok (b : Nat) (l u n : Int) (w : World) (hm : IsM w b l u) (h : 0 ≤ n) (hn : n ≤ l) (hl : l ≤ 1048576) (hu : 0 ≤ u) (hu' : u ≤ 1048576) : 
    Calls Try.prog 10 #[.pointer (some ⟨b, 0, none⟩), .int .i64 n] w fun e w' => e = .returned (.int .i64 0) ∧ IsM w' b (l - n) (u + n) ∧ Only b w w' := by
  have hc := hm.c0
  go_enter Try.func10, Try.ntmps10
  go_wp2_with fail
  refine (load _ _ _ hc).mono ?_
  rintro e w' ⟨rfl, rfl⟩
  clear hc
  go_wp2_with fail
  refine (add _ _ _ _ hm.c0 (hm.f0 _) (by omega) (by omega)).mono ?_
  rintro e w1 ⟨rfl, hw1⟩
  have hm1 : IsM w1 b (l - n) u := by rw [← hw1, Int.sub_eq_add_neg]; exact hm.set0 _
  have ho1 : Only b w w1 := by rw [← hw1]; exact only_set _ _ _ _
  clear hw1
  go_wp2_with fail
  refine (add _ _ _ _ hm1.c1 (hm1.f0 _) (by omega) (by omega)).mono ?_
  rintro e w2 ⟨rfl, hw2⟩
  have hm2 : IsM w2 b (l - n) (u + n) := by rw [← hw2]; exact hm1.set1 _
  have ho2 : Only b w w2 := by rw [← hw2]; exact ho1.trans (only_set _ _ _ _)
  clear hw2
  go_wp2_with fail
  go_ret
  exact ⟨rfl, hm2, ho2⟩

theorem left_ok (b : Nat) (l u : Int) (w : World) (hm : IsM w b l u) :
    Calls Try.prog 12 #[.pointer (some ⟨b, 0, none⟩)] w fun e w' => e = .returned (.int .i64 l) ∧ w = w' := by
  have hc := hm.c0
  go_enter Try.func12, Try.ntmps12
  go_wp2_with (go_at_call 20; refine (load _ _ _ hc).mono ?_; rintro e w' ⟨rfl, rfl⟩)
  go_ret
  exact ⟨rfl, rfl⟩
theorem used_ok (b : Nat) (l u : Int) (w : World) (hm : IsM w b l u) :
    Calls Try.prog 13 #[.pointer (some ⟨b, 0, none⟩)] w fun e w' => e = .returned (.int .i64 u) ∧ w = w' := by
  have hc := hm.c1
  go_enter Try.func13, Try.ntmps13
  go_wp2_with (go_at_call 20; refine (load _ _ _ hc).mono ?_; rintro e w' ⟨rfl, rfl⟩)
  go_ret
  exact ⟨rfl, rfl⟩

/-- Step, Spend as one: by what is left. -/
theorem step_ok (b : Nat) (l u : Int) (w : World) (hm : IsM w b l u) (hn : 1 ≤ l) (hl : l ≤ 1048576) (hu : 0 ≤ u) (hu' : u ≤ 1048576) : 
    Calls Try.prog 11 #[.pointer (some ⟨b, 0, none⟩)] w fun e w' => e = .returned (.int .i64 0) ∧ IsM w' b (l - 1) (u + 1) ∧ Only b w w' := by
  go_enter Try.func11, Try.ntmps11
  go_wp2_with fail
  refine (spend_ok _ _ _ _ _ hm (by omega) (by omega) (by omega) (by omega) (by omega)).mono ?_
  rintro e w' ⟨rfl, h1, h2⟩
  go_wp2_with fail
  go_ret
  exact ⟨rfl, h1, h2⟩
theorem step_no (b : Nat) (l u : Int) (w : World) (hm : IsM w b l u) (hn : l < 1) : 
    Calls Try.prog 11 #[.pointer (some ⟨b, 0, none⟩)] w fun e w' => e = .returned (.int .i64 8) ∧ w = w' := by
  go_enter Try.func11, Try.ntmps11
  go_wp2_with fail
  refine (spend_no _ _ _ _ _ hm (by omega)).mono ?_
  rintro e w' ⟨rfl, rfl⟩
  go_wp2_with fail
  go_ret
  exact ⟨rfl, rfl⟩

/-- awake answers true; it makes one block. -/
theorem awake_ok (w : World) : Calls Try.prog 8 #[] w fun e w' => e = .returned (.bool true) ∧ Below w.heap.size w w' := by
  go_enter Try.func8, Try.ntmps8
  go_wp2_with fail
  refine (new_ok 2 w (by omega) (by omega)).mono ?_
  rintro e w' ⟨rfl, hw⟩
  have hm : IsM w' w.heap.size 2 0 := by rw [← hw]; exact isM_new _ _ _
  have hb : Below w.heap.size w w' := by rw [← hw]; exact (Below.refl _ _).alloc (Nat.le_refl _) _
  clear hw
  go_wp2_with fail
  refine (step_ok _ _ _ _ hm (by omega) (by omega) (by omega) (by omega)).mono ?_
  rintro e w2 ⟨rfl, hm2, ho⟩
  have hb2 := hb.trans (ho.below (Nat.le_refl _))
  clear hb ho
  go_wp2_with (first | (go_at_call 12; refine (left_ok _ _ _ _ hm2).mono ?_; rintro e w' ⟨rfl, rfl⟩) | (go_at_call 13; refine (used_ok _ _ _ _ hm2).mono ?_; rintro e w' ⟨rfl, rfl⟩))
  go_ret
  exact ⟨rfl, hb2⟩
end Go.Proofs.Ytkghgilpocbifaa
