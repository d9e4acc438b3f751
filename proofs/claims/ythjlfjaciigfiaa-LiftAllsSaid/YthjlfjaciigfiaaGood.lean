/-
  head, good, term.Shaped: contracts of the walk.
-/
import Derived.Test.YthjlfjaciigfiaaDeep
import Derived.BigQuiet
import Derived.Deep.QuietTactic
namespace Go.Proofs.Ythjlfjaciigfiaa
open Go.RowKit
set_option linter.unusedVariables false
set_option linter.unusedSimpArgs false

def subsOf (k : Int) : Int := if k = 3 ∨ k = 4 ∨ k = 5 then 2 else if k = 7 then 1 else 0
def mostOf (k : Int) : Int := if k = 2 then 7 else if k = 3 ∨ k = 4 ∨ k = 5 then 0 else 1048576
/-- is a node what its kind asks, but for its subs -/
def hd (k n : Int) (l : List Tm) : Bool :=
  decide (1 ≤ k ∧ k ≤ 8 ∧ (l.length : Int) = subsOf k ∧ 0 ≤ n ∧ n ≤ mostOf k ∧ (k = 7 → (l[0]?.map Tm.kind) = some 2))
theorem hd_iff (k n : Int) (l : List Tm) : hd k n l = true ↔ (1 ≤ k ∧ k ≤ 8 ∧ (l.length : Int) = subsOf k ∧ 0 ≤ n ∧ n ≤ mostOf k ∧ (k = 7 → (l[0]?.map Tm.kind) = some 2)) := by
  unfold hd; rw [decide_eq_true_iff]
mutual
def gd : Tm → Bool
  | .node k n l => hd k n l && gdL l
def gdL : List Tm → Bool
  | [] => true
  | t :: l => gd t && gdL l
end

set_option maxHeartbeats 4000000 in
set_option maxRecDepth 100000 in
theorem head_w (d : Nat) (v : Value) (k n : Int) (l : List Tm) (w : World) (hr : RdN (· < w.heap.size) w (d + 1) v (.node k n l)) :
    Calls Try.prog 125 #[v] w (Ans w (.bool (hd k n l))) := by
  obtain ⟨ao, cap, rfl, hlm, hk, hn, he⟩ := hr.open
  clear hr
  have hbx : ∀ o : Obj, Below w.heap.size w (w.alloc o) := fun o => (Below.refl _ _).alloc (Nat.le_refl _) _
  have HBX := Lib.hid hbx
  clear hbx
  have HE := Lib.hid he
  clear he
  by_cases h1 : k < 1
  · have e : hd k n l = false := by rw [Bool.eq_false_iff, Ne, hd_iff]; omega
    rw [e]
    go_enter Try.func125, Try.ntmps125
    go_wp2_with fail
    go_ret
    exact ⟨rfl, HBX.out _⟩
  by_cases h8 : 8 < k
  · have e : hd k n l = false := by rw [Bool.eq_false_iff, Ne, hd_iff]; omega
    rw [e]
    go_enter Try.func125, Try.ntmps125
    go_wp2_with fail
    go_ret
    exact ⟨rfl, HBX.out _⟩
  have hk8 : k = 1 ∨ k = 2 ∨ k = 3 ∨ k = 4 ∨ k = 5 ∨ k = 6 ∨ k = 7 ∨ k = 8 := by omega
  have x1 : ∀ w : World, (Instr.index 95 (.agg #[.int .i64 0, .int .i64 0, .int .i64 0, .int .i64 2, .int .i64 2, .int .i64 2, .int .i64 0, .int .i64 1, .int .i64 0]) (.int .i64 k)).run Try.prog w = .ok (.int .i64 (subsOf k)) w := by rcases hk8 with rfl | rfl | rfl | rfl | rfl | rfl | rfl | rfl <;> (intro w; kernel_rfl)
  have x2 : ∀ w : World, (Instr.index 95 (.agg #[.int .i64 0, .int .i64 1048576, .int .i64 7, .int .i64 0, .int .i64 0, .int .i64 0, .int .i64 1048576, .int .i64 1048576, .int .i64 1048576]) (.int .i64 k)).run Try.prog w = .ok (.int .i64 (mostOf k)) w := by rcases hk8 with rfl | rfl | rfl | rfl | rfl | rfl | rfl | rfl <;> (intro w; kernel_rfl)
  clear hk8
  by_cases hl : (l.length : Int) = subsOf k
  · have e1 : ((l.length : Int) == subsOf k) = true := beq_iff_eq.mpr hl
    by_cases h0 : 0 ≤ n
    · by_cases hm : n ≤ mostOf k
      · by_cases h7 : k = 7
        · subst h7
          have hl2 : l.length = 1 := by have q : subsOf 7 = 1 := by decide
                                        omega
          obtain ⟨b, off, k2, n2, ao2, m2, cap2, rfl, hP, c0, c1, c2, hrd⟩ := HE.out 0 (by omega)
          have e0 : w.cell? ⟨b, off, none⟩ = some (.int .i64 k2) := by simpa using c0
          have hbw : b < w.heap.size := hP
          clear c0 c1 c2 hP
          have hk2 : k2 = l[0].kind := by
            obtain ⟨ao3, cap3, hv, -, -⟩ := hrd.shape
            simp at hv
            exact hv.1
          have hq : l[0]? = some l[0] := List.getElem?_eq_getElem (by omega)
          by_cases h2 : k2 = 2
          · have e3 : (l[0].kind == 2) = true := by rw [← hk2]; simp [h2]
            have e : hd 7 n l = true := by rw [hd_iff]; exact ⟨by omega, by omega, hl, h0, hm, fun _ => by rw [hq, Option.map_some, ← hk2, h2]⟩
            rw [e]
            clear e
            go_enter Try.func125, Try.ntmps125
            go_wp2_with fail
            go_ret
            exact ⟨rfl, HBX.out _⟩
          · have e3 : (l[0].kind == 2) = false := by rw [← hk2]; simp [h2]
            have e : hd 7 n l = false := by rw [Bool.eq_false_iff, Ne, hd_iff]; rintro ⟨-, -, -, -, -, q⟩; have q := q rfl; rw [hq, Option.map_some, ← hk2] at q; injection q with q; exact h2 q
            rw [e]
            clear e
            go_enter Try.func125, Try.ntmps125
            go_wp2_with fail
            go_ret
            exact ⟨rfl, HBX.out _⟩
        · have e4 : (k != 7) = true := by simp [h7]
          have e : hd k n l = true := by rw [hd_iff]; exact ⟨by omega, by omega, hl, h0, hm, fun q => absurd q h7⟩
          rw [e]
          clear e
          go_enter Try.func125, Try.ntmps125
          go_wp2_with fail
          go_ret
          exact ⟨rfl, HBX.out _⟩
      · skip
        have e : hd k n l = false := by rw [Bool.eq_false_iff, Ne, hd_iff]; rintro ⟨-, -, q1, q2, q3, -⟩; omega
        rw [e]
        clear e
        go_enter Try.func125, Try.ntmps125
        go_wp2_with fail
        go_ret
        exact ⟨rfl, HBX.out _⟩
    · skip
      have e : hd k n l = false := by rw [Bool.eq_false_iff, Ne, hd_iff]; rintro ⟨-, -, q1, q2, q3, -⟩; omega
      rw [e]
      clear e
      go_enter Try.func125, Try.ntmps125
      go_wp2_with fail
      go_ret
      exact ⟨rfl, HBX.out _⟩
  · have e1 : ((l.length : Int) == subsOf k) = false := beq_eq_false_iff_ne.mpr hl
    have e : hd k n l = false := by rw [Bool.eq_false_iff, Ne, hd_iff]; rintro ⟨-, -, q1, q2, q3, -⟩; omega
    rw [e]
    clear e
    go_enter Try.func125, Try.ntmps125
    go_wp2_with fail
    go_ret
    exact ⟨rfl, HBX.out _⟩
end Go.Proofs.Ythjlfjaciigfiaa
