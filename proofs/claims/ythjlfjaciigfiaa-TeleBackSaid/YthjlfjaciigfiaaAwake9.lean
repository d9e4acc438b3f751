/-
  awake of layer 9; contracts of layer 9 at a known answer.
-/
import Derived.Test.YthjlfjaciigfiaaRun9
import Derived.Test.YthjlfjaciigfiaaRefMany2
import Derived.Test.YthjlfjaciigfiaaSames
namespace Go.Proofs.Ythjlfjaciigfiaa
open Go.RowKit
set_option linter.unusedVariables false
set_option linter.unusedSimpArgs false

theorem Many9_q {w : World} {vl v : Value} {l : List Tm} {t a : Tm} {c : Int} (hq : manyR t l = (a, c)) (hlen : l.length ≤ 1000000) (hl : Ts (· < w.heap.size) w vl l) (h : Rd (· < w.heap.size) w v t) : Calls Try.prog 50 #[v, vl] w (AnsTE w a c) := by
  have := Many9_w vl v l t w hlen hl h; rwa [hq] at this
theorem refMany9_q {w : World} {vl v : Value} {l : List Tm} {t a : Tm} {c : Int} (hq : manyR t l = (a, c)) (hlen : l.length ≤ 1000000) (hl : Ts (· < w.heap.size) w vl l) (h : Rd (· < w.heap.size) w v t) : Calls Try.prog 51 #[v, vl] w (AnsTE w a c) := by
  have := refMany9_w vl v l t w hlen hl h; rwa [hq] at this
theorem One_q {w : World} {va v : Value} {x t a : Tm} {c : Int} (hq : manyR t [x] = (a, c)) (hx : Rd (· < w.heap.size) w va x) (h : Rd (· < w.heap.size) w v t) : Calls Try.prog 53 #[v, va] w (AnsTE w a c) := by
  have := One_w va v x t w hx h; rwa [hq] at this
theorem one_awake : manyR (.node 1 0 []) [.node 2 3 []] = (.node 2 3 [], 0) := by rfl

/-- what a store into a new variable of three cells leaves -/
theorem put3 {W w1 : World} {X : Nat} {z0 z1 z2 a b c : Value} {ty : TypeId} (hb : Below W.heap.size W w1) (hx : w1.heap[X]? = some (.cells #[z0, z1, z2] ty)) (hX : W.heap.size ≤ X) :
    Below W.heap.size W (((w1.setCell ⟨X, 0, none⟩ a).setCell ⟨X, 1, none⟩ b).setCell ⟨X, 2, none⟩ c) ∧ (((w1.setCell ⟨X, 0, none⟩ a).setCell ⟨X, 1, none⟩ b).setCell ⟨X, 2, none⟩ c).heap[X]? = some (.cells #[a, b, c] ty) ∧
      ∀ (v : Value) (t : Tm), Rd (fun q => q ≠ X ∧ q < w1.heap.size) w1 v t → Rd (· < (((w1.setCell ⟨X, 0, none⟩ a).setCell ⟨X, 1, none⟩ b).setCell ⟨X, 2, none⟩ c).heap.size) (((w1.setCell ⟨X, 0, none⟩ a).setCell ⟨X, 1, none⟩ b).setCell ⟨X, 2, none⟩ c) v t :=
  ⟨((hb.setCell (by simpa using hX) _).setCell (by simpa using hX) _).setCell (by simpa using hX) _, set3_blk hx, fun v t h => h.keep (fun q hq => by rw [set3_size]; exact hq.2) fun q hq => set3_off _ _ _ _ _ q hq.1⟩

set_option maxRecDepth 100000 in
set_option maxHeartbeats 4000000 in
theorem awake49_w (w : World) : Calls Try.prog 49 #[] w (Ans w (.bool true)) := by
  have hb0 := alloc_bel w (.cells #[.int .i64 1, .int .i64 0, .slice none 0 0] 24)
  have hT : Rd (· < (w.alloc (.cells #[.int .i64 1, .int .i64 0, .slice none 0 0] 24)).heap.size) (w.alloc (.cells #[.int .i64 1, .int .i64 0, .slice none 0 0] 24)) (.agg #[.int .i64 1, .int .i64 0, .slice none 0 0]) (.node 1 0 []) := Rd.leaf _ _ _ _ _ _ (Nat.zero_le _) (by omega) (by omega)
  have hX : Rd (· < (w.alloc (.cells #[.int .i64 1, .int .i64 0, .slice none 0 0] 24)).heap.size) (w.alloc (.cells #[.int .i64 1, .int .i64 0, .slice none 0 0] 24)) (.agg #[.int .i64 2, .int .i64 3, .slice none 0 0]) (.node 2 3 []) := Rd.leaf _ _ _ _ _ _ (Nat.zero_le _) (by omega) (by omega)
  have HCON := Lib.hid (One_q one_awake hX hT)
  have HB := Lib.hid hb0
  clear hb0 hT hX
  go_enter Try.func49, Try.ntmps49
  go_wp2_with fail
  refine HCON.out.mono ?_
  rintro e w1 ⟨k1, n1, ao1, m1, c1, rfl, hb, hr⟩
  obtain ⟨_, _, e⟩ := hr.shape
  injection e with e; injection e with e; injection e with e0 e; injection e with e1 e
  injection e0 with _ e0; injection e1 with _ e1
  simp only [Tm.kind, Tm.num] at e0 e1
  subst e0; subst e1
  have HB1 := Lib.hid (HB.out.trans (hb.mono HB.out.size))
  have hbx := alloc_bel w1 (.cells #[.int .i64 2, .int .i64 3, .slice ao1 m1 c1] 24)
  have HB2 := Lib.hid (HB1.out.trans (hbx.mono HB1.out.size))
  clear hb hr hbx e
  go_wp2_with fail
  go_ret
  exact ⟨rfl, HB2.out⟩
end Go.Proofs.Ythjlfjaciigfiaa
