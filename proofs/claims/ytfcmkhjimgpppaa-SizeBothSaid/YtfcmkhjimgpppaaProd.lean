/-
  The two products, at any two right matrices of one size: contracts. Least and Same: contracts.
-/
import Derived.Test.YtfcmkhjimgpppaaRefProd
namespace Go.Proofs.Ytfcmkhjimgpppaa
open Go.RowKit
set_option linter.unusedVariables false
set_option linter.unusedSimpArgs false

theorem prod_empty (ao bo : Option Addr) (ca cb : Nat) (w : World) : Calls Try.prog 40 #[.slice ao 0 ca, .slice bo 0 cb] w (MadeMat w []) := by
  go_enter Try.func40, Try.ntmps40
  go_wp2_with fail
  refine wp_loop_rounds 1 ?_
  rw [rounds_succ]
  go_wp2_with fail
  go_ret
  exact ⟨_, rfl, SlR.nil _ _, Below.refl _ _⟩
theorem refprod_empty (ao bo : Option Addr) (ca cb : Nat) (w : World) : Calls Try.prog 20 #[.slice ao 0 ca, .slice bo 0 cb] w (MadeMat w []) := by
  go_enter Try.func20, Try.ntmps20
  go_wp2_with fail
  refine wp_loop_rounds 1 ?_
  rw [rounds_succ]
  go_wp2_with fail
  go_ret
  exact ⟨_, rfl, (Made.empty w w.heap.size 29 RowR (Nat.le_refl _)).mat, (Below.refl _ _).alloc (Nat.le_refl _) _⟩

theorem product_w {P P' : Nat → Prop} (va vb : Value) (a b : List (List Int)) (w : World) (ha : MatR P w va a) (hb : MatR P' w vb b) (ra : right a = true) (rb : right b = true) (hl : a.length = b.length) :
    Calls Try.prog 40 #[va, vb] w (MadeMat w (prod a b)) := by
  obtain ⟨r1, r2, r3⟩ := right_sq ra
  obtain ⟨s1, s2, s3⟩ := right_sq rb
  by_cases h0 : a.length = 0
  · obtain ⟨ao, ca, rfl⟩ := ha.shape
    obtain ⟨bo, cb, rfl⟩ := hb.shape
    have e1 : prod a b = [] := by simp [prod, h0]
    rw [e1, h0, ← hl, h0]
    exact prod_empty _ _ _ _ _
  · obtain ⟨ba, oa, ca, A1, A2, A3, hA, -, -⟩ := ha.sq rfl h0 r2
    obtain ⟨bb, ob, cb, B1, B2, B3, hB, -, -⟩ := hb.sq hl.symm h0 (fun i hi => by rw [s2 i (by omega), hl])
    exact prod_walk (P := P) va vb a b a.length ba oa ca bb ob cb A1 A2 A3 B1 B2 B3 w h0 r1 rfl hA hB r3 fun i j hi hj => s3 i j (by omega) (by omega)
theorem refproduct_w {P P' : Nat → Prop} (va vb : Value) (a b : List (List Int)) (w : World) (ha : MatR P w va a) (hb : MatR P' w vb b) (ra : right a = true) (rb : right b = true) (hl : a.length = b.length) :
    Calls Try.prog 20 #[va, vb] w (MadeMat w (prod a b)) := by
  obtain ⟨r1, r2, r3⟩ := right_sq ra
  obtain ⟨s1, s2, s3⟩ := right_sq rb
  by_cases h0 : a.length = 0
  · obtain ⟨ao, ca, rfl⟩ := ha.shape
    obtain ⟨bo, cb, rfl⟩ := hb.shape
    have e1 : prod a b = [] := by simp [prod, h0]
    rw [e1, h0, ← hl, h0]
    exact refprod_empty _ _ _ _ _
  · obtain ⟨ba, oa, ca, A1, A2, A3, hA, -, -⟩ := ha.sq rfl h0 r2
    obtain ⟨bb, ob, cb, B1, B2, B3, hB, -, -⟩ := hb.sq hl.symm h0 (fun i hi => by rw [s2 i (by omega), hl])
    exact refprod_walk va vb a b a.length ba oa ca bb ob cb A1 A2 A3 B1 B2 B3 w h0 r1 rfl hA hB r3 fun i j hi hj => s3 i j (by omega) (by omega)

/-- Product: an error, or the product -/
theorem Product_no {P P' : Nat → Prop} (va vb : Value) (a b : List (List Int)) (w : World) (ha : MatR P w va a) (hb : MatR P' w vb b) (h : ¬ (right a = true ∧ right b = true ∧ a.length = b.length)) :
    Calls Try.prog 14 #[va, vb] w fun e w' => e = .returned (.tuple #[.slice none 0 0, .int .i64 5]) ∧ w = w' := by
  have ka := right_w va a w ha
  have kb := right_w vb b w hb
  obtain ⟨ao, ca, rfl⟩ := ha.shape
  obtain ⟨bo, cb, rfl⟩ := hb.shape
  have KA := Lib.hid ka
  have KB := Lib.hid kb
  have H := Lib.hid h
  clear ka kb h ha hb
  obtain ⟨x, hx⟩ : ∃ x, x = right a := ⟨_, rfl⟩
  obtain ⟨y, hy⟩ : ∃ y, y = right b := ⟨_, rfl⟩
  rw [← hx, ← hy] at H
  rw [← hx] at KA
  rw [← hy] at KB
  clear hx hy
  cases x
  · go_enter Try.func14, Try.ntmps14
    go_wp2_with fail
    refine KA.out.mono ?_
    rintro e w' ⟨rfl, rfl⟩
    go_wp2_with fail
    go_ret2
    exact ⟨rfl, rfl⟩
  · cases y
    · go_enter Try.func14, Try.ntmps14
      go_wp2_with fail
      refine KA.out.mono ?_
      rintro e w' ⟨rfl, rfl⟩
      go_wp2_with fail
      refine KB.out.mono ?_
      rintro e w' ⟨rfl, rfl⟩
      go_wp2_with fail
      go_ret2
      exact ⟨rfl, rfl⟩
    · have hb : ((a.length : Int) != (b.length : Int)) = true := by have := H.out; simp at this; simp; omega
      go_enter Try.func14, Try.ntmps14
      go_wp2_with fail
      refine KA.out.mono ?_
      rintro e w' ⟨rfl, rfl⟩
      go_wp2_with fail
      refine KB.out.mono ?_
      rintro e w' ⟨rfl, rfl⟩
      go_wp2_with fail
      go_ret2
      exact ⟨rfl, rfl⟩

/-- a matrix and no error -/
def MadeOk (w : World) (m : List (List Int)) (e : Ending) (w' : World) : Prop := ∃ v, e = .returned (.tuple #[v, .int .i64 0]) ∧ MatR (· < w'.heap.size) w' v m ∧ Below w.heap.size w w'
theorem Product_yes {P P' : Nat → Prop} (va vb : Value) (a b : List (List Int)) (w : World) (ha : MatR P w va a) (hb : MatR P' w vb b) (ra : right a = true) (rb : right b = true) (hl : a.length = b.length) :
    Calls Try.prog 14 #[va, vb] w (MadeOk w (prod a b)) := by
  have ka := right_w va a w ha
  have kb := right_w vb b w hb
  have kp := product_w va vb a b w ha hb ra rb hl
  obtain ⟨ao, ca, rfl⟩ := ha.shape
  obtain ⟨bo, cb, rfl⟩ := hb.shape
  rw [ra] at ka
  rw [rb] at kb
  have KA := Lib.hid ka
  have KB := Lib.hid kb
  have KP := Lib.hid kp
  have hb1 : ((a.length : Int) != (b.length : Int)) = false := by simp [hl]
  clear ka kb kp ha hb ra rb hl
  go_enter Try.func14, Try.ntmps14
  go_wp2_with fail
  refine KA.out.mono ?_
  rintro e w' ⟨rfl, rfl⟩
  go_wp2_with fail
  refine KB.out.mono ?_
  rintro e w' ⟨rfl, rfl⟩
  go_wp2_with fail
  refine KP.out.mono ?_
  rintro e w' ⟨v, rfl, h1, h2⟩
  go_wp2_with fail
  go_ret2
  exact ⟨v, rfl, h1, h2⟩
end Go.Proofs.Ytfcmkhjimgpppaa
