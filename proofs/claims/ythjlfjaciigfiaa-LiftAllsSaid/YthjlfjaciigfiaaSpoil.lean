/-
  ref07.Spoil: a contract of the walk: of a term that lies as a tree only blocks of its own are written.
-/
import Derived.Test.YthjlfjaciigfiaaCopied
import Derived.Test.YthjlfjaciigfiaaRs
namespace Go.Proofs.Ythjlfjaciigfiaa
open Go.RowKit
set_option linter.unusedVariables false
set_option linter.unusedSimpArgs false

theorem TrN.shape {w : World} {d : Nat} {P : Nat → Prop} {v : Value} {t : Tm} (h : TrN w d P v t) : ∃ k n ao m c, v = .agg #[.int .i64 k, .int .i64 n, .slice ao m c] := by
  obtain ⟨ao, cap, hv, -⟩ := (h.rd).shape
  exact ⟨_, _, ao, _, cap, hv⟩
theorem set_ne {w : World} {g o q : Nat} {x : Value} (h : o ≠ q) : (w.setCell ⟨g, o, none⟩ x).cell? ⟨g, q, none⟩ = w.cell? ⟨g, q, none⟩ := by
  simp only [World.cell?, World.setCell, Array.getElem?_modify]
  cases hg : w.heap[g]? with
  | none => simp
  | some ob => cases ob <;> simp [h]
theorem row_cell {w : World} {g o q : Nat} {x y z : Value} (h : o + 3 ≤ q) : (((w.setCell ⟨g, o, none⟩ x).setCell ⟨g, o + 1, none⟩ y).setCell ⟨g, o + 2, none⟩ z).cell? ⟨g, q, none⟩ = w.cell? ⟨g, q, none⟩ :=
  (set_ne (by omega)).trans ((set_ne (by omega)).trans (set_ne (by omega)))
theorem row_frozen {w : World} {g o : Nat} {x y z : Value} (a : Addr) : (((w.setCell ⟨g, o, none⟩ x).setCell ⟨g, o + 1, none⟩ y).setCell ⟨g, o + 2, none⟩ z).frozen? a = w.frozen? a := by
  rw [World.frozen?_setCell, World.frozen?_setCell, World.frozen?_setCell]
theorem row_off {w : World} {g o : Nat} {x y z : Value} : ∀ q, q ≠ g → (((w.setCell ⟨g, o, none⟩ x).setCell ⟨g, o + 1, none⟩ y).setCell ⟨g, o + 2, none⟩ z).heap[q]? = w.heap[q]? := fun q hq => by
  rw [Below.heap_setCell _ _ _ _ (by exact hq), Below.heap_setCell _ _ _ _ (by exact hq), Below.heap_setCell _ _ _ _ (by exact hq)]

set_option maxRecDepth 100000 in
set_option maxHeartbeats 1000000 in
theorem Spoil_w : ∀ (d : Nat) (P : Nat → Prop) (v : Value) (t : Tm) (w : World), (∀ b, P b → b < w.heap.size) → TrN w d P v t →
    Calls Try.prog 33 #[v] w fun e w' => e = .returned (.tuple #[]) ∧ OnlyP P w w' := by
  intro d
  induction d with
  | zero => intro P v t w _ h; exact absurd h (fun h => h)
  | succ d ih =>
    rintro P v ⟨k, n, l⟩ w hP ⟨ao, cap, rfl, -, -, hlc, hcm, ht⟩
    have IH := Lib.hid ih
    have HT := Lib.hid ht
    have HP := Lib.hid hP
    have hlm : l.length ≤ 9223372036854775807 := by unfold maxLen at hcm; omega
    obtain ⟨W, hW⟩ : ∃ W, W = w.alloc (.cells #[.int .i64 k, .int .i64 n, .slice ao l.length cap] 24) := ⟨_, rfl⟩
    have hb0 : Below w.heap.size w W := by rw [hW]; exact alloc_bel _ _
    have HQ := Lib.hid (show W.heap[w.heap.size]? = some (.cells #[.int .i64 k, .int .i64 n, .slice ao l.length cap] 24) by rw [hW]; exact heap_new _ _ _ rfl)
    have HB0 := Lib.hid hb0
    have HW := Lib.hid hW
    have hWs : W.heap.size = w.heap.size + 1 := by rw [hW, World.size_alloc]
    clear ih ht hP hW hb0 hcm
    by_cases h0 : l.length = 0
    · obtain rfl : l = [] := List.eq_nil_of_length_eq_zero h0
      have ho := Lib.hid (OnlyP.of_below (P := P) HB0.out)
      rw [HW.out] at ho
      clear h0 hlc hlm
      go_enter Try.func33, Try.ntmps33
      go_wp2_with fail
      refine wp_loop_rounds 1 ?_
      rw [rounds_succ]
      go_wp2_with fail
      go_end0
      exact ⟨rfl, ho.out⟩
    obtain ⟨g, rfl, hPg, hfr, Q, hQP, hQd, hel⟩ := HT.out (by omega)
    have hgw : g < w.heap.size := HP.out g hPg
    have HFR := Lib.hid hfr
    have HQP := Lib.hid hQP
    have HQD := Lib.hid hQd
    have HEL := Lib.hid hel
    have HPG := Lib.hid hPg
    clear hfr hQP hQd hel HT hPg
    go_enter Try.func33, Try.ntmps33
    go_wp2_with fail
    rw [← HW.out]
    go_loopw [2] (fun i wr => ∃ j : Nat, i = .int .i64 j ∧ j ≤ l.length ∧ OnlyP P w wr ∧ wr.heap[w.heap.size]? = some (.cells #[.int .i64 k, .int .i64 n, .slice (some ⟨g, 0, none⟩) l.length cap] 24) ∧ (∀ q, j * 3 ≤ q → wr.cell? ⟨g, q, none⟩ = w.cell? ⟨g, q, none⟩) ∧ (∀ a : Nat, wr.frozen? ⟨g, a, none⟩ = false) ∧ (∀ j', j ≤ j' → ∀ b, Q j' b → wr.heap[b]? = w.heap[b]?)) (fun i _ => l.length - (intOf i).toNat)
    case atStart => exact ⟨0, rfl, Nat.zero_le _, OnlyP.of_below HB0.out, HQ.out, fun q _ => cell_keep (HB0.out.block g hgw), fun a => (frozen_keep (HB0.out.block g hgw)).trans (HFR.out a), fun j' _ b hb => HB0.out.block b (HP.out b (HQP.out j' b hb).1)⟩
    case round =>
      obtain ⟨j, rfl, hj, honly, hq, hcells, hfz, hblk⟩ := hrel
      obtain ⟨w1, rfl⟩ : ∃ x : World, x = wr := ⟨_, rfl⟩
      obtain ⟨i0, i1, i2, -, il⟩ := three hq
      have HO := Lib.hid honly
      have HQ1 := Lib.hid hq
      have HCE := Lib.hid hcells
      have HFZ := Lib.hid hfz
      have HBL := Lib.hid hblk
      clear honly hq hcells hfz hblk HQ
      by_cases hjl : j < l.length
      · obtain ⟨c0, c1, c2, h0', h1, h2, htr⟩ := HEL.out j hjl
        obtain ⟨k2, n2, ao2, m2, cap2, hv⟩ := htr.shape
        injection hv with hv; injection hv with hv; injection hv with r0 hv; injection hv with r1 hv; injection hv with r2 hv
        subst r0; subst r1; subst r2
        have e0 := (HCE.out (j * 3) (by omega)).trans h0'
        have e1 := (HCE.out (j * 3 + 1) (by omega)).trans h1
        have e2 := (HCE.out (j * 3 + 2) (by omega)).trans h2
        have hsz := HO.out.size
        have hcon := IH.out (Q j) _ l[j] w1 (fun b hb => Nat.lt_of_lt_of_le (HP.out b (HQP.out j b hb).1) hsz) (htr.keep d (fun _ h => h) fun b hb => HBL.out j (Nat.le_refl _) b hb)
        have HCON := Lib.hid hcon
        have hji : (j : Int) < (l.length : Int) := by omega
        have hg1 : g < w1.heap.size := by omega
        clear h0' h1 h2 htr hcon
        go_wp2_with fail
        refine HCON.out.mono ?_
        rintro e w3 ⟨rfl, ho3⟩
        have hgk := ho3.block g hg1 (fun h => (HQP.out j g h).2 rfl)
        have hqk := ho3.block w.heap.size il (fun h => by have := HP.out _ (HQP.out j _ h).1; omega)
        have d0 := (cell_keep (a := ⟨g, j * 3, none⟩) hgk).trans e0
        have d1 := (cell_keep (a := ⟨g, j * 3 + 1, none⟩) hgk).trans e1
        have d2 := (cell_keep (a := ⟨g, j * 3 + 2, none⟩) hgk).trans e2
        have z0 := (frozen_keep (a := ⟨g, j * 3, none⟩) hgk).trans (HFZ.out _)
        have z1 := (frozen_keep (a := ⟨g, j * 3 + 1, none⟩) hgk).trans (HFZ.out _)
        have z2 := (frozen_keep (a := ⟨g, j * 3 + 2, none⟩) hgk).trans (HFZ.out _)
        have HQ3 := Lib.hid (hqk.trans HQ1.out)
        have HO3 := Lib.hid ho3
        have HGK := Lib.hid hgk
        clear i0 i1 i2 e0 e1 e2 ho3 hgk hqk
        obtain ⟨i0, i1, i2, -, -⟩ := three HQ3.out
        go_wp2_with fail
        have hoff := row_off (w := w3) (g := g) (o := j * 3) (x := .int .i64 (-7)) (y := .int .i64 (-7)) (z := .slice none 0 0)
        have hfin : OnlyP P w (((w3.setCell ⟨g, j * 3, none⟩ (.int .i64 (-7))).setCell ⟨g, j * 3 + 1, none⟩ (.int .i64 (-7))).setCell ⟨g, j * 3 + 2, none⟩ (.slice none 0 0)) := by
          have h1 := HO.out.trans HO3.out (fun b hb hq => (HQP.out j b hq).1)
          exact ⟨h1.os, h1.tape, h1.output, by simpa [World.setCell] using h1.size, fun b hb hnp => (hoff b (fun e => hnp (e ▸ HPG.out))).trans (h1.block b hb hnp)⟩
        have HFIN := Lib.hid hfin
        have HOFF := Lib.hid hoff
        clear hfin hoff
        go_roundw
        case rel =>
          refine ⟨j + 1, by go_num, by omega, HFIN.out, (HOFF.out _ (by omega)).trans HQ3.out, fun q hq => ?_, fun a => ?_, fun j' hj' b hb => ?_⟩
          · rw [row_cell (by omega), cell_keep HGK.out]; exact HCE.out q (by omega)
          · rw [row_frozen, frozen_keep HGK.out]; exact HFZ.out a
          · have hbw : b < w1.heap.size := Nat.lt_of_lt_of_le (HP.out b (HQP.out j' b hb).1) hsz
            exact (HOFF.out b (HQP.out j' b hb).2).trans ((HO3.out.block b hbw (fun h => HQD.out j j' b (by omega) h hb)).trans (HBL.out j' (by omega) b hb))
        case measure =>
          have q : (intOf (.int .i64 ((j : Int) + 1))).toNat = j + 1 := by show ((j : Int) + 1).toNat = _; omega
          have q2 : (intOf (.int .i64 (j : Int))).toNat = j := by show ((j : Int)).toNat = _; omega
          rw [q, q2]; omega
      · have hjj : j = l.length := by omega
        go_wp2_with fail
        go_end0
        exact ⟨rfl, HO.out⟩
end Go.Proofs.Ythjlfjaciigfiaa
