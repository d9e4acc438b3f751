/-
  ref07.good: a contract of the walk.
-/
import Derived.Test.YthjlfjaciigfiaaShaped
import Derived.Deep.DeepCutAuto
import Derived.Deep.CutBlock
namespace Go.Proofs.Ythjlfjaciigfiaa
open Go.RowKit
set_option linter.unusedVariables false
set_option linter.unusedSimpArgs false

set_option maxHeartbeats 4000000 in
set_option maxRecDepth 100000 in
theorem refgood_w : ∀ (d : Nat) (v : Value) (t : Tm) (w : World), RdN (· < w.heap.size) w d v t →
    Calls Try.prog 77 #[v] w (Ans w (.bool (gd t))) := by
  intro d
  induction d with
  | zero => intro v t w hr; exact absurd hr (fun h => h)
  | succ d ih =>
    rintro v ⟨k, n, l⟩ w hr
    have hr0 := hr
    obtain ⟨ao, cap, rfl, hlm, hk, hn, he⟩ := hr.open
    clear hr
    have H := Lib.hid hr0
    have IH := Lib.hid ih
    have HE := Lib.hid he
    have hbx : ∀ o : Obj, Below w.heap.size w (w.alloc o) := fun o => (Below.refl _ _).alloc (Nat.le_refl _) _
    have HBX := Lib.hid hbx
    clear ih he hk hn hbx hr0
    simp only [gd]
    by_cases hk8 : k = 1 ∨ k = 2 ∨ k = 3 ∨ k = 4 ∨ k = 5 ∨ k = 6 ∨ k = 7 ∨ k = 8
    · have tr : (1 ≤ k ∧ k ≤ 8 ∧ (l.length : Int) = subsOf k ∧ 0 ≤ n ∧ n ≤ mostOf k ∧ (k = 7 → (l[0]?.map Tm.kind) = some 2)) → Value.bool false = .bool (!hd k n l) := fun h => by rw [(hd_iff k n l).mpr h]; rfl
      have fa : (¬ (1 ≤ k ∧ k ≤ 8 ∧ (l.length : Int) = subsOf k ∧ 0 ≤ n ∧ n ≤ mostOf k ∧ (k = 7 → (l[0]?.map Tm.kind) = some 2))) → Value.bool true = .bool (!hd k n l) := fun h => by rw [Bool.eq_false_iff.mpr (fun q => h ((hd_iff k n l).mp q))]; rfl
      have TRUE := Lib.hid tr
      have FALSE := Lib.hid fa
      clear tr fa
      have hk1 : 1 ≤ k ∧ k ≤ 8 := by omega
      have HK := Lib.hid hk8
      clear hk8
      go_enter Try.func77, Try.ntmps77
      go_upto_block 0 with fail
      go_cut [3, 4] (fun s3 s4 wx => s3 = .int .i64 (subsOf k) ∧ s4 = .int .i64 (mostOf k) ∧ wx = w.alloc (.cells #[.int .i64 k, .int .i64 n, .slice ao l.length cap] 24))
      case first =>
        rcases HK.out with rfl | rfl | rfl | rfl | rfl | rfl | rfl | rfl
        all_goals (clear HK; go_wp2_with fail; go_meet; exact ⟨rfl, rfl, rfl⟩)
      case rest =>
        obtain ⟨rfl, rfl, rfl⟩ := hcut
        go_upto_region 17 with fail
        go_cut [48] (fun s wx => s = .bool (!hd k n l) ∧ wx = w.alloc (.cells #[.int .i64 k, .int .i64 n, .slice ao l.length cap] 24))
        case first =>
          by_cases hl : (l.length : Int) = subsOf k
          · have e1 : ((l.length : Int) != subsOf k) = false := by simp [hl]
            by_cases h0 : n < 0
            · have R := Lib.hid (FALSE.out (fun q => by omega))
              clear TRUE FALSE
              go_wp2_with fail
              go_meet
              exact ⟨R.out, rfl⟩
            by_cases hm : mostOf k < n
            · have R := Lib.hid (FALSE.out (fun q => by omega))
              clear TRUE FALSE
              go_wp2_with fail
              go_meet
              exact ⟨R.out, rfl⟩
            by_cases h7 : k = 7
            · subst h7
              have hl2 : l.length = 1 := by have q : subsOf 7 = 1 := by decide
                                            omega
              obtain ⟨b, off, k2, n2, ao2, m2, cap2, rfl, hP, c0, c1, c2, hrd⟩ := HE.out 0 (by omega)
              have e0 : w.cell? ⟨b, off, none⟩ = some (.int .i64 k2) := by simpa using c0
              have hbw : b < w.heap.size := hP
              clear c0 c1 c2 hP
              have hk2 : k2 = l[0].kind := by
                obtain ⟨ao3, cap3, hv, -, -⟩ := hrd.shape
                simp at hv
                exact hv.1
              have hq : l[0]? = some l[0] := List.getElem?_eq_getElem (by omega)
              by_cases h2 : k2 = 2
              · have e3 : (k2 != 2) = false := by simp [h2]
                have R := Lib.hid (TRUE.out ⟨by omega, by omega, hl, by omega, by omega, fun _ => by rw [hq, Option.map_some, ← hk2, h2]⟩)
                have hl3 : 0 < l.length := by omega
                clear hl2 hq hk2 hrd h2
                clear TRUE FALSE
                go_wp2_with fail
                go_meet
                exact ⟨R.out, rfl⟩
              · have e3 : (k2 != 2) = true := by simp [h2]
                have R := Lib.hid (FALSE.out (fun q => by have q := q.2.2.2.2.2 rfl; rw [hq, Option.map_some, ← hk2] at q; injection q with q; exact h2 q))
                have hl3 : 0 < l.length := by omega
                clear hl2 hq hk2 hrd h2
                clear TRUE FALSE
                go_wp2_with fail
                go_meet
                exact ⟨R.out, rfl⟩
            · have e4 : (k == 7) = false := by simp [h7]
              have R := Lib.hid (TRUE.out ⟨by omega, by omega, hl, by omega, by omega, fun q => absurd q h7⟩)
              clear TRUE FALSE
              go_wp2_with fail
              go_meet
              exact ⟨R.out, rfl⟩
          · have e1 : ((l.length : Int) != subsOf k) = true := by simp [hl]
            have R := Lib.hid (FALSE.out (fun q => by omega))
            clear TRUE FALSE
            go_wp2_with fail
            go_meet
            exact ⟨R.out, rfl⟩
        case rest =>
          obtain ⟨rfl, rfl⟩ := hcut
          clear TRUE FALSE
          have hd2 := fun h => (hd_iff k n l).mp h
          obtain ⟨b, eb⟩ : ∃ b, b = hd k n l := ⟨_, rfl⟩
          have EB := Lib.hid eb
          rw [← eb] at hd2 ⊢
          clear eb
          cases b
          · clear hd2
            go_wp2_with fail
            go_ret
            exact ⟨by rw [← EB.out]; rfl, HBX.out _⟩
          obtain ⟨-, -, hl, -, -, -⟩ := hd2 rfl
          clear hd2
          go_wp2_with fail
          go_loopw [5] (fun i wr => ∃ (j : Nat), i = .int .i64 j ∧ j ≤ l.length ∧ gdL (l.drop j) = gdL l ∧ wr.cell? ⟨w.heap.size, 2, none⟩ = some (.slice ao l.length cap) ∧ w.heap.size < wr.heap.size ∧ Below w.heap.size w wr) (fun i _ => l.length - (intOf i).toNat)
          case atStart => exact ⟨0, rfl, Nat.zero_le _, rfl, by (unfold World.cell?; rw [heap_new w _ _ rfl]; rfl), by (rw [World.size_alloc]; omega), HBX.out _⟩
          case round =>
            obtain ⟨j, rfl, hj, hsz, ec, hsw, hb⟩ := hrel
            have HSZ := Lib.hid hsz
            have HL := Lib.hid hl
            clear hsz
            by_cases hjl : j < l.length
            · have hjs : (j : Int) < subsOf k := by omega
              clear hl
              obtain ⟨b, off, k2, n2, ao2, m2, cap2, rfl, hP, h0, h1, h2, hrd⟩ := HE.out j hjl
              have e0 := (hb.cell (p := ⟨b, off + j * 3, none⟩) hP).trans h0
              have e1 := (hb.cell (p := ⟨b, off + j * 3 + 1, none⟩) hP).trans h1
              have e2 := (hb.cell (p := ⟨b, off + j * 3 + 2, none⟩) hP).trans h2
              have hbw : b < wr.heap.size := Nat.lt_of_lt_of_le hP hb.size
              clear h0 h1 h2
              go_wp2_with fail
              refine (IH.out _ l[j] _ (RdN.keep (P := (· < w.heap.size)) (fun b hb' => Nat.lt_of_lt_of_le hb' hb.size) (fun b hb' => hb.block b hb') d _ _ hrd)).mono ?_
              rintro e w3 ⟨rfl, hb3⟩
              have hb4 := hb.trans (hb3.mono hb.size)
              have ec2 := (hb3.cell (p := ⟨w.heap.size, 2, none⟩) hsw).trans ec
              have hsw2 := Nat.lt_of_lt_of_le hsw hb3.size
              obtain ⟨y, ey⟩ : ∃ y, y = gd l[j] := ⟨_, rfl⟩
              rw [← ey]
              have q := HSZ.out
              rw [List.drop_eq_getElem_cons hjl] at q
              simp only [gdL, ← ey] at q
              have Q := Lib.hid q
              clear q ey
              cases y
              · go_wp2_with fail
                go_ret
                exact ⟨by rw [← EB.out, Bool.true_and, ← Q.out]; rfl, hb4⟩
              · go_wp2_with fail
                go_roundw
                case rel =>
                  exact ⟨_, _, _, _, _, _, _, _, _, _, _, _, _, _, ⟨j + 1, rfl, by omega, Q.out, ec2, hsw2, hb4⟩, rfl⟩
                case measure =>
                  show l.length - ((j : Int) + 1).toNat < l.length - ((j : Int)).toNat
                  omega
            · have hjs : subsOf k ≤ (j : Int) := by omega
              clear hl
              go_wp2_with fail
              go_ret
              have q := HSZ.out
              rw [List.drop_of_length_le (by omega)] at q
              simp only [gdL] at q
              exact ⟨by rw [← EB.out, Bool.true_and, ← q]; rfl, hb⟩
    · have e1 : (k == 1) = false := beq_eq_false_iff_ne.mpr (by omega)
      have e2 : (k == 2) = false := beq_eq_false_iff_ne.mpr (by omega)
      have e3 : (k == 3) = false := beq_eq_false_iff_ne.mpr (by omega)
      have e4 : (k == 4) = false := beq_eq_false_iff_ne.mpr (by omega)
      have e5 : (k == 5) = false := beq_eq_false_iff_ne.mpr (by omega)
      have e6 : (k == 6) = false := beq_eq_false_iff_ne.mpr (by omega)
      have e7 : (k == 7) = false := beq_eq_false_iff_ne.mpr (by omega)
      have e8 : (k == 8) = false := beq_eq_false_iff_ne.mpr (by omega)
      have e : hd k n l = false := by rw [Bool.eq_false_iff, Ne, hd_iff]; omega
      rw [e, Bool.false_and]
      go_enter Try.func77, Try.ntmps77
      go_wp2_with fail
      go_ret
      exact ⟨rfl, HBX.out _⟩
end Go.Proofs.Ythjlfjaciigfiaa
