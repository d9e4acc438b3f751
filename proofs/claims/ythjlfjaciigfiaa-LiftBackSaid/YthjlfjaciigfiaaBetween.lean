/-
  ref08.between: a contract of the walk, at a term whose nodes are good.
-/
import Derived.Test.YthjlfjaciigfiaaPureLow
import Derived.IntWalk
namespace Go.Proofs.Ythjlfjaciigfiaa
open Go.RowKit
set_option linter.unusedVariables false
set_option linter.unusedSimpArgs false

theorem btL_drop (k : Int) (l : List Tm) (n m : Int) (j : Nat) (hj : j < l.length) (i : Nat) : btL k (l.drop j) n m i = (bt l[j] (n + bn k i) (m + bn k i) || btL k (l.drop (j + 1)) n m (i + 1)) := by
  rw [List.drop_eq_getElem_cons hj]; rfl

set_option maxRecDepth 100000 in
set_option maxHeartbeats 4000000 in
theorem between_w : ∀ (d : Nat) (v : Value) (t : Tm) (n m : Int) (w : World), RdN (· < w.heap.size) w d v t → gd t = true → 0 ≤ n → n ≤ m → m + d ≤ 1099511627776 →
    Calls Try.prog 82 #[v, .int .i64 n, .int .i64 m] w (Ans w (.bool (bt t n m))) := by
  intro d
  induction d with
  | zero => intro v t n m w hr; exact absurd hr (fun h => h)
  | succ d ih =>
    rintro v ⟨k, x, l⟩ n m w hr hg hn0 hnm hm1
    have hgs := gd_sub hg
    have hll := gd_len hg
    obtain ⟨hk1, hk8, hx0, hx1⟩ := gd_num hg
    have hgv : k = 1 → l = [] := fun e => by subst e; exact gd_var hg
    obtain ⟨ao, cap, rfl, hlm, hk, hx, he⟩ := hr.open
    clear hr
    have IH := Lib.hid ih
    have HE := Lib.hid he
    have HG := Lib.hid hgs
    have hbx : ∀ o : Obj, Below w.heap.size w (w.alloc o) := fun o => (Below.refl _ _).alloc (Nat.le_refl _) _
    have HBX := Lib.hid hbx
    have HM := Lib.hid hm1
    clear ih he hk hx hgs hg hbx
    by_cases h1 : k = 1
    · subst h1
      by_cases h2 : n ≤ x
      · by_cases h3 : x < m
        · have e : bt (.node 1 x l) n m = true := by simp [bt, h2, h3]
          rw [e]; clear e
          go_enter Try.func82, Try.ntmps82
          go_wp2_with fail
          go_ret
          exact ⟨rfl, HBX.out _⟩
        · have e : bt (.node 1 x l) n m = false := by simp [bt, h3]
          rw [e]; clear e
          go_enter Try.func82, Try.ntmps82
          go_wp2_with fail
          go_ret
          exact ⟨rfl, HBX.out _⟩
      · have e : bt (.node 1 x l) n m = false := by simp [bt, h2]
        rw [e]; clear e
        go_enter Try.func82, Try.ntmps82
        go_wp2_with fail
        go_ret
        exact ⟨rfl, HBX.out _⟩
    have h1b : (k == 1) = false := by simp [h1]
    have e : bt (.node k x l) n m = btL k l n m 0 := by simp [bt, h1]
    rw [e]; clear e
    have hmm : m ≤ 1099511627775 := by omega
    go_enter Try.func82, Try.ntmps82
    go_wp2_with fail
    have hq := heap_new w (.cells #[.int .i64 k, .int .i64 x, .slice ao l.length cap] 24) _ rfl
    have hbx2 := HBX.out (.cells #[.int .i64 k, .int .i64 x, .slice ao l.length cap] 24)
    generalize w.alloc (.cells #[.int .i64 k, .int .i64 x, .slice ao l.length cap] 24) = w0 at hq hbx2 ⊢
    have HQ := Lib.hid hq
    have HB0 := Lib.hid hbx2
    clear hq hbx2
    go_loopw [7] (fun i wr => ∃ (j : Nat), i = .int .i64 j ∧ j ≤ l.length ∧ btL k (l.drop j) n m j = btL k l n m 0 ∧ Below w0.heap.size w0 wr) (fun i _ => l.length - (intOf i).toNat)
    case atStart => exact ⟨0, rfl, Nat.zero_le _, rfl, Below.refl _ _⟩
    case round =>
      obtain ⟨j, rfl, hj, hsz, hb0⟩ := hrel
      have HSZ := Lib.hid hsz
      obtain ⟨i0, i1, i2, -, hl⟩ := three ((hb0.block _ (three HQ.out).2.2.2.2).trans HQ.out)
      have hb : Below w.heap.size w wr := HB0.out.trans (hb0.mono HB0.out.size)
      clear hsz
      by_cases hjl : j < l.length
      · obtain ⟨b, off, k2, n2, ao2, m2, cap2, rfl, hP, h0, h1', h2, hrd⟩ := HE.out j hjl
        have HB := Lib.hid hb
        have HB00 := Lib.hid hb0
        have hji : (j : Int) < (l.length : Int) := by omega
        clear hb hb0
        go_wp2_with fail
        refine (Beneath_w k x _ _ _ _ rfl j _).mono ?_
        rintro e w3 ⟨rfl, hb3⟩
        have hb := HB.out.trans (hb3.mono HB.out.size)
        have hb0 := HB00.out.trans (hb3.mono HB00.out.size)
        have hI2 := (hb3.cell (p := ⟨w.heap.size, 2, none⟩) hl).trans i2
        have e0 := (hb.cell (p := ⟨b, off + j * 3, none⟩) hP).trans h0
        have e1 := (hb.cell (p := ⟨b, off + j * 3 + 1, none⟩) hP).trans h1'
        have e2 := (hb.cell (p := ⟨b, off + j * 3 + 2, none⟩) hP).trans h2
        have hbw : b < w3.heap.size := Nat.lt_of_lt_of_le hP hb.size
        have hbk := bn_le k j
        have hcon := IH.out _ l[j] (n + bn k j) (m + bn k j) w3 (RdN.keep (P := (· < w.heap.size)) (w' := w3) (fun b hb' => Nat.lt_of_lt_of_le hb' hb.size) (fun b hb' => hb.block b hb') d _ _ hrd) (HG.out j hjl) (by omega) (by omega) (by have := HM.out; omega)
        obtain ⟨y, ey⟩ : ∃ y, y = bt l[j] (n + bn k j) (m + bn k j) := ⟨_, rfl⟩
        rw [← ey] at hcon
        have q := HSZ.out
        rw [btL_drop k l n m j hjl j, ← ey] at q
        have Q := Lib.hid q
        have HCON := Lib.hid hcon
        have HB3 := Lib.hid hb
        have HB03 := Lib.hid hb0
        clear q ey hcon hrd h0 h1' h2 hb3 i0 i1 i2 hb hb0 hl
        obtain ⟨db, hdb⟩ : ∃ db, db = bn k j := ⟨_, rfl⟩
        rw [← hdb] at HCON hbk ⊢
        clear hdb
        go_wp2_with fail
        refine HCON.out.mono ?_
        rintro e w4 ⟨rfl, hb4⟩
        have HB4 := Lib.hid (HB3.out.trans (hb4.mono HB3.out.size))
        have HB04 := Lib.hid (HB03.out.trans (hb4.mono HB03.out.size))
        clear hb4 HCON hI2 e0 e1 e2
        cases y
        · go_wp2_with fail
          go_roundw
          case rel => exact ⟨j + 1, by go_num, by omega, by have := Q.out; rwa [Bool.false_or] at this, HB04.out⟩
          case measure =>
            have q : (intOf (.int .i64 ((j : Int) + 1))).toNat = j + 1 := by show ((j : Int) + 1).toNat = _; omega
            have q2 : (intOf (.int .i64 (j : Int))).toNat = j := by show ((j : Int)).toNat = _; omega
            rw [q, q2]; omega
        · go_wp2_with fail
          go_ret
          exact ⟨by rw [← Q.out, Bool.true_or]; rfl, HB4.out⟩
      · have HB := Lib.hid hb
        clear hb hb0
        go_wp2_with fail
        go_ret
        have q := HSZ.out
        rw [List.drop_of_length_le (by omega)] at q
        simp only [btL] at q
        exact ⟨by rw [← q]; rfl, HB.out⟩
end Go.Proofs.Ythjlfjaciigfiaa
