/-
  ref07.Equal, SameAll: contracts of the walk, at any terms that can be read.
-/
import Derived.Test.YthjlfjaciigfiaaRefDepth
namespace Go.Proofs.Ythjlfjaciigfiaa
open Go.RowKit
set_option linter.unusedVariables false
set_option linter.unusedSimpArgs false

mutual
/-- is all the same -/
def eqT : Tm → Tm → Bool
  | .node k n l, .node k' n' l' => decide (k = k' ∧ n = n' ∧ l.length = l'.length) && eqL l l'
def eqL : List Tm → List Tm → Bool
  | [], _ => true
  | t :: l, [] => true
  | t :: l, t' :: l' => eqT t t' && eqL l l'
end
theorem eqT_iff (t : Tm) : ∀ t', eqT t t' = true ↔ t = t' := by
  refine Tm.ind (C := fun t => ∀ t', eqT t t' = true ↔ t = t') (fun k n l ih => ?_) t
  rintro ⟨k', n', l'⟩
  have aux : ∀ (a : List Tm), (∀ t, t ∈ a → t ∈ l) → ∀ b : List Tm, a.length = b.length → (eqL a b = true ↔ a = b) := by
    intro a
    induction a with
    | nil => intro _ b hb; have : b = [] := List.eq_nil_of_length_eq_zero hb.symm; subst this; simp [eqL]
    | cons x a ih2 =>
      intro hs b hb
      cases b with
      | nil => simp at hb
      | cons y b =>
        simp only [eqL, Bool.and_eq_true, List.cons.injEq]
        rw [ih x (hs x (by simp)) y, ih2 (fun t ht => hs t (by simp [ht])) b (by simpa using hb)]
  simp only [eqT, Bool.and_eq_true, decide_eq_true_iff]
  constructor
  · rintro ⟨⟨rfl, rfl, h3⟩, h4⟩
    rw [(aux l (fun _ h => h) l' h3).mp h4]
  · intro e
    injection e with e1 e2 e3
    subst e1; subst e2; subst e3
    exact ⟨⟨rfl, rfl, rfl⟩, (aux l (fun _ h => h) l rfl).mpr rfl⟩
theorem eqT_refl (t : Tm) : eqT t t = true := (eqT_iff t t).mpr rfl

set_option maxRecDepth 100000 in
set_option maxHeartbeats 4000000 in
theorem Equal_w : ∀ (d : Nat) (v v' : Value) (t t' : Tm) (w : World), RdN (· < w.heap.size) w d v t → RdN (· < w.heap.size) w d v' t' →
    Calls Try.prog 46 #[v, v'] w (Ans w (.bool (eqT t t'))) := by
  intro d
  induction d with
  | zero => intro v v' t t' w hr; exact absurd hr (fun h => h)
  | succ d ih =>
    rintro v v' ⟨k, n, l⟩ ⟨k', n', l'⟩ w hr hr'
    obtain ⟨ao, cap, rfl, hlm, hk, hn, he⟩ := hr.open
    obtain ⟨ao', cap', rfl, hlm', hk', hn', he'⟩ := hr'.open
    clear hr hr'
    have IH := Lib.hid ih
    have HE := Lib.hid he
    have HE' := Lib.hid he'
    have hbx : Below w.heap.size w ((w.alloc (.cells #[.int .i64 k, .int .i64 n, .slice ao l.length cap] 24)).alloc (.cells #[.int .i64 k', .int .i64 n', .slice ao' l'.length cap'] 24)) := ((Below.refl _ _).alloc (Nat.le_refl _) _).alloc (by simp) _
    have HBX := Lib.hid hbx
    clear ih he he' hk hn hk' hn' hbx
    simp only [eqT]
    by_cases h1 : k = k'
    · subst h1
      have e1 : (k != k) = false := by simp
      by_cases h2 : n = n'
      · subst h2
        have e2 : (n != n) = false := by simp
        by_cases h3 : l.length = l'.length
        · have e3 : ((l.length : Int) != (l'.length : Int)) = false := by simp [h3]
          have H3 := Lib.hid h3
          rw [decide_eq_true (show k = k ∧ n = n ∧ l.length = l'.length from ⟨rfl, rfl, h3⟩), Bool.true_and]
          clear h3
          go_enter Try.func46, Try.ntmps46
          go_wp2_with fail
          have hwA : ((w.alloc (.cells #[.int .i64 k, .int .i64 n, .slice ao l.length cap] 24)).alloc (.cells #[.int .i64 k, .int .i64 n, .slice ao' l'.length cap'] 24)).heap[w.heap.size]? = some (.cells #[.int .i64 k, .int .i64 n, .slice ao l.length cap] 24) := (Below.heap_alloc _ _ _ (by simp)).trans (heap_new _ _ _ rfl)
          have hwB := heap_new (w.alloc (.cells #[.int .i64 k, .int .i64 n, .slice ao l.length cap] 24)) (.cells #[.int .i64 k, .int .i64 n, .slice ao' l'.length cap'] 24) (w.heap.size + 1) (by simp)
          have hbx := HBX.out
          generalize (w.alloc (.cells #[.int .i64 k, .int .i64 n, .slice ao l.length cap] 24)).alloc (.cells #[.int .i64 k, .int .i64 n, .slice ao' l'.length cap'] 24) = w0 at hwA hwB hbx ⊢
          clear HBX
          have HBX := Lib.hid hbx
          have HWA := Lib.hid hwA
          have HWB := Lib.hid hwB
          clear hbx hwA hwB e1 e2 e3
          go_loopw [5] (fun i wr => ∃ (j : Nat), i = .int .i64 j ∧ j ≤ l.length ∧ eqL (l.drop j) (l'.drop j) = eqL l l' ∧ Below w0.heap.size w0 wr) (fun i _ => l.length - (intOf i).toNat)
          case atStart => exact ⟨0, rfl, Nat.zero_le _, rfl, Below.refl _ _⟩
          case round =>
            obtain ⟨j, rfl, hj, hsz, hb0⟩ := hrel
            have HSZ := Lib.hid hsz
            obtain ⟨-, -, i2, -, hA⟩ := three ((hb0.block _ (three HWA.out).2.2.2.2).trans HWA.out)
            obtain ⟨-, -, j2, -, hB⟩ := three ((hb0.block _ (three HWB.out).2.2.2.2).trans HWB.out)
            have hb : Below w.heap.size w wr := HBX.out.trans (hb0.mono HBX.out.size)
            clear hsz
            by_cases hjl : j < l.length
            · obtain ⟨b, off, k2, n2, ao2, m2, cap2, rfl, hP, h0, h1, h2, hrd⟩ := HE.out j hjl
              obtain ⟨b', off', k2', n2', ao2', m2', cap2', rfl, hP', h0', h1', h2', hrd'⟩ := HE'.out j (by have := H3.out; omega)
              have e0 : wr.drew.cell? ⟨b, off + j * 3, none⟩ = _ := (hb.cell (p := ⟨b, off + j * 3, none⟩) hP).trans h0
              have e1 : wr.drew.cell? ⟨b, off + j * 3 + 1, none⟩ = _ := (hb.cell (p := ⟨b, off + j * 3 + 1, none⟩) hP).trans h1
              have e2 : wr.drew.cell? ⟨b, off + j * 3 + 2, none⟩ = _ := (hb.cell (p := ⟨b, off + j * 3 + 2, none⟩) hP).trans h2
              have e0' : wr.drew.cell? ⟨b', off' + j * 3, none⟩ = _ := (hb.cell (p := ⟨b', off' + j * 3, none⟩) hP').trans h0'
              have e1' : wr.drew.cell? ⟨b', off' + j * 3 + 1, none⟩ = _ := (hb.cell (p := ⟨b', off' + j * 3 + 1, none⟩) hP').trans h1'
              have e2' : wr.drew.cell? ⟨b', off' + j * 3 + 2, none⟩ = _ := (hb.cell (p := ⟨b', off' + j * 3 + 2, none⟩) hP').trans h2'
              have hbw : b < wr.drew.heap.size := Nat.lt_of_lt_of_le hP hb.size
              have hbw' : b' < wr.drew.heap.size := Nat.lt_of_lt_of_le hP' hb.size
              have i2d : wr.drew.cell? ⟨w.heap.size, 2, none⟩ = _ := i2
              have j2d : wr.drew.cell? ⟨w.heap.size + 1, 2, none⟩ = _ := j2
              have hAd : w.heap.size < wr.drew.heap.size := hA
              have hBd : w.heap.size + 1 < wr.drew.heap.size := hB
              have hbd : Below w.heap.size w wr.drew := below_drewN hb 1
              have hcon := IH.out _ _ l[j] (l'[j]'(by have := H3.out; omega)) wr.drew (RdN.keep (P := (· < w.heap.size)) (w' := wr.drew) (fun b hb' => Nat.lt_of_lt_of_le hb' hbd.size) (fun b hb' => hbd.block b hb') d _ _ hrd) (RdN.keep (P := (· < w.heap.size)) (w' := wr.drew) (fun b hb' => Nat.lt_of_lt_of_le hb' hbd.size) (fun b hb' => hbd.block b hb') d _ _ hrd')
              obtain ⟨y, ey⟩ : ∃ y, y = eqT l[j] (l'[j]'(by have := H3.out; omega)) := ⟨_, rfl⟩
              rw [← ey] at hcon
              have q := HSZ.out
              rw [List.drop_eq_getElem_cons hjl, List.drop_eq_getElem_cons (show j < l'.length by have := H3.out; omega)] at q
              simp only [eqL, ← ey] at q
              have Q := Lib.hid q
              have HCON := Lib.hid hcon
              have HB := Lib.hid (show Below w0.heap.size w0 wr.drew from below_drewN hb0 1)
              have hji : (j : Int) < (l.length : Int) := by omega
              have hji' : (j : Int) < (l'.length : Int) := by have := H3.out; omega
              have hj0 : (0 : Int) ≤ (j : Int) := Int.natCast_nonneg _
              clear q ey hcon hrd hrd' h0 h1 h2 h0' h1' h2' hb0 hb hbd hA hB
              go_wp2_with fail
              refine wp_region_order [(0, true), (1, true), (2, true), (3, true), (4, true), (5, true), (6, true), (7, true), (8, true), (9, true), (10, false), (11, false)]
                (fun w' => w'.cell? ⟨w.heap.size, 2, none⟩ = some (.slice (some ⟨b, off, none⟩) l.length cap) ∧ w'.cell? ⟨w.heap.size + 1, 2, none⟩ = some (.slice (some ⟨b', off', none⟩) l'.length cap') ∧
                  (w'.cell? ⟨b, off + j * 3, none⟩ = some (.int .i64 k2) ∧ w'.cell? ⟨b, off + j * 3 + 1, none⟩ = some (.int .i64 n2) ∧ w'.cell? ⟨b, off + j * 3 + 2, none⟩ = some (.slice ao2 m2 cap2)) ∧
                  (w'.cell? ⟨b', off' + j * 3, none⟩ = some (.int .i64 k2') ∧ w'.cell? ⟨b', off' + j * 3 + 1, none⟩ = some (.int .i64 n2') ∧ w'.cell? ⟨b', off' + j * 3 + 2, none⟩ = some (.slice ao2' m2' cap2')))
                (by kernel_rfl) (by kernel_rfl) ⟨i2d, j2d, ⟨e0, e1, e2⟩, ⟨e0', e1', e2'⟩⟩ (fun hHeld => ?_)
              simp only [pickT, List.getElem?_cons_zero, List.getElem?_cons_succ, Option.getD_some]
              repeat (refine wpT_take (v := ?_) (by rfl) (fun w' hSw => ?_) ?_; rotate_left; (go_simp; with_reducible rfl); simp only [Act.put, List.setIfInBounds_toArray, List.set_cons_zero, List.set_cons_succ])
              refine wpT_do (fun K hK => ?_)
              go_simp
              go_at_call 46
              refine HCON.out.mono ?_
              rintro e w3 ⟨rfl, hb3⟩
              have hb4 : Below w0.heap.size w0 w3 := HB.out.trans (hb3.mono HB.out.size)
              refine hK.out _ _ ⟨(hb3.cell (p := ⟨w.heap.size, 2, none⟩) hAd).trans i2d, (hb3.cell (p := ⟨w.heap.size + 1, 2, none⟩) hBd).trans j2d,
                ⟨(hb3.cell (p := ⟨b, off + j * 3, none⟩) hbw).trans e0, (hb3.cell (p := ⟨b, off + j * 3 + 1, none⟩) hbw).trans e1, (hb3.cell (p := ⟨b, off + j * 3 + 2, none⟩) hbw).trans e2⟩,
                ⟨(hb3.cell (p := ⟨b', off' + j * 3, none⟩) hbw').trans e0', (hb3.cell (p := ⟨b', off' + j * 3 + 1, none⟩) hbw').trans e1', (hb3.cell (p := ⟨b', off' + j * 3 + 2, none⟩) hbw').trans e2'⟩⟩ (fun hHeld => ?_)
              clear hK K
              refine wpT_last (fun K hK => ?_)
              go_simp
              refine hK.out _ _ ?_
              clear hK K hHeld hb3 HCON i2d j2d e0 e1 e2 e0' e1' e2'
              have HB4 := Lib.hid hb4
              clear hb4
              cases y
              · go_wp2_with fail
                go_ret
                exact ⟨by rw [← Q.out]; rfl, HBX.out.trans (HB4.out.mono HBX.out.size)⟩
              · go_wp2_with fail
                go_roundw
                case rel => exact ⟨j + 1, by go_num, by omega, Q.out, HB4.out⟩
                case measure =>
                  have q : (intOf (.int .i64 ((j : Int) + 1))).toNat = j + 1 := by show ((j : Int) + 1).toNat = _; omega
                  have q2 : (intOf (.int .i64 (j : Int))).toNat = j := by show ((j : Int)).toNat = _; omega
                  rw [q, q2]; omega
            · have HB := Lib.hid hb
              clear hb hb0
              go_wp2_with fail
              go_ret
              have q := HSZ.out
              rw [List.drop_of_length_le (by omega)] at q
              simp only [eqL] at q
              exact ⟨by rw [← q]; rfl, HB.out⟩
        · have e3 : ((l.length : Int) != (l'.length : Int)) = true := by simp; omega
          rw [decide_eq_false (fun h => h3 h.2.2), Bool.false_and]
          go_enter Try.func46, Try.ntmps46
          go_wp2_with fail
          go_ret
          exact ⟨rfl, HBX.out⟩
      · have e2 : (n != n') = true := by simp [h2]
        have e1 : (k != k) = false := by simp
        rw [decide_eq_false (fun h => h2 h.2.1), Bool.false_and]
        clear h2
        go_enter Try.func46, Try.ntmps46
        go_wp2_with fail
        go_ret
        exact ⟨rfl, HBX.out⟩
    · have e2 : (k != k') = true := by simp [h1]
      rw [decide_eq_false (fun h => h1 h.1), Bool.false_and]
      clear h1
      go_enter Try.func46, Try.ntmps46
      go_wp2_with fail
      go_ret
      exact ⟨rfl, HBX.out⟩

/-- what a walk reads of a slice of terms -/
theorem SubR.open {P Q : Nat → Prop} {w : World} {d : Nat} {v : Value} {l : List Tm} (h : SubR P w (RdN Q w d) v l) :
    ∃ ao cap, v = .slice ao l.length cap ∧ l.length ≤ 9223372036854775807 ∧ l.length ≤ cap ∧ cap ≤ maxLen ∧
      ∀ i (hi : i < l.length), ∃ b off k2 n2 ao2 m2 cap2, ao = some ⟨b, off, none⟩ ∧ P b ∧ w.cell? ⟨b, off + i * 3, none⟩ = some (.int .i64 k2) ∧ w.cell? ⟨b, off + i * 3 + 1, none⟩ = some (.int .i64 n2) ∧
        w.cell? ⟨b, off + i * 3 + 2, none⟩ = some (.slice ao2 m2 cap2) ∧ RdN Q w d (.agg #[.int .i64 k2, .int .i64 n2, .slice ao2 m2 cap2]) l[i] := by
  obtain ⟨ao, cap, rfl, hl, hc, he⟩ := h
  refine ⟨ao, cap, rfl, by unfold maxLen at hc; omega, hl, hc, fun i hi => ?_⟩
  obtain ⟨b, off, c0, c1, c2, q1, q2, q3, q4, q5, q6⟩ := he i hi
  obtain ⟨ao2, cap2, hv, -, -⟩ := q6.shape
  injection hv with hv
  injection hv with hv
  injection hv with r0 hv
  injection hv with r1 hv
  injection hv with r2 hv
  subst r0; subst r1; subst r2
  exact ⟨b, off, _, _, ao2, _, cap2, q1, q2, q3, q4, q5, q6⟩
/-- a slice of terms in old memory -/
def Ts (P : Nat → Prop) (w : World) (v : Value) (l : List Tm) : Prop := SubR P w (Rd P w) v l
theorem Ts.keep {P P' : Nat → Prop} {w w' : World} {v : Value} {l : List Tm} (h : Ts P w v l) (hP : ∀ b, P b → P' b) (hk : ∀ b, P b → w'.heap[b]? = w.heap[b]?) : Ts P' w' v l := SubR.keep h hP hk hP hk
theorem Ts.on {w w' : World} {v : Value} {l : List Tm} (h : Ts (· < w.heap.size) w v l) (hb : Below w.heap.size w w') : Ts (· < w'.heap.size) w' v l :=
  h.keep (fun b hb' => Nat.lt_of_lt_of_le hb' hb.size) fun b hb' => hb.block b hb'

/-- are two lists of terms the same -/
def eqTs (l l' : List Tm) : Bool := decide (l.length = l'.length) && eqL l l'
theorem eqL_iff : ∀ (a b : List Tm), a.length = b.length → (eqL a b = true ↔ a = b)
  | [], b, hb => by have : b = [] := List.eq_nil_of_length_eq_zero hb.symm; subst this; simp [eqL]
  | x :: a, [], hb => by simp at hb
  | x :: a, y :: b, hb => by
    simp only [eqL, Bool.and_eq_true, List.cons.injEq]
    rw [eqT_iff, eqL_iff a b (by simpa using hb)]
theorem eqTs_iff (l l' : List Tm) : eqTs l l' = true ↔ l = l' := by
  unfold eqTs
  rw [Bool.and_eq_true, decide_eq_true_iff]
  constructor
  · rintro ⟨h1, h2⟩; exact (eqL_iff _ _ h1).mp h2
  · rintro rfl; exact ⟨rfl, (eqL_iff _ _ rfl).mpr rfl⟩

set_option maxRecDepth 100000 in
set_option maxHeartbeats 4000000 in
theorem SameAll_w (v v' : Value) (l l' : List Tm) (w : World) (hr : Ts (· < w.heap.size) w v l) (hr' : Ts (· < w.heap.size) w v' l') :
    Calls Try.prog 34 #[v, v'] w (Ans w (.bool (eqTs l l'))) := by
  obtain ⟨d1, q1⟩ := subR_depth hr
  obtain ⟨d2, q2⟩ := subR_depth hr'
  clear hr hr'
  obtain ⟨d, hd1, hd2⟩ : ∃ d, d1 ≤ d ∧ d2 ≤ d := ⟨max d1 d2, by omega, by omega⟩
  have q3 := q1.mono (fun _ h => h) (fun _ _ => rfl) (R' := RdN (· < w.heap.size) w d) fun u t _ h => RdN.up _ _ _ _ hd1 h
  have q4 := q2.mono (fun _ h => h) (fun _ _ => rfl) (R' := RdN (· < w.heap.size) w d) fun u t _ h => RdN.up _ _ _ _ hd2 h
  obtain ⟨ao, cap, rfl, hlm, -, -, he⟩ := q3.open
  obtain ⟨ao', cap', rfl, hlm', -, -, he'⟩ := q4.open
  clear q1 q2 q3 q4 hd1 hd2
  have HE := Lib.hid he
  have HE' := Lib.hid he'
  clear he he'
  unfold eqTs
  by_cases h3 : l.length = l'.length
  · have e3 : ((l.length : Int) != (l'.length : Int)) = false := by simp [h3]
    have H3 := Lib.hid h3
    rw [decide_eq_true h3, Bool.true_and]
    clear h3
    go_enter Try.func34, Try.ntmps34
    go_wp2_with fail
    clear e3
    go_loopw [5] (fun i wr => ∃ (j : Nat), i = .int .i64 j ∧ j ≤ l.length ∧ eqL (l.drop j) (l'.drop j) = eqL l l' ∧ Below w.heap.size w wr) (fun i _ => l.length - (intOf i).toNat)
    case atStart => exact ⟨0, rfl, Nat.zero_le _, rfl, Below.refl _ _⟩
    case round =>
      obtain ⟨j, rfl, hj, hsz, hb⟩ := hrel
      have HSZ := Lib.hid hsz
      clear hsz
      by_cases hjl : j < l.length
      · obtain ⟨b, off, k2, n2, ao2, m2, cap2, rfl, hP, h0, h1, h2, hrd⟩ := HE.out j hjl
        obtain ⟨b', off', k2', n2', ao2', m2', cap2', rfl, hP', h0', h1', h2', hrd'⟩ := HE'.out j (by have := H3.out; omega)
        have e0 : wr.drew.cell? ⟨b, off + j * 3, none⟩ = _ := (hb.cell (p := ⟨b, off + j * 3, none⟩) hP).trans h0
        have e1 : wr.drew.cell? ⟨b, off + j * 3 + 1, none⟩ = _ := (hb.cell (p := ⟨b, off + j * 3 + 1, none⟩) hP).trans h1
        have e2 : wr.drew.cell? ⟨b, off + j * 3 + 2, none⟩ = _ := (hb.cell (p := ⟨b, off + j * 3 + 2, none⟩) hP).trans h2
        have e0' : wr.drew.cell? ⟨b', off' + j * 3, none⟩ = _ := (hb.cell (p := ⟨b', off' + j * 3, none⟩) hP').trans h0'
        have e1' : wr.drew.cell? ⟨b', off' + j * 3 + 1, none⟩ = _ := (hb.cell (p := ⟨b', off' + j * 3 + 1, none⟩) hP').trans h1'
        have e2' : wr.drew.cell? ⟨b', off' + j * 3 + 2, none⟩ = _ := (hb.cell (p := ⟨b', off' + j * 3 + 2, none⟩) hP').trans h2'
        have hbw : b < wr.drew.heap.size := Nat.lt_of_lt_of_le hP hb.size
        have hbw' : b' < wr.drew.heap.size := Nat.lt_of_lt_of_le hP' hb.size
        have hbd : Below w.heap.size w wr.drew := below_drewN hb 1
        have hcon := Equal_w d _ _ l[j] (l'[j]'(by have := H3.out; omega)) wr.drew (RdN.keep (P := (· < w.heap.size)) (w' := wr.drew) (fun b hb' => Nat.lt_of_lt_of_le hb' hbd.size) (fun b hb' => hbd.block b hb') d _ _ hrd) (RdN.keep (P := (· < w.heap.size)) (w' := wr.drew) (fun b hb' => Nat.lt_of_lt_of_le hb' hbd.size) (fun b hb' => hbd.block b hb') d _ _ hrd')
        obtain ⟨y, ey⟩ : ∃ y, y = eqT l[j] (l'[j]'(by have := H3.out; omega)) := ⟨_, rfl⟩
        rw [← ey] at hcon
        have q := HSZ.out
        rw [List.drop_eq_getElem_cons hjl, List.drop_eq_getElem_cons (show j < l'.length by have := H3.out; omega)] at q
        simp only [eqL, ← ey] at q
        have Q := Lib.hid q
        have HCON := Lib.hid hcon
        have HB := Lib.hid hbd
        have hji : (j : Int) < (l.length : Int) := by omega
        have hji' : (j : Int) < (l'.length : Int) := by have := H3.out; omega
        have hj0 : (0 : Int) ≤ (j : Int) := Int.natCast_nonneg _
        clear q ey hcon hrd hrd' h0 h1 h2 h0' h1' h2' hb hbd
        go_wp2_with fail
        refine wp_region_order [(0, true), (1, true), (2, true), (3, true), (4, true), (5, true), (6, true), (7, true), (8, false), (9, false)]
          (fun w' => (w'.cell? ⟨b, off + j * 3, none⟩ = some (.int .i64 k2) ∧ w'.cell? ⟨b, off + j * 3 + 1, none⟩ = some (.int .i64 n2) ∧ w'.cell? ⟨b, off + j * 3 + 2, none⟩ = some (.slice ao2 m2 cap2)) ∧
            (w'.cell? ⟨b', off' + j * 3, none⟩ = some (.int .i64 k2') ∧ w'.cell? ⟨b', off' + j * 3 + 1, none⟩ = some (.int .i64 n2') ∧ w'.cell? ⟨b', off' + j * 3 + 2, none⟩ = some (.slice ao2' m2' cap2')))
          (by kernel_rfl) (by kernel_rfl) ⟨⟨e0, e1, e2⟩, ⟨e0', e1', e2'⟩⟩ (fun hHeld => ?_)
        simp only [pickT, List.getElem?_cons_zero, List.getElem?_cons_succ, Option.getD_some]
        repeat (refine wpT_take (v := ?_) (by rfl) (fun w' hSw => ?_) ?_; rotate_left; (go_simp; with_reducible rfl); simp only [Act.put, List.setIfInBounds_toArray, List.set_cons_zero, List.set_cons_succ])
        refine wpT_do (fun K hK => ?_)
        go_simp
        go_at_call 46
        refine HCON.out.mono ?_
        rintro e w3 ⟨rfl, hb3⟩
        have hb4 : Below w.heap.size w w3 := HB.out.trans (hb3.mono HB.out.size)
        refine hK.out _ _ ⟨⟨(hb3.cell (p := ⟨b, off + j * 3, none⟩) hbw).trans e0, (hb3.cell (p := ⟨b, off + j * 3 + 1, none⟩) hbw).trans e1, (hb3.cell (p := ⟨b, off + j * 3 + 2, none⟩) hbw).trans e2⟩,
          ⟨(hb3.cell (p := ⟨b', off' + j * 3, none⟩) hbw').trans e0', (hb3.cell (p := ⟨b', off' + j * 3 + 1, none⟩) hbw').trans e1', (hb3.cell (p := ⟨b', off' + j * 3 + 2, none⟩) hbw').trans e2'⟩⟩ (fun hHeld => ?_)
        clear hK K
        refine wpT_last (fun K hK => ?_)
        go_simp
        refine hK.out _ _ ?_
        clear hK K hHeld hb3 HCON e0 e1 e2 e0' e1' e2'
        have HB4 := Lib.hid hb4
        clear hb4
        cases y
        · go_wp2_with fail
          go_ret
          exact ⟨by rw [← Q.out]; rfl, HB4.out⟩
        · go_wp2_with fail
          go_roundw
          case rel => exact ⟨j + 1, by go_num, by omega, Q.out, HB4.out⟩
          case measure =>
            have q : (intOf (.int .i64 ((j : Int) + 1))).toNat = j + 1 := by show ((j : Int) + 1).toNat = _; omega
            have q2 : (intOf (.int .i64 (j : Int))).toNat = j := by show ((j : Int)).toNat = _; omega
            rw [q, q2]; omega
      · have HB := Lib.hid hb
        clear hb
        go_wp2_with fail
        go_ret
        have q := HSZ.out
        rw [List.drop_of_length_le (by omega)] at q
        simp only [eqL] at q
        exact ⟨by rw [← q]; rfl, HB.out⟩
  · have e3 : ((l.length : Int) != (l'.length : Int)) = true := by simp; omega
    rw [decide_eq_false h3, Bool.false_and]
    go_enter Try.func34, Try.ntmps34
    go_wp2_with fail
    go_ret
    exact ⟨rfl, Below.refl _ _⟩
end Go.Proofs.Ythjlfjaciigfiaa
