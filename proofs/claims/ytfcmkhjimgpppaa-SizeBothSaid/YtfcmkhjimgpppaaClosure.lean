/-
  matrix.Closure: a contract: the closure, in its order, or an error. Its condition: no more than 256 matrices are given.
-/
import Derived.Test.YtfcmkhjimgpppaaAdder
namespace Go.Proofs.Ytfcmkhjimgpppaa
open Go.RowKit Go.Maps
set_option linter.unusedVariables false
set_option linter.unusedSimpArgs false

def goodAt (l : List Mx) (m : Mx) : Bool := right m && decide (m.length = (l.getD 0 []).length)
def rightsB (l : List Mx) : Bool := l.all (goodAt l)
theorem rightsB_get {l : List Mx} (h : rightsB l = true) {i : Nat} (hi : i < l.length) : right (l.getD i []) = true ∧ (l.getD i []).length = (l.getD 0 []).length := by
  have := List.all_eq_true.1 h _ (getD_mem hi)
  simpa [goodAt] using this
theorem rightsB_sqs {l : List Mx} (h : rightsB l = true) : Sqs (l.getD 0 []).length l := fun m hm => by
  have := List.all_eq_true.1 h _ hm
  simpa [goodAt] using this
theorem rightsB_of {l : List Mx} (h : ∀ i, i < l.length → goodAt l (l.getD i []) = true) : rightsB l = true := by
  refine List.all_eq_true.2 fun m hm => ?_
  obtain ⟨i, hi, rfl⟩ := mem_getD hm
  exact h i hi
theorem MatsR.get {w : World} {v : Value} {l : List Mx} (h : MatsR (· < w.heap.size) w v l) : ∃ ao cap, v = .slice ao l.length cap ∧ l.length ≤ 9223372036854775807 ∧
    ∀ i, i < l.length → ∃ b off a c, ao = some ⟨b, off, none⟩ ∧ b < w.heap.size ∧ w.cell? ⟨b, off + i, none⟩ = some (.slice a (l.getD i []).length c) ∧ MatR (· < w.heap.size) w (.slice a (l.getD i []).length c) (l.getD i []) := by
  obtain ⟨ao, cap, hv, hlc, hcm, he⟩ := h
  refine ⟨ao, cap, hv, by unfold maxLen at hcm; omega, fun i hi => ?_⟩
  obtain ⟨b, off, h1, h2, u, hu, hr⟩ := he i hi
  have e : l.getD i [] = l[i] := by rw [List.getD_eq_getElem?_getD, List.getElem?_eq_getElem hi]; rfl
  rw [e]
  obtain ⟨a, c, rfl⟩ := hr.shape
  exact ⟨b, off, a, c, h1, h2, hu, hr⟩
theorem MatsR.on {w w' : World} {v : Value} {l : List Mx} (h : MatsR (· < w.heap.size) w v l) (hb : Below w.heap.size w w') : MatsR (· < w'.heap.size) w' v l :=
  MatsR.keep h (fun b hb' => Nat.lt_of_lt_of_le hb' hb.size) fun b hb' => hb.block b hb'

set_option maxRecDepth 100000 in
set_option maxHeartbeats 4000000 in
theorem Closure_no (va : Value) (l : List Mx) (w : World) (h : MatsR (· < w.heap.size) w va l) (hr : rightsB l = false) :
    Calls Try.prog 29 #[va] w fun e w' => e = .returned (.tuple #[.slice none 0 0, .int .i64 5]) ∧ w' = w := by
  obtain ⟨ao, cap, rfl, hlm, he⟩ := h.get
  have HE := Lib.hid he
  have HR := Lib.hid hr
  clear he hr h
  go_enter Try.func29, Try.ntmps29
  go_wp2_with fail
  go_loop [14] (fun i => ∃ k : Nat, i = .int .i64 k ∧ k ≤ l.length ∧ ∀ k', k' < k → goodAt l (l.getD k' []) = true) (fun i => l.length - (intOf i).toNat)
  case atStart => exact ⟨0, rfl, Nat.zero_le _, fun _ h => absurd h (Nat.not_lt_zero _)⟩
  case round =>
    obtain ⟨k, rfl, hk, hall⟩ := hrel
    have HALL := Lib.hid hall
    clear hall
    by_cases hlt : k < l.length
    · obtain ⟨b, off, a1, c1, rfl, hb, hc, hm⟩ := HE.out k hlt
      obtain ⟨b0, off0, a0, c0, e0, -, hc0, -⟩ := HE.out 0 (by omega)
      injection e0 with e0; injection e0 with e1 e2; subst e1; subst e2
      rw [Nat.add_zero] at hc0
      have kr := right_w _ _ w hm
      obtain ⟨m, hm'⟩ : ∃ m, m = l.getD k [] := ⟨_, rfl⟩
      obtain ⟨n0, hn0⟩ : ∃ n, n = (l.getD 0 []).length := ⟨_, rfl⟩
      rw [← hm'] at kr hc
      rw [← hn0] at hc0
      obtain ⟨x, hx⟩ : ∃ x, x = right m := ⟨_, rfl⟩
      rw [← hx] at kr
      have HM := Lib.hid hm'
      have HX := Lib.hid hx
      have HN := Lib.hid hn0
      have KR := Lib.hid kr
      have h0l : 0 < l.length := by omega
      clear hm hm' hx hn0 kr
      cases x
      · go_wp2_with fail
        refine KR.out.mono ?_
        rintro e w' ⟨rfl, rfl⟩
        go_wp2_with fail
        go_ret2
        exact ⟨rfl, rfl⟩
      · by_cases hnn : m.length = n0
        · have hb1 : ((m.length : Int) != (n0 : Int)) = false := by simp [hnn]
          have HNN := Lib.hid hnn
          clear hnn
          go_wp2_with fail
          refine KR.out.mono ?_
          rintro e w' ⟨rfl, rfl⟩
          go_wp2_with fail
          go_round
          case rel => exact ⟨k + 1, by go_num, by omega, fun k' h' => by
            by_cases hkk : k' = k
            · subst hkk; unfold goodAt; rw [← HM.out, ← HX.out, ← HN.out, decide_eq_true HNN.out]; rfl
            · exact HALL.out k' (by omega)⟩
          case measure => simp [intOf]; omega
        · have hb1 : ((m.length : Int) != (n0 : Int)) = true := by simp; omega
          clear hnn
          go_wp2_with fail
          refine KR.out.mono ?_
          rintro e w' ⟨rfl, rfl⟩
          go_wp2_with fail
          go_ret2
          exact ⟨rfl, rfl⟩
    · exfalso
      have := rightsB_of (l := l) fun i hi => HALL.out i (by omega)
      rw [HR.out] at this; cases this

/-- a closure, or an error -/
def AnsC (w : World) (o : Option (List Mx)) (e : Ending) (w' : World) : Prop :=
  Below w.heap.size w w' ∧ match o with
    | none => e = .returned (.tuple #[.slice none 0 0, .int .i64 2])
    | some r => ∃ v, e = .returned (.tuple #[v, .int .i64 0]) ∧ MatsR (· < w'.heap.size) w' v r

set_option maxRecDepth 100000 in
set_option maxHeartbeats 4000000 in
theorem Closure_w (va : Value) (l : List Mx) (w : World) (h : MatsR (· < w.heap.size) w va l) (hr : rightsB l = true) (hl : l.length ≤ 256) :
    Calls Try.prog 29 #[va] w (AnsC w (closure l)) := by
  obtain ⟨o, ho⟩ : ∃ o, o = closure l := ⟨_, rfl⟩
  rw [← ho]
  have HO := Lib.hid ho
  have H := Lib.hid h
  obtain ⟨n, hn⟩ : ∃ n, n = (l.getD 0 []).length := ⟨_, rfl⟩
  have hgood : ∀ i, i < l.length → right (l.getD i []) = true ∧ (l.getD i []).length = n := fun i hi => by rw [hn]; exact rightsB_get hr hi
  obtain ⟨ao, cap, hva, hlm, he⟩ := h.get
  subst hva
  have HE := Lib.hid he
  have HG := Lib.hid hgood
  have hmm := @run_makeMap Try.prog
  clear he hr h ho hn hgood
  go_enter Try.func29, Try.ntmps29
  go_wp2_with fail
  go_loop [14] (fun i => ∃ k : Nat, i = .int .i64 k ∧ k ≤ l.length) (fun i => l.length - (intOf i).toNat)
  case atStart => exact ⟨0, rfl, Nat.zero_le _⟩
  case round =>
    obtain ⟨k, rfl, hk⟩ := hrel
    by_cases hlt : k < l.length
    · obtain ⟨b, off, a1, c1, rfl, hb, hc, hm⟩ := HE.out k hlt
      obtain ⟨b0, off0, a0, c0, e0, -, hc0, -⟩ := HE.out 0 (by omega)
      injection e0 with e0; injection e0 with e1 e2; subst e1; subst e2
      obtain ⟨hr, hn⟩ := HG.out k hlt
      obtain ⟨-, hn0⟩ := HG.out 0 (by omega)
      rw [Nat.add_zero] at hc0
      have kr := right_w _ _ w hm
      rw [hr] at kr
      have hb1 : ((n : Int) != (n : Int)) = false := by simp
      rw [hn] at hc kr
      rw [hn0] at hc0
      have KR := Lib.hid kr
      have h0l : 0 < l.length := by omega
      clear hm hr hn hn0 kr
      go_wp2_with fail
      refine KR.out.mono ?_
      rintro e w' ⟨rfl, rfl⟩
      go_wp2_with fail
      go_round
      case rel => exact ⟨k + 1, by go_num, by omega⟩
      case measure => simp [intOf]; omega
    · have hkl : k = l.length := by omega
      clear hlt hk
      go_wp2_with fail
      clear hkl
      have hC0 : Clo w.heap.size (w.heap.size + 1) w.heap.size n ((w.alloc (.map #[] 0)).alloc (.cells #[.slice none 0 0, .map (some w.heap.size)] 60)) (.slice none 0 0) [] := by
        refine ⟨⟨by omega, Nat.le_refl _, by omega⟩, heap_new _ _ _ (by simp only [World.size_alloc]), ?_, Made.nil _ _ _ _, ⟨fun e => (by cases e), fun e => (by cases e)⟩, fun m hm => (by cases hm)⟩
        obtain ⟨es, clock, q, r⟩ := World.ownsMap_made w Try.prog 9 (plainElem (H := Unit) Try.prog 3)
        exact ⟨es, clock, (Below.heap_alloc _ _ _ (by simp only [World.size_alloc]; omega)).trans q, r⟩
      have hB0 : Below w.heap.size w ((w.alloc (.map #[] 0)).alloc (.cells #[.slice none 0 0, .map (some w.heap.size)] 60)) := ((Below.refl _ _).alloc (Nat.le_refl _) _).alloc (by simp only [World.size_alloc]; omega) _
      generalize (w.alloc (.map #[] 0)).alloc (.cells #[.slice none 0 0, .map (some w.heap.size)] 60) = W at hC0 hB0 ⊢
      have HC0 := Lib.hid hC0
      have HB0 := Lib.hid hB0
      clear hC0 hB0 hmm
      go_loopw [36] (fun i wr => ∃ (k : Nat) (v : Value), i = .int .i64 k ∧ k ≤ l.length ∧ Clo w.heap.size (w.heap.size + 1) w.heap.size n wr v (dedup (l.take k)) ∧ Below w.heap.size w wr) (fun i _ => l.length - (intOf i).toNat)
      case atStart => exact ⟨0, _, rfl, Nat.zero_le _, HC0.out, HB0.out⟩
      case round =>
        obtain ⟨k, v, rfl, hk, hC, hB⟩ := hrel
        have HC := Lib.hid hC
        have HB := Lib.hid hB
        clear hC hB HC0 HB0
        by_cases hlt : k < l.length
        · obtain ⟨b, off, a1, c1, rfl, hb, hc, hm⟩ := HE.out k hlt
          have c1' := (HB.out.cell (p := ⟨b, off + k, none⟩) hb).trans hc
          have hdl : (dedup (l.take k)).length ≤ k := Nat.le_trans (dedup_len _) (by rw [List.length_take]; omega)
          have hstep : addM (dedup (l.take k)) (l.getD k []) = dedup (l.take (k + 1)) := by
            unfold dedup; rw [take_getD l [] k hlt, List.foldl_append]; rfl
          have hdl2 : (dedup (l.take (k + 1))).length ≤ 256 := Nat.le_trans (dedup_len _) (by rw [List.length_take]; omega)
          have hadd := add_w _ _ wr HC.out (MatR.keep hm (fun b hb' => Nat.lt_of_lt_of_le hb' HB.out.size) fun b hb' => HB.out.block b hb') (HG.out k hlt) (by omega)
          rw [hstep, decide_eq_true hdl2] at hadd
          obtain ⟨-, hmn⟩ := HG.out k hlt
          rw [hmn] at hadd c1'
          have HADD := Lib.hid hadd
          clear hadd hstep hdl2 hdl hm hc hmn
          go_wp2_with fail
          refine HADD.out.mono ?_
          rintro e w2 ⟨rfl, ⟨v2, hC2⟩, hB2⟩
          have HC2 := Lib.hid hC2
          have HB2 := Lib.hid (HB.out.trans hB2)
          clear hC2 hB2
          go_wp2_with fail
          go_roundw
          case rel => exact ⟨k + 1, v2, by go_num, by omega, HC2.out, HB2.out⟩
          case measure => simp [intOf]; omega
        · have hkl : k = l.length := by omega
          have hC := HC.out
          rw [hkl, List.take_length] at hC
          have HC := Lib.hid hC
          have hdl : (dedup l).length ≤ 256 := Nat.le_trans (dedup_len _) hl
          clear hC hlt hk
          go_wp2_with fail
          clear hkl
          have H0 := Lib.hid (show clo 257 (dedup l) = o from HO.out.symm)
          have HNE := Lib.hid (show (-1 : Int) ≠ ((dedup l).length : Int) from by omega)
          go_loopg [9] 257 (fun g bf wx => ∃ (q : List Mx) (v : Value) (z : Int), bf = .int .i64 z ∧ Clo w.heap.size (w.heap.size + 1) w.heap.size n wx v q ∧ Below w.heap.size w wx ∧ q.length ≤ 256 ∧ ((z ≠ (q.length : Int) ∧ 257 ≤ g + q.length ∧ clo g q = o) ∨ (z = (q.length : Int) ∧ o = some q)))
          case atStart => exact ⟨_, _, _, rfl, HC.out, HB.out, hdl, .inl ⟨HNE.out, by omega, H0.out⟩⟩
          case round =>
            obtain ⟨q, v, z, rfl, hC, hB, hq, hcase⟩ := hrel
            obtain ⟨g1, rfl⟩ : ∃ x, x = gk := ⟨_, rfl⟩
            obtain ⟨w1, rfl⟩ : ∃ x : World, x = wr := ⟨_, rfl⟩
            clear H0 HNE HC HB hdl
            obtain ⟨aq, capq, rfl⟩ := hC.shape
            obtain ⟨c0, -, -, cl⟩ := two hC.box
            have hqm : q.length ≤ 9223372036854775807 := by omega
            have HC := Lib.hid hC
            have HB := Lib.hid hB
            have HQ := Lib.hid hq
            clear hC hB hq
            rcases hcase with ⟨hz, hg, ho⟩ | ⟨hz, ho⟩
            · have hb1 : (z != (q.length : Int)) = true := by simp [hz]
              obtain ⟨g2, rfl⟩ : ∃ g2, g1 = g2 + 1 := ⟨g1 - 1, by have := HQ.out; omega⟩
              obtain ⟨r, hr⟩ : ∃ r, r = outr 257 0 q := ⟨_, rfl⟩
              rw [clo, ← hr] at ho
              have HO := Lib.hid ho
              have HR := Lib.hid hr
              have HG1 := Lib.hid hg
              clear ho hr hg hz
              go_wp2_with fail
              go_loopg [10] 257 (fun g i wx => ∃ (k : Nat) (q2 : List Mx) (v2 : Value), i = .int .i64 k ∧ k ≤ q2.length ∧ Clo w.heap.size (w.heap.size + 1) w.heap.size n wx v2 q2 ∧ Below w.heap.size w wx ∧ q2.length ≤ 256 ∧ q.length ≤ q2.length ∧ 257 ≤ g + k ∧ outr g k q2 = r)
              case atStart => exact ⟨0, _, _, rfl, Nat.zero_le _, HC.out, HB.out, HQ.out, Nat.le_refl _, Nat.le_refl _, HR.out.symm⟩
              case round =>
                clear c0 cl HC HB
                obtain ⟨i, q2, v2, rfl, hi, hC, hB, hq2, hqq, hg, hrr⟩ := hrel
                obtain ⟨g3, rfl⟩ : ∃ x, x = gk := ⟨_, rfl⟩
                obtain ⟨w2, rfl⟩ : ∃ x : World, x = wr := ⟨_, rfl⟩
                obtain ⟨aq2, capq2, rfl⟩ := hC.shape
                obtain ⟨c0, -, -, cl⟩ := two hC.box
                have hqm2 : q2.length ≤ 9223372036854775807 := by omega
                have HC := Lib.hid hC
                have HB := Lib.hid hB
                have HQ2 := Lib.hid hq2
                have HQQ := Lib.hid hqq
                have HG3 := Lib.hid hg
                have HRR := Lib.hid hrr
                obtain ⟨g4, rfl⟩ : ∃ g4, g3 = g4 + 1 := ⟨g3 - 1, by omega⟩
                clear hC hB hq2 hqq hg hrr
                by_cases hil : i < q2.length
                · go_wp2_with fail
                  obtain ⟨p, hp⟩ : ∃ p, p = inn i 257 0 q2 := ⟨_, rfl⟩
                  have hrr := HRR.out
                  rw [outr, if_pos hil, ← hp] at hrr
                  have HRR := Lib.hid hrr
                  have HP := Lib.hid hp
                  clear hrr hp
                  go_loopg [11] 257 (fun g k wx => ∃ (j : Nat) (q3 : List Mx) (v3 : Value), k = .int .i64 j ∧ j ≤ q3.length ∧ Clo w.heap.size (w.heap.size + 1) w.heap.size n wx v3 q3 ∧ Below w.heap.size w wx ∧ q3.length ≤ 256 ∧ q2.length ≤ q3.length ∧ 257 ≤ g + j ∧ inn i g j q3 = p)
                  case atStart => exact ⟨0, _, _, rfl, Nat.zero_le _, HC.out, HB.out, HQ2.out, Nat.le_refl _, Nat.le_refl _, HP.out.symm⟩
                  case round =>
                    clear c0 cl HC HB
                    obtain ⟨j, q3, v3, rfl, hj, hC, hB, hq3, hqq, hg, hpp⟩ := hrel
                    obtain ⟨g5, rfl⟩ : ∃ x, x = gk := ⟨_, rfl⟩
                    obtain ⟨w3, rfl⟩ : ∃ x : World, x = wr := ⟨_, rfl⟩
                    obtain ⟨aq3, capq3, hv3, hqm3, hget⟩ := hC.get
                    subst hv3
                    obtain ⟨c0, -, -, cl⟩ := two hC.box
                    obtain ⟨g6, rfl⟩ : ∃ g6, g5 = g6 + 1 := ⟨g5 - 1, by omega⟩
                    have HC := Lib.hid hC
                    have HB := Lib.hid hB
                    have HQ3 := Lib.hid hq3
                    have HQ32 := Lib.hid hqq
                    have HG5 := Lib.hid hg
                    have HPP := Lib.hid hpp
                    have HGET := Lib.hid hget
                    clear hC hB hq3 hqq hg hpp hget
                    by_cases hjl : j < q3.length
                    · obtain ⟨b1, o1, u1, rfl, hbl1, e1, hm1, hr1, hn1⟩ := HGET.out i (by have := HQ32.out; omega)
                      obtain ⟨b2, o2, ux, hbo, hbl2, e2, hm2, hr2, hn2⟩ := HGET.out j hjl
                      injection hbo with hbo; injection hbo with hbo1 hbo2; subst hbo1; subst hbo2
                      have hst := HPP.out
                      rw [inn, if_pos hjl] at hst
                      have hpr := product_w u1 ux _ _ w3.drew (hm1.keep (w' := w3.drew) (P' := (· < w3.drew.heap.size)) (fun _ h => h) fun _ _ => rfl) (hm2.keep (w' := w3.drew) (P' := (· < w3.drew.heap.size)) (fun _ h => h) fun _ _ => rfl) hr1 hr2 (by rw [hn1, hn2])
                      obtain ⟨au1, cu1, hu1⟩ := hm1.shape
                      obtain ⟨au2, cu2, hu2⟩ := hm2.shape
                      rw [hn1] at hu1
                      rw [hn2] at hu2
                      subst hu1; subst hu2
                      have hpm : right (prod (q3.getD i []) (q3.getD j [])) = true ∧ (prod (q3.getD i []) (q3.getD j [])).length = n := ⟨right_prod (by have := (right_sq hr1).1; exact this), by rw [prod_len]; exact hn1⟩
                      obtain ⟨pm, hpme⟩ : ∃ pm, pm = prod (q3.getD i []) (q3.getD j []) := ⟨_, rfl⟩
                      unfold step at hst
                      rw [← hpme] at hst hpr hpm
                      have hiq3 : i < q3.length := by have := HQ32.out; omega
                      have hi1 : (i : Int) < (q3.length : Int) := by omega
                      have hj1 : (j : Int) < (q3.length : Int) := by omega
                      have HST := Lib.hid hst
                      have HPR := Lib.hid hpr
                      have HPM := Lib.hid hpm
                      clear hst hpr hpm hpme hm1 hm2 hr1 hr2 hn1 hn2
                      go_wp2_with fail
                      refine wp_region_order2 [(0, true), (1, true), (2, true), (3, true), (4, true), (5, true), (6, true), (7, true), (8, true), (9, true), (10, true), (11, true), (12, true), (13, true), (14, true), (15, false)]
                        (fun w' => w'.cell? ⟨w.heap.size + 1, 0, none⟩ = some (.slice (some ⟨b1, o1, none⟩) q3.length capq3) ∧ w'.cell? ⟨b1, o1 + i, none⟩ = some (.slice au1 n cu1) ∧ w'.cell? ⟨b1, o1 + j, none⟩ = some (.slice au2 n cu2)) (by kernel_rfl) (by kernel_rfl) ⟨c0, e1, e2⟩ (fun hHeld => ?_)
                      simp only [pickT, List.getElem?_cons_zero, List.getElem?_cons_succ, Option.getD_some, List.length_cons, List.length_nil, Nat.reduceAdd, Nat.reduceSub]
                      repeat (refine wpV_take (v := ?_) (by rfl) (fun w' hSw => ?_) ?_; rotate_left; (go_simp; with_reducible rfl); simp only [Act.put, List.setIfInBounds_toArray, List.set_cons_zero, List.set_cons_succ])
                      refine wpV_do (fun K hK => ?_)
                      go_simp
                      go_at_call 40
                      refine HPR.out.mono ?_
                      rintro e w4 ⟨v4, rfl, hr4, hb4⟩
                      obtain ⟨a4, m4, rfl⟩ := hr4.shape
                      have hb4' : Below w3.heap.size w3 w4 := (below_drewN (Below.refl _ _) 1).trans hb4
                      have k0 := (hb4'.cell (p := ⟨w.heap.size + 1, 0, none⟩) cl).trans c0
                      have k1 := (hb4'.cell (p := ⟨b1, o1 + i, none⟩) hbl1).trans e1
                      have k2 := (hb4'.cell (p := ⟨b1, o1 + j, none⟩) hbl1).trans e2
                      have hadd := add_w _ _ w4 (HC.out.on hb4') hr4 HPM.out HQ3.out
                      have HADD := Lib.hid hadd
                      have HB4 := Lib.hid hb4'
                      rw [HPM.out.2] at hadd
                      have HADD := Lib.hid hadd
                      rw [HPM.out.2]
                      clear hr4 hb4 hb4' hadd hHeld
                      refine hK.out _ _ ⟨k0, k1, k2⟩ (fun hHeld => ?_)
                      clear hK K hHeld
                      refine (show ∀ {P : Program} {ops : Array Oper} {Q : Exit → Act → World → Prop} {S : World → Prop} {B : Act → World → Prop} {a : Act} {w : World}, B a w → wpV P ops Q S B [] a w from fun h => h) ?_
                      refine wpV_two (fun K hK => ?_)
                      go_simp
                      go_at_call 45
                      refine HADD.out.mono ?_
                      rintro e w5 ⟨rfl, ⟨v5, hC5⟩, hb5⟩
                      have HC5 := Lib.hid hC5
                      have HB5 := Lib.hid (HB.out.trans ((HB4.out.mono HB.out.size).trans hb5))
                      clear hC5 hb5
                      refine hK.out _ _ ?_
                      clear hK K
                      refine stepT_do (fun K hK => ?_)
                      go_simp
                      refine hK.out _ _ ?_
                      clear hK K k0 k1 k2 c0 e1 e2
                      by_cases h256 : 256 < (addM q3 pm).length
                      · have hd : decide ((addM q3 pm).length ≤ 256) = false := decide_eq_false (by omega)
                        have hd2 := Lib.hid h256
                        obtain ⟨al, hal⟩ : ∃ x, x = decide ((addM q3 pm).length ≤ 256) := ⟨_, rfl⟩
                        rw [← hal] at hd ⊢
                        subst hd
                        clear h256 hal
                        go_wp2_with fail
                        go_ret2
                        refine ⟨HB5.out, ?_⟩
                        have h1 := HST.out
                        rw [if_pos hd2.out] at h1
                        have h2 := HRR.out
                        rw [← h1] at h2
                        have h3 := HO.out
                        rw [← h2] at h3
                        simp only at h3
                        rw [← h3]
                        rfl
                      · have hd : decide ((addM q3 pm).length ≤ 256) = true := decide_eq_true (by omega)
                        have hd2 := Lib.hid h256
                        obtain ⟨al, hal⟩ : ∃ x, x = decide ((addM q3 pm).length ≤ 256) := ⟨_, rfl⟩
                        rw [← hal] at hd ⊢
                        subst hd
                        clear h256 hal
                        go_wp2_with fail
                        go_roundg g6
                        case measure => omega
                        case rel =>
                          have h1 := HST.out
                          rw [if_neg hd2.out] at h1
                          have h2 := (addM_len q3 pm).1
                          have h3 := hd2.out
                          exact ⟨j + 1, addM q3 pm, v5, by go_num, by omega, HC5.out, HB5.out, by omega, by have := HQ32.out; omega, by have := HG5.out; omega, h1⟩
                    · have hpp := HPP.out
                      rw [inn, if_neg hjl] at hpp
                      have hR := HRR.out
                      rw [← hpp] at hR
                      have HRR := Lib.hid hR
                      have hjj : j = q3.length := by omega
                      clear hpp hR
                      go_wp2_with fail
                      go_roundg g4
                      case measure => omega
                      case rel => exact ⟨i + 1, q3, _, by go_num, by have := HQ32.out; omega, HC.out, HB.out, HQ3.out, by have := HQ32.out; have := HQQ.out; omega, by have := HG3.out; omega, HRR.out⟩
                · have hrr := HRR.out
                  rw [outr, if_neg hil] at hrr
                  have hO := HO.out
                  rw [← hrr] at hO
                  have HO := Lib.hid hO
                  have hii : i = q2.length := by omega
                  clear hrr hO
                  go_wp2_with fail
                  go_roundg g2
                  case measure => omega
                  case rel =>
                    refine ⟨q2, _, _, rfl, HC.out, HB.out, HQ2.out, ?_⟩
                    have hO := HO.out
                    have h1 := HQQ.out
                    have h2 := HG1.out
                    by_cases he : q2.length = q.length
                    · rw [if_pos he] at hO
                      exact .inr ⟨by rw [he], hO.symm⟩
                    · rw [if_neg he] at hO
                      exact .inl ⟨by omega, by omega, hO⟩
            · have HO := Lib.hid ho
              clear ho
              go_wp2_with fail
              go_ret2
              refine ⟨HB.out, ?_⟩
              rw [HO.out]
              exact ⟨_, rfl, HC.out.mats⟩
end Go.Proofs.Ytfcmkhjimgpppaa
