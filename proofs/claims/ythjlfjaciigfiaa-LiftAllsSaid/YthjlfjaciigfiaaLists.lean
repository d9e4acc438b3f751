/-
  lift.All, and what is told of a list: contracts of the walk.
-/
import Derived.Test.YthjlfjaciigfiaaVars
import Derived.Test.YthjlfjaciigfiaaRun9
namespace Go.Proofs.Ythjlfjaciigfiaa
open Go.RowKit
set_option linter.unusedVariables false
set_option linter.unusedSimpArgs false

/-- the first error of what a function answers of each of a list; 0: there is none -/
def firstErr (f : Tm → Tm × Int) : List Tm → Int
  | [] => 0
  | t :: l => if (f t).2 = 0 then firstErr f l else (f t).2
/-- what a function answers of each of a list, or the first error -/
def allR (f : Tm → Tm × Int) (l : List Tm) : List Tm × Int := if firstErr f l = 0 then (l.map fun t => (f t).1, 0) else ([], firstErr f l)
theorem firstErr_drop (f : Tm → Tm × Int) (l : List Tm) (j : Nat) (hj : j < l.length) : firstErr f (l.drop j) = if (f l[j]).2 = 0 then firstErr f (l.drop (j + 1)) else (f l[j]).2 := by
  rw [List.drop_eq_getElem_cons hj]; rfl
theorem map_take (f : Tm → Tm × Int) (l : List Tm) (j : Nat) (hj : j < l.length) : (l.take (j + 1)).map (fun t => (f t).1) = (l.take j).map (fun t => (f t).1) ++ [(f l[j]).1] := by
  rw [List.take_succ_eq_append_getElem hj]; simp only [List.map_append, List.map_cons, List.map_nil]

set_option maxRecDepth 100000 in
set_option maxHeartbeats 4000000 in
theorem LiftAll_w (vts : Value) (ts : List Tm) (k n : Int) (w : World) (hts : Ts (· < w.heap.size) w vts ts) (hlen : ts.length ≤ 1000000) :
    Calls Try.prog 32 #[vts, .int .i64 k, .int .i64 n] w (AnsTsE w (allR (fun t => liftR t k n) ts).1 (allR (fun t => liftR t k n) ts).2) := by
  obtain ⟨rl, rc, hres⟩ : ∃ rl rc, allR (fun t => liftR t k n) ts = (rl, rc) := ⟨_, _, rfl⟩
  rw [hres]
  have RES := Lib.hid hres
  obtain ⟨aol, capl, rfl, hlm, hlm2, he⟩ := hts.elem
  have HE := Lib.hid he
  clear hres he hts
  go_enter Try.func32, Try.ntmps32
  go_wp2_with fail
  go_loopw [8, 15] (fun vs iv wr => ∃ j : Nat, iv = .int .i64 j ∧ j ≤ ts.length ∧ firstErr (fun t => liftR t k n) (ts.drop j) = firstErr (fun t => liftR t k n) ts ∧ Lst w.heap.size wr vs ((ts.take j).map fun t => ((fun t => liftR t k n) t).1) ∧ Below w.heap.size w wr) (fun _ iv _ => ts.length - (intOf iv).toNat)
  case atStart => exact ⟨0, by go_num, Nat.zero_le _, rfl, Lst.nil _ _, Below.refl _ _⟩
  case round =>
    obtain ⟨j, rfl, hj, herr, hL, hb⟩ := hrel
    have HERR := Lib.hid herr
    have HB := Lib.hid hb
    have HL := Lib.hid hL
    obtain ⟨ao0, c0, hsh⟩ := hL.shape
    have HSH := Lib.hid hsh
    clear herr hL hsh
    by_cases hjl : j < ts.length
    · obtain ⟨b, off, k2, n2, ao2, m2, cap2, rfl, hP, h0, h1, h2, hrd⟩ := HE.out j hjl
      have e0 := (hb.cell (p := ⟨b, off + j * 3, none⟩) hP).trans h0
      have e1 := (hb.cell (p := ⟨b, off + j * 3 + 1, none⟩) hP).trans h1
      have e2 := (hb.cell (p := ⟨b, off + j * 3 + 2, none⟩) hP).trans h2
      have hbw : b < wr.heap.size := Nat.lt_of_lt_of_le hP hb.size
      have hji : (j : Int) < (ts.length : Int) := by omega
      have hj0 : (0 : Int) ≤ (j : Int) := Int.natCast_nonneg _
      have ha1 := alloc_bel wr (.cells #[.int .i64 k2, .int .i64 n2, .slice ao2 m2 cap2] 24)
      have hb1 := hb.trans (ha1.mono hb.size)
      obtain ⟨x, c, hx⟩ : ∃ x c, (fun t => liftR t k n) ts[j] = (x, c) := ⟨_, _, rfl⟩
      have HX := Lib.hid hx
      have hcon := Lift_q (t := ts[j]) HX.out (hrd.keep (P' := (· < (wr.alloc (.cells #[.int .i64 k2, .int .i64 n2, .slice ao2 m2 cap2] 24)).heap.size)) (w' := (wr.alloc (.cells #[.int .i64 k2, .int .i64 n2, .slice ao2 m2 cap2] 24))) (fun q hq => Nat.lt_of_lt_of_le hq hb1.size) fun q hq => hb1.block q hq)
      have HCON := Lib.hid hcon
      have HA1 := Lib.hid ha1
      have hsw : w.heap.size ≤ wr.heap.size := hb.size
      have HD := Lib.hid (firstErr_drop (fun t => liftR t k n) ts j hjl)
      have HMT := Lib.hid (map_take (fun t => liftR t k n) ts j hjl)
      clear h0 h1 h2 hb hb1 hcon ha1 hrd hx
      go_wp2_with fail
      refine HCON.out.mono ?_
      rintro e w3 ⟨k3, n3, ao3, m3, c3, rfl, hb3, hr3⟩
      obtain ⟨hb4, B4, -, hl4⟩ := boxed hb3 hr3
      have hal := alloc_bel w3 (.cells #[.int .i64 k3, .int .i64 n3, .slice ao3 m3 c3] 24)
      have hb5 : Below wr.heap.size wr (w3.alloc (.cells #[.int .i64 k3, .int .i64 n3, .slice ao3 m3 c3] 24)) := HA1.out.trans (hb4.mono HA1.out.size)
      have HB5 := Lib.hid hb5
      have hown := HL.out.block
      have hrx := Rd.keep (P' := fun q => w.heap.size ≤ q ∧ q < (w3.alloc (.cells #[.int .i64 k3, .int .i64 n3, .slice ao3 m3 c3] 24)).heap.size ∧ u8.ownBlock ≠ some q) (w' := w3.alloc (.cells #[.int .i64 k3, .int .i64 n3, .slice ao3 m3 c3] 24)) hr3 (fun q hq => ⟨by have h1 := hq.1; have h2 := HA1.out.size; omega, Nat.lt_of_lt_of_le hq.2 hal.size, fun e => by have h1 := (hown q e).2; have h2 := hq.1; have h3 := HA1.out.size; rw [World.size_alloc] at h2; omega⟩) (fun q hq => hal.block q hq.2)
      have HBX := Lib.hid B4
      by_cases hc : c = 0
      · subst hc
        obtain ⟨a6, c6, w6, hr6, hL6, hk6, hb6⟩ := run_one 22 HL.out hb5 (by simp; omega) hsw hrx
        obtain ⟨q0, q1, q2, -, -⟩ := three B4
        generalize ((ts.take j).map fun t => ((fun t => liftR t k n) t).1).length + 1 = Ln at hr6 hL6
        simp only [World.size_alloc] at hr6
        have HR6 := Lib.hid hr6
        have HL6 := Lib.hid hL6
        have HB6 := Lib.hid (HB.out.trans ((hb5.mono hsw).trans hb6))
        clear hb3 hr3 hb4 hb5 hrx hr6 hL6 hk6 hb6 hal hown B4 e0 e1 e2
        go_wp2_with (at_builtin; refine wpList_run_append rfl _ _ _ rfl _ _ _ rfl rfl HR6.out ?_)
        clear q0 q1 q2
        go_wp2_with fail
        go_roundw
        case rel =>
          refine ⟨j + 1, by go_num, by omega, ?_, ?_, HB6.out⟩
          · have h1 := HD.out
            rw [HX.out] at h1
            simp only [↓reduceIte] at h1
            rw [← h1, HERR.out]
          · rw [HMT.out, HX.out]; exact HL6.out
        case measure =>
          have q : (intOf (.int .i64 ((j : Int) + 1))).toNat = j + 1 := by show ((j : Int) + 1).toNat = _; omega
          have q2 : (intOf (.int .i64 (j : Int))).toNat = j := by show ((j : Int)).toNat = _; omega
          rw [q, q2]; omega
      · have hq : (c != 0) = true := by simp [hc]
        have he := HD.out
        rw [HX.out] at he
        simp only [hc, ↓reduceIte] at he
        rw [HERR.out] at he
        have e : allR (fun t => liftR t k n) ts = ([], c) := by unfold allR; rw [he, if_neg hc]
        rw [RES.out] at e
        injection e with er1 er2
        subst er1; subst er2
        have HB7 := Lib.hid (HB.out.trans (hb5.mono hsw))
        clear hb3 hr3 hb4 hb5 hrx hal hown B4 e0 e1 e2 he hc
        go_wp2_with fail
        go_ret2
        exact ⟨_, _, _, rfl, HB7.out, SubR.nil _ _ _ _ _ (Nat.zero_le _)⟩
    · have hd : ts.drop j = [] := List.drop_of_length_le (by omega)
      have ht : ts.take j = ts := List.take_of_length_le (by omega)
      have he := HERR.out
      rw [hd] at he
      have he0 : firstErr (fun t => liftR t k n) ts = 0 := he.symm
      have e : allR (fun t => liftR t k n) ts = (ts.map fun t => ((fun t => liftR t k n) t).1, 0) := by unfold allR; rw [if_pos he0]
      rw [RES.out] at e
      injection e with er1 er2
      subst er1; subst er2
      have hsh := HSH.out
      rw [ht] at HL hsh
      simp only [List.length_map] at hsh
      subst hsh
      have HTS := Lib.hid HL.out.terms
      clear hb
      go_wp2_with fail
      go_ret2
      exact ⟨_, _, _, rfl, HB.out, HTS.out⟩
end Go.Proofs.Ythjlfjaciigfiaa
