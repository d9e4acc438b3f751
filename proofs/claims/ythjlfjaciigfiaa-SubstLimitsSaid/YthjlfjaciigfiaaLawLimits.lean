/-
  SubstLimits: the walk: it returns true and writes nothing that was there. No condition.
-/
import Derived.Test.YthjlfjaciigfiaaAwake9
namespace Go.Proofs.Ythjlfjaciigfiaa
open Go.RowKit
set_option linter.unusedVariables false
set_option linter.unusedSimpArgs false

def bigN : Nat → Tm
  | 0 => .node 2 0 []
  | i + 1 => .node 5 0 [bigN i, bigN i]
/-- so many variables, applied -/
def vkN : Nat → Tm
  | 0 => .node 1 0 []
  | i + 1 => .node 5 0 [vkN i, .node 1 0 []]
def sbN (b : Tm) : Nat → Tm
  | 0 => b
  | i + 1 => .node 5 0 [sbN b i, b]
theorem bigN_facts : ∀ i, nsz (bigN i) + 1 = 2 ^ (i + 1) ∧ dep (bigN i) = i + 1 ∧ gd (bigN i) = true
  | 0 => ⟨by simp [bigN, nsz, nszL], by simp [bigN, dep, depL], by rfl⟩
  | i + 1 => by
    obtain ⟨h1, h2, h3⟩ := bigN_facts i
    refine ⟨?_, ?_, ?_⟩
    · simp only [bigN, nsz, nszL]; rw [Nat.pow_succ]; omega
    · simp only [bigN, dep, depL]; omega
    · exact (gd_bin_iff 5 _ _ (by simp)).mpr ⟨h3, h3⟩
theorem vkN_facts : ∀ i, nsz (vkN i) = 2 * i + 1 ∧ dep (vkN i) ≤ i + 1 ∧ gd (vkN i) = true
  | 0 => ⟨by simp [vkN, nsz, nszL], by simp [vkN, dep, depL], by rfl⟩
  | i + 1 => by
    obtain ⟨h1, h2, h3⟩ := vkN_facts i
    refine ⟨?_, ?_, ?_⟩
    · simp only [vkN, nsz, nszL]; omega
    · simp only [vkN, dep, depL]; omega
    · exact (gd_bin_iff 5 _ _ (by simp)).mpr ⟨h3, by rfl⟩
theorem sbN_facts (b : Tm) (hb : gd b = true) : ∀ i, nsz (sbN b i) + 1 = (i + 1) * (nsz b + 1) ∧ dep (sbN b i) ≤ i + dep b ∧ gd (sbN b i) = true ∧ mp (Fmy [b]) (vkN i) 0 = sbN b i
  | 0 => ⟨by simp [sbN], by simp [sbN], hb, by
      simp only [vkN, sbN]
      rw [my_in (i := 0) (by simp) (by simp)]
      simp only [List.getElem_cons_zero, raise]
      exact mv_zero b hb 0⟩
  | i + 1 => by
    obtain ⟨h1, h2, h3, h4⟩ := sbN_facts b hb i
    refine ⟨?_, ?_, ?_, ?_⟩
    · simp only [sbN, nsz, nszL]; rw [Nat.succ_mul]; omega
    · have := dep_pos b; simp only [sbN, dep, depL]; omega
    · exact (gd_bin_iff 5 _ _ (by simp)).mpr ⟨h3, hb⟩
    · simp only [vkN, sbN]
      rw [mp_bin _ _ _ _ _ (leafy_my _ _ _ _ (by omega) (by omega)), h4]
      have h5 : bn 5 1 = 0 := by decide
      rw [h5, my_in (i := 0) (by simp) (by simp)]
      simp only [List.getElem_cons_zero, raise]
      rw [show (0 : Int) + 0 = 0 from rfl, mv_zero b hb 0]
/-- what putting the great one in answers -/
theorem limits_cases (i : Nat) (hi : i ≤ 12) : (8192 < 1024 * (i + 1) - 1 ∧ manyR (vkN i) [bigN 9] = (tm0, 2)) ∨ (¬ 8192 < 1024 * (i + 1) - 1 ∧ ∃ x, manyR (vkN i) [bigN 9] = (x, 0) ∧ nsz x = 1024 * (i + 1) - 1) := by
  obtain ⟨b1, b2, b3⟩ := bigN_facts 9
  obtain ⟨v1, v2, v3⟩ := vkN_facts i
  obtain ⟨s1, s2, s3, s4⟩ := sbN_facts (bigN 9) b3 i
  have hb : nsz (bigN 9) = 1023 := by omega
  have hsb : Shp (bigN 9) = true := by rw [Shp_iff]; exact ⟨by omega, by omega, b3⟩
  have hsv : Shp (vkN i) = true := by rw [Shp_iff]; exact ⟨by omega, by omega, v3⟩
  have hs : nsz (sbN (bigN 9) i) = 1024 * (i + 1) - 1 := by rw [hb] at s1; omega
  have e : manyR (vkN i) [bigN 9] = subR (Fmy [bigN 9]) (vkN i) := by unfold manyR; rw [if_pos ⟨hsv, by simp [hsb]⟩]
  rw [e]
  unfold subR
  rw [s4]
  by_cases h : 8192 < 1024 * (i + 1) - 1
  · left
    refine ⟨h, ?_⟩
    rw [if_neg (fun q => by have := ((Shp_iff _).mp q).1; omega)]
  · right
    refine ⟨h, sbN (bigN 9) i, ?_, hs⟩
    rw [if_pos ((Shp_iff _).mpr ⟨by omega, by omega, s3⟩)]

set_option maxRecDepth 100000 in
set_option maxHeartbeats 4000000 in
theorem substLimits_walk (more : Int) (w : World) (hm : (Lit.int .u8 more).wf = true) :
    Calls Try.prog 13 #[.int .u8 more] w fun e w' => e = .returned (.bool true) ∧ Below w.heap.size w w' := by
  obtain ⟨hm0, hm1⟩ := u8_wf hm
  clear hm
  go_enter Try.func13, Try.ntmps13
  go_wp2_with fail
  obtain ⟨r, hr, hr8⟩ : ∃ r : Nat, more % 9 = r ∧ r ≤ 8 := ⟨(more % 9).toNat, by omega, by omega⟩
  have hr0 : (0 : Int) ≤ (r : Int) := Int.natCast_nonneg _
  simp only [hr]
  have HR := Lib.hid hr
  clear hr
  have HG0 := Lib.hid (heap_new w (.cells #[.int .i64 2, .int .i64 0, .slice none 0 0] 24) _ rfl)
  have HB0 := Lib.hid (alloc_bel w (.cells #[.int .i64 2, .int .i64 0, .slice none 0 0] 24))
  go_loopw [5] (fun iv wr => ∃ (j : Nat) (k n : Int) (ao : Option Addr) (m c : Nat), iv = .int .i64 j ∧ j ≤ 9 ∧ wr.heap[w.heap.size]? = some (.cells #[.int .i64 k, .int .i64 n, .slice ao m c] 24) ∧ Rd (fun q => q < wr.heap.size ∧ q ≠ w.heap.size) wr (.agg #[.int .i64 k, .int .i64 n, .slice ao m c]) (bigN j) ∧ Below w.heap.size w wr) (fun iv _ => 9 - (intOf iv).toNat)
  case atStart => exact ⟨0, _, _, _, _, _, by go_num, Nat.zero_le _, HG0.out, Rd.leaf _ _ _ _ _ _ (Nat.zero_le _) (by omega) (by omega), HB0.out⟩
  case round =>
    obtain ⟨j, k, n, ao, m, c, rfl, hj, hG, hrd, hb⟩ := hrel
    have HG := Lib.hid hG
    have HRD := Lib.hid hrd
    have HB := Lib.hid hb
    clear HG0 HB0 hrd hb
    obtain ⟨g0, g1, g2, gf, gl⟩ := three hG
    clear hG
    by_cases hjl : j < 9
    · have hji : (j : Int) < 9 := by omega
      have hj0 : (0 : Int) ≤ (j : Int) := Int.natCast_nonneg _
      go_wp2_with fail
      refine (Two_w 5 (by omega) _ _ (bigN j) (bigN j) wr (fun q => q < wr.heap.size ∧ q ≠ w.heap.size) (fun q hq => hq.1) HRD.out HRD.out).mono ?_
      rintro e w3 ⟨k3, n3, ao3, m3, c3, rfl, hb3, hr3⟩
      have HG3 := (hb3.block _ gl).trans HG.out
      have HR3 := Lib.hid (hr3.keep (P' := fun q => q < w3.heap.size ∧ q ≠ w.heap.size) (fun q hq => by
        rcases hq with h | h
        · exact ⟨Nat.lt_of_lt_of_le h.1 hb3.size, h.2⟩
        · exact ⟨h.2, by have := h.1; omega⟩) fun _ _ => rfl)
      have HB3 := Lib.hid (HB.out.trans (hb3.mono HB.out.size))
      have hX := set3_blk (a := .int .i64 k3) (b := .int .i64 n3) (c := .slice ao3 m3 c3) HG3
      have hof := set3_off w3 w.heap.size (.int .i64 k3) (.int .i64 n3) (.slice ao3 m3 c3)
      have HX := Lib.hid hX
      have HOF := Lib.hid hof
      clear hb3 hr3 hX hof g0 g1 g2 gf gl
      obtain ⟨g0, g1, g2, gf, gl⟩ := three HG3
      clear HG3
      go_wp2_with fail
      go_roundw
      case rel =>
        refine ⟨j + 1, _, _, _, _, _, by go_num, by omega, HX.out, HR3.out.keep (fun q hq => ⟨by rw [set3_size]; exact hq.1, hq.2⟩) fun q hq => HOF.out q hq.2, ((HB3.out.setCell (by simp only []; omega) _).setCell (by simp only []; omega) _).setCell (by simp only []; omega) _⟩
      case measure =>
        have q : (intOf (.int .i64 ((j : Int) + 1))).toNat = j + 1 := by show ((j : Int) + 1).toNat = _; omega
        have q2 : (intOf (.int .i64 (j : Int))).toNat = j := by show ((j : Int)).toNat = _; omega
        rw [q, q2]; omega
    · have hj9 : j = 9 := by omega
      subst hj9
      simp only [show ((9 : Nat) : Int) = 9 from rfl]
      obtain ⟨w1, rfl⟩ : ∃ w1, w1 = wr := ⟨wr, rfl⟩
      have hal := alloc_bel w1 (.cells #[.int .i64 1, .int .i64 0, .slice none 0 0] 24)
      have HT0 := Lib.hid (heap_new w1 (.cells #[.int .i64 1, .int .i64 0, .slice none 0 0] 24) _ rfl)
      have HAL := Lib.hid hal
      have hlw : w.heap.size < w1.heap.size := gl
      clear hal
      go_wp2_with fail
      clear g0 g1 g2 gf gl
      go_loopw [7] (fun iv wq => ∃ (j : Nat) (k n : Int) (ao : Option Addr) (m c : Nat), iv = .int .i64 j ∧ (1 ≤ j ∧ j ≤ r + 5) ∧ wq.heap[w1.heap.size]? = some (.cells #[.int .i64 k, .int .i64 n, .slice ao m c] 24) ∧ Rd (fun q => q < wq.heap.size ∧ q ≠ w1.heap.size) wq (.agg #[.int .i64 k, .int .i64 n, .slice ao m c]) (vkN (j - 1)) ∧ Below w1.heap.size w1 wq) (fun iv _ => 20 - (intOf iv).toNat)
      case atStart => exact ⟨1, _, _, _, _, _, by go_num, by omega, HT0.out, Rd.leaf _ _ _ _ _ _ (Nat.zero_le _) (by omega) (by omega), HAL.out⟩
      case round =>
        obtain ⟨j, k2, n2, ao2, m2, c2, rfl, hj2, hT, hrd2, hb2⟩ := hrel
        have HT := Lib.hid hT
        have HRD2 := Lib.hid hrd2
        have HB2 := Lib.hid hb2
        have hsz2 : w1.heap.size ≤ wr.heap.size := hb2.size
        clear HT0 HAL hrd2 hb2
        obtain ⟨t0, t1, t2, tf, tl⟩ := three hT
        clear hT
        have hj0 : (0 : Int) ≤ (j : Int) := Int.natCast_nonneg _
        by_cases hjl : j < r + 5
        · have hji : (j : Int) < 5 + (r : Int) := by omega
          have hjv : vkN j = .node 5 0 [vkN (j - 1), .node 1 0 []] := by obtain ⟨i, rfl⟩ : ∃ i, j = i + 1 := ⟨j - 1, by omega⟩; rfl
          have HJV := Lib.hid hjv
          clear hjv
          go_wp2_with fail
          refine (Two_w 5 (by omega) _ _ (vkN (j - 1)) (.node 1 0 []) wr (fun q => q < wr.heap.size ∧ q ≠ w1.heap.size) (fun q hq => hq.1) HRD2.out (Rd.leaf _ _ _ _ _ _ (Nat.zero_le _) (by omega) (by omega))).mono ?_
          rintro e w3 ⟨k3, n3, ao3, m3, c3, rfl, hb3, hr3⟩
          have HT3 := (hb3.block _ tl).trans HT.out
          have HR3 := Lib.hid (hr3.keep (P' := fun q => q < w3.heap.size ∧ q ≠ w1.heap.size) (fun q hq => by
            rcases hq with h | h
            · exact ⟨Nat.lt_of_lt_of_le h.1 hb3.size, h.2⟩
            · exact ⟨h.2, by have := h.1; omega⟩) fun _ _ => rfl)
          have HB3 := Lib.hid (HB2.out.trans (hb3.mono HB2.out.size))
          have HX := Lib.hid (set3_blk (a := .int .i64 k3) (b := .int .i64 n3) (c := .slice ao3 m3 c3) HT3)
          have HOF := Lib.hid (set3_off w3 w1.heap.size (.int .i64 k3) (.int .i64 n3) (.slice ao3 m3 c3))
          clear hb3 hr3 t0 t1 t2 tf tl
          obtain ⟨t0, t1, t2, tf, tl⟩ := three HT3
          clear HT3
          go_wp2_with fail
          go_roundw
          case rel =>
            refine ⟨j + 1, _, _, _, _, _, by go_num, by omega, HX.out, by rw [Nat.add_sub_cancel, HJV.out]; exact HR3.out.keep (fun q hq => ⟨by rw [set3_size]; exact hq.1, hq.2⟩) fun q hq => HOF.out q hq.2, ((HB3.out.setCell (by simp only []; omega) _).setCell (by simp only []; omega) _).setCell (by simp only []; omega) _⟩
          case measure =>
            have q : (intOf (.int .i64 ((j : Int) + 1))).toNat = j + 1 := by show ((j : Int) + 1).toNat = _; omega
            have q2 : (intOf (.int .i64 (j : Int))).toNat = j := by show ((j : Int)).toNat = _; omega
            rw [q, q2]; omega
        · have hjr : j = r + 5 := by omega
          subst hjr
          have hjn : ((r + 5 : Nat) : Int) = (r : Int) + 5 := by omega
          obtain ⟨x, c, hx⟩ : ∃ x c, manyR (vkN (r + 4)) [bigN 9] = (x, c) := ⟨_, _, rfl⟩
          have hcs := limits_cases (r + 4) (by omega)
          rw [hx] at hcs
          have HX := Lib.hid hx
          have HCS := Lib.hid hcs
          clear hx hcs
          have hGr := (HB2.out.block _ hlw).trans HG.out
          obtain ⟨g0, g1, g2, gf, gl⟩ := three hGr
          have hcon := One_q HX.out (HRD.out.keep (P' := (· < wr.heap.size)) (w' := wr) (fun q hq => Nat.lt_of_lt_of_le hq.1 hsz2) fun q hq => HB2.out.block q hq.1) (HRD2.out.keep (P' := (· < wr.heap.size)) (fun q hq => hq.1) fun _ _ => rfl)
          have HCON := Lib.hid hcon
          clear hcon hGr
          go_wp2_with fail
          refine HCON.out.mono ?_
          rintro e w4 ⟨k4, n4, ao4, m4, c4, rfl, hb4, hr4⟩
          obtain ⟨hb5, B5, R5, -⟩ := boxed hb4 hr4
          have HB5 := Lib.hid ((HB.out.trans (HB2.out.mono (by omega))).trans (hb5.mono (by omega)))
          have HR5 := Lib.hid R5
          obtain ⟨_, _, hsh⟩ := hr4.shape
          clear hb4 hr4 hb5 R5 t0 t1 t2 tf tl g0 g1 g2 gf gl
          obtain ⟨x0, x1, x2, xf, -⟩ := three B5
          clear B5
          rcases HCS.out with ⟨hbig, he⟩ | ⟨hbig, y, he, hsz⟩
          · injection he with he1 he2
            subst he1; subst he2
            injection hsh with hsh; injection hsh with hsh
            injection hsh with hs0 hsh
            injection hs0 with _ hs0
            simp only [tm0, Tm.kind] at hs0
            subst hs0
            clear hsh
            have hb6 : decide ((8192 : Int) < (5 + (r : Int)) * 1023 + (5 + (r : Int)) - 1) = true := by simp; omega
            go_wp2_with fail
            refine (awake49_w _).mono ?_
            rintro e w6 ⟨rfl, hb⟩
            have HB6 := Lib.hid (HB5.out.trans (hb.mono HB5.out.size))
            clear hb x0 x1 x2 xf
            go_wp2_with fail
            go_ret
            exact ⟨rfl, HB6.out⟩
          · injection he with he1 he2
            subst he1; subst he2
            clear hsh
            have hb6 : decide ((8192 : Int) < (5 + (r : Int)) * 1023 + (5 + (r : Int)) - 1) = false := by simp; omega
            have hs6 : ((min (nsz x) 8193 : Nat) : Int) = (5 + (r : Int)) * 1023 + (5 + (r : Int)) - 1 := by omega
            have hs := refSize_r HR5.out
            rw [hs6] at hs
            have HS := Lib.hid hs
            clear hs hs6
            go_wp2_with fail
            refine HS.out.mono ?_
            rintro e w6 ⟨rfl, hb⟩
            have HB6 := Lib.hid (HB5.out.trans (hb.mono HB5.out.size))
            clear hb x0 x1 x2 xf
            go_wp2_with fail
            refine (awake49_w _).mono ?_
            rintro e w7 ⟨rfl, hb⟩
            have HB7 := Lib.hid (HB6.out.trans (hb.mono HB6.out.size))
            clear hb
            go_wp2_with fail
            go_ret
            exact ⟨rfl, HB7.out⟩
end Go.Proofs.Ythjlfjaciigfiaa
