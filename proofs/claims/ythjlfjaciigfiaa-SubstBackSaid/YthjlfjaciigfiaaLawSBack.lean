/-
  SubstBack: the walk: it returns true and writes nothing that was there. No condition but that the argument reads as a term.
-/
import Derived.Test.YthjlfjaciigfiaaNumbers
namespace Go.Proofs.Ythjlfjaciigfiaa
open Go.RowKit
set_option linter.unusedVariables false
set_option linter.unusedSimpArgs false

theorem bindR_ok {t a : Tm} {n : Int} (h : bindR t n = (a, 0)) : Shp t = true ∧ fit n = true ∧ a = mp (Fbd n) t 0 ∧ Shp a = true := by
  unfold bindR at h
  by_cases h1 : Shp t = true ∧ fit n = true
  · rw [if_pos h1] at h
    unfold subR at h
    by_cases h2 : Shp (mp (Fbd n) t 0) = true
    · rw [if_pos h2] at h
      injection h with e1 e2
      subst e1
      exact ⟨h1.1, h1.2, rfl, h2⟩
    · rw [if_neg h2] at h; injection h with e1 e2; omega
  · rw [if_neg h1] at h; injection h with e1 e2; omega
theorem free_shp {n : Int} (h : 0 ≤ n ∧ n ≤ 1048576) : Shp (free n) = true := by
  rw [Shp_iff]
  refine ⟨by simp [free, nsz, nszL], by simp [free, dep, depL], (gd_leaf_iff 8 n (by simp)).mpr ⟨h.1, by rw [show mostOf 8 = 1048576 by decide]; exact h.2⟩⟩
theorem back_1st {t a : Tm} {n : Int} (h : bindR t n = (a, 0)) : manyR a [free n] = (t, 0) := by
  obtain ⟨h1, h2, rfl, h4⟩ := bindR_ok h
  have hn := (fit_iff n).mp h2
  unfold manyR subR
  rw [if_pos ⟨h4, by simp [free_shp ⟨hn.1, hn.2⟩]⟩, bd_open n t ((Shp_iff t).mp h1).2.2, if_pos h1]
theorem back_2nd {t : Tm} (hs : Shp t = true) (hf : hasF 300 t = false) : ∃ c, manyR t [free 300] = (c, 0) ∧ bindR c 300 = (t, 0) := by
  have hg := ((Shp_iff t).mp hs)
  obtain ⟨q1, q2, q3⟩ := open_size 300 ⟨by omega, by omega⟩ t hg.2.2 0 (by omega)
  have hc : Shp (mp (Fmy [free 300]) t 0) = true := by rw [Shp_iff, q1, q2]; exact ⟨hg.1, hg.2.1, q3⟩
  refine ⟨mp (Fmy [free 300]) t 0, ?_, ?_⟩
  · unfold manyR subR
    rw [if_pos ⟨hs, by simp [free_shp (n := 300) ⟨by omega, by omega⟩]⟩, if_pos hc]
  · unfold bindR subR
    rw [if_pos ⟨hc, by decide⟩, open_bd 300 t hg.2.2 hf 0 (by omega), if_pos hs]
set_option maxRecDepth 100000 in
set_option maxHeartbeats 4000000 in
theorem substBack_walk (v : Value) (t : Tm) (n : Int) (w : World) (hr : Rd (· < w.heap.size) w v t) (hn : (Lit.int .u8 n).wf = true) :
    Calls Try.prog 17 #[v, .int .u8 n] w fun e w' => e = .returned (.bool true) ∧ Below w.heap.size w w' := by
  obtain ⟨hn0, hn1⟩ := u8_wf hn
  obtain ⟨a, ca, hA⟩ : ∃ a c, bindR t n = (a, c) := ⟨_, _, rfl⟩
  obtain ⟨y, hy⟩ : ∃ y, y = Shp t := ⟨_, rfl⟩
  have HY := Lib.hid hy
  clear hy hn
  by_cases hc : ca = 0
  · skip
    subst hc
    have hyt : y = true := by have := (bindR_ok hA).1; rw [HY.out, this]
    subst hyt
    have HA := Lib.hid hA
    have HO := Lib.hid (back_1st hA)
    clear hA
    obtain ⟨ot, cot, rfl⟩ := hr.shape
    obtain ⟨W, hW⟩ : ∃ W, W = w.alloc (.cells #[.int .i64 t.kind, .int .i64 t.num, .slice ot t.sub.length cot] 24) := ⟨_, rfl⟩
    have hb0 : Below w.heap.size w W := by rw [hW]; exact ((Below.refl _ _).alloc (Nat.le_refl _) _)
    have FB := Lib.hid hb0
    have Qt := Lib.hid (show W.heap[w.heap.size]? = some (.cells #[.int .i64 t.kind, .int .i64 t.num, .slice ot t.sub.length cot] 24) by rw [hW]; exact heap_new _ _ _ (by first | rfl | simp only [World.size_alloc]))
    have Tt := Lib.hid (hr.on hb0)
    clear hr
    have HW := Lib.hid hW
    clear hb0 hW
    go_enter Try.func17, Try.ntmps17
    go_wp2_with fail
    rw [← HW.out]
    refine (Bind_q HA.out Tt.out).mono ?_
    rintro e w1 ⟨k1, n1, ao1, m1, c1, rfl, hb, hr⟩
    obtain ⟨hb1, B1, R1, -⟩ := boxed hb hr
    clear hb hr
    replace FB := Lib.hid (FB.out.trans (hb1.mono FB.out.size))
    replace Qt := Lib.hid ((hb1.block _ (blt Qt.out)).trans Qt.out)
    replace Tt := Lib.hid (Tt.out.on hb1)
    replace B1 := Lib.hid B1
    replace R1 := Lib.hid R1
    clear hb1
    obtain ⟨B10, B11, B12, B1f, -⟩ := three B1.out
    go_wp2_with fail
    clear B10 B11 B12 B1f
    refine (Open_q HO.out (by omega) R1.out).mono ?_
    rintro e w2 ⟨k2, n2, ao2, m2, c2, rfl, hb, hr⟩
    obtain ⟨hb2, B2, R2, -⟩ := boxed hb hr
    clear hb hr
    replace FB := Lib.hid (FB.out.trans (hb2.mono FB.out.size))
    replace Qt := Lib.hid ((hb2.block _ (blt Qt.out)).trans Qt.out)
    replace Tt := Lib.hid (Tt.out.on hb2)
    replace B1 := Lib.hid ((hb2.block _ (blt B1.out)).trans B1.out)
    replace R1 := Lib.hid (R1.out.on hb2)
    replace B2 := Lib.hid B2
    replace R2 := Lib.hid R2
    clear hb2
    obtain ⟨Qt0, Qt1, Qt2, Qtf, -⟩ := three Qt.out
    go_wp2_with fail
    clear Qt0 Qt1 Qt2 Qtf
    refine (same52_q 0 R2.out Tt.out).mono ?_
    rintro e w3 ⟨rfl, hb⟩
    replace FB := Lib.hid (FB.out.trans (hb.mono FB.out.size))
    replace Qt := Lib.hid ((hb.block _ (blt Qt.out)).trans Qt.out)
    replace Tt := Lib.hid (Tt.out.on hb)
    replace B1 := Lib.hid ((hb.block _ (blt B1.out)).trans B1.out)
    replace R1 := Lib.hid (R1.out.on hb)
    replace B2 := Lib.hid ((hb.block _ (blt B2.out)).trans B2.out)
    replace R2 := Lib.hid (R2.out.on hb)
    clear hb
    obtain ⟨Qt0, Qt1, Qt2, Qtf, -⟩ := three Qt.out
    go_wp2_with fail
    clear Qt0 Qt1 Qt2 Qtf
    have hs := refShaped_r Tt.out
    rw [← HY.out] at hs
    refine (hs).mono ?_
    rintro e w4 ⟨rfl, hb⟩
    replace FB := Lib.hid (FB.out.trans (hb.mono FB.out.size))
    replace Qt := Lib.hid ((hb.block _ (blt Qt.out)).trans Qt.out)
    replace Tt := Lib.hid (Tt.out.on hb)
    replace B1 := Lib.hid ((hb.block _ (blt B1.out)).trans B1.out)
    replace R1 := Lib.hid (R1.out.on hb)
    replace B2 := Lib.hid ((hb.block _ (blt B2.out)).trans B2.out)
    replace R2 := Lib.hid (R2.out.on hb)
    clear hb
    obtain ⟨Qt0, Qt1, Qt2, Qtf, -⟩ := three Qt.out
    go_wp2_with fail
    clear Qt0 Qt1 Qt2 Qtf
    have hsh := (Shp_iff t).mp HY.out.symm
    refine (Numbers_w (dep t) _ t _ Tt.out.fit hsh.2.2 (by omega)).mono ?_
    rintro e w5 ⟨a9, m9, c9, ys, rfl, hb, hrow, hmem, hyl⟩
    obtain ⟨a9', c9', hv9, hyc, hyc2, hel⟩ := hrow.get
    injection hv9 with hv1 hv2 hv3
    subst hv1; subst hv2; subst hv3
    have HEL := Lib.hid hel
    have HMEM := Lib.hid hmem
    have hyb : ys.length ≤ 8192 := by have := hsh.1; omega
    have HSH := Lib.hid hsh
    clear hel hmem hrow hsh
    replace FB := Lib.hid (FB.out.trans (hb.mono FB.out.size))
    replace Qt := Lib.hid ((hb.block _ (blt Qt.out)).trans Qt.out)
    replace Tt := Lib.hid (Tt.out.on hb)
    replace B1 := Lib.hid ((hb.block _ (blt B1.out)).trans B1.out)
    replace R1 := Lib.hid (R1.out.on hb)
    replace B2 := Lib.hid ((hb.block _ (blt B2.out)).trans B2.out)
    replace R2 := Lib.hid (R2.out.on hb)
    clear hb
    go_wp2_with fail
    have HST := Lib.hid (Below.refl w5.heap.size w5)
    go_loopw [10] (fun i wr => ∃ j : Nat, i = .int .i64 j ∧ j ≤ ys.length ∧ (∀ q (h : q < ys.length), q < j → ys[q] ≠ 300) ∧ Below w5.heap.size w5 wr) (fun i _ => ys.length - (intOf i).toNat)
    case atStart => exact ⟨0, rfl, Nat.zero_le _, fun q _ h => absurd h (Nat.not_lt_zero _), HST.out⟩
    case round =>
      obtain ⟨j, rfl, hj, hno, hb⟩ := hrel
      have HNO := Lib.hid hno
      have HBr := Lib.hid hb
      clear hno HST
      replace FB := Lib.hid (FB.out.trans (hb.mono FB.out.size))
      replace Qt := Lib.hid ((hb.block _ (blt Qt.out)).trans Qt.out)
      replace Tt := Lib.hid (Tt.out.on hb)
      replace B1 := Lib.hid ((hb.block _ (blt B1.out)).trans B1.out)
      replace R1 := Lib.hid (R1.out.on hb)
      replace B2 := Lib.hid ((hb.block _ (blt B2.out)).trans B2.out)
      replace R2 := Lib.hid (R2.out.on hb)
      by_cases hjl : j < ys.length
      · skip
        obtain ⟨b, off, rfl, hP, h0⟩ := HEL.out j hjl
        have e0 := (hb.cell (p := ⟨b, off + j, none⟩) hP.2).trans h0
        have hbw : b < wr.heap.size := Nat.lt_of_lt_of_le hP.2 hb.size
        have hji : (j : Int) < (ys.length : Int) := by omega
        have hj0 : (0 : Int) ≤ (j : Int) := Int.natCast_nonneg _
        clear h0 hb
        by_cases h3 : ys[j] = 300
        · skip
          have hq : (ys[j] == 300) = true := by simp [h3]
          clear h3
          go_wp2_with fail
          refine (awake49_w _).mono ?_
          rintro e w6 ⟨rfl, hb⟩
          replace FB := Lib.hid (FB.out.trans (hb.mono FB.out.size))
          replace Qt := Lib.hid ((hb.block _ (blt Qt.out)).trans Qt.out)
          replace Tt := Lib.hid (Tt.out.on hb)
          replace B1 := Lib.hid ((hb.block _ (blt B1.out)).trans B1.out)
          replace R1 := Lib.hid (R1.out.on hb)
          replace B2 := Lib.hid ((hb.block _ (blt B2.out)).trans B2.out)
          replace R2 := Lib.hid (R2.out.on hb)
          replace HBr := Lib.hid (HBr.out.trans (hb.mono HBr.out.size))
          clear hb
          go_wp2_with fail
          go_ret
          exact ⟨rfl, FB.out⟩
        · skip
          have hq : (ys[j] == 300) = false := by simp [h3]
          have H3 := Lib.hid h3
          clear h3
          go_wp2_with fail
          go_roundw
          case rel =>
            refine ⟨j + 1, by go_num, by omega, fun q h hq => ?_, HBr.out⟩
            by_cases e : q = j
            · subst e; exact H3.out
            · exact HNO.out q h (by omega)
          case measure =>
            have q : (intOf (.int .i64 ((j : Int) + 1))).toNat = j + 1 := by show ((j : Int) + 1).toNat = _; omega
            have q2 : (intOf (.int .i64 (j : Int))).toNat = j := by show ((j : Int)).toNat = _; omega
            rw [q, q2]; omega
      · skip
        have hf : hasF 300 t = false := by
          rw [Bool.eq_false_iff, Ne, ← HMEM.out 300]
          intro hm
          obtain ⟨q, hq, e⟩ := List.getElem_of_mem hm
          exact HNO.out q hq (by omega) e
        obtain ⟨c, hc1, hc2⟩ := back_2nd HY.out.symm hf
        have HC1 := Lib.hid hc1
        have HC2 := Lib.hid hc2
        clear hf hc1 hc2 hb
        obtain ⟨Qt0, Qt1, Qt2, Qtf, -⟩ := three Qt.out
        go_wp2_with fail
        clear Qt0 Qt1 Qt2 Qtf
        refine (Open_q HC1.out (by omega) Tt.out).mono ?_
        rintro e w7 ⟨k7, n7, ao7, m7, c7, rfl, hb, hr⟩
        obtain ⟨hb7, B7, R7, -⟩ := boxed hb hr
        clear hb hr
        replace FB := Lib.hid (FB.out.trans (hb7.mono FB.out.size))
        replace Qt := Lib.hid ((hb7.block _ (blt Qt.out)).trans Qt.out)
        replace Tt := Lib.hid (Tt.out.on hb7)
        replace B1 := Lib.hid ((hb7.block _ (blt B1.out)).trans B1.out)
        replace R1 := Lib.hid (R1.out.on hb7)
        replace B2 := Lib.hid ((hb7.block _ (blt B2.out)).trans B2.out)
        replace R2 := Lib.hid (R2.out.on hb7)
        replace HBr := Lib.hid (HBr.out.trans (hb7.mono HBr.out.size))
        replace B7 := Lib.hid B7
        replace R7 := Lib.hid R7
        clear hb7
        obtain ⟨B70, B71, B72, B7f, -⟩ := three B7.out
        go_wp2_with fail
        clear B70 B71 B72 B7f
        refine (Bind_q HC2.out R7.out).mono ?_
        rintro e w8 ⟨k8, n8, ao8, m8, c8, rfl, hb, hr⟩
        obtain ⟨hb8, B8, R8, -⟩ := boxed hb hr
        clear hb hr
        replace FB := Lib.hid (FB.out.trans (hb8.mono FB.out.size))
        replace Qt := Lib.hid ((hb8.block _ (blt Qt.out)).trans Qt.out)
        replace Tt := Lib.hid (Tt.out.on hb8)
        replace B1 := Lib.hid ((hb8.block _ (blt B1.out)).trans B1.out)
        replace R1 := Lib.hid (R1.out.on hb8)
        replace B2 := Lib.hid ((hb8.block _ (blt B2.out)).trans B2.out)
        replace R2 := Lib.hid (R2.out.on hb8)
        replace HBr := Lib.hid (HBr.out.trans (hb8.mono HBr.out.size))
        replace B7 := Lib.hid ((hb8.block _ (blt B7.out)).trans B7.out)
        replace R7 := Lib.hid (R7.out.on hb8)
        replace B8 := Lib.hid B8
        replace R8 := Lib.hid R8
        clear hb8
        obtain ⟨Qt0, Qt1, Qt2, Qtf, -⟩ := three Qt.out
        go_wp2_with fail
        clear Qt0 Qt1 Qt2 Qtf
        refine (same52_q 0 R8.out Tt.out).mono ?_
        rintro e w9 ⟨rfl, hb⟩
        replace FB := Lib.hid (FB.out.trans (hb.mono FB.out.size))
        replace Qt := Lib.hid ((hb.block _ (blt Qt.out)).trans Qt.out)
        replace Tt := Lib.hid (Tt.out.on hb)
        replace B1 := Lib.hid ((hb.block _ (blt B1.out)).trans B1.out)
        replace R1 := Lib.hid (R1.out.on hb)
        replace B2 := Lib.hid ((hb.block _ (blt B2.out)).trans B2.out)
        replace R2 := Lib.hid (R2.out.on hb)
        replace HBr := Lib.hid (HBr.out.trans (hb.mono HBr.out.size))
        replace B7 := Lib.hid ((hb.block _ (blt B7.out)).trans B7.out)
        replace R7 := Lib.hid (R7.out.on hb)
        replace B8 := Lib.hid ((hb.block _ (blt B8.out)).trans B8.out)
        replace R8 := Lib.hid (R8.out.on hb)
        clear hb
        go_wp2_with fail
        refine (awake49_w _).mono ?_
        rintro e w10 ⟨rfl, hb⟩
        replace FB := Lib.hid (FB.out.trans (hb.mono FB.out.size))
        replace Qt := Lib.hid ((hb.block _ (blt Qt.out)).trans Qt.out)
        replace Tt := Lib.hid (Tt.out.on hb)
        replace B1 := Lib.hid ((hb.block _ (blt B1.out)).trans B1.out)
        replace R1 := Lib.hid (R1.out.on hb)
        replace B2 := Lib.hid ((hb.block _ (blt B2.out)).trans B2.out)
        replace R2 := Lib.hid (R2.out.on hb)
        replace HBr := Lib.hid (HBr.out.trans (hb.mono HBr.out.size))
        replace B7 := Lib.hid ((hb.block _ (blt B7.out)).trans B7.out)
        replace R7 := Lib.hid (R7.out.on hb)
        replace B8 := Lib.hid ((hb.block _ (blt B8.out)).trans B8.out)
        replace R8 := Lib.hid (R8.out.on hb)
        clear hb
        go_wp2_with fail
        go_ret
        exact ⟨rfl, FB.out⟩
  · skip
    have HA := Lib.hid hA
    have hq0 : (ca == 0) = false := by simp [hc]
    clear hA hc
    cases y
    · skip
      obtain ⟨ot, cot, rfl⟩ := hr.shape
      obtain ⟨W, hW⟩ : ∃ W, W = w.alloc (.cells #[.int .i64 t.kind, .int .i64 t.num, .slice ot t.sub.length cot] 24) := ⟨_, rfl⟩
      have hb0 : Below w.heap.size w W := by rw [hW]; exact ((Below.refl _ _).alloc (Nat.le_refl _) _)
      have FB := Lib.hid hb0
      have Qt := Lib.hid (show W.heap[w.heap.size]? = some (.cells #[.int .i64 t.kind, .int .i64 t.num, .slice ot t.sub.length cot] 24) by rw [hW]; exact heap_new _ _ _ (by first | rfl | simp only [World.size_alloc]))
      have Tt := Lib.hid (hr.on hb0)
      clear hr
      have HW := Lib.hid hW
      clear hb0 hW
      go_enter Try.func17, Try.ntmps17
      go_wp2_with fail
      rw [← HW.out]
      refine (Bind_q HA.out Tt.out).mono ?_
      rintro e w1 ⟨k1, n1, ao1, m1, c1, rfl, hb, hr⟩
      obtain ⟨hb1, B1, R1, -⟩ := boxed hb hr
      clear hb hr
      replace FB := Lib.hid (FB.out.trans (hb1.mono FB.out.size))
      replace Qt := Lib.hid ((hb1.block _ (blt Qt.out)).trans Qt.out)
      replace Tt := Lib.hid (Tt.out.on hb1)
      replace B1 := Lib.hid B1
      replace R1 := Lib.hid R1
      clear hb1
      obtain ⟨Qt0, Qt1, Qt2, Qtf, -⟩ := three Qt.out
      go_wp2_with fail
      clear Qt0 Qt1 Qt2 Qtf
      have hs := refShaped_r Tt.out
      rw [← HY.out] at hs
      refine (hs).mono ?_
      rintro e w2 ⟨rfl, hb⟩
      replace FB := Lib.hid (FB.out.trans (hb.mono FB.out.size))
      replace Qt := Lib.hid ((hb.block _ (blt Qt.out)).trans Qt.out)
      replace Tt := Lib.hid (Tt.out.on hb)
      replace B1 := Lib.hid ((hb.block _ (blt B1.out)).trans B1.out)
      replace R1 := Lib.hid (R1.out.on hb)
      clear hb
      go_wp2_with fail
      refine (awake49_w _).mono ?_
      rintro e w3 ⟨rfl, hb⟩
      replace FB := Lib.hid (FB.out.trans (hb.mono FB.out.size))
      replace Qt := Lib.hid ((hb.block _ (blt Qt.out)).trans Qt.out)
      replace Tt := Lib.hid (Tt.out.on hb)
      replace B1 := Lib.hid ((hb.block _ (blt B1.out)).trans B1.out)
      replace R1 := Lib.hid (R1.out.on hb)
      clear hb
      go_wp2_with fail
      go_ret
      exact ⟨rfl, FB.out⟩
    · skip
      obtain ⟨ot, cot, rfl⟩ := hr.shape
      obtain ⟨W, hW⟩ : ∃ W, W = w.alloc (.cells #[.int .i64 t.kind, .int .i64 t.num, .slice ot t.sub.length cot] 24) := ⟨_, rfl⟩
      have hb0 : Below w.heap.size w W := by rw [hW]; exact ((Below.refl _ _).alloc (Nat.le_refl _) _)
      have FB := Lib.hid hb0
      have Qt := Lib.hid (show W.heap[w.heap.size]? = some (.cells #[.int .i64 t.kind, .int .i64 t.num, .slice ot t.sub.length cot] 24) by rw [hW]; exact heap_new _ _ _ (by first | rfl | simp only [World.size_alloc]))
      have Tt := Lib.hid (hr.on hb0)
      clear hr
      have HW := Lib.hid hW
      clear hb0 hW
      go_enter Try.func17, Try.ntmps17
      go_wp2_with fail
      rw [← HW.out]
      refine (Bind_q HA.out Tt.out).mono ?_
      rintro e w1 ⟨k1, n1, ao1, m1, c1, rfl, hb, hr⟩
      obtain ⟨hb1, B1, R1, -⟩ := boxed hb hr
      clear hb hr
      replace FB := Lib.hid (FB.out.trans (hb1.mono FB.out.size))
      replace Qt := Lib.hid ((hb1.block _ (blt Qt.out)).trans Qt.out)
      replace Tt := Lib.hid (Tt.out.on hb1)
      replace B1 := Lib.hid B1
      replace R1 := Lib.hid R1
      clear hb1
      obtain ⟨Qt0, Qt1, Qt2, Qtf, -⟩ := three Qt.out
      go_wp2_with fail
      clear Qt0 Qt1 Qt2 Qtf
      have hs := refShaped_r Tt.out
      rw [← HY.out] at hs
      refine (hs).mono ?_
      rintro e w2 ⟨rfl, hb⟩
      replace FB := Lib.hid (FB.out.trans (hb.mono FB.out.size))
      replace Qt := Lib.hid ((hb.block _ (blt Qt.out)).trans Qt.out)
      replace Tt := Lib.hid (Tt.out.on hb)
      replace B1 := Lib.hid ((hb.block _ (blt B1.out)).trans B1.out)
      replace R1 := Lib.hid (R1.out.on hb)
      clear hb
      obtain ⟨Qt0, Qt1, Qt2, Qtf, -⟩ := three Qt.out
      go_wp2_with fail
      clear Qt0 Qt1 Qt2 Qtf
      have hsh := (Shp_iff t).mp HY.out.symm
      refine (Numbers_w (dep t) _ t _ Tt.out.fit hsh.2.2 (by omega)).mono ?_
      rintro e w3 ⟨a9, m9, c9, ys, rfl, hb, hrow, hmem, hyl⟩
      obtain ⟨a9', c9', hv9, hyc, hyc2, hel⟩ := hrow.get
      injection hv9 with hv1 hv2 hv3
      subst hv1; subst hv2; subst hv3
      have HEL := Lib.hid hel
      have HMEM := Lib.hid hmem
      have hyb : ys.length ≤ 8192 := by have := hsh.1; omega
      have HSH := Lib.hid hsh
      clear hel hmem hrow hsh
      replace FB := Lib.hid (FB.out.trans (hb.mono FB.out.size))
      replace Qt := Lib.hid ((hb.block _ (blt Qt.out)).trans Qt.out)
      replace Tt := Lib.hid (Tt.out.on hb)
      replace B1 := Lib.hid ((hb.block _ (blt B1.out)).trans B1.out)
      replace R1 := Lib.hid (R1.out.on hb)
      clear hb
      go_wp2_with fail
      have HST := Lib.hid (Below.refl w3.heap.size w3)
      go_loopw [10] (fun i wr => ∃ j : Nat, i = .int .i64 j ∧ j ≤ ys.length ∧ (∀ q (h : q < ys.length), q < j → ys[q] ≠ 300) ∧ Below w3.heap.size w3 wr) (fun i _ => ys.length - (intOf i).toNat)
      case atStart => exact ⟨0, rfl, Nat.zero_le _, fun q _ h => absurd h (Nat.not_lt_zero _), HST.out⟩
      case round =>
        obtain ⟨j, rfl, hj, hno, hb⟩ := hrel
        have HNO := Lib.hid hno
        have HBr := Lib.hid hb
        clear hno HST
        replace FB := Lib.hid (FB.out.trans (hb.mono FB.out.size))
        replace Qt := Lib.hid ((hb.block _ (blt Qt.out)).trans Qt.out)
        replace Tt := Lib.hid (Tt.out.on hb)
        replace B1 := Lib.hid ((hb.block _ (blt B1.out)).trans B1.out)
        replace R1 := Lib.hid (R1.out.on hb)
        by_cases hjl : j < ys.length
        · skip
          obtain ⟨b, off, rfl, hP, h0⟩ := HEL.out j hjl
          have e0 := (hb.cell (p := ⟨b, off + j, none⟩) hP.2).trans h0
          have hbw : b < wr.heap.size := Nat.lt_of_lt_of_le hP.2 hb.size
          have hji : (j : Int) < (ys.length : Int) := by omega
          have hj0 : (0 : Int) ≤ (j : Int) := Int.natCast_nonneg _
          clear h0 hb
          by_cases h3 : ys[j] = 300
          · skip
            have hq : (ys[j] == 300) = true := by simp [h3]
            clear h3
            go_wp2_with fail
            refine (awake49_w _).mono ?_
            rintro e w4 ⟨rfl, hb⟩
            replace FB := Lib.hid (FB.out.trans (hb.mono FB.out.size))
            replace Qt := Lib.hid ((hb.block _ (blt Qt.out)).trans Qt.out)
            replace Tt := Lib.hid (Tt.out.on hb)
            replace B1 := Lib.hid ((hb.block _ (blt B1.out)).trans B1.out)
            replace R1 := Lib.hid (R1.out.on hb)
            replace HBr := Lib.hid (HBr.out.trans (hb.mono HBr.out.size))
            clear hb
            go_wp2_with fail
            go_ret
            exact ⟨rfl, FB.out⟩
          · skip
            have hq : (ys[j] == 300) = false := by simp [h3]
            have H3 := Lib.hid h3
            clear h3
            go_wp2_with fail
            go_roundw
            case rel =>
              refine ⟨j + 1, by go_num, by omega, fun q h hq => ?_, HBr.out⟩
              by_cases e : q = j
              · subst e; exact H3.out
              · exact HNO.out q h (by omega)
            case measure =>
              have q : (intOf (.int .i64 ((j : Int) + 1))).toNat = j + 1 := by show ((j : Int) + 1).toNat = _; omega
              have q2 : (intOf (.int .i64 (j : Int))).toNat = j := by show ((j : Int)).toNat = _; omega
              rw [q, q2]; omega
        · skip
          have hf : hasF 300 t = false := by
            rw [Bool.eq_false_iff, Ne, ← HMEM.out 300]
            intro hm
            obtain ⟨q, hq, e⟩ := List.getElem_of_mem hm
            exact HNO.out q hq (by omega) e
          obtain ⟨c, hc1, hc2⟩ := back_2nd HY.out.symm hf
          have HC1 := Lib.hid hc1
          have HC2 := Lib.hid hc2
          clear hf hc1 hc2 hb
          obtain ⟨Qt0, Qt1, Qt2, Qtf, -⟩ := three Qt.out
          go_wp2_with fail
          clear Qt0 Qt1 Qt2 Qtf
          refine (Open_q HC1.out (by omega) Tt.out).mono ?_
          rintro e w5 ⟨k5, n5, ao5, m5, c5, rfl, hb, hr⟩
          obtain ⟨hb5, B5, R5, -⟩ := boxed hb hr
          clear hb hr
          replace FB := Lib.hid (FB.out.trans (hb5.mono FB.out.size))
          replace Qt := Lib.hid ((hb5.block _ (blt Qt.out)).trans Qt.out)
          replace Tt := Lib.hid (Tt.out.on hb5)
          replace B1 := Lib.hid ((hb5.block _ (blt B1.out)).trans B1.out)
          replace R1 := Lib.hid (R1.out.on hb5)
          replace HBr := Lib.hid (HBr.out.trans (hb5.mono HBr.out.size))
          replace B5 := Lib.hid B5
          replace R5 := Lib.hid R5
          clear hb5
          obtain ⟨B50, B51, B52, B5f, -⟩ := three B5.out
          go_wp2_with fail
          clear B50 B51 B52 B5f
          refine (Bind_q HC2.out R5.out).mono ?_
          rintro e w6 ⟨k6, n6, ao6, m6, c6, rfl, hb, hr⟩
          obtain ⟨hb6, B6, R6, -⟩ := boxed hb hr
          clear hb hr
          replace FB := Lib.hid (FB.out.trans (hb6.mono FB.out.size))
          replace Qt := Lib.hid ((hb6.block _ (blt Qt.out)).trans Qt.out)
          replace Tt := Lib.hid (Tt.out.on hb6)
          replace B1 := Lib.hid ((hb6.block _ (blt B1.out)).trans B1.out)
          replace R1 := Lib.hid (R1.out.on hb6)
          replace HBr := Lib.hid (HBr.out.trans (hb6.mono HBr.out.size))
          replace B5 := Lib.hid ((hb6.block _ (blt B5.out)).trans B5.out)
          replace R5 := Lib.hid (R5.out.on hb6)
          replace B6 := Lib.hid B6
          replace R6 := Lib.hid R6
          clear hb6
          obtain ⟨Qt0, Qt1, Qt2, Qtf, -⟩ := three Qt.out
          go_wp2_with fail
          clear Qt0 Qt1 Qt2 Qtf
          refine (same52_q 0 R6.out Tt.out).mono ?_
          rintro e w7 ⟨rfl, hb⟩
          replace FB := Lib.hid (FB.out.trans (hb.mono FB.out.size))
          replace Qt := Lib.hid ((hb.block _ (blt Qt.out)).trans Qt.out)
          replace Tt := Lib.hid (Tt.out.on hb)
          replace B1 := Lib.hid ((hb.block _ (blt B1.out)).trans B1.out)
          replace R1 := Lib.hid (R1.out.on hb)
          replace HBr := Lib.hid (HBr.out.trans (hb.mono HBr.out.size))
          replace B5 := Lib.hid ((hb.block _ (blt B5.out)).trans B5.out)
          replace R5 := Lib.hid (R5.out.on hb)
          replace B6 := Lib.hid ((hb.block _ (blt B6.out)).trans B6.out)
          replace R6 := Lib.hid (R6.out.on hb)
          clear hb
          go_wp2_with fail
          refine (awake49_w _).mono ?_
          rintro e w8 ⟨rfl, hb⟩
          replace FB := Lib.hid (FB.out.trans (hb.mono FB.out.size))
          replace Qt := Lib.hid ((hb.block _ (blt Qt.out)).trans Qt.out)
          replace Tt := Lib.hid (Tt.out.on hb)
          replace B1 := Lib.hid ((hb.block _ (blt B1.out)).trans B1.out)
          replace R1 := Lib.hid (R1.out.on hb)
          replace HBr := Lib.hid (HBr.out.trans (hb.mono HBr.out.size))
          replace B5 := Lib.hid ((hb.block _ (blt B5.out)).trans B5.out)
          replace R5 := Lib.hid (R5.out.on hb)
          replace B6 := Lib.hid ((hb.block _ (blt B6.out)).trans B6.out)
          replace R6 := Lib.hid (R6.out.on hb)
          clear hb
          go_wp2_with fail
          go_ret
          exact ⟨rfl, FB.out⟩
end Go.Proofs.Ythjlfjaciigfiaa
