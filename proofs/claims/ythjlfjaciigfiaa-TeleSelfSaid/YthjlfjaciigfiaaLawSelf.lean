/-
  TeleSelf: the walk: it returns true and writes nothing that was there. No condition but that the arguments read as terms.
-/
import Derived.Test.YthjlfjaciigfiaaTurn
import Derived.Test.YthjlfjaciigfiaaResult
import Derived.Test.YthjlfjaciigfiaaSames
import Derived.Test.YthjlfjaciigfiaaAwake10
namespace Go.Proofs.Ythjlfjaciigfiaa
open Go.RowKit
set_option linter.unusedVariables false
set_option linter.unusedSimpArgs false

theorem vars_rev : ∀ k : Nat, k < 6 → (vars (k : Int)).reverse = (List.range k).map fun i : Nat => Tm.node 1 (i : Int) [] := by
  intro k hk
  rcases (by omega : k = 0 ∨ k = 1 ∨ k = 2 ∨ k = 3 ∨ k = 4 ∨ k = 5) with rfl | rfl | rfl | rfl | rfl | rfl <;> rfl
theorem vars_shp : ∀ k : Nat, k < 6 → (vars (k : Int)).reverse.all Shp = true := by
  intro k hk
  rcases (by omega : k = 0 ∨ k = 1 ∨ k = 2 ∨ k = 3 ∨ k = 4 ∨ k = 5) with rfl | rfl | rfl | rfl | rfl | rfl <;> rfl
/-- P10.6 -/
theorem self_road (k : Nat) (t : Tm) (hg : gd t = true) : mp (Fmy ((List.range k).map fun i : Nat => Tm.node 1 (i : Int) [])) (mp (Fmv k) t k) 0 = t := by
  have := back_road (leafy_mv k) (leafy_my ((List.range k).map fun i : Nat => Tm.node 1 (i : Int) [])) k 0 (fun q n c hc hq hn => ?_) t hg 0 (by omega)
  · simpa using this
  · simp only [Int.add_zero]
    rcases hq with rfl | rfl
    · by_cases h : n < c + k
      · rw [mv_lt h]
        by_cases h2 : n < c
        · rw [my_lt h2]
        · rw [my_in (i := (n - c).toNat) (by simp; omega) (by omega)]
          simp only [List.getElem_map, List.getElem_range, raise]
          rw [mv_ge (by omega)]; congr 1; omega
      · rw [mv_ge (by omega), my_ge (by simp; omega)]; congr 1; simp
    · rw [mv_8, my_8]
theorem self_cases (t : Tm) (k : Nat) (hs : Shp t = true) (hk : k < 6) : (∃ up, liftR t k k = (up, 0) ∧ manyR up (vars (k : Int)).reverse = (t, 0)) ∨ liftR t k k = (tm0, 2) := by
  have hf : fit (k : Int) = true := (fit_iff _).mpr ⟨by omega, by omega⟩
  unfold liftR
  rw [if_pos ⟨hs, hf, hf⟩]
  by_cases h : Shp (mp (Fmv k) t k) = true
  · left
    rw [if_pos h]
    refine ⟨_, rfl, ?_⟩
    unfold manyR subR
    rw [if_pos ⟨h, vars_shp k hk⟩, vars_rev k hk, self_road k t ((Shp_iff t).mp hs).2.2, if_pos hs]
  · right; rw [if_neg h]
set_option maxRecDepth 100000 in
set_option maxHeartbeats 4000000 in
theorem teleSelf_walk (v : Value) (t : Tm) (n : Int) (w : World) (hr : Rd (· < w.heap.size) w v t) (hn : (Lit.int .u8 n).wf = true) :
    Calls Try.prog 20 #[v, .int .u8 n] w fun e w' => e = .returned (.bool true) ∧ Below w.heap.size w w' := by
  obtain ⟨hn0, hn1⟩ := u8_wf hn
  obtain ⟨ao, cap, rfl⟩ := hr.shape
  obtain ⟨r, hnr, hr6⟩ : ∃ r : Nat, n % 6 = r ∧ r < 6 := ⟨(n % 6).toNat, by omega, by omega⟩
  have hr0 : (0 : Int) ≤ (r : Int) := Int.natCast_nonneg _
  clear hn
  obtain ⟨y, hy⟩ : ∃ y, y = Shp t := ⟨_, rfl⟩
  have HY := Lib.hid hy
  clear hy
  cases y
  · skip
    have hb0 := alloc_bel w (.cells #[.int .i64 t.kind, .int .i64 t.num, .slice ao t.sub.length cap] 24)
    have FB := Lib.hid hb0
    have T := Lib.hid (hr.on hb0)
    have Q := Lib.hid (heap_new w (.cells #[.int .i64 t.kind, .int .i64 t.num, .slice ao t.sub.length cap] 24) _ rfl)
    have hs := refShaped_r T.out
    rw [← HY.out] at hs
    have HS := Lib.hid hs
    clear hb0 hr hs
    go_enter Try.func20, Try.ntmps20
    go_wp2_with fail
    simp only [hnr]
    have HNR := Lib.hid hnr
    clear hnr
    refine (HS.out).mono ?_
    rintro e w1 ⟨rfl, hb⟩
    replace FB := Lib.hid (FB.out.trans (hb.mono FB.out.size))
    replace T := Lib.hid (T.out.on hb)
    replace Q := Lib.hid ((hb.block _ (blt Q.out)).trans Q.out)
    clear hb
    go_wp2_with fail
    refine (awake35_w _).mono ?_
    rintro e w2 ⟨rfl, hb⟩
    replace FB := Lib.hid (FB.out.trans (hb.mono FB.out.size))
    replace T := Lib.hid (T.out.on hb)
    replace Q := Lib.hid ((hb.block _ (blt Q.out)).trans Q.out)
    clear hb
    go_wp2_with fail
    go_ret
    exact ⟨rfl, FB.out⟩
  rcases self_cases t r HY.out.symm hr6 with ⟨up, hA, hB⟩ | hA
  rotate_left
  · skip
    have HA := Lib.hid hA
    clear hA
    have hb0 := alloc_bel w (.cells #[.int .i64 t.kind, .int .i64 t.num, .slice ao t.sub.length cap] 24)
    have FB := Lib.hid hb0
    have T := Lib.hid (hr.on hb0)
    have Q := Lib.hid (heap_new w (.cells #[.int .i64 t.kind, .int .i64 t.num, .slice ao t.sub.length cap] 24) _ rfl)
    have hs := refShaped_r T.out
    rw [← HY.out] at hs
    have HS := Lib.hid hs
    clear hb0 hr hs
    go_enter Try.func20, Try.ntmps20
    go_wp2_with fail
    simp only [hnr]
    have HNR := Lib.hid hnr
    clear hnr
    refine (HS.out).mono ?_
    rintro e w1 ⟨rfl, hb⟩
    replace FB := Lib.hid (FB.out.trans (hb.mono FB.out.size))
    replace T := Lib.hid (T.out.on hb)
    replace Q := Lib.hid ((hb.block _ (blt Q.out)).trans Q.out)
    clear hb
    obtain ⟨Q0, Q1, Q2, Qf, -⟩ := three Q.out
    go_wp2_with fail
    clear Q0 Q1 Q2 Qf
    refine (Lift_q HA.out T.out).mono ?_
    rintro e w2 ⟨k2, n2, ao2, m2, c2, rfl, hb, hr⟩
    obtain ⟨hb2, B2, R2, -⟩ := boxed hb hr
    clear hb hr
    replace FB := Lib.hid (FB.out.trans (hb2.mono FB.out.size))
    replace T := Lib.hid (T.out.on hb2)
    replace Q := Lib.hid ((hb2.block _ (blt Q.out)).trans Q.out)
    replace B2 := Lib.hid B2
    replace R2 := Lib.hid R2
    clear hb2
    go_wp2_with fail
    refine (awake35_w _).mono ?_
    rintro e w3 ⟨rfl, hb⟩
    replace FB := Lib.hid (FB.out.trans (hb.mono FB.out.size))
    replace T := Lib.hid (T.out.on hb)
    replace Q := Lib.hid ((hb.block _ (blt Q.out)).trans Q.out)
    replace B2 := Lib.hid ((hb.block _ (blt B2.out)).trans B2.out)
    replace R2 := Lib.hid (R2.out.on hb)
    clear hb
    go_wp2_with fail
    go_ret
    exact ⟨rfl, FB.out⟩
  · skip
    have HA := Lib.hid hA
    have HB := Lib.hid hB
    clear hA hB
    have hb0 := alloc_bel w (.cells #[.int .i64 t.kind, .int .i64 t.num, .slice ao t.sub.length cap] 24)
    have FB := Lib.hid hb0
    have T := Lib.hid (hr.on hb0)
    have Q := Lib.hid (heap_new w (.cells #[.int .i64 t.kind, .int .i64 t.num, .slice ao t.sub.length cap] 24) _ rfl)
    have hs := refShaped_r T.out
    rw [← HY.out] at hs
    have HS := Lib.hid hs
    clear hb0 hr hs
    go_enter Try.func20, Try.ntmps20
    go_wp2_with fail
    simp only [hnr]
    have HNR := Lib.hid hnr
    clear hnr
    refine (HS.out).mono ?_
    rintro e w1 ⟨rfl, hb⟩
    replace FB := Lib.hid (FB.out.trans (hb.mono FB.out.size))
    replace T := Lib.hid (T.out.on hb)
    replace Q := Lib.hid ((hb.block _ (blt Q.out)).trans Q.out)
    clear hb
    obtain ⟨Q0, Q1, Q2, Qf, -⟩ := three Q.out
    go_wp2_with fail
    clear Q0 Q1 Q2 Qf
    refine (Lift_q HA.out T.out).mono ?_
    rintro e w2 ⟨k2, n2, ao2, m2, c2, rfl, hb, hr⟩
    obtain ⟨hb2, B2, R2, -⟩ := boxed hb hr
    clear hb hr
    replace FB := Lib.hid (FB.out.trans (hb2.mono FB.out.size))
    replace T := Lib.hid (T.out.on hb2)
    replace Q := Lib.hid ((hb2.block _ (blt Q.out)).trans Q.out)
    replace B2 := Lib.hid B2
    replace R2 := Lib.hid R2
    clear hb2
    go_wp2_with fail
    obtain ⟨Wx, hWx⟩ : ∃ Wx, Wx = w2.alloc (.cells #[.int .i64 k2, .int .i64 n2, .slice ao2 m2 c2] 24) := ⟨_, rfl⟩
    rw [← hWx] at FB T Q B2 R2 ⊢
    obtain ⟨u0, u1, u2, -, ul⟩ := three B2.out
    clear hWx
    have hdr : Below Wx.heap.size Wx Wx.drew := below_drewN (Below.refl _ _) 1
    refine wp_region_tree (.one 0 true (.one 1 true (.two 2 (.two 3 (.rest [(4, true), (5, true), (6, true), (7, false), (8, false), (9, false)]) 7 (.rest [(3, false), (4, true), (5, true), (6, true), (8, false), (9, false)])) 7 (.rest [(2, false), (3, false), (4, true), (5, true), (6, true), (8, false), (9, false)])))) (fun w' => w'.cell? ⟨w2.heap.size, 0, none⟩ = some (.int .i64 k2) ∧ w'.cell? ⟨w2.heap.size, 1, none⟩ = some (.int .i64 n2) ∧ w'.cell? ⟨w2.heap.size, 2, none⟩ = some (.slice ao2 m2 c2)) (by kernel_rfl) (by kernel_rfl) ⟨u0, u1, u2⟩ (fun hHeld => ?_)
    generalize hwD : Wx.drew = wD at hdr hHeld ⊢
    simp only [pickR, pickT, opIn, List.getElem?_cons_zero, List.getElem?_cons_succ, Option.getD_some]
    repeat (refine wpR_take (v := ?_) (by rfl) (fun w' hSw => ?_) ?_; rotate_left; (go_simp; with_reducible rfl); simp only [Act.put, List.setIfInBounds_toArray, List.set_cons_zero, List.set_cons_succ])
    refine wpR_two ?_ ?_
    · skip
      have hcon := Vars_w (r : Int) (wD)
      have HCON := Lib.hid hcon
      clear hcon
      refine wpR_do (fun K hK => ?_)
      go_simp
      refine HCON.out.mono ?_
      rintro e wB ⟨aov, mv, cv, rfl, hbv, htv⟩
      have hbB := hdr.trans (hbv.mono hdr.size)
      have HTS := Lib.hid (htv.keep (P' := (· < wB.heap.size)) (w' := wB) (fun q hq => hq.2) fun _ _ => rfl)
      have hZB := hbv.block
      have hBZ := hbv.size
      refine hK.out _ _ ⟨((hbB).cell (p := ⟨w2.heap.size, 0, none⟩) (by first | exact ul | (show _ < Wx.heap.size; exact ul))).trans u0, ((hbB).cell (p := ⟨w2.heap.size, 1, none⟩) (by first | exact ul | (show _ < Wx.heap.size; exact ul))).trans u1, ((hbB).cell (p := ⟨w2.heap.size, 2, none⟩) (by first | exact ul | (show _ < Wx.heap.size; exact ul))).trans u2⟩ (fun hHeld => ?_)
      clear hK K hHeld hbv htv HCON
      refine wpR_two ?_ ?_
      · skip
        have hcon := Fill_q HB.out (by rw [← List.length_reverse, vars_rev r hr6]; simp; omega) (HTS.out) (R2.out.on hbB)
        have HCON := Lib.hid hcon
        clear hcon
        refine wpR_do (fun K hK => ?_)
        go_simp
        refine HCON.out.mono ?_
        rintro e w3 ⟨k3, n3, ao3, m3, c3, rfl, hb, hr⟩
        have hbC := hbB.trans (hb.mono hbB.size)
        refine hK.out _ _ ⟨((hbC).cell (p := ⟨w2.heap.size, 0, none⟩) (by first | exact ul | (show _ < Wx.heap.size; exact ul))).trans u0, ((hbC).cell (p := ⟨w2.heap.size, 1, none⟩) (by first | exact ul | (show _ < Wx.heap.size; exact ul))).trans u1, ((hbC).cell (p := ⟨w2.heap.size, 2, none⟩) (by first | exact ul | (show _ < Wx.heap.size; exact ul))).trans u2⟩ (fun hHeld => ?_)
        clear hK K hHeld HCON
        refine wpR_rest ?_
        repeat (refine wpT_take (v := ?_) (by rfl) (fun w' hSw => ?_) ?_; rotate_left; (go_simp; with_reducible rfl); simp only [Act.put, List.setIfInBounds_toArray, List.set_cons_zero, List.set_cons_succ])
        have hrF := hr.keep (P' := fun q => Wx.heap.size ≤ q ∧ q < w3.heap.size) (w' := w3) (fun q hq => ⟨by have := hq.1; have h5 : Wx.heap.size ≤ wB.heap.size := hbB.size; omega, hq.2⟩) fun _ _ => rfl
        have halz := alloc_bel w3 (.cells #[.int .i64 0, .int .i64 0, .slice none 0 0] 24)
        have hbZ := hbC.trans (halz.mono hbC.size)
        have hxZ := heap_new w3 (.cells #[.int .i64 0, .int .i64 0, .slice none 0 0] 24) _ rfl
        have hXl := hbC.size
        have hZs : w3.heap.size < (w3.alloc (.cells #[.int .i64 0, .int .i64 0, .slice none 0 0] 24)).heap.size := by rw [World.size_alloc]; omega
        refine wpT_do (fun K hK => ?_)
        go_simp
        refine hK.out _ _ ⟨((hbZ).cell (p := ⟨w2.heap.size, 0, none⟩) (by first | exact ul | (show _ < Wx.heap.size; exact ul))).trans u0, ((hbZ).cell (p := ⟨w2.heap.size, 1, none⟩) (by first | exact ul | (show _ < Wx.heap.size; exact ul))).trans u1, ((hbZ).cell (p := ⟨w2.heap.size, 2, none⟩) (by first | exact ul | (show _ < Wx.heap.size; exact ul))).trans u2⟩ (fun hHeld => ?_)
        clear hK K hHeld
        have hrX := hrF.keep (w' := w3.alloc (.cells #[.int .i64 0, .int .i64 0, .slice none 0 0] 24)) (P' := fun q => q ≠ w3.heap.size ∧ Wx.heap.size ≤ q ∧ q < (w3.alloc (.cells #[.int .i64 0, .int .i64 0, .slice none 0 0] 24)).heap.size) (fun q hq => ⟨Nat.ne_of_lt hq.2, hq.1, Nat.lt_of_lt_of_le hq.2 halz.size⟩) fun q hq => halz.block q hq.2
        have hx := hxZ
        have hbA := hbZ
        clear hxZ hbZ halz hZs hbC hb hr hrF hbB HTS hZB hBZ
        generalize w3.alloc (.cells #[.int .i64 0, .int .i64 0, .slice none 0 0] 24) = wA at hbA hx hrX ⊢
        obtain ⟨x0, x1, x2, xf, xl⟩ := three hx
        have xf0 := xf 0
        have xf1 := xf 1
        have xf2 := xf 2
        obtain ⟨hbS, hxS, hrS⟩ := put3F (a := .int .i64 k3) (b := .int .i64 n3) (c := .slice ao3 m3 c3) hbA hx hXl
        have hr3 := hrS _ _ _ hrX
        refine wpT_do (fun K hK => ?_)
        go_simp
        clear x0 x1 x2 xf xf0 xf1 xf2 xl hrS hbA hx hrX
        generalize (((wA).setCell ⟨w3.heap.size, 0, none⟩ (.int .i64 k3)).setCell ⟨w3.heap.size, 1, none⟩ (.int .i64 n3)).setCell ⟨w3.heap.size, 2, none⟩ (.slice ao3 m3 c3) = wS at hbS hxS hr3 ⊢
        refine hK.out _ _ ⟨((hbS).cell (p := ⟨w2.heap.size, 0, none⟩) (by first | exact ul | (show _ < Wx.heap.size; exact ul))).trans u0, ((hbS).cell (p := ⟨w2.heap.size, 1, none⟩) (by first | exact ul | (show _ < Wx.heap.size; exact ul))).trans u1, ((hbS).cell (p := ⟨w2.heap.size, 2, none⟩) (by first | exact ul | (show _ < Wx.heap.size; exact ul))).trans u2⟩ (fun hHeld => ?_)
        clear hK K hHeld
        refine wpT_last (fun K hK => ?_)
        go_simp
        refine hK.out _ _ ?_
        clear hK K
        have R3 := Lib.hid hr3
        have B3 := Lib.hid hxS
        have XL3 := Lib.hid hXl
        clear hr3 hxS hXl
        clear u0 u1 u2
        replace FB := Lib.hid (FB.out.trans (hbS.mono FB.out.size))
        replace T := Lib.hid (T.out.on hbS)
        replace Q := Lib.hid ((hbS.block _ (blt Q.out)).trans Q.out)
        replace B2 := Lib.hid ((hbS.block _ (blt B2.out)).trans B2.out)
        replace R2 := Lib.hid (R2.out.on hbS)
        replace R3 := Lib.hid (R3.out.keep (P' := (· < wS.heap.size)) (w' := wS) (fun q hq => hq.2.2) fun _ _ => rfl)
        clear hbS
        obtain ⟨B30, B31, B32, B3f, -⟩ := three B3.out
        obtain ⟨Q0, Q1, Q2, Qf, -⟩ := three Q.out
        go_wp2_with fail
        clear B30 B31 B32 B3f Q0 Q1 Q2 Qf
        refine (same39_q _ R3.out T.out).mono ?_
        rintro e w4 ⟨rfl, hb⟩
        replace FB := Lib.hid (FB.out.trans (hb.mono FB.out.size))
        replace T := Lib.hid (T.out.on hb)
        replace Q := Lib.hid ((hb.block _ (blt Q.out)).trans Q.out)
        replace B2 := Lib.hid ((hb.block _ (blt B2.out)).trans B2.out)
        replace R2 := Lib.hid (R2.out.on hb)
        replace B3 := Lib.hid ((hb.block _ (blt B3.out)).trans B3.out)
        replace R3 := Lib.hid (R3.out.on hb)
        clear hb
        go_wp2_with fail
        refine (awake35_w _).mono ?_
        rintro e w5 ⟨rfl, hb⟩
        replace FB := Lib.hid (FB.out.trans (hb.mono FB.out.size))
        replace T := Lib.hid (T.out.on hb)
        replace Q := Lib.hid ((hb.block _ (blt Q.out)).trans Q.out)
        replace B2 := Lib.hid ((hb.block _ (blt B2.out)).trans B2.out)
        replace R2 := Lib.hid (R2.out.on hb)
        replace B3 := Lib.hid ((hb.block _ (blt B3.out)).trans B3.out)
        replace R3 := Lib.hid (R3.out.on hb)
        clear hb
        go_wp2_with fail
        go_ret
        exact ⟨rfl, FB.out⟩
      · skip
        have halz := alloc_bel wB (.cells #[.int .i64 0, .int .i64 0, .slice none 0 0] 24)
        have hbZ := hbB.trans (halz.mono hbB.size)
        have hxZ := heap_new wB (.cells #[.int .i64 0, .int .i64 0, .slice none 0 0] 24) _ rfl
        have hXl := hbB.size
        have hZs : wB.heap.size < (wB.alloc (.cells #[.int .i64 0, .int .i64 0, .slice none 0 0] 24)).heap.size := by rw [World.size_alloc]; omega
        refine wpR_do (fun K hK => ?_)
        go_simp
        refine hK.out _ _ ⟨((hbZ).cell (p := ⟨w2.heap.size, 0, none⟩) (by first | exact ul | (show _ < Wx.heap.size; exact ul))).trans u0, ((hbZ).cell (p := ⟨w2.heap.size, 1, none⟩) (by first | exact ul | (show _ < Wx.heap.size; exact ul))).trans u1, ((hbZ).cell (p := ⟨w2.heap.size, 2, none⟩) (by first | exact ul | (show _ < Wx.heap.size; exact ul))).trans u2⟩ (fun hHeld => ?_)
        clear hK K hHeld
        refine wpR_rest ?_
        generalize hwZ : wB.alloc (.cells #[.int .i64 0, .int .i64 0, .slice none 0 0] 24) = wZ at halz hbZ hxZ hZs ⊢
        have hcon := Fill_q HB.out (by rw [← List.length_reverse, vars_rev r hr6]; simp; omega) (HTS.out.on halz) (R2.out.on hbZ)
        have HCON := Lib.hid hcon
        clear hcon
        refine wpT_do (fun K hK => ?_)
        go_simp
        refine HCON.out.mono ?_
        rintro e w3 ⟨k3, n3, ao3, m3, c3, rfl, hb, hr⟩
        have hbC := hbZ.trans (hb.mono hbZ.size)
        refine hK.out _ _ ⟨((hbC).cell (p := ⟨w2.heap.size, 0, none⟩) (by first | exact ul | (show _ < Wx.heap.size; exact ul))).trans u0, ((hbC).cell (p := ⟨w2.heap.size, 1, none⟩) (by first | exact ul | (show _ < Wx.heap.size; exact ul))).trans u1, ((hbC).cell (p := ⟨w2.heap.size, 2, none⟩) (by first | exact ul | (show _ < Wx.heap.size; exact ul))).trans u2⟩ (fun hHeld => ?_)
        clear hK K hHeld HCON
        have hx := (hb.block _ (blt hxZ)).trans hxZ
        have hbA := hbC
        have hrX := hr.keep (P' := fun q => q ≠ wB.heap.size ∧ Wx.heap.size ≤ q ∧ q < w3.heap.size) (fun q hq => ⟨by have := hq.1; omega, by have := hq.1; omega, hq.2⟩) fun _ _ => rfl
        repeat (refine wpT_take (v := ?_) (by rfl) (fun w' hSw => ?_) ?_; rotate_left; (go_simp; with_reducible rfl); simp only [Act.put, List.setIfInBounds_toArray, List.set_cons_zero, List.set_cons_succ])
        clear hxZ hbZ halz hZs hbC hb hr hbB HTS hwZ hZB hBZ
        obtain ⟨x0, x1, x2, xf, xl⟩ := three hx
        have xf0 := xf 0
        have xf1 := xf 1
        have xf2 := xf 2
        obtain ⟨hbS, hxS, hrS⟩ := put3F (a := .int .i64 k3) (b := .int .i64 n3) (c := .slice ao3 m3 c3) hbA hx hXl
        have hr3 := hrS _ _ _ hrX
        refine wpT_do (fun K hK => ?_)
        go_simp
        clear x0 x1 x2 xf xf0 xf1 xf2 xl hrS hbA hx hrX
        generalize (((w3).setCell ⟨wB.heap.size, 0, none⟩ (.int .i64 k3)).setCell ⟨wB.heap.size, 1, none⟩ (.int .i64 n3)).setCell ⟨wB.heap.size, 2, none⟩ (.slice ao3 m3 c3) = wS at hbS hxS hr3 ⊢
        refine hK.out _ _ ⟨((hbS).cell (p := ⟨w2.heap.size, 0, none⟩) (by first | exact ul | (show _ < Wx.heap.size; exact ul))).trans u0, ((hbS).cell (p := ⟨w2.heap.size, 1, none⟩) (by first | exact ul | (show _ < Wx.heap.size; exact ul))).trans u1, ((hbS).cell (p := ⟨w2.heap.size, 2, none⟩) (by first | exact ul | (show _ < Wx.heap.size; exact ul))).trans u2⟩ (fun hHeld => ?_)
        clear hK K hHeld
        refine wpT_last (fun K hK => ?_)
        go_simp
        refine hK.out _ _ ?_
        clear hK K
        have R3 := Lib.hid hr3
        have B3 := Lib.hid hxS
        have XL3 := Lib.hid hXl
        clear hr3 hxS hXl
        clear u0 u1 u2
        replace FB := Lib.hid (FB.out.trans (hbS.mono FB.out.size))
        replace T := Lib.hid (T.out.on hbS)
        replace Q := Lib.hid ((hbS.block _ (blt Q.out)).trans Q.out)
        replace B2 := Lib.hid ((hbS.block _ (blt B2.out)).trans B2.out)
        replace R2 := Lib.hid (R2.out.on hbS)
        replace R3 := Lib.hid (R3.out.keep (P' := (· < wS.heap.size)) (w' := wS) (fun q hq => hq.2.2) fun _ _ => rfl)
        clear hbS
        obtain ⟨B30, B31, B32, B3f, -⟩ := three B3.out
        obtain ⟨Q0, Q1, Q2, Qf, -⟩ := three Q.out
        go_wp2_with fail
        clear B30 B31 B32 B3f Q0 Q1 Q2 Qf
        refine (same39_q _ R3.out T.out).mono ?_
        rintro e w4 ⟨rfl, hb⟩
        replace FB := Lib.hid (FB.out.trans (hb.mono FB.out.size))
        replace T := Lib.hid (T.out.on hb)
        replace Q := Lib.hid ((hb.block _ (blt Q.out)).trans Q.out)
        replace B2 := Lib.hid ((hb.block _ (blt B2.out)).trans B2.out)
        replace R2 := Lib.hid (R2.out.on hb)
        replace B3 := Lib.hid ((hb.block _ (blt B3.out)).trans B3.out)
        replace R3 := Lib.hid (R3.out.on hb)
        clear hb
        go_wp2_with fail
        refine (awake35_w _).mono ?_
        rintro e w5 ⟨rfl, hb⟩
        replace FB := Lib.hid (FB.out.trans (hb.mono FB.out.size))
        replace T := Lib.hid (T.out.on hb)
        replace Q := Lib.hid ((hb.block _ (blt Q.out)).trans Q.out)
        replace B2 := Lib.hid ((hb.block _ (blt B2.out)).trans B2.out)
        replace R2 := Lib.hid (R2.out.on hb)
        replace B3 := Lib.hid ((hb.block _ (blt B3.out)).trans B3.out)
        replace R3 := Lib.hid (R3.out.on hb)
        clear hb
        go_wp2_with fail
        go_ret
        exact ⟨rfl, FB.out⟩
    · skip
      have halz := alloc_bel wD (.cells #[.int .i64 0, .int .i64 0, .slice none 0 0] 24)
      have hbZ := hdr.trans (halz.mono hdr.size)
      have hxZ := heap_new wD (.cells #[.int .i64 0, .int .i64 0, .slice none 0 0] 24) _ rfl
      have hXl := hdr.size
      have hZs : wD.heap.size < (wD.alloc (.cells #[.int .i64 0, .int .i64 0, .slice none 0 0] 24)).heap.size := by rw [World.size_alloc]; omega
      refine wpR_do (fun K hK => ?_)
      go_simp
      refine hK.out _ _ ⟨((hbZ).cell (p := ⟨w2.heap.size, 0, none⟩) (by first | exact ul | (show _ < Wx.heap.size; exact ul))).trans u0, ((hbZ).cell (p := ⟨w2.heap.size, 1, none⟩) (by first | exact ul | (show _ < Wx.heap.size; exact ul))).trans u1, ((hbZ).cell (p := ⟨w2.heap.size, 2, none⟩) (by first | exact ul | (show _ < Wx.heap.size; exact ul))).trans u2⟩ (fun hHeld => ?_)
      clear hK K hHeld
      refine wpR_rest ?_
      generalize hwZ : wD.alloc (.cells #[.int .i64 0, .int .i64 0, .slice none 0 0] 24) = wZ at halz hbZ hxZ hZs ⊢
      have hcon := Vars_w (r : Int) (wZ)
      have HCON := Lib.hid hcon
      clear hcon
      refine wpT_do (fun K hK => ?_)
      go_simp
      refine HCON.out.mono ?_
      rintro e wB ⟨aov, mv, cv, rfl, hbv, htv⟩
      have hbB := hbZ.trans (hbv.mono hbZ.size)
      have HTS := Lib.hid (htv.keep (P' := (· < wB.heap.size)) (w' := wB) (fun q hq => hq.2) fun _ _ => rfl)
      have hZB := hbv.block
      have hBZ := hbv.size
      refine hK.out _ _ ⟨((hbB).cell (p := ⟨w2.heap.size, 0, none⟩) (by first | exact ul | (show _ < Wx.heap.size; exact ul))).trans u0, ((hbB).cell (p := ⟨w2.heap.size, 1, none⟩) (by first | exact ul | (show _ < Wx.heap.size; exact ul))).trans u1, ((hbB).cell (p := ⟨w2.heap.size, 2, none⟩) (by first | exact ul | (show _ < Wx.heap.size; exact ul))).trans u2⟩ (fun hHeld => ?_)
      clear hK K hHeld hbv htv HCON
      have hcon := Fill_q HB.out (by rw [← List.length_reverse, vars_rev r hr6]; simp; omega) (HTS.out) (R2.out.on hbB)
      have HCON := Lib.hid hcon
      clear hcon
      refine wpT_do (fun K hK => ?_)
      go_simp
      refine HCON.out.mono ?_
      rintro e w3 ⟨k3, n3, ao3, m3, c3, rfl, hb, hr⟩
      have hbC := hbB.trans (hb.mono hbB.size)
      refine hK.out _ _ ⟨((hbC).cell (p := ⟨w2.heap.size, 0, none⟩) (by first | exact ul | (show _ < Wx.heap.size; exact ul))).trans u0, ((hbC).cell (p := ⟨w2.heap.size, 1, none⟩) (by first | exact ul | (show _ < Wx.heap.size; exact ul))).trans u1, ((hbC).cell (p := ⟨w2.heap.size, 2, none⟩) (by first | exact ul | (show _ < Wx.heap.size; exact ul))).trans u2⟩ (fun hHeld => ?_)
      clear hK K hHeld HCON
      have hx := (hb.block _ (by omega)).trans ((hZB _ (blt hxZ)).trans hxZ)
      have hbA := hbC
      have hrX := hr.keep (P' := fun q => q ≠ wD.heap.size ∧ Wx.heap.size ≤ q ∧ q < w3.heap.size) (fun q hq => ⟨by have := hq.1; omega, by have := hq.1; omega, hq.2⟩) fun _ _ => rfl
      repeat (refine wpT_take (v := ?_) (by rfl) (fun w' hSw => ?_) ?_; rotate_left; (go_simp; with_reducible rfl); simp only [Act.put, List.setIfInBounds_toArray, List.set_cons_zero, List.set_cons_succ])
      clear hxZ hbZ halz hZs hbC hb hr hbB HTS hwZ hZB hBZ
      obtain ⟨x0, x1, x2, xf, xl⟩ := three hx
      have xf0 := xf 0
      have xf1 := xf 1
      have xf2 := xf 2
      obtain ⟨hbS, hxS, hrS⟩ := put3F (a := .int .i64 k3) (b := .int .i64 n3) (c := .slice ao3 m3 c3) hbA hx hXl
      have hr3 := hrS _ _ _ hrX
      refine wpT_do (fun K hK => ?_)
      go_simp
      clear x0 x1 x2 xf xf0 xf1 xf2 xl hrS hbA hx hrX
      generalize (((w3).setCell ⟨wD.heap.size, 0, none⟩ (.int .i64 k3)).setCell ⟨wD.heap.size, 1, none⟩ (.int .i64 n3)).setCell ⟨wD.heap.size, 2, none⟩ (.slice ao3 m3 c3) = wS at hbS hxS hr3 ⊢
      refine hK.out _ _ ⟨((hbS).cell (p := ⟨w2.heap.size, 0, none⟩) (by first | exact ul | (show _ < Wx.heap.size; exact ul))).trans u0, ((hbS).cell (p := ⟨w2.heap.size, 1, none⟩) (by first | exact ul | (show _ < Wx.heap.size; exact ul))).trans u1, ((hbS).cell (p := ⟨w2.heap.size, 2, none⟩) (by first | exact ul | (show _ < Wx.heap.size; exact ul))).trans u2⟩ (fun hHeld => ?_)
      clear hK K hHeld
      refine wpT_last (fun K hK => ?_)
      go_simp
      refine hK.out _ _ ?_
      clear hK K
      have R3 := Lib.hid hr3
      have B3 := Lib.hid hxS
      have XL3 := Lib.hid hXl
      clear hr3 hxS hXl
      clear u0 u1 u2
      replace FB := Lib.hid (FB.out.trans (hbS.mono FB.out.size))
      replace T := Lib.hid (T.out.on hbS)
      replace Q := Lib.hid ((hbS.block _ (blt Q.out)).trans Q.out)
      replace B2 := Lib.hid ((hbS.block _ (blt B2.out)).trans B2.out)
      replace R2 := Lib.hid (R2.out.on hbS)
      replace R3 := Lib.hid (R3.out.keep (P' := (· < wS.heap.size)) (w' := wS) (fun q hq => hq.2.2) fun _ _ => rfl)
      clear hbS
      obtain ⟨B30, B31, B32, B3f, -⟩ := three B3.out
      obtain ⟨Q0, Q1, Q2, Qf, -⟩ := three Q.out
      go_wp2_with fail
      clear B30 B31 B32 B3f Q0 Q1 Q2 Qf
      refine (same39_q _ R3.out T.out).mono ?_
      rintro e w4 ⟨rfl, hb⟩
      replace FB := Lib.hid (FB.out.trans (hb.mono FB.out.size))
      replace T := Lib.hid (T.out.on hb)
      replace Q := Lib.hid ((hb.block _ (blt Q.out)).trans Q.out)
      replace B2 := Lib.hid ((hb.block _ (blt B2.out)).trans B2.out)
      replace R2 := Lib.hid (R2.out.on hb)
      replace B3 := Lib.hid ((hb.block _ (blt B3.out)).trans B3.out)
      replace R3 := Lib.hid (R3.out.on hb)
      clear hb
      go_wp2_with fail
      refine (awake35_w _).mono ?_
      rintro e w5 ⟨rfl, hb⟩
      replace FB := Lib.hid (FB.out.trans (hb.mono FB.out.size))
      replace T := Lib.hid (T.out.on hb)
      replace Q := Lib.hid ((hb.block _ (blt Q.out)).trans Q.out)
      replace B2 := Lib.hid ((hb.block _ (blt B2.out)).trans B2.out)
      replace R2 := Lib.hid (R2.out.on hb)
      replace B3 := Lib.hid ((hb.block _ (blt B3.out)).trans B3.out)
      replace R3 := Lib.hid (R3.out.on hb)
      clear hb
      go_wp2_with fail
      go_ret
      exact ⟨rfl, FB.out⟩
end Go.Proofs.Ythjlfjaciigfiaa
