/-
  ref08.Lower: a contract of the walk.
-/
import Derived.Test.YthjlfjaciigfiaaBetween
import Derived.Test.YthjlfjaciigfiaaQs
namespace Go.Proofs.Ythjlfjaciigfiaa
open Go.RowKit
set_option linter.unusedVariables false
set_option linter.unusedSimpArgs false

set_option maxRecDepth 100000 in
set_option maxHeartbeats 4000000 in
theorem refLower_w (v : Value) (t : Tm) (k n : Int) (w : World) (hr : Rd (· < w.heap.size) w v t) :
    Calls Try.prog 41 #[v, .int .i64 k, .int .i64 n] w (AnsTE w (lowerR t k n).1 (lowerR t k n).2) := by
  obtain ⟨rt, rc, hres⟩ : ∃ rt rc, lowerR t k n = (rt, rc) := ⟨_, _, rfl⟩
  rw [hres]
  have RES := Lib.hid hres
  clear hres
  obtain ⟨ao, cap, rfl⟩ := hr.shape
  obtain ⟨W, hW⟩ : ∃ W, W = (w.alloc (.cells #[.int .i64 t.kind, .int .i64 t.num, .slice ao t.sub.length cap] 24)).alloc (.cells #[.int .i64 0, .int .i64 0, .slice none 0 0] 24) := ⟨_, rfl⟩
  have hb0 : Below w.heap.size w W := by rw [hW]; exact (((Below.refl _ _).alloc (Nat.le_refl _) _).alloc (by simp only [World.size_alloc]; omega) _)
  have hsW : W.heap.size = w.heap.size + 2 := by rw [hW]; simp only [World.size_alloc]
  have Q : W.heap[w.heap.size]? = some (.cells #[.int .i64 t.kind, .int .i64 t.num, .slice ao t.sub.length cap] 24) := by rw [hW]; exact (Below.heap_alloc _ _ _ (by simp only [World.size_alloc]; omega)).trans (heap_new _ _ _ (by first | rfl | simp only [World.size_alloc]))
  replace Q := Lib.hid Q
  have Z : W.heap[w.heap.size + 1]? = some (.cells #[.int .i64 0, .int .i64 0, .slice none 0 0] 24) := by rw [hW]; exact heap_new _ _ _ (by first | rfl | simp only [World.size_alloc])
  replace Z := Lib.hid Z
  have T := Lib.hid (hr.on hb0)
  have FW := Lib.hid (Below.refl W.heap.size W)
  have FB0 := Lib.hid hb0
  have SW := Lib.hid hsW
  clear hb0 hsW
  have HW := Lib.hid hW
  clear hW hr
  obtain ⟨y, hy⟩ : ∃ y, y = Shp t := ⟨_, rfl⟩
  have HY := Lib.hid hy
  clear hy
  cases y
  · have e : lowerR t k n = (tm0, 5) := by unfold lowerR; rw [← HY.out]; simp
    rw [RES.out] at e
    injection e with e1 e2
    subst e1; subst e2
    go_enter Try.func41, Try.ntmps41
    go_wp2_with fail
    rw [← HW.out]
    have hs := refShaped_r T.out
    rw [← HY.out] at hs
    refine hs.mono ?_
    rintro e w1 ⟨rfl, hb⟩
    replace FW := Lib.hid (FW.out.trans (hb.mono FW.out.size))
    replace Q := Lib.hid ((hb.block _ (blt Q.out)).trans Q.out)
    replace Z := Lib.hid ((hb.block _ (blt Z.out)).trans Z.out)
    replace T := Lib.hid (T.out.on hb)
    clear hb
    obtain ⟨Z0, Z1, Z2, Zf, -⟩ := three Z.out
    go_wp2_with fail
    exact bodyPost_ret (v := .tuple #[.agg #[.int .i64 0, .int .i64 0, .slice none 0 0], .int .i64 5]) (by simp [results, Try.results41, go_sem, Z0, Z1, Z2]) rfl
      ⟨_, _, _, _, _, rfl, (((FB0.out.trans (FW.out.mono FB0.out.size)).setCell (by simp only []; omega) _).setCell (by simp only []; omega) _).setCell (by simp only []; omega) _, Rd.zero _ _⟩
  by_cases hk : fit k = true
  rotate_left
  · have e : lowerR t k n = (tm0, 5) := by unfold lowerR; simp [hk]
    rw [RES.out] at e
    injection e with e1 e2
    subst e1; subst e2
    have hqk := fun w => fits75_w k w
    rw [Bool.eq_false_iff.mpr hk] at hqk
    have fk := Lib.hid hqk
    clear hqk
    clear hk
    go_enter Try.func41, Try.ntmps41
    go_wp2_with fail
    rw [← HW.out]
    have hs := refShaped_r T.out
    rw [← HY.out] at hs
    refine hs.mono ?_
    rintro e w1 ⟨rfl, hb⟩
    replace FW := Lib.hid (FW.out.trans (hb.mono FW.out.size))
    replace Q := Lib.hid ((hb.block _ (blt Q.out)).trans Q.out)
    replace Z := Lib.hid ((hb.block _ (blt Z.out)).trans Z.out)
    replace T := Lib.hid (T.out.on hb)
    clear hb
    obtain ⟨Z0, Z1, Z2, Zf, -⟩ := three Z.out
    go_wp2_with fail
    refine (fk.out _).mono ?_
    rintro e w' ⟨rfl, rfl⟩
    go_wp2_with fail
    exact bodyPost_ret (v := .tuple #[.agg #[.int .i64 0, .int .i64 0, .slice none 0 0], .int .i64 5]) (by simp [results, Try.results41, go_sem, Z0, Z1, Z2]) rfl
      ⟨_, _, _, _, _, rfl, (((FB0.out.trans (FW.out.mono FB0.out.size)).setCell (by simp only []; omega) _).setCell (by simp only []; omega) _).setCell (by simp only []; omega) _, Rd.zero _ _⟩
  by_cases hn : fit n = true
  rotate_left
  · have e : lowerR t k n = (tm0, 5) := by unfold lowerR; simp [hn]
    rw [RES.out] at e
    injection e with e1 e2
    subst e1; subst e2
    have hqk := fun w => fits75_w k w
    rw [hk] at hqk
    have fk := Lib.hid hqk
    clear hqk
    have hqn := fun w => fits75_w n w
    rw [Bool.eq_false_iff.mpr hn] at hqn
    have fn := Lib.hid hqn
    clear hqn
    clear hk hn
    go_enter Try.func41, Try.ntmps41
    go_wp2_with fail
    rw [← HW.out]
    have hs := refShaped_r T.out
    rw [← HY.out] at hs
    refine hs.mono ?_
    rintro e w1 ⟨rfl, hb⟩
    replace FW := Lib.hid (FW.out.trans (hb.mono FW.out.size))
    replace Q := Lib.hid ((hb.block _ (blt Q.out)).trans Q.out)
    replace Z := Lib.hid ((hb.block _ (blt Z.out)).trans Z.out)
    replace T := Lib.hid (T.out.on hb)
    clear hb
    obtain ⟨Z0, Z1, Z2, Zf, -⟩ := three Z.out
    go_wp2_with fail
    refine (fk.out _).mono ?_
    rintro e w' ⟨rfl, rfl⟩
    go_wp2_with fail
    refine (fn.out _).mono ?_
    rintro e w' ⟨rfl, rfl⟩
    go_wp2_with fail
    exact bodyPost_ret (v := .tuple #[.agg #[.int .i64 0, .int .i64 0, .slice none 0 0], .int .i64 5]) (by simp [results, Try.results41, go_sem, Z0, Z1, Z2]) rfl
      ⟨_, _, _, _, _, rfl, (((FB0.out.trans (FW.out.mono FB0.out.size)).setCell (by simp only []; omega) _).setCell (by simp only []; omega) _).setCell (by simp only []; omega) _, Rd.zero _ _⟩
  have hgd := ((Shp_iff t).mp HY.out.symm).2.2
  have hdp := ((Shp_iff t).mp HY.out.symm).2.1
  have hk' := (fit_iff k).mp hk
  have hn' := (fit_iff n).mp hn
  obtain ⟨hk0, hk1⟩ := hk'
  obtain ⟨hn0, hn1⟩ := hn'
  have HG := Lib.hid hgd
  have HD := Lib.hid hdp
  have HFK := Lib.hid hk
  have HFN := Lib.hid hn
  obtain ⟨z, hz⟩ : ∃ z, z = bt t n (n + k) := ⟨_, rfl⟩
  have HZ := Lib.hid hz
  have e : lowerR t k n = if z = true then (tm0, 3) else (mp (Fmv (-k)) t (n + k), 0) := by unfold lowerR; rw [if_pos ⟨HY.out.symm, hk, hn⟩, hz]
  rw [RES.out] at e
  have E := Lib.hid e
  clear e hz hgd hdp
  have hqk := fun w => fits75_w k w
  rw [hk] at hqk
  have fk := Lib.hid hqk
  clear hqk
  have hqn := fun w => fits75_w n w
  rw [hn] at hqn
  have fn := Lib.hid hqn
  clear hqn
  clear hk hn
  go_enter Try.func41, Try.ntmps41
  go_wp2_with fail
  rw [← HW.out]
  have hs := refShaped_r T.out
  rw [← HY.out] at hs
  refine hs.mono ?_
  rintro e w1 ⟨rfl, hb⟩
  replace FW := Lib.hid (FW.out.trans (hb.mono FW.out.size))
  replace Q := Lib.hid ((hb.block _ (blt Q.out)).trans Q.out)
  replace Z := Lib.hid ((hb.block _ (blt Z.out)).trans Z.out)
  replace T := Lib.hid (T.out.on hb)
  clear hb
  have hQl := blt Q.out
  obtain ⟨Z0, Z1, Z2, Zf, -⟩ := three Z.out
  obtain ⟨Q0, Q1, Q2, Qf, -⟩ := three Q.out
  go_wp2_with fail
  refine (fk.out _).mono ?_
  rintro e w' ⟨rfl, rfl⟩
  go_wp2_with fail
  refine (fn.out _).mono ?_
  rintro e w' ⟨rfl, rfl⟩
  go_wp2_with fail
  have hbt := between_w (dep t) _ t n (n + k) _ T.out.fit HG.out hn0 (by omega) (by have := HD.out; omega)
  rw [← HZ.out] at hbt
  refine hbt.mono ?_
  rintro e w2 ⟨rfl, hb⟩
  clear Z0 Z1 Z2 Zf Q0 Q1 Q2 Qf
  replace FW := Lib.hid (FW.out.trans (hb.mono FW.out.size))
  replace Q := Lib.hid ((hb.block _ (blt Q.out)).trans Q.out)
  replace Z := Lib.hid ((hb.block _ (blt Z.out)).trans Z.out)
  replace T := Lib.hid (T.out.on hb)
  clear hb hbt
  obtain ⟨Z0, Z1, Z2, Zf, -⟩ := three Z.out
  obtain ⟨Q0, Q1, Q2, Qf, -⟩ := three Q.out
  cases z
  · have e1 : (rt, rc) = (mp (Fmv (-k)) t (n + k), 0) := by rw [E.out]; rfl
    injection e1 with e1 e2
    subst e1; subst e2
    go_wp2_with fail
    refine (Move_w (-k) (by omega) (dep t) _ t (n + k) _ T.out.fit HG.out (by omega) (by have := HD.out; omega)).mono ?_
    rintro e w3 ⟨k3, n3, ao3, m3, c3, rfl, hb, hr3⟩
    have G3 := Lib.hid (hr3.frm FW.out.size)
    clear Z0 Z1 Z2 Zf Q0 Q1 Q2 Qf hr3
    replace FW := Lib.hid (FW.out.trans (hb.mono FW.out.size))
    replace Q := Lib.hid ((hb.block _ (blt Q.out)).trans Q.out)
    replace Z := Lib.hid ((hb.block _ (blt Z.out)).trans Z.out)
    replace T := Lib.hid (T.out.on hb)
    clear hb
    obtain ⟨Z0, Z1, Z2, Zf, -⟩ := three Z.out
    go_wp2_with fail
    exact bodyPost_ret (v := .tuple #[.agg #[.int .i64 k3, .int .i64 n3, .slice ao3 m3 c3], .int .i64 0]) (by simp [results, Try.results41, go_sem, Z0, Z1, Z2]) rfl
      ⟨_, _, _, _, _, rfl, (((FB0.out.trans (FW.out.mono FB0.out.size)).setCell (by simp only []; omega) _).setCell (by simp only []; omega) _).setCell (by simp only []; omega) _, G3.out.laid FB0.out.size (by have := SW.out; omega)⟩
  · have e1 : (rt, rc) = (tm0, 3) := by rw [E.out]; rfl
    injection e1 with e1 e2
    subst e1; subst e2
    go_wp2_with fail
    exact bodyPost_ret (v := .tuple #[.agg #[.int .i64 0, .int .i64 0, .slice none 0 0], .int .i64 3]) (by simp [results, Try.results41, go_sem, Z0, Z1, Z2]) rfl
      ⟨_, _, _, _, _, rfl, (((FB0.out.trans (FW.out.mono FB0.out.size)).setCell (by simp only []; omega) _).setCell (by simp only []; omega) _).setCell (by simp only []; omega) _, Rd.zero _ _⟩
end Go.Proofs.Ythjlfjaciigfiaa
