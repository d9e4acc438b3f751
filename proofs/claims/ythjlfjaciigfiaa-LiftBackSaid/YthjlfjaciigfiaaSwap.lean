/-
  lift.Swap, ref08.Swap: contracts of the walk.
-/
import Derived.Test.YthjlfjaciigfiaaPureSw
import Derived.Test.YthjlfjaciigfiaaQs
namespace Go.Proofs.Ythjlfjaciigfiaa
open Go.RowKit
set_option linter.unusedVariables false
set_option linter.unusedSimpArgs false

set_option maxRecDepth 100000 in
set_option maxHeartbeats 4000000 in
theorem Swap_w (v : Value) (t : Tm) (n : Int) (w : World) (hr : Rd (· < w.heap.size) w v t) :
    Calls Try.prog 42 #[v, .int .i64 n] w (AnsTE w (swapR t n).1 (swapR t n).2) := by
  obtain ⟨rt, rc, hres⟩ : ∃ rt rc, swapR t n = (rt, rc) := ⟨_, _, rfl⟩
  rw [hres]
  have RES := Lib.hid hres
  clear hres
  obtain ⟨ao, cap, rfl⟩ := hr.shape
  obtain ⟨W, hW⟩ : ∃ W, W = ((w.alloc (.cells #[.int .i64 t.kind, .int .i64 t.num, .slice ao t.sub.length cap] 24)).alloc (.cells #[.int .i64 n] 3)).alloc (.cells #[.int .i64 0, .int .i64 0, .slice none 0 0] 24) := ⟨_, rfl⟩
  have hb0 : Below w.heap.size w W := by rw [hW]; exact ((((Below.refl _ _).alloc (Nat.le_refl _) _).alloc (by simp only [World.size_alloc]; omega) _).alloc (by simp only [World.size_alloc]; omega) _)
  have hsW : W.heap.size = w.heap.size + 3 := by rw [hW]; simp only [World.size_alloc]
  have Q : W.heap[w.heap.size]? = some (.cells #[.int .i64 t.kind, .int .i64 t.num, .slice ao t.sub.length cap] 24) := by rw [hW]; exact (Below.heap_alloc _ _ _ (by simp only [World.size_alloc]; omega)).trans ((Below.heap_alloc _ _ _ (by simp only [World.size_alloc]; omega)).trans (heap_new _ _ _ (by first | rfl | simp only [World.size_alloc])))
  replace Q := Lib.hid Q
  have Xn : W.heap[w.heap.size + 1]? = some (.cells #[.int .i64 n] 3) := by rw [hW]; exact (Below.heap_alloc _ _ _ (by simp only [World.size_alloc]; omega)).trans (heap_new _ _ _ (by first | rfl | simp only [World.size_alloc]))
  replace Xn := Lib.hid Xn
  have Z : W.heap[w.heap.size + 1 + 1]? = some (.cells #[.int .i64 0, .int .i64 0, .slice none 0 0] 24) := by rw [hW]; exact heap_new _ _ _ (by first | rfl | simp only [World.size_alloc])
  replace Z := Lib.hid Z
  have T := Lib.hid (hr.on hb0)
  have FW := Lib.hid (Below.refl W.heap.size W)
  have FB0 := Lib.hid hb0
  have SW := Lib.hid hsW
  clear hb0 hsW
  have HW := Lib.hid hW
  clear hW hr
  obtain ⟨y, hy⟩ : ∃ y, y = Shp t := ⟨_, rfl⟩
  have HY := Lib.hid hy
  clear hy
  cases y
  · have e : swapR t n = (tm0, 5) := by unfold swapR; rw [← HY.out]; simp
    rw [RES.out] at e
    injection e with e1 e2
    subst e1; subst e2
    go_enter Try.func42, Try.ntmps42
    go_wp2_with fail
    rw [← HW.out]
    have hs := Shaped_r T.out
    rw [← HY.out] at hs
    refine hs.mono ?_
    rintro e w1 ⟨rfl, hb⟩
    replace Xn := Lib.hid ((hb.block _ (blt Xn.out)).trans Xn.out)
    replace FW := Lib.hid (FW.out.trans (hb.mono FW.out.size))
    replace Q := Lib.hid ((hb.block _ (blt Q.out)).trans Q.out)
    replace Z := Lib.hid ((hb.block _ (blt Z.out)).trans Z.out)
    replace T := Lib.hid (T.out.on hb)
    clear hb
    obtain ⟨Z0, Z1, Z2, Zf, -⟩ := three Z.out
    go_wp2_with fail
    exact bodyPost_ret (v := .tuple #[.agg #[.int .i64 0, .int .i64 0, .slice none 0 0], .int .i64 5]) (by simp [results, Try.results42, go_sem, Z0, Z1, Z2]) rfl
      ⟨_, _, _, _, _, rfl, (((FB0.out.trans (FW.out.mono FB0.out.size)).setCell (by simp only []; omega) _).setCell (by simp only []; omega) _).setCell (by simp only []; omega) _, Rd.zero _ _⟩
  by_cases hn : fit n = true
  rotate_left
  · have e : swapR t n = (tm0, 5) := by unfold swapR; simp [hn]
    rw [RES.out] at e
    injection e with e1 e2
    subst e1; subst e2
    have hqn := fun w => fits72_w n w
    rw [Bool.eq_false_iff.mpr hn] at hqn
    have fn := Lib.hid hqn
    clear hqn
    clear hn
    go_enter Try.func42, Try.ntmps42
    go_wp2_with fail
    rw [← HW.out]
    have hs := Shaped_r T.out
    rw [← HY.out] at hs
    refine hs.mono ?_
    rintro e w1 ⟨rfl, hb⟩
    replace Xn := Lib.hid ((hb.block _ (blt Xn.out)).trans Xn.out)
    replace FW := Lib.hid (FW.out.trans (hb.mono FW.out.size))
    replace Q := Lib.hid ((hb.block _ (blt Q.out)).trans Q.out)
    replace Z := Lib.hid ((hb.block _ (blt Z.out)).trans Z.out)
    replace T := Lib.hid (T.out.on hb)
    clear hb hs
    have hQl := blt Q.out
    obtain ⟨Z0, Z1, Z2, Zf, -⟩ := three Z.out
    obtain ⟨Xn0, Xnf, -⟩ := one1 Xn.out
    go_wp2_with fail
    refine (fn.out _).mono ?_
    rintro e w' ⟨rfl, rfl⟩
    go_wp2_with fail
    exact bodyPost_ret (v := .tuple #[.agg #[.int .i64 0, .int .i64 0, .slice none 0 0], .int .i64 5]) (by simp [results, Try.results42, go_sem, Z0, Z1, Z2]) rfl
      ⟨_, _, _, _, _, rfl, (((FB0.out.trans (FW.out.mono FB0.out.size)).setCell (by simp only []; omega) _).setCell (by simp only []; omega) _).setCell (by simp only []; omega) _, Rd.zero _ _⟩
  have hgd := ((Shp_iff t).mp HY.out.symm).2.2
  have hdp := ((Shp_iff t).mp HY.out.symm).2.1
  obtain ⟨hn0, hn1⟩ := (fit_iff n).mp hn
  have HG := Lib.hid hgd
  have HD := Lib.hid hdp
  have HFN := Lib.hid hn
  obtain ⟨z, hz⟩ : ∃ z, z = Shp (mp Fsw t n) := ⟨_, rfl⟩
  have HZ := Lib.hid hz
  have e : swapR t n = if n < 1048576 ∧ z = true then (mp Fsw t n, 0) else (tm0, 2) := by unfold swapR; rw [if_pos ⟨HY.out.symm, hn⟩, hz]
  rw [RES.out] at e
  have E := Lib.hid e
  clear e hz hgd hdp
  have hqn := fun w => fits72_w n w
  rw [hn] at hqn
  have fn := Lib.hid hqn
  clear hqn
  clear hn
  by_cases hmx : n < 1048576
  rotate_left
  · have e1 : (rt, rc) = (tm0, 2) := by rw [E.out]; simp [hmx]
    injection e1 with e1 e2
    subst e1; subst e2
    have hmx2 : (1048576 : Int) ≤ n := by omega
    go_enter Try.func42, Try.ntmps42
    go_wp2_with fail
    rw [← HW.out]
    have hs := Shaped_r T.out
    rw [← HY.out] at hs
    refine hs.mono ?_
    rintro e w1 ⟨rfl, hb⟩
    replace Xn := Lib.hid ((hb.block _ (blt Xn.out)).trans Xn.out)
    replace FW := Lib.hid (FW.out.trans (hb.mono FW.out.size))
    replace Q := Lib.hid ((hb.block _ (blt Q.out)).trans Q.out)
    replace Z := Lib.hid ((hb.block _ (blt Z.out)).trans Z.out)
    replace T := Lib.hid (T.out.on hb)
    clear hb hs
    have hQl := blt Q.out
    obtain ⟨Z0, Z1, Z2, Zf, -⟩ := three Z.out
    obtain ⟨Xn0, Xnf, -⟩ := one1 Xn.out
    go_wp2_with fail
    refine (fn.out _).mono ?_
    rintro e w' ⟨rfl, rfl⟩
    go_wp2_with fail
    exact bodyPost_ret (v := .tuple #[.agg #[.int .i64 0, .int .i64 0, .slice none 0 0], .int .i64 2]) (by simp [results, Try.results42, go_sem, Z0, Z1, Z2]) rfl
      ⟨_, _, _, _, _, rfl, (((FB0.out.trans (FW.out.mono FB0.out.size)).setCell (by simp only []; omega) _).setCell (by simp only []; omega) _).setCell (by simp only []; omega) _, Rd.zero _ _⟩
  have hmf : ∀ (fn : Fn) (first cap : Array Value) (w : World), (Instr.makeFunc fn first cap).run Try.prog w = .ok (.func fn first cap) w := fun _ _ _ _ => rfl
  go_enter Try.func42, Try.ntmps42
  go_wp2_with fail
  rw [← HW.out]
  have hs := Shaped_r T.out
  rw [← HY.out] at hs
  refine hs.mono ?_
  rintro e w1 ⟨rfl, hb⟩
  replace Xn := Lib.hid ((hb.block _ (blt Xn.out)).trans Xn.out)
  replace FW := Lib.hid (FW.out.trans (hb.mono FW.out.size))
  replace Q := Lib.hid ((hb.block _ (blt Q.out)).trans Q.out)
  replace Z := Lib.hid ((hb.block _ (blt Z.out)).trans Z.out)
  replace T := Lib.hid (T.out.on hb)
  clear hb hs
  have hQl := blt Q.out
  obtain ⟨Z0, Z1, Z2, Zf, -⟩ := three Z.out
  obtain ⟨Q0, Q1, Q2, Qf, -⟩ := three Q.out
  obtain ⟨Xn0, Xnf, -⟩ := one1 Xn.out
  go_wp2_with fail
  refine (fn.out _).mono ?_
  rintro e w' ⟨rfl, rfl⟩
  go_wp2_with fail
  have hclo := swap1_w (w.heap.size + 1) n HFN.out
  have hwk := walk_w hclo (dep t) _ t 0 true w1 (RdN.keep (P := (· < w1.heap.size)) (fun b hb' => ⟨hb', by simp⟩) (fun b hb' => rfl) _ _ _ T.out.fit) HG.out (by omega) (by have := HD.out; omega) (fun q hq => by rw [hq]; exact blt Xn.out) (fun r hr => by cases hr) ⟨rfl, Xn0⟩
  rw [mp_swap0 n hn0 t HG.out] at hwk
  refine hwk.mono ?_
  rintro e w2 ⟨k2, n2, ao2, m2, c2, rfl, hbx, hr2, -⟩
  have hb := hbx.below
  clear hclo hwk hbx
  obtain ⟨hb2, B2, R2, -⟩ := boxed hb hr2
  have G2 := Lib.hid ((hr2.frm FW.out.size).fron (alloc_bel w2 (.cells #[.int .i64 k2, .int .i64 n2, .slice ao2 m2 c2] 24)))
  clear hb hr2 Z0 Z1 Z2 Zf Q0 Q1 Q2 Qf Xn0 Xnf
  replace Xn := Lib.hid ((hb2.block _ (blt Xn.out)).trans Xn.out)
  replace FW := Lib.hid (FW.out.trans (hb2.mono FW.out.size))
  replace Q := Lib.hid ((hb2.block _ (blt Q.out)).trans Q.out)
  replace Z := Lib.hid ((hb2.block _ (blt Z.out)).trans Z.out)
  replace T := Lib.hid (T.out.on hb2)
  replace B2 := Lib.hid B2
  replace R2 := Lib.hid R2
  clear hb2
  obtain ⟨Z0, Z1, Z2, Zf, -⟩ := three Z.out
  obtain ⟨B20, B21, B22, B2f, -⟩ := three B2.out
  go_wp2_with fail
  have hs3 := Shaped_r R2.out
  rw [← HZ.out] at hs3
  refine hs3.mono ?_
  rintro e w3 ⟨rfl, hb⟩
  clear Z0 Z1 Z2 Zf B20 B21 B22 B2f hs3
  replace Xn := Lib.hid ((hb.block _ (blt Xn.out)).trans Xn.out)
  replace FW := Lib.hid (FW.out.trans (hb.mono FW.out.size))
  replace G2 := Lib.hid (G2.out.fron hb)
  replace Q := Lib.hid ((hb.block _ (blt Q.out)).trans Q.out)
  replace Z := Lib.hid ((hb.block _ (blt Z.out)).trans Z.out)
  replace T := Lib.hid (T.out.on hb)
  replace B2 := Lib.hid ((hb.block _ (blt B2.out)).trans B2.out)
  replace R2 := Lib.hid (R2.out.on hb)
  clear hb
  obtain ⟨Z0, Z1, Z2, Zf, -⟩ := three Z.out
  obtain ⟨B20, B21, B22, B2f, -⟩ := three B2.out
  cases z
  · have e1 : (rt, rc) = (tm0, 2) := by rw [E.out]; simp
    injection e1 with e1 e2
    subst e1; subst e2
    go_wp2_with fail
    exact bodyPost_ret (v := .tuple #[.agg #[.int .i64 0, .int .i64 0, .slice none 0 0], .int .i64 2]) (by simp [results, Try.results42, go_sem, Z0, Z1, Z2]) rfl
      ⟨_, _, _, _, _, rfl, (((FB0.out.trans (FW.out.mono FB0.out.size)).setCell (by simp only []; omega) _).setCell (by simp only []; omega) _).setCell (by simp only []; omega) _, Rd.zero _ _⟩
  · have e1 : (rt, rc) = (mp Fsw t n, 0) := by rw [E.out]; simp [hmx]
    injection e1 with e1 e2
    subst e1; subst e2
    go_wp2_with fail
    exact bodyPost_ret (v := .tuple #[.agg #[.int .i64 k2, .int .i64 n2, .slice ao2 m2 c2], .int .i64 0]) (by simp [results, Try.results42, go_sem, Z0, Z1, Z2]) rfl
      ⟨_, _, _, _, _, rfl, (((FB0.out.trans (FW.out.mono FB0.out.size)).setCell (by simp only []; omega) _).setCell (by simp only []; omega) _).setCell (by simp only []; omega) _, G2.out.laid FB0.out.size (by have := SW.out; omega)⟩
set_option maxRecDepth 100000 in
set_option maxHeartbeats 4000000 in
theorem refSwap_w (v : Value) (t : Tm) (n : Int) (w : World) (hr : Rd (· < w.heap.size) w v t) :
    Calls Try.prog 43 #[v, .int .i64 n] w (AnsTE w (swapR t n).1 (swapR t n).2) := by
  obtain ⟨rt, rc, hres⟩ : ∃ rt rc, swapR t n = (rt, rc) := ⟨_, _, rfl⟩
  rw [hres]
  have RES := Lib.hid hres
  clear hres
  obtain ⟨ao, cap, rfl⟩ := hr.shape
  obtain ⟨W, hW⟩ : ∃ W, W = (w.alloc (.cells #[.int .i64 t.kind, .int .i64 t.num, .slice ao t.sub.length cap] 24)).alloc (.cells #[.int .i64 0, .int .i64 0, .slice none 0 0] 24) := ⟨_, rfl⟩
  have hb0 : Below w.heap.size w W := by rw [hW]; exact (((Below.refl _ _).alloc (Nat.le_refl _) _).alloc (by simp only [World.size_alloc]; omega) _)
  have hsW : W.heap.size = w.heap.size + 2 := by rw [hW]; simp only [World.size_alloc]
  have Q : W.heap[w.heap.size]? = some (.cells #[.int .i64 t.kind, .int .i64 t.num, .slice ao t.sub.length cap] 24) := by rw [hW]; exact (Below.heap_alloc _ _ _ (by simp only [World.size_alloc]; omega)).trans (heap_new _ _ _ (by first | rfl | simp only [World.size_alloc]))
  replace Q := Lib.hid Q
  have Z : W.heap[w.heap.size + 1]? = some (.cells #[.int .i64 0, .int .i64 0, .slice none 0 0] 24) := by rw [hW]; exact heap_new _ _ _ (by first | rfl | simp only [World.size_alloc])
  replace Z := Lib.hid Z
  have T := Lib.hid (hr.on hb0)
  have FW := Lib.hid (Below.refl W.heap.size W)
  have FB0 := Lib.hid hb0
  have SW := Lib.hid hsW
  clear hb0 hsW
  have HW := Lib.hid hW
  clear hW hr
  obtain ⟨y, hy⟩ : ∃ y, y = Shp t := ⟨_, rfl⟩
  have HY := Lib.hid hy
  clear hy
  cases y
  · have e : swapR t n = (tm0, 5) := by unfold swapR; rw [← HY.out]; simp
    rw [RES.out] at e
    injection e with e1 e2
    subst e1; subst e2
    go_enter Try.func43, Try.ntmps43
    go_wp2_with fail
    rw [← HW.out]
    have hs := refShaped_r T.out
    rw [← HY.out] at hs
    refine hs.mono ?_
    rintro e w1 ⟨rfl, hb⟩
    replace FW := Lib.hid (FW.out.trans (hb.mono FW.out.size))
    replace Q := Lib.hid ((hb.block _ (blt Q.out)).trans Q.out)
    replace Z := Lib.hid ((hb.block _ (blt Z.out)).trans Z.out)
    replace T := Lib.hid (T.out.on hb)
    clear hb
    obtain ⟨Z0, Z1, Z2, Zf, -⟩ := three Z.out
    go_wp2_with fail
    exact bodyPost_ret (v := .tuple #[.agg #[.int .i64 0, .int .i64 0, .slice none 0 0], .int .i64 5]) (by simp [results, Try.results43, go_sem, Z0, Z1, Z2]) rfl
      ⟨_, _, _, _, _, rfl, (((FB0.out.trans (FW.out.mono FB0.out.size)).setCell (by simp only []; omega) _).setCell (by simp only []; omega) _).setCell (by simp only []; omega) _, Rd.zero _ _⟩
  by_cases hn : fit n = true
  rotate_left
  · have e : swapR t n = (tm0, 5) := by unfold swapR; simp [hn]
    rw [RES.out] at e
    injection e with e1 e2
    subst e1; subst e2
    have hqn := fun w => fits75_w n w
    rw [Bool.eq_false_iff.mpr hn] at hqn
    have fn := Lib.hid hqn
    clear hqn
    clear hn
    go_enter Try.func43, Try.ntmps43
    go_wp2_with fail
    rw [← HW.out]
    have hs := refShaped_r T.out
    rw [← HY.out] at hs
    refine hs.mono ?_
    rintro e w1 ⟨rfl, hb⟩
    replace FW := Lib.hid (FW.out.trans (hb.mono FW.out.size))
    replace Q := Lib.hid ((hb.block _ (blt Q.out)).trans Q.out)
    replace Z := Lib.hid ((hb.block _ (blt Z.out)).trans Z.out)
    replace T := Lib.hid (T.out.on hb)
    clear hb hs
    have hQl := blt Q.out
    obtain ⟨Z0, Z1, Z2, Zf, -⟩ := three Z.out
    go_wp2_with fail
    refine (fn.out _).mono ?_
    rintro e w' ⟨rfl, rfl⟩
    go_wp2_with fail
    exact bodyPost_ret (v := .tuple #[.agg #[.int .i64 0, .int .i64 0, .slice none 0 0], .int .i64 5]) (by simp [results, Try.results43, go_sem, Z0, Z1, Z2]) rfl
      ⟨_, _, _, _, _, rfl, (((FB0.out.trans (FW.out.mono FB0.out.size)).setCell (by simp only []; omega) _).setCell (by simp only []; omega) _).setCell (by simp only []; omega) _, Rd.zero _ _⟩
  have hgd := ((Shp_iff t).mp HY.out.symm).2.2
  have hdp := ((Shp_iff t).mp HY.out.symm).2.1
  obtain ⟨hn0, hn1⟩ := (fit_iff n).mp hn
  have HG := Lib.hid hgd
  have HD := Lib.hid hdp
  have HFN := Lib.hid hn
  obtain ⟨z, hz⟩ : ∃ z, z = Shp (mp Fsw t n) := ⟨_, rfl⟩
  have HZ := Lib.hid hz
  have e : swapR t n = if n < 1048576 ∧ z = true then (mp Fsw t n, 0) else (tm0, 2) := by unfold swapR; rw [if_pos ⟨HY.out.symm, hn⟩, hz]
  rw [RES.out] at e
  have E := Lib.hid e
  clear e hz hgd hdp
  have hqn := fun w => fits75_w n w
  rw [hn] at hqn
  have fn := Lib.hid hqn
  clear hqn
  clear hn
  by_cases hmx : n < 1048576
  rotate_left
  · have e1 : (rt, rc) = (tm0, 2) := by rw [E.out]; simp [hmx]
    injection e1 with e1 e2
    subst e1; subst e2
    have hmx2 : (1048576 : Int) ≤ n := by omega
    go_enter Try.func43, Try.ntmps43
    go_wp2_with fail
    rw [← HW.out]
    have hs := refShaped_r T.out
    rw [← HY.out] at hs
    refine hs.mono ?_
    rintro e w1 ⟨rfl, hb⟩
    replace FW := Lib.hid (FW.out.trans (hb.mono FW.out.size))
    replace Q := Lib.hid ((hb.block _ (blt Q.out)).trans Q.out)
    replace Z := Lib.hid ((hb.block _ (blt Z.out)).trans Z.out)
    replace T := Lib.hid (T.out.on hb)
    clear hb hs
    have hQl := blt Q.out
    obtain ⟨Z0, Z1, Z2, Zf, -⟩ := three Z.out
    obtain ⟨Q0, Q1, Q2, Qf, -⟩ := three Q.out
    go_wp2_with fail
    refine (fn.out _).mono ?_
    rintro e w' ⟨rfl, rfl⟩
    go_wp2_with fail
    refine (swap_w (dep t) _ t n _ T.out.fit HG.out hn0 (by have := HD.out; omega)).mono ?_
    rintro e w2 ⟨k2, n2, ao2, m2, c2, rfl, hb, hr2⟩
    obtain ⟨hb2, B2, R2, -⟩ := boxed hb hr2
    clear Z0 Z1 Z2 Zf Q0 Q1 Q2 Qf hb hr2
    replace FW := Lib.hid (FW.out.trans (hb2.mono FW.out.size))
    replace Q := Lib.hid ((hb2.block _ (blt Q.out)).trans Q.out)
    replace Z := Lib.hid ((hb2.block _ (blt Z.out)).trans Z.out)
    replace T := Lib.hid (T.out.on hb2)
    obtain ⟨Z0, Z1, Z2, Zf, -⟩ := three Z.out
    go_wp2_with fail
    exact bodyPost_ret (v := .tuple #[.agg #[.int .i64 0, .int .i64 0, .slice none 0 0], .int .i64 2]) (by simp [results, Try.results43, go_sem, Z0, Z1, Z2]) rfl
      ⟨_, _, _, _, _, rfl, (((FB0.out.trans (FW.out.mono FB0.out.size)).setCell (by simp only []; omega) _).setCell (by simp only []; omega) _).setCell (by simp only []; omega) _, Rd.zero _ _⟩
  go_enter Try.func43, Try.ntmps43
  go_wp2_with fail
  rw [← HW.out]
  have hs := refShaped_r T.out
  rw [← HY.out] at hs
  refine hs.mono ?_
  rintro e w1 ⟨rfl, hb⟩
  replace FW := Lib.hid (FW.out.trans (hb.mono FW.out.size))
  replace Q := Lib.hid ((hb.block _ (blt Q.out)).trans Q.out)
  replace Z := Lib.hid ((hb.block _ (blt Z.out)).trans Z.out)
  replace T := Lib.hid (T.out.on hb)
  clear hb hs
  have hQl := blt Q.out
  obtain ⟨Z0, Z1, Z2, Zf, -⟩ := three Z.out
  obtain ⟨Q0, Q1, Q2, Qf, -⟩ := three Q.out
  go_wp2_with fail
  refine (fn.out _).mono ?_
  rintro e w' ⟨rfl, rfl⟩
  go_wp2_with fail
  refine (swap_w (dep t) _ t n _ T.out.fit HG.out hn0 (by have := HD.out; omega)).mono ?_
  rintro e w2 ⟨k2, n2, ao2, m2, c2, rfl, hb, hr2⟩
  obtain ⟨hb2, B2, R2, -⟩ := boxed hb hr2
  have G2 := Lib.hid ((hr2.frm FW.out.size).fron (alloc_bel w2 (.cells #[.int .i64 k2, .int .i64 n2, .slice ao2 m2 c2] 24)))
  clear hb hr2 Z0 Z1 Z2 Zf Q0 Q1 Q2 Qf
  replace FW := Lib.hid (FW.out.trans (hb2.mono FW.out.size))
  replace Q := Lib.hid ((hb2.block _ (blt Q.out)).trans Q.out)
  replace Z := Lib.hid ((hb2.block _ (blt Z.out)).trans Z.out)
  replace T := Lib.hid (T.out.on hb2)
  replace B2 := Lib.hid B2
  replace R2 := Lib.hid R2
  clear hb2
  obtain ⟨Z0, Z1, Z2, Zf, -⟩ := three Z.out
  obtain ⟨B20, B21, B22, B2f, -⟩ := three B2.out
  go_wp2_with fail
  have hs3 := refShaped_r R2.out
  rw [← HZ.out] at hs3
  refine hs3.mono ?_
  rintro e w3 ⟨rfl, hb⟩
  clear Z0 Z1 Z2 Zf B20 B21 B22 B2f hs3
  replace FW := Lib.hid (FW.out.trans (hb.mono FW.out.size))
  replace G2 := Lib.hid (G2.out.fron hb)
  replace Q := Lib.hid ((hb.block _ (blt Q.out)).trans Q.out)
  replace Z := Lib.hid ((hb.block _ (blt Z.out)).trans Z.out)
  replace T := Lib.hid (T.out.on hb)
  replace B2 := Lib.hid ((hb.block _ (blt B2.out)).trans B2.out)
  replace R2 := Lib.hid (R2.out.on hb)
  clear hb
  obtain ⟨Z0, Z1, Z2, Zf, -⟩ := three Z.out
  obtain ⟨B20, B21, B22, B2f, -⟩ := three B2.out
  cases z
  · have e1 : (rt, rc) = (tm0, 2) := by rw [E.out]; simp
    injection e1 with e1 e2
    subst e1; subst e2
    go_wp2_with fail
    exact bodyPost_ret (v := .tuple #[.agg #[.int .i64 0, .int .i64 0, .slice none 0 0], .int .i64 2]) (by simp [results, Try.results43, go_sem, Z0, Z1, Z2]) rfl
      ⟨_, _, _, _, _, rfl, (((FB0.out.trans (FW.out.mono FB0.out.size)).setCell (by simp only []; omega) _).setCell (by simp only []; omega) _).setCell (by simp only []; omega) _, Rd.zero _ _⟩
  · have e1 : (rt, rc) = (mp Fsw t n, 0) := by rw [E.out]; simp [hmx]
    injection e1 with e1 e2
    subst e1; subst e2
    go_wp2_with fail
    exact bodyPost_ret (v := .tuple #[.agg #[.int .i64 k2, .int .i64 n2, .slice ao2 m2 c2], .int .i64 0]) (by simp [results, Try.results43, go_sem, Z0, Z1, Z2]) rfl
      ⟨_, _, _, _, _, rfl, (((FB0.out.trans (FW.out.mono FB0.out.size)).setCell (by simp only []; omega) _).setCell (by simp only []; omega) _).setCell (by simp only []; omega) _, G2.out.laid FB0.out.size (by have := SW.out; omega)⟩
end Go.Proofs.Ythjlfjaciigfiaa
