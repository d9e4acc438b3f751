/-
  lift.Lower: a contract of the walk.
-/
import Derived.Test.YthjlfjaciigfiaaClos
import Derived.Test.YthjlfjaciigfiaaQs
namespace Go.Proofs.Ythjlfjaciigfiaa
open Go.RowKit
set_option linter.unusedVariables false
set_option linter.unusedSimpArgs false

set_option maxRecDepth 100000 in
set_option maxHeartbeats 4000000 in
theorem Lower_w (v : Value) (t : Tm) (k n : Int) (w : World) (hr : Rd (· < w.heap.size) w v t) :
    Calls Try.prog 40 #[v, .int .i64 k, .int .i64 n] w (AnsTE w (lowerR t k n).1 (lowerR t k n).2) := by
  obtain ⟨rt, rc, hres⟩ : ∃ rt rc, lowerR t k n = (rt, rc) := ⟨_, _, rfl⟩
  rw [hres]
  have RES := Lib.hid hres
  clear hres
  obtain ⟨ao, cap, rfl⟩ := hr.shape
  obtain ⟨W, hW⟩ : ∃ W, W = (((w.alloc (.cells #[.int .i64 t.kind, .int .i64 t.num, .slice ao t.sub.length cap] 24)).alloc (.cells #[.int .i64 k] 3)).alloc (.cells #[.int .i64 n] 3)).alloc (.cells #[.int .i64 0, .int .i64 0, .slice none 0 0] 24) := ⟨_, rfl⟩
  have hb0 : Below w.heap.size w W := by rw [hW]; exact (((((Below.refl _ _).alloc (Nat.le_refl _) _).alloc (by simp only [World.size_alloc]; omega) _).alloc (by simp only [World.size_alloc]; omega) _).alloc (by simp only [World.size_alloc]; omega) _)
  have hsW : W.heap.size = w.heap.size + 4 := by rw [hW]; simp only [World.size_alloc]
  have Q : W.heap[w.heap.size]? = some (.cells #[.int .i64 t.kind, .int .i64 t.num, .slice ao t.sub.length cap] 24) := by rw [hW]; exact (Below.heap_alloc _ _ _ (by simp only [World.size_alloc]; omega)).trans ((Below.heap_alloc _ _ _ (by simp only [World.size_alloc]; omega)).trans ((Below.heap_alloc _ _ _ (by simp only [World.size_alloc]; omega)).trans (heap_new _ _ _ (by first | rfl | simp only [World.size_alloc]))))
  replace Q := Lib.hid Q
  have Xk : W.heap[w.heap.size + 1]? = some (.cells #[.int .i64 k] 3) := by rw [hW]; exact (Below.heap_alloc _ _ _ (by simp only [World.size_alloc]; omega)).trans ((Below.heap_alloc _ _ _ (by simp only [World.size_alloc]; omega)).trans (heap_new _ _ _ (by first | rfl | simp only [World.size_alloc])))
  replace Xk := Lib.hid Xk
  have Xn : W.heap[w.heap.size + 1 + 1]? = some (.cells #[.int .i64 n] 3) := by rw [hW]; exact (Below.heap_alloc _ _ _ (by simp only [World.size_alloc]; omega)).trans (heap_new _ _ _ (by first | rfl | simp only [World.size_alloc]))
  replace Xn := Lib.hid Xn
  have Z : W.heap[w.heap.size + 1 + 1 + 1]? = some (.cells #[.int .i64 0, .int .i64 0, .slice none 0 0] 24) := by rw [hW]; exact heap_new _ _ _ (by first | rfl | simp only [World.size_alloc])
  replace Z := Lib.hid Z
  have T := Lib.hid (hr.on hb0)
  have FW := Lib.hid (Below.refl W.heap.size W)
  have FB0 := Lib.hid hb0
  have SW := Lib.hid hsW
  clear hb0 hsW
  have HW := Lib.hid hW
  have TW := Lib.hid hr
  clear hW hr
  obtain ⟨y, hy⟩ : ∃ y, y = Shp t := ⟨_, rfl⟩
  have HY := Lib.hid hy
  clear hy
  cases y
  · have e : lowerR t k n = (tm0, 5) := by unfold lowerR; rw [← HY.out]; simp
    rw [RES.out] at e
    injection e with e1 e2
    subst e1; subst e2
    go_enter Try.func40, Try.ntmps40
    go_wp2_with fail
    rw [← HW.out]
    have hs := Shaped_r T.out
    rw [← HY.out] at hs
    refine hs.mono ?_
    rintro e w1 ⟨rfl, hb⟩
    replace Xk := Lib.hid ((hb.block _ (blt Xk.out)).trans Xk.out)
    replace Xn := Lib.hid ((hb.block _ (blt Xn.out)).trans Xn.out)
    replace FW := Lib.hid (FW.out.trans (hb.mono FW.out.size))
    replace Q := Lib.hid ((hb.block _ (blt Q.out)).trans Q.out)
    replace Z := Lib.hid ((hb.block _ (blt Z.out)).trans Z.out)
    replace T := Lib.hid (T.out.on hb)
    clear hb
    obtain ⟨Z0, Z1, Z2, Zf, -⟩ := three Z.out
    go_wp2_with fail
    exact bodyPost_ret (v := .tuple #[.agg #[.int .i64 0, .int .i64 0, .slice none 0 0], .int .i64 5]) (by simp [results, Try.results40, go_sem, Z0, Z1, Z2]) rfl
      ⟨_, _, _, _, _, rfl, (((FB0.out.trans (FW.out.mono FB0.out.size)).setCell (by simp only []; omega) _).setCell (by simp only []; omega) _).setCell (by simp only []; omega) _, Rd.zero _ _⟩
  by_cases hk : fit k = true
  rotate_left
  · have e : lowerR t k n = (tm0, 5) := by unfold lowerR; simp [hk]
    rw [RES.out] at e
    injection e with e1 e2
    subst e1; subst e2
    have hqk := fun w => fits72_w k w
    rw [Bool.eq_false_iff.mpr hk] at hqk
    have fk := Lib.hid hqk
    clear hqk
    clear hk
    go_enter Try.func40, Try.ntmps40
    go_wp2_with fail
    rw [← HW.out]
    have hs := Shaped_r T.out
    rw [← HY.out] at hs
    refine hs.mono ?_
    rintro e w1 ⟨rfl, hb⟩
    replace Xk := Lib.hid ((hb.block _ (blt Xk.out)).trans Xk.out)
    replace Xn := Lib.hid ((hb.block _ (blt Xn.out)).trans Xn.out)
    replace FW := Lib.hid (FW.out.trans (hb.mono FW.out.size))
    replace Q := Lib.hid ((hb.block _ (blt Q.out)).trans Q.out)
    replace Z := Lib.hid ((hb.block _ (blt Z.out)).trans Z.out)
    replace T := Lib.hid (T.out.on hb)
    clear hb
    obtain ⟨Z0, Z1, Z2, Zf, -⟩ := three Z.out
    obtain ⟨Xk0, Xkf, -⟩ := one1 Xk.out
    obtain ⟨Xn0, Xnf, -⟩ := one1 Xn.out
    go_wp2_with fail
    refine (fk.out _).mono ?_
    rintro e w' ⟨rfl, rfl⟩
    go_wp2_with fail
    exact bodyPost_ret (v := .tuple #[.agg #[.int .i64 0, .int .i64 0, .slice none 0 0], .int .i64 5]) (by simp [results, Try.results40, go_sem, Z0, Z1, Z2]) rfl
      ⟨_, _, _, _, _, rfl, (((FB0.out.trans (FW.out.mono FB0.out.size)).setCell (by simp only []; omega) _).setCell (by simp only []; omega) _).setCell (by simp only []; omega) _, Rd.zero _ _⟩
  by_cases hn : fit n = true
  rotate_left
  · have e : lowerR t k n = (tm0, 5) := by unfold lowerR; simp [hn]
    rw [RES.out] at e
    injection e with e1 e2
    subst e1; subst e2
    have hqk := fun w => fits72_w k w
    rw [hk] at hqk
    have fk := Lib.hid hqk
    clear hqk
    have hqn := fun w => fits72_w n w
    rw [Bool.eq_false_iff.mpr hn] at hqn
    have fn := Lib.hid hqn
    clear hqn
    clear hk hn
    go_enter Try.func40, Try.ntmps40
    go_wp2_with fail
    rw [← HW.out]
    have hs := Shaped_r T.out
    rw [← HY.out] at hs
    refine hs.mono ?_
    rintro e w1 ⟨rfl, hb⟩
    replace Xk := Lib.hid ((hb.block _ (blt Xk.out)).trans Xk.out)
    replace Xn := Lib.hid ((hb.block _ (blt Xn.out)).trans Xn.out)
    replace FW := Lib.hid (FW.out.trans (hb.mono FW.out.size))
    replace Q := Lib.hid ((hb.block _ (blt Q.out)).trans Q.out)
    replace Z := Lib.hid ((hb.block _ (blt Z.out)).trans Z.out)
    replace T := Lib.hid (T.out.on hb)
    clear hb
    obtain ⟨Z0, Z1, Z2, Zf, -⟩ := three Z.out
    obtain ⟨Xk0, Xkf, -⟩ := one1 Xk.out
    obtain ⟨Xn0, Xnf, -⟩ := one1 Xn.out
    go_wp2_with fail
    refine (fk.out _).mono ?_
    rintro e w' ⟨rfl, rfl⟩
    go_wp2_with fail
    refine (fn.out _).mono ?_
    rintro e w' ⟨rfl, rfl⟩
    go_wp2_with fail
    exact bodyPost_ret (v := .tuple #[.agg #[.int .i64 0, .int .i64 0, .slice none 0 0], .int .i64 5]) (by simp [results, Try.results40, go_sem, Z0, Z1, Z2]) rfl
      ⟨_, _, _, _, _, rfl, (((FB0.out.trans (FW.out.mono FB0.out.size)).setCell (by simp only []; omega) _).setCell (by simp only []; omega) _).setCell (by simp only []; omega) _, Rd.zero _ _⟩
  have hgd := ((Shp_iff t).mp HY.out.symm).2.2
  have hdp := ((Shp_iff t).mp HY.out.symm).2.1
  have hk' := (fit_iff k).mp hk
  have hn' := (fit_iff n).mp hn
  obtain ⟨hk0, hk1⟩ := hk'
  obtain ⟨hn0, hn1⟩ := hn'
  have HG := Lib.hid hgd
  have HD := Lib.hid hdp
  have HFK := Lib.hid hk
  have HFN := Lib.hid hn
  obtain ⟨z, hz⟩ : ∃ z, z = bt t n (n + k) := ⟨_, rfl⟩
  have HZ := Lib.hid hz
  have e : lowerR t k n = if z = true then (tm0, 3) else (mp (Fmv (-k)) t (n + k), 0) := by unfold lowerR; rw [if_pos ⟨HY.out.symm, hk, hn⟩, hz]
  rw [RES.out] at e
  have E := Lib.hid e
  clear e hz hgd hdp
  have hqk := fun w => fits72_w k w
  rw [hk] at hqk
  have fk := Lib.hid hqk
  clear hqk
  have hqn := fun w => fits72_w n w
  rw [hn] at hqn
  have fn := Lib.hid hqn
  clear hqn
  clear hk hn
  have hmf : ∀ (fn : Fn) (first cap : Array Value) (w : World), (Instr.makeFunc fn first cap).run Try.prog w = .ok (.func fn first cap) w := fun _ _ _ _ => rfl
  go_enter Try.func40, Try.ntmps40
  go_wp2_with fail
  rw [← HW.out]
  have hs := Shaped_r T.out
  rw [← HY.out] at hs
  refine hs.mono ?_
  rintro e w1 ⟨rfl, hb⟩
  replace Xk := Lib.hid ((hb.block _ (blt Xk.out)).trans Xk.out)
  replace Xn := Lib.hid ((hb.block _ (blt Xn.out)).trans Xn.out)
  replace FW := Lib.hid (FW.out.trans (hb.mono FW.out.size))
  replace Q := Lib.hid ((hb.block _ (blt Q.out)).trans Q.out)
  replace Z := Lib.hid ((hb.block _ (blt Z.out)).trans Z.out)
  replace T := Lib.hid (T.out.on hb)
  clear hb
  have hQl := blt Q.out
  obtain ⟨Z0, Z1, Z2, Zf, -⟩ := three Z.out
  obtain ⟨Q0, Q1, Q2, Qf, -⟩ := three Q.out
  obtain ⟨Xk0, Xkf, -⟩ := one1 Xk.out
  obtain ⟨Xn0, Xnf, -⟩ := one1 Xn.out
  go_wp2_with fail
  refine (fk.out _).mono ?_
  rintro e w' ⟨rfl, rfl⟩
  go_wp2_with fail
  refine (fn.out _).mono ?_
  rintro e w' ⟨rfl, rfl⟩
  go_wp2_with fail
  have hclo := lower1_w (w.heap.size + 1 + 1) (w.heap.size + 1) w1.heap.size ⟨by have := blt Xn.out; omega, by have := blt Xk.out; omega⟩ k n HFK.out HFN.out
  have hbo := alloc_bel w1 (.cells #[.bool true] 4)
  have hwk := walk_w hclo (dep t) _ t 0 true (w1.alloc (.cells #[.bool true] 4)) (RdN.keep (P := (· < w.heap.size)) (fun b hb' => ⟨by have := hbo.size; have := FW.out.size; have := FB0.out.size; omega, fun e => by injection e with e; have := FW.out.size; have := FB0.out.size; omega⟩) (fun b hb' => (hbo.block b (by have := FW.out.size; have := FB0.out.size; omega)).trans ((FW.out.block b (by have := FB0.out.size; omega)).trans (FB0.out.block b hb'))) _ _ _ TW.out.fit) HG.out (by omega) (by have := HD.out; omega)
    (fun q hq => by have := hbo.size; have := blt Xn.out; have := blt Xk.out; rw [World.size_alloc]; rcases hq with rfl | rfl | rfl <;> omega) (fun r hr => by injection hr with hr; rw [World.size_alloc]; omega) ⟨(one1 ((hbo.block _ (blt Xn.out)).trans Xn.out)).1, (one1 ((hbo.block _ (blt Xk.out)).trans Xk.out)).1, heap_new _ _ _ rfl⟩
  have hok := (ok_bt k n t 0).resolve_right (by omega)
  rw [Int.add_zero, Int.add_zero, ← HZ.out] at hok
  rw [hok] at hwk
  refine hwk.mono ?_
  rintro e w2 ⟨k2, n2, ao2, m2, c2, rfl, hbx, hr2, hs2⟩
  have hb : Below w1.heap.size w1 w2 := ⟨hbx.os, hbx.tape, hbx.output, Nat.le_trans hbo.size hbx.size, fun b hb' => (hbx.block b (Nat.lt_of_lt_of_le hb' hbo.size) (fun e => by injection e with e; omega)).trans (hbo.block b hb')⟩
  have HS2 := Lib.hid hs2.2.2
  have hr2' := hr2.keep (P' := Fr w1 w2) (fun b hb' => ⟨Nat.le_trans hbo.size hb'.1, hb'.2⟩) (fun _ _ => rfl)
  clear hclo hwk hbx hs2 hr2 hbo
  obtain ⟨hb2, B2, R2, -⟩ := boxed hb hr2'
  have G2 := Lib.hid ((hr2'.frm FW.out.size).fron (alloc_bel w2 (.cells #[.int .i64 k2, .int .i64 n2, .slice ao2 m2 c2] 24)))
  replace HS2 := Lib.hid (((alloc_bel w2 (.cells #[.int .i64 k2, .int .i64 n2, .slice ao2 m2 c2] 24)).block _ (blt HS2.out)).trans HS2.out)
  clear hb hr2'
  replace Xk := Lib.hid ((hb2.block _ (blt Xk.out)).trans Xk.out)
  replace Xn := Lib.hid ((hb2.block _ (blt Xn.out)).trans Xn.out)
  replace FW := Lib.hid (FW.out.trans (hb2.mono FW.out.size))
  replace Q := Lib.hid ((hb2.block _ (blt Q.out)).trans Q.out)
  replace Z := Lib.hid ((hb2.block _ (blt Z.out)).trans Z.out)
  replace T := Lib.hid (T.out.on hb2)
  replace B2 := Lib.hid B2
  clear R2 hb2
  clear Z0 Z1 Z2 Zf Q0 Q1 Q2 Qf Xk0 Xkf Xn0 Xnf
  obtain ⟨Z0, Z1, Z2, Zf, -⟩ := three Z.out
  obtain ⟨B20, B21, B22, B2f, -⟩ := three B2.out
  obtain ⟨HS20, HS2f, -⟩ := one1 HS2.out
  cases z
  · have e1 : (rt, rc) = (mp (Fmv (-k)) t (n + k), 0) := by rw [E.out]; rfl
    injection e1 with e1 e2
    subst e1; subst e2
    have hml := mp_low k n hk0 hn0 t 0 (by omega) hok
    rw [Int.add_zero] at hml
    rw [hml] at G2
    clear hml hok
    go_wp2_with fail
    exact bodyPost_ret (v := .tuple #[.agg #[.int .i64 k2, .int .i64 n2, .slice ao2 m2 c2], .int .i64 0]) (by simp [results, Try.results40, go_sem, Z0, Z1, Z2]) rfl
      ⟨_, _, _, _, _, rfl, (((FB0.out.trans (FW.out.mono FB0.out.size)).setCell (by simp only []; omega) _).setCell (by simp only []; omega) _).setCell (by simp only []; omega) _, G2.out.laid FB0.out.size (by have := SW.out; omega)⟩
  · have e1 : (rt, rc) = (tm0, 3) := by rw [E.out]; rfl
    injection e1 with e1 e2
    subst e1; subst e2
    clear hok
    go_wp2_with fail
    exact bodyPost_ret (v := .tuple #[.agg #[.int .i64 0, .int .i64 0, .slice none 0 0], .int .i64 3]) (by simp [results, Try.results40, go_sem, Z0, Z1, Z2]) rfl
      ⟨_, _, _, _, _, rfl, (((FB0.out.trans (FW.out.mono FB0.out.size)).setCell (by simp only []; omega) _).setCell (by simp only []; omega) _).setCell (by simp only []; omega) _, Rd.zero _ _⟩
end Go.Proofs.Ythjlfjaciigfiaa
