/-
  tele.Pis, Lams: contracts of the walk.
-/
import Derived.Test.YthjlfjaciigfiaaAround
namespace Go.Proofs.Ythjlfjaciigfiaa
open Go.RowKit
set_option linter.unusedVariables false
set_option linter.unusedSimpArgs false

set_option maxRecDepth 100000 in
set_option maxHeartbeats 4000000 in
theorem Pis_w (vl v : Value) (l : List Tm) (t : Tm) (w : World) (hl : Ts (· < w.heap.size) w vl l) (hr : Rd (· < w.heap.size) w v t) :
    Calls Try.prog 36 #[vl, v] w (AnsTE w (aroundR 3 l t).1 (aroundR 3 l t).2) := by
  obtain ⟨rt, rc, hres⟩ : ∃ rt rc, aroundR 3 l t = (rt, rc) := ⟨_, _, rfl⟩
  have HRES := Lib.hid hres
  rw [hres]
  have hlo := hl
  obtain ⟨aol, capl, rfl, -⟩ := hl
  clear hres
  obtain ⟨ao, cap, rfl⟩ := hr.shape
  obtain ⟨W, hW⟩ : ∃ W, W = (w.alloc (.cells #[.int .i64 t.kind, .int .i64 t.num, .slice ao t.sub.length cap] 24)).alloc (.cells #[.int .i64 0, .int .i64 0, .slice none 0 0] 24) := ⟨_, rfl⟩
  have hb0 : Below w.heap.size w W := by rw [hW]; exact (((Below.refl _ _).alloc (Nat.le_refl _) _).alloc (by simp only [World.size_alloc]; omega) _)
  have hsW : W.heap.size = w.heap.size + 2 := by rw [hW]; simp only [World.size_alloc]
  have Q : W.heap[w.heap.size]? = some (.cells #[.int .i64 t.kind, .int .i64 t.num, .slice ao t.sub.length cap] 24) := by rw [hW]; exact (Below.heap_alloc _ _ _ (by simp only [World.size_alloc]; omega)).trans (heap_new _ _ _ (by first | rfl | simp only [World.size_alloc]))
  replace Q := Lib.hid Q
  have Z : W.heap[w.heap.size + 1]? = some (.cells #[.int .i64 0, .int .i64 0, .slice none 0 0] 24) := by rw [hW]; exact heap_new _ _ _ (by first | rfl | simp only [World.size_alloc])
  replace Z := Lib.hid Z
  have T := Lib.hid (hr.on hb0)
  have FW := Lib.hid (Below.refl W.heap.size W)
  have FB0 := Lib.hid hb0
  have SW := Lib.hid hsW
  clear hb0 hsW
  have TL := Lib.hid (hlo.on FB0.out)
  have HW := Lib.hid hW
  clear hlo
  clear hW hr
  have hcon := around_w ofPi _ _ l t W TL.out T.out
  rw [HRES.out] at hcon
  have HCON := Lib.hid hcon
  clear hcon
  obtain ⟨Q0, Q1, Q2, Qf, -⟩ := three Q.out
  go_enter Try.func36, Try.ntmps36
  go_wp2_with fail
  rw [← HW.out]
  clear Q0 Q1 Q2 Qf
  refine HCON.out.mono ?_
  rintro e w1 ⟨k1, n1, ao1, m1, c1, rfl, hb, hr1⟩
  have G1 := Lib.hid hr1
  clear hr1
  replace FW := Lib.hid (FW.out.trans (hb.mono FW.out.size))
  replace Q := Lib.hid ((hb.block _ (blt Q.out)).trans Q.out)
  replace Z := Lib.hid ((hb.block _ (blt Z.out)).trans Z.out)
  replace T := Lib.hid (T.out.on hb)
  replace TL := Lib.hid (TL.out.on hb)
  clear hb
  obtain ⟨Z0, Z1, Z2, Zf, -⟩ := three Z.out
  go_wp2_with fail
  exact bodyPost_ret (v := .tuple #[.agg #[.int .i64 k1, .int .i64 n1, .slice ao1 m1 c1], .int .i64 rc]) (by simp [results, Try.results36, go_sem, Z0, Z1, Z2]) rfl ⟨_, _, _, _, _, rfl, (((FB0.out.trans (FW.out.mono FB0.out.size)).setCell (by simp only []; omega) _).setCell (by simp only []; omega) _).setCell (by simp only []; omega) _, G1.out.laid FB0.out.size (by have := SW.out; omega)⟩
set_option maxRecDepth 100000 in
set_option maxHeartbeats 4000000 in
theorem Lams_w (vl v : Value) (l : List Tm) (t : Tm) (w : World) (hl : Ts (· < w.heap.size) w vl l) (hr : Rd (· < w.heap.size) w v t) :
    Calls Try.prog 38 #[vl, v] w (AnsTE w (aroundR 4 l t).1 (aroundR 4 l t).2) := by
  obtain ⟨rt, rc, hres⟩ : ∃ rt rc, aroundR 4 l t = (rt, rc) := ⟨_, _, rfl⟩
  have HRES := Lib.hid hres
  rw [hres]
  have hlo := hl
  obtain ⟨aol, capl, rfl, -⟩ := hl
  clear hres
  obtain ⟨ao, cap, rfl⟩ := hr.shape
  obtain ⟨W, hW⟩ : ∃ W, W = (w.alloc (.cells #[.int .i64 t.kind, .int .i64 t.num, .slice ao t.sub.length cap] 24)).alloc (.cells #[.int .i64 0, .int .i64 0, .slice none 0 0] 24) := ⟨_, rfl⟩
  have hb0 : Below w.heap.size w W := by rw [hW]; exact (((Below.refl _ _).alloc (Nat.le_refl _) _).alloc (by simp only [World.size_alloc]; omega) _)
  have hsW : W.heap.size = w.heap.size + 2 := by rw [hW]; simp only [World.size_alloc]
  have Q : W.heap[w.heap.size]? = some (.cells #[.int .i64 t.kind, .int .i64 t.num, .slice ao t.sub.length cap] 24) := by rw [hW]; exact (Below.heap_alloc _ _ _ (by simp only [World.size_alloc]; omega)).trans (heap_new _ _ _ (by first | rfl | simp only [World.size_alloc]))
  replace Q := Lib.hid Q
  have Z : W.heap[w.heap.size + 1]? = some (.cells #[.int .i64 0, .int .i64 0, .slice none 0 0] 24) := by rw [hW]; exact heap_new _ _ _ (by first | rfl | simp only [World.size_alloc])
  replace Z := Lib.hid Z
  have T := Lib.hid (hr.on hb0)
  have FW := Lib.hid (Below.refl W.heap.size W)
  have FB0 := Lib.hid hb0
  have SW := Lib.hid hsW
  clear hb0 hsW
  have TL := Lib.hid (hlo.on FB0.out)
  have HW := Lib.hid hW
  clear hlo
  clear hW hr
  have hcon := around_w ofLam _ _ l t W TL.out T.out
  rw [HRES.out] at hcon
  have HCON := Lib.hid hcon
  clear hcon
  obtain ⟨Q0, Q1, Q2, Qf, -⟩ := three Q.out
  go_enter Try.func38, Try.ntmps38
  go_wp2_with fail
  rw [← HW.out]
  clear Q0 Q1 Q2 Qf
  refine HCON.out.mono ?_
  rintro e w1 ⟨k1, n1, ao1, m1, c1, rfl, hb, hr1⟩
  have G1 := Lib.hid hr1
  clear hr1
  replace FW := Lib.hid (FW.out.trans (hb.mono FW.out.size))
  replace Q := Lib.hid ((hb.block _ (blt Q.out)).trans Q.out)
  replace Z := Lib.hid ((hb.block _ (blt Z.out)).trans Z.out)
  replace T := Lib.hid (T.out.on hb)
  replace TL := Lib.hid (TL.out.on hb)
  clear hb
  obtain ⟨Z0, Z1, Z2, Zf, -⟩ := three Z.out
  go_wp2_with fail
  exact bodyPost_ret (v := .tuple #[.agg #[.int .i64 k1, .int .i64 n1, .slice ao1 m1 c1], .int .i64 rc]) (by simp [results, Try.results38, go_sem, Z0, Z1, Z2]) rfl ⟨_, _, _, _, _, rfl, (((FB0.out.trans (FW.out.mono FB0.out.size)).setCell (by simp only []; omega) _).setCell (by simp only []; omega) _).setCell (by simp only []; omega) _, G1.out.laid FB0.out.size (by have := SW.out; omega)⟩
end Go.Proofs.Ythjlfjaciigfiaa
