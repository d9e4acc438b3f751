/-
  subst.Open: a contract of the walk; layer 9 at a known answer.
-/
import Derived.Test.YthjlfjaciigfiaaTops9
namespace Go.Proofs.Ythjlfjaciigfiaa
open Go.RowKit
set_option linter.unusedVariables false
set_option linter.unusedSimpArgs false

theorem At_q {w : World} {va v : Value} {x t a : Tm} {n c : Int} (hq : atR t x n = (a, c)) (hx : Rd (· < w.heap.size) w va x) (h : Rd (· < w.heap.size) w v t) : Calls Try.prog 56 #[v, va, .int .i64 n] w (AnsTE w a c) := by
  have := At_w v va t x n w h hx; rwa [hq] at this
theorem refAt_q {w : World} {va v : Value} {x t a : Tm} {n c : Int} (hq : atR t x n = (a, c)) (hx : Rd (· < w.heap.size) w va x) (h : Rd (· < w.heap.size) w v t) : Calls Try.prog 57 #[v, va, .int .i64 n] w (AnsTE w a c) := by
  have := refAt_w v va t x n w h hx; rwa [hq] at this
theorem Named_q {w : World} {va v : Value} {x t a : Tm} {n c : Int} (hq : namedR t x n = (a, c)) (hx : Rd (· < w.heap.size) w va x) (h : Rd (· < w.heap.size) w v t) : Calls Try.prog 61 #[v, va, .int .i64 n] w (AnsTE w a c) := by
  have := Named_w v va t x n w h hx; rwa [hq] at this
theorem refNamed_q {w : World} {va v : Value} {x t a : Tm} {n c : Int} (hq : namedR t x n = (a, c)) (hx : Rd (· < w.heap.size) w va x) (h : Rd (· < w.heap.size) w v t) : Calls Try.prog 62 #[v, va, .int .i64 n] w (AnsTE w a c) := by
  have := refNamed_w v va t x n w h hx; rwa [hq] at this
theorem Bind_q {w : World} {v : Value} {t a : Tm} {n c : Int} (hq : bindR t n = (a, c)) (h : Rd (· < w.heap.size) w v t) : Calls Try.prog 58 #[v, .int .i64 n] w (AnsTE w a c) := by
  have := Bind_w v t n w h; rwa [hq] at this
theorem refBind_q {w : World} {v : Value} {t a : Tm} {n c : Int} (hq : bindR t n = (a, c)) (h : Rd (· < w.heap.size) w v t) : Calls Try.prog 63 #[v, .int .i64 n] w (AnsTE w a c) := by
  have := refBind_w v t n w h; rwa [hq] at this

set_option maxRecDepth 100000 in
set_option maxHeartbeats 4000000 in
theorem Open_w (v : Value) (t : Tm) (n : Int) (w : World) (hr : Rd (· < w.heap.size) w v t) (hn : -9223372036854775808 ≤ n ∧ n ≤ 9223372036854775807) :
    Calls Try.prog 59 #[v, .int .i64 n] w (AnsTE w (manyR t [free n]).1 (manyR t [free n]).2) := by
  obtain ⟨rt, rc, hres⟩ : ∃ rt rc, manyR t [free n] = (rt, rc) := ⟨_, _, rfl⟩
  rw [hres]
  obtain ⟨ao, cap, rfl⟩ := hr.shape
  obtain ⟨W, hW⟩ : ∃ W, W = (w.alloc (.cells #[.int .i64 t.kind, .int .i64 t.num, .slice ao t.sub.length cap] 24)).alloc (.cells #[.int .i64 0, .int .i64 0, .slice none 0 0] 24) := ⟨_, rfl⟩
  have hb0 : Below w.heap.size w W := by rw [hW]; exact (((Below.refl _ _).alloc (Nat.le_refl _) _).alloc (by simp only [World.size_alloc]; omega) _)
  have hsW : W.heap.size = w.heap.size + 2 := by rw [hW]; simp only [World.size_alloc]
  have Q : W.heap[w.heap.size]? = some (.cells #[.int .i64 t.kind, .int .i64 t.num, .slice ao t.sub.length cap] 24) := by rw [hW]; exact (Below.heap_alloc _ _ _ (by simp only [World.size_alloc]; omega)).trans (heap_new _ _ _ rfl)
  have Z : W.heap[w.heap.size + 1]? = some (.cells #[.int .i64 0, .int .i64 0, .slice none 0 0] 24) := by rw [hW]; exact heap_new _ _ _ (by simp only [World.size_alloc])
  have HQ := Lib.hid Q
  have HZ := Lib.hid Z
  have T := Lib.hid (hr.on hb0)
  have FB0 := Lib.hid hb0
  have SW := Lib.hid hsW
  have HW := Lib.hid hW
  have RES := Lib.hid hres
  have HN := Lib.hid hn
  obtain ⟨q0, q1, q2, -, ql⟩ := three Q
  rw [hW] at q0 q1 q2 ql
  clear hb0 hsW hW hr Q Z hres hn
  go_enter Try.func59, Try.ntmps59
  go_wp2_with fail
  rw [← HW.out] at q0 q1 q2 ql ⊢
  refine wp_region_order [(0, true), (1, true), (2, false), (3, false), (4, true), (5, true), (6, false), (7, false)]
    (fun w' => w'.cell? ⟨w.heap.size, 0, none⟩ = some (.int .i64 t.kind) ∧ w'.cell? ⟨w.heap.size, 1, none⟩ = some (.int .i64 t.num) ∧ w'.cell? ⟨w.heap.size, 2, none⟩ = some (.slice ao t.sub.length cap))
    (by kernel_rfl) (by kernel_rfl) ⟨q0, q1, q2⟩ (fun hHeld => ?_)
  simp only [pickT, List.getElem?_cons_zero, List.getElem?_cons_succ, Option.getD_some]
  repeat (refine wpT_take (v := ?_) (by rfl) (fun w' hSw => ?_) ?_; rotate_left; (go_simp; with_reducible rfl); simp only [Act.put, List.setIfInBounds_toArray, List.set_cons_zero, List.set_cons_succ])
  refine wpT_do (fun K hK => ?_)
  go_simp
  go_at_call 100
  refine (Free_w n _).mono ?_
  rintro e w1 ⟨rfl, hb⟩
  have hb1 : Below W.heap.size W w1 := (below_drewN (Below.refl _ _) 1).trans hb
  have HB1 := Lib.hid (FB0.out.trans (hb1.mono FB0.out.size))
  have T1 := Lib.hid (T.out.on hb1)
  have HQ1 := Lib.hid ((hb1.block _ (blt HQ.out)).trans HQ.out)
  have HZ1 := Lib.hid ((hb1.block _ (blt HZ.out)).trans HZ.out)
  have hsz1 : w.heap.size + 2 ≤ w1.heap.size := by have := hb1.size; have := SW.out; omega
  clear hb hb1 q0 q1 q2 ql
  obtain ⟨q0, q1, q2, -, ql⟩ := three HQ1.out
  refine hK.out _ _ ⟨q0, q1, q2⟩ (fun hHeld => ?_)
  clear hK K hHeld
  have hcon := One_q (x := free n) RES.out (Rd.leaf _ w1 8 n none 0 (Nat.zero_le _) (by omega) HN.out) T1.out
  have HCON := Lib.hid hcon
  clear hcon
  refine wpT_do (fun K hK => ?_)
  go_simp
  go_at_call 53
  refine HCON.out.mono ?_
  rintro e w2 ⟨k2, n2, ao2, m2, c2, rfl, hb2, hr2⟩
  have HB2 := Lib.hid (HB1.out.trans (hb2.mono HB1.out.size))
  have HQ2 := Lib.hid ((hb2.block _ (blt HQ1.out)).trans HQ1.out)
  have HZ2 := Lib.hid ((hb2.block _ (blt HZ1.out)).trans HZ1.out)
  have HR2 := Lib.hid (hr2.keep (P' := fun q => w.heap.size + 1 < q ∧ q < w2.heap.size) (fun q hq => ⟨by have := hq.1; omega, hq.2⟩) fun _ _ => rfl)
  clear hb2 hr2 q0 q1 q2 ql
  obtain ⟨q0, q1, q2, -, ql⟩ := three HQ2.out
  refine hK.out _ _ ⟨q0, q1, q2⟩ (fun hHeld => ?_)
  clear hK K hHeld
  repeat (refine wpT_take (v := ?_) (by rfl) (fun w' hSw => ?_) ?_; rotate_left; (go_simp; with_reducible rfl); simp only [Act.put, List.setIfInBounds_toArray, List.set_cons_zero, List.set_cons_succ])
  obtain ⟨z0, z1, z2, zf, zl⟩ := three HZ2.out
  have zf0 := zf 0
  have zf1 := zf 1
  have zf2 := zf 2
  have hoff := set3_off w2 (w.heap.size + 1) (.int .i64 k2) (.int .i64 n2) (.slice ao2 m2 c2)
  have HX := Lib.hid (set3_blk (a := .int .i64 k2) (b := .int .i64 n2) (c := .slice ao2 m2 c2) HZ2.out)
  have HB3 := Lib.hid ((((HB2.out.setCell (p := ⟨w.heap.size + 1, 0, none⟩) (by simp only []; omega) (.int .i64 k2)).setCell (p := ⟨w.heap.size + 1, 1, none⟩) (by simp only []; omega) (.int .i64 n2)).setCell (p := ⟨w.heap.size + 1, 2, none⟩) (by simp only []; omega) (.slice ao2 m2 c2)))
  have HR3 := Lib.hid (HR2.out.keep (w' := ((w2.setCell ⟨w.heap.size + 1, 0, none⟩ (.int .i64 k2)).setCell ⟨w.heap.size + 1, 1, none⟩ (.int .i64 n2)).setCell ⟨w.heap.size + 1, 2, none⟩ (.slice ao2 m2 c2))
    (P' := fun q => w.heap.size + 1 < q ∧ q < (((w2.setCell ⟨w.heap.size + 1, 0, none⟩ (.int .i64 k2)).setCell ⟨w.heap.size + 1, 1, none⟩ (.int .i64 n2)).setCell ⟨w.heap.size + 1, 2, none⟩ (.slice ao2 m2 c2)).heap.size) (fun q hq => ⟨hq.1, by rw [set3_size]; exact hq.2⟩) fun q hq => hoff q (by omega))
  have HQ3 := Lib.hid ((hoff _ (by omega)).trans HQ2.out)
  refine wpT_do (fun K hK => ?_)
  go_simp
  clear z0 z1 z2 zf zf0 zf1 zf2 zl hoff q0 q1 q2 ql
  generalize ((w2.setCell ⟨w.heap.size + 1, 0, none⟩ (.int .i64 k2)).setCell ⟨w.heap.size + 1, 1, none⟩ (.int .i64 n2)).setCell ⟨w.heap.size + 1, 2, none⟩ (.slice ao2 m2 c2) = w3 at HX HB3 HR3 HQ3 ⊢
  obtain ⟨q0, q1, q2, -, ql⟩ := three HQ3.out
  refine hK.out _ _ ⟨q0, q1, q2⟩ (fun hHeld => ?_)
  clear hK K hHeld
  obtain ⟨z0, z1, z2, zf, zl⟩ := three HX.out
  refine wpT_last (fun K hK => ?_)
  go_simp
  refine hK.out _ _ ?_
  clear hK K
  go_wp2_with fail
  exact bodyPost_ret (v := .tuple #[.agg #[.int .i64 k2, .int .i64 n2, .slice ao2 m2 c2], .int .i64 rc]) (by simp [results, Try.results59, go_sem, z0, z1, z2]) rfl ⟨_, _, _, _, _, rfl, HB3.out, HR3.out.keep (fun q hq => ⟨by omega, hq.2⟩) fun _ _ => rfl⟩
theorem Open_q {w : World} {v : Value} {t a : Tm} {n c : Int} (hq : manyR t [free n] = (a, c)) (hn : -9223372036854775808 ≤ n ∧ n ≤ 9223372036854775807) (h : Rd (· < w.heap.size) w v t) : Calls Try.prog 59 #[v, .int .i64 n] w (AnsTE w a c) := by
  have := Open_w v t n w h hn; rwa [hq] at this
end Go.Proofs.Ythjlfjaciigfiaa
