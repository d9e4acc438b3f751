/-
  subst.At, Named, Bind; ref09.At, Named, Bind: contracts of the walk.
  subst.Open: a contract of the walk; layer 9 at a known answer.
-/
import Derived.Test.YthjlfjaciigfiaaLeafRef
import Derived.Test.YthjlfjaciigfiaaAwake9
namespace Go.Proofs.Ythjlfjaciigfiaa
open Go.RowKit
set_option linter.unusedVariables false
set_option linter.unusedSimpArgs false

set_option maxRecDepth 100000 in
set_option maxHeartbeats 4000000 in
theorem At_w (v va : Value) (t a : Tm) (n : Int) (w : World) (hr : Rd (· < w.heap.size) w v t) (ha : Rd (· < w.heap.size) w va a) :
    Calls Try.prog 56 #[v, va, .int .i64 n] w (AnsTE w (atR t a n).1 (atR t a n).2) := by
  obtain ⟨rt, rc, hres⟩ : ∃ rt rc, atR t a n = (rt, rc) := ⟨_, _, rfl⟩
  rw [hres]
  have RES := Lib.hid hres
  clear hres
  obtain ⟨ao, cap, rfl⟩ := hr.shape
  obtain ⟨aoa, capa, rfl⟩ := ha.shape
  obtain ⟨W, hW⟩ : ∃ W, W = (((w.alloc (.cells #[.int .i64 t.kind, .int .i64 t.num, .slice ao t.sub.length cap] 24)).alloc (.cells #[.int .i64 a.kind, .int .i64 a.num, .slice aoa a.sub.length capa] 24)).alloc (.cells #[.int .i64 n] 3)).alloc (.cells #[.int .i64 0, .int .i64 0, .slice none 0 0] 24) := ⟨_, rfl⟩
  have hb0 : Below w.heap.size w W := by rw [hW]; exact (((((Below.refl _ _).alloc (Nat.le_refl _) _).alloc (by simp only [World.size_alloc]; omega) _).alloc (by simp only [World.size_alloc]; omega) _).alloc (by simp only [World.size_alloc]; omega) _)
  have hsW : W.heap.size = w.heap.size + 4 := by rw [hW]; simp only [World.size_alloc]
  have Q := Lib.hid (show W.heap[w.heap.size]? = some (.cells #[.int .i64 t.kind, .int .i64 t.num, .slice ao t.sub.length cap] 24) by rw [hW]; exact (Below.heap_alloc _ _ _ (by simp only [World.size_alloc]; omega)).trans ((Below.heap_alloc _ _ _ (by simp only [World.size_alloc]; omega)).trans ((Below.heap_alloc _ _ _ (by simp only [World.size_alloc]; omega)).trans (heap_new _ _ _ (by first | rfl | simp only [World.size_alloc])))))
  have AB := Lib.hid (show W.heap[w.heap.size + 1]? = some (.cells #[.int .i64 a.kind, .int .i64 a.num, .slice aoa a.sub.length capa] 24) by rw [hW]; exact (Below.heap_alloc _ _ _ (by simp only [World.size_alloc]; omega)).trans ((Below.heap_alloc _ _ _ (by simp only [World.size_alloc]; omega)).trans (heap_new _ _ _ (by first | rfl | simp only [World.size_alloc]))))
  have X := Lib.hid (show W.heap[w.heap.size + 1 + 1]? = some (.cells #[.int .i64 n] 3) by rw [hW]; exact (Below.heap_alloc _ _ _ (by simp only [World.size_alloc]; omega)).trans (heap_new _ _ _ (by first | rfl | simp only [World.size_alloc])))
  have Z := Lib.hid (show W.heap[w.heap.size + 1 + 1 + 1]? = some (.cells #[.int .i64 0, .int .i64 0, .slice none 0 0] 24) by rw [hW]; exact heap_new _ _ _ (by first | rfl | simp only [World.size_alloc]))
  have T := Lib.hid (hr.on hb0)
  have FW := Lib.hid (Below.refl W.heap.size W)
  have FB0 := Lib.hid hb0
  have SW := Lib.hid hsW
  have TA := Lib.hid (ha.on hb0)
  have HA0 := Lib.hid ha
  clear ha
  clear hb0 hsW
  have HW := Lib.hid hW
  clear hW hr
  obtain ⟨y, hy⟩ : ∃ y, y = Shp t := ⟨_, rfl⟩
  have Hy := Lib.hid hy
  clear hy
  cases y
  · skip
    have e : atR t a n = (tm0, 5) := by unfold atR; rw [if_neg (fun h => by rw [← Hy.out] at h; cases h.1)]
    rw [RES.out] at e
    injection e with e1 e2
    subst e1; subst e2
    have hs := Shaped_r T.out
    rw [← Hy.out] at hs
    go_enter Try.func56, Try.ntmps56
    go_wp2_with fail
    rw [← HW.out]
    refine (hs).mono ?_
    rintro e w1 ⟨rfl, hb⟩
    replace X := Lib.hid ((hb.block _ (blt X.out)).trans X.out)
    replace FW := Lib.hid (FW.out.trans (hb.mono FW.out.size))
    replace Q := Lib.hid ((hb.block _ (blt Q.out)).trans Q.out)
    replace AB := Lib.hid ((hb.block _ (blt AB.out)).trans AB.out)
    replace Z := Lib.hid ((hb.block _ (blt Z.out)).trans Z.out)
    replace T := Lib.hid (T.out.on hb)
    replace TA := Lib.hid (TA.out.on hb)
    clear hb
    obtain ⟨Z0, Z1, Z2, Zf, -⟩ := three Z.out
    go_wp2_with fail
    exact bodyPost_ret (v := .tuple #[.agg #[.int .i64 0, .int .i64 0, .slice none 0 0], .int .i64 5]) (by simp [results, Try.results56, go_sem, Z0, Z1, Z2]) rfl
      ⟨_, _, _, _, _, rfl, (((FB0.out.trans (FW.out.mono FB0.out.size)).setCell (by simp only []; omega) _).setCell (by simp only []; omega) _).setCell (by simp only []; omega) _, Rd.zero _ _⟩
  obtain ⟨u, hu⟩ : ∃ y, y = Shp a := ⟨_, rfl⟩
  have Hu := Lib.hid hu
  clear hu
  cases u
  · skip
    have e : atR t a n = (tm0, 5) := by unfold atR; rw [if_neg (fun h => by rw [← Hu.out] at h; cases h.2.1)]
    rw [RES.out] at e
    injection e with e1 e2
    subst e1; subst e2
    have hs := Shaped_r T.out
    rw [← Hy.out] at hs
    go_enter Try.func56, Try.ntmps56
    go_wp2_with fail
    rw [← HW.out]
    refine (hs).mono ?_
    rintro e w1 ⟨rfl, hb⟩
    replace X := Lib.hid ((hb.block _ (blt X.out)).trans X.out)
    replace FW := Lib.hid (FW.out.trans (hb.mono FW.out.size))
    replace Q := Lib.hid ((hb.block _ (blt Q.out)).trans Q.out)
    replace AB := Lib.hid ((hb.block _ (blt AB.out)).trans AB.out)
    replace Z := Lib.hid ((hb.block _ (blt Z.out)).trans Z.out)
    replace T := Lib.hid (T.out.on hb)
    replace TA := Lib.hid (TA.out.on hb)
    clear hb
    obtain ⟨AB0, AB1, AB2, ABf, -⟩ := three AB.out
    go_wp2_with fail
    clear AB0 AB1 AB2 ABf
    have hs := Shaped_r TA.out
    rw [← Hu.out] at hs
    refine (hs).mono ?_
    rintro e w2 ⟨rfl, hb⟩
    replace X := Lib.hid ((hb.block _ (blt X.out)).trans X.out)
    replace FW := Lib.hid (FW.out.trans (hb.mono FW.out.size))
    replace Q := Lib.hid ((hb.block _ (blt Q.out)).trans Q.out)
    replace AB := Lib.hid ((hb.block _ (blt AB.out)).trans AB.out)
    replace Z := Lib.hid ((hb.block _ (blt Z.out)).trans Z.out)
    replace T := Lib.hid (T.out.on hb)
    replace TA := Lib.hid (TA.out.on hb)
    clear hb
    obtain ⟨Z0, Z1, Z2, Zf, -⟩ := three Z.out
    go_wp2_with fail
    exact bodyPost_ret (v := .tuple #[.agg #[.int .i64 0, .int .i64 0, .slice none 0 0], .int .i64 5]) (by simp [results, Try.results56, go_sem, Z0, Z1, Z2]) rfl
      ⟨_, _, _, _, _, rfl, (((FB0.out.trans (FW.out.mono FB0.out.size)).setCell (by simp only []; omega) _).setCell (by simp only []; omega) _).setCell (by simp only []; omega) _, Rd.zero _ _⟩
  by_cases hfn : fit n = true
  rotate_left
  · skip
    have e : atR t a n = (tm0, 5) := by unfold atR; rw [if_neg (fun h => hfn h.2.2)]
    rw [RES.out] at e
    injection e with e1 e2
    subst e1; subst e2
    have hff : fit n = false := by simpa using hfn
    clear hfn
    have hs := Shaped_r T.out
    rw [← Hy.out] at hs
    go_enter Try.func56, Try.ntmps56
    go_wp2_with fail
    rw [← HW.out]
    refine (hs).mono ?_
    rintro e w1 ⟨rfl, hb⟩
    replace X := Lib.hid ((hb.block _ (blt X.out)).trans X.out)
    replace FW := Lib.hid (FW.out.trans (hb.mono FW.out.size))
    replace Q := Lib.hid ((hb.block _ (blt Q.out)).trans Q.out)
    replace AB := Lib.hid ((hb.block _ (blt AB.out)).trans AB.out)
    replace Z := Lib.hid ((hb.block _ (blt Z.out)).trans Z.out)
    replace T := Lib.hid (T.out.on hb)
    replace TA := Lib.hid (TA.out.on hb)
    clear hb
    obtain ⟨AB0, AB1, AB2, ABf, -⟩ := three AB.out
    go_wp2_with fail
    clear AB0 AB1 AB2 ABf
    have hs := Shaped_r TA.out
    rw [← Hu.out] at hs
    refine (hs).mono ?_
    rintro e w2 ⟨rfl, hb⟩
    replace X := Lib.hid ((hb.block _ (blt X.out)).trans X.out)
    replace FW := Lib.hid (FW.out.trans (hb.mono FW.out.size))
    replace Q := Lib.hid ((hb.block _ (blt Q.out)).trans Q.out)
    replace AB := Lib.hid ((hb.block _ (blt AB.out)).trans AB.out)
    replace Z := Lib.hid ((hb.block _ (blt Z.out)).trans Z.out)
    replace T := Lib.hid (T.out.on hb)
    replace TA := Lib.hid (TA.out.on hb)
    clear hb
    obtain ⟨X0, Xf, -⟩ := one1 X.out
    go_wp2_with fail
    clear X0 Xf
    have hf := fits94_w n w2
    rw [hff] at hf
    refine hf.mono ?_
    rintro e w' ⟨rfl, rfl⟩
    obtain ⟨Z0, Z1, Z2, Zf, -⟩ := three Z.out
    go_wp2_with fail
    exact bodyPost_ret (v := .tuple #[.agg #[.int .i64 0, .int .i64 0, .slice none 0 0], .int .i64 5]) (by simp [results, Try.results56, go_sem, Z0, Z1, Z2]) rfl
      ⟨_, _, _, _, _, rfl, (((FB0.out.trans (FW.out.mono FB0.out.size)).setCell (by simp only []; omega) _).setCell (by simp only []; omega) _).setCell (by simp only []; omega) _, Rd.zero _ _⟩
  have hnn := (fit_iff n).mp hfn
  have HFN := Lib.hid hfn
  clear hfn
  have hs := Shaped_r T.out
  rw [← Hy.out] at hs
  go_enter Try.func56, Try.ntmps56
  go_wp2_with fail
  rw [← HW.out]
  refine (hs).mono ?_
  rintro e w1 ⟨rfl, hb⟩
  replace X := Lib.hid ((hb.block _ (blt X.out)).trans X.out)
  replace FW := Lib.hid (FW.out.trans (hb.mono FW.out.size))
  replace Q := Lib.hid ((hb.block _ (blt Q.out)).trans Q.out)
  replace AB := Lib.hid ((hb.block _ (blt AB.out)).trans AB.out)
  replace Z := Lib.hid ((hb.block _ (blt Z.out)).trans Z.out)
  replace T := Lib.hid (T.out.on hb)
  replace TA := Lib.hid (TA.out.on hb)
  clear hb
  obtain ⟨AB0, AB1, AB2, ABf, -⟩ := three AB.out
  go_wp2_with fail
  clear AB0 AB1 AB2 ABf
  have hs := Shaped_r TA.out
  rw [← Hu.out] at hs
  refine (hs).mono ?_
  rintro e w2 ⟨rfl, hb⟩
  replace X := Lib.hid ((hb.block _ (blt X.out)).trans X.out)
  replace FW := Lib.hid (FW.out.trans (hb.mono FW.out.size))
  replace Q := Lib.hid ((hb.block _ (blt Q.out)).trans Q.out)
  replace AB := Lib.hid ((hb.block _ (blt AB.out)).trans AB.out)
  replace Z := Lib.hid ((hb.block _ (blt Z.out)).trans Z.out)
  replace T := Lib.hid (T.out.on hb)
  replace TA := Lib.hid (TA.out.on hb)
  clear hb
  obtain ⟨X0, Xf, -⟩ := one1 X.out
  go_wp2_with fail
  clear X0 Xf
  have hf := fits94_w n w2
  rw [HFN.out] at hf
  refine hf.mono ?_
  rintro e w' ⟨rfl, rfl⟩
  have e : atR t a n = subR (Fat a n) t := by unfold atR; rw [if_pos ⟨Hy.out.symm, Hu.out.symm, HFN.out⟩]
  rw [RES.out] at e
  have hcon := run_w (maker_at (nb := w.heap.size + 1 + 1) (ab := w.heap.size + 1) (n0 := n) (ka := a.kind) (na := a.num) (aa := aoa) (ma := a.sub.length) (ca := capa) (a := a) (PA := (· < w.heap.size)) ⟨hnn.1, hnn.2⟩ Hu.out.symm) _ t w2 T.out Hy.out.symm (fun q hq => by have h1 := FW.out.size; have h2 := SW.out; rcases hq with rfl | rfl | hq <;> omega) ⟨X.out, AB.out, HA0.out.keep (w' := w2) (fun _ h => h) fun q hq => (FB0.out.trans (FW.out.mono FB0.out.size)).block q hq⟩
  rw [← e] at hcon
  have HCON := Lib.hid hcon
  clear hcon e
  obtain ⟨Q0, Q1, Q2, Qf, -⟩ := three Q.out
  go_wp2_with fail
  clear Q0 Q1 Q2 Qf
  refine HCON.out.mono ?_
  rintro e w3 ⟨k3, n3, ao3, m3, c3, rfl, hb, hr⟩
  have HR3 := Lib.hid (hr.keep (P' := fun q => w.heap.size + 1 + 1 + 1 < q ∧ q < w3.heap.size) (fun q hq => ⟨by have h1 := FW.out.size; have h2 := SW.out; have h3 := hq.1; omega, hq.2⟩) fun _ _ => rfl)
  clear hr
  replace X := Lib.hid ((hb.block _ (blt X.out)).trans X.out)
  replace FW := Lib.hid (FW.out.trans (hb.mono FW.out.size))
  replace Q := Lib.hid ((hb.block _ (blt Q.out)).trans Q.out)
  replace AB := Lib.hid ((hb.block _ (blt AB.out)).trans AB.out)
  replace Z := Lib.hid ((hb.block _ (blt Z.out)).trans Z.out)
  replace T := Lib.hid (T.out.on hb)
  replace TA := Lib.hid (TA.out.on hb)
  clear hb
  obtain ⟨Z0, Z1, Z2, Zf, -⟩ := three Z.out
  go_wp2_with fail
  exact bodyPost_ret (v := .tuple #[.agg #[.int .i64 k3, .int .i64 n3, .slice ao3 m3 c3], .int .i64 rc]) (by simp [results, Try.results56, go_sem, Z0, Z1, Z2]) rfl
    ⟨_, _, _, _, _, rfl, (((FB0.out.trans (FW.out.mono FB0.out.size)).setCell (by simp only []; omega) _).setCell (by simp only []; omega) _).setCell (by simp only []; omega) _, HR3.out.keep (fun q hq => ⟨by have := hq.1; omega, by rw [set3_size]; exact hq.2⟩) fun q hq => set3_off _ _ _ _ _ q (by have := hq.1; omega)⟩
set_option maxRecDepth 100000 in
set_option maxHeartbeats 4000000 in
theorem Named_w (v va : Value) (t a : Tm) (n : Int) (w : World) (hr : Rd (· < w.heap.size) w v t) (ha : Rd (· < w.heap.size) w va a) :
    Calls Try.prog 61 #[v, va, .int .i64 n] w (AnsTE w (namedR t a n).1 (namedR t a n).2) := by
  obtain ⟨rt, rc, hres⟩ : ∃ rt rc, namedR t a n = (rt, rc) := ⟨_, _, rfl⟩
  rw [hres]
  have RES := Lib.hid hres
  clear hres
  obtain ⟨ao, cap, rfl⟩ := hr.shape
  obtain ⟨aoa, capa, rfl⟩ := ha.shape
  obtain ⟨W, hW⟩ : ∃ W, W = (((w.alloc (.cells #[.int .i64 t.kind, .int .i64 t.num, .slice ao t.sub.length cap] 24)).alloc (.cells #[.int .i64 a.kind, .int .i64 a.num, .slice aoa a.sub.length capa] 24)).alloc (.cells #[.int .i64 n] 3)).alloc (.cells #[.int .i64 0, .int .i64 0, .slice none 0 0] 24) := ⟨_, rfl⟩
  have hb0 : Below w.heap.size w W := by rw [hW]; exact (((((Below.refl _ _).alloc (Nat.le_refl _) _).alloc (by simp only [World.size_alloc]; omega) _).alloc (by simp only [World.size_alloc]; omega) _).alloc (by simp only [World.size_alloc]; omega) _)
  have hsW : W.heap.size = w.heap.size + 4 := by rw [hW]; simp only [World.size_alloc]
  have Q := Lib.hid (show W.heap[w.heap.size]? = some (.cells #[.int .i64 t.kind, .int .i64 t.num, .slice ao t.sub.length cap] 24) by rw [hW]; exact (Below.heap_alloc _ _ _ (by simp only [World.size_alloc]; omega)).trans ((Below.heap_alloc _ _ _ (by simp only [World.size_alloc]; omega)).trans ((Below.heap_alloc _ _ _ (by simp only [World.size_alloc]; omega)).trans (heap_new _ _ _ (by first | rfl | simp only [World.size_alloc])))))
  have AB := Lib.hid (show W.heap[w.heap.size + 1]? = some (.cells #[.int .i64 a.kind, .int .i64 a.num, .slice aoa a.sub.length capa] 24) by rw [hW]; exact (Below.heap_alloc _ _ _ (by simp only [World.size_alloc]; omega)).trans ((Below.heap_alloc _ _ _ (by simp only [World.size_alloc]; omega)).trans (heap_new _ _ _ (by first | rfl | simp only [World.size_alloc]))))
  have X := Lib.hid (show W.heap[w.heap.size + 1 + 1]? = some (.cells #[.int .i64 n] 3) by rw [hW]; exact (Below.heap_alloc _ _ _ (by simp only [World.size_alloc]; omega)).trans (heap_new _ _ _ (by first | rfl | simp only [World.size_alloc])))
  have Z := Lib.hid (show W.heap[w.heap.size + 1 + 1 + 1]? = some (.cells #[.int .i64 0, .int .i64 0, .slice none 0 0] 24) by rw [hW]; exact heap_new _ _ _ (by first | rfl | simp only [World.size_alloc]))
  have T := Lib.hid (hr.on hb0)
  have FW := Lib.hid (Below.refl W.heap.size W)
  have FB0 := Lib.hid hb0
  have SW := Lib.hid hsW
  have TA := Lib.hid (ha.on hb0)
  have HA0 := Lib.hid ha
  clear ha
  clear hb0 hsW
  have HW := Lib.hid hW
  clear hW hr
  obtain ⟨y, hy⟩ : ∃ y, y = Shp t := ⟨_, rfl⟩
  have Hy := Lib.hid hy
  clear hy
  cases y
  · skip
    have e : namedR t a n = (tm0, 5) := by unfold namedR; rw [if_neg (fun h => by rw [← Hy.out] at h; cases h.1)]
    rw [RES.out] at e
    injection e with e1 e2
    subst e1; subst e2
    have hs := Shaped_r T.out
    rw [← Hy.out] at hs
    go_enter Try.func61, Try.ntmps61
    go_wp2_with fail
    rw [← HW.out]
    refine (hs).mono ?_
    rintro e w1 ⟨rfl, hb⟩
    replace X := Lib.hid ((hb.block _ (blt X.out)).trans X.out)
    replace FW := Lib.hid (FW.out.trans (hb.mono FW.out.size))
    replace Q := Lib.hid ((hb.block _ (blt Q.out)).trans Q.out)
    replace AB := Lib.hid ((hb.block _ (blt AB.out)).trans AB.out)
    replace Z := Lib.hid ((hb.block _ (blt Z.out)).trans Z.out)
    replace T := Lib.hid (T.out.on hb)
    replace TA := Lib.hid (TA.out.on hb)
    clear hb
    obtain ⟨Z0, Z1, Z2, Zf, -⟩ := three Z.out
    go_wp2_with fail
    exact bodyPost_ret (v := .tuple #[.agg #[.int .i64 0, .int .i64 0, .slice none 0 0], .int .i64 5]) (by simp [results, Try.results61, go_sem, Z0, Z1, Z2]) rfl
      ⟨_, _, _, _, _, rfl, (((FB0.out.trans (FW.out.mono FB0.out.size)).setCell (by simp only []; omega) _).setCell (by simp only []; omega) _).setCell (by simp only []; omega) _, Rd.zero _ _⟩
  obtain ⟨u, hu⟩ : ∃ y, y = Shp a := ⟨_, rfl⟩
  have Hu := Lib.hid hu
  clear hu
  cases u
  · skip
    have e : namedR t a n = (tm0, 5) := by unfold namedR; rw [if_neg (fun h => by rw [← Hu.out] at h; cases h.2.1)]
    rw [RES.out] at e
    injection e with e1 e2
    subst e1; subst e2
    have hs := Shaped_r T.out
    rw [← Hy.out] at hs
    go_enter Try.func61, Try.ntmps61
    go_wp2_with fail
    rw [← HW.out]
    refine (hs).mono ?_
    rintro e w1 ⟨rfl, hb⟩
    replace X := Lib.hid ((hb.block _ (blt X.out)).trans X.out)
    replace FW := Lib.hid (FW.out.trans (hb.mono FW.out.size))
    replace Q := Lib.hid ((hb.block _ (blt Q.out)).trans Q.out)
    replace AB := Lib.hid ((hb.block _ (blt AB.out)).trans AB.out)
    replace Z := Lib.hid ((hb.block _ (blt Z.out)).trans Z.out)
    replace T := Lib.hid (T.out.on hb)
    replace TA := Lib.hid (TA.out.on hb)
    clear hb
    obtain ⟨AB0, AB1, AB2, ABf, -⟩ := three AB.out
    go_wp2_with fail
    clear AB0 AB1 AB2 ABf
    have hs := Shaped_r TA.out
    rw [← Hu.out] at hs
    refine (hs).mono ?_
    rintro e w2 ⟨rfl, hb⟩
    replace X := Lib.hid ((hb.block _ (blt X.out)).trans X.out)
    replace FW := Lib.hid (FW.out.trans (hb.mono FW.out.size))
    replace Q := Lib.hid ((hb.block _ (blt Q.out)).trans Q.out)
    replace AB := Lib.hid ((hb.block _ (blt AB.out)).trans AB.out)
    replace Z := Lib.hid ((hb.block _ (blt Z.out)).trans Z.out)
    replace T := Lib.hid (T.out.on hb)
    replace TA := Lib.hid (TA.out.on hb)
    clear hb
    obtain ⟨Z0, Z1, Z2, Zf, -⟩ := three Z.out
    go_wp2_with fail
    exact bodyPost_ret (v := .tuple #[.agg #[.int .i64 0, .int .i64 0, .slice none 0 0], .int .i64 5]) (by simp [results, Try.results61, go_sem, Z0, Z1, Z2]) rfl
      ⟨_, _, _, _, _, rfl, (((FB0.out.trans (FW.out.mono FB0.out.size)).setCell (by simp only []; omega) _).setCell (by simp only []; omega) _).setCell (by simp only []; omega) _, Rd.zero _ _⟩
  by_cases hfn : fit n = true
  rotate_left
  · skip
    have e : namedR t a n = (tm0, 5) := by unfold namedR; rw [if_neg (fun h => hfn h.2.2)]
    rw [RES.out] at e
    injection e with e1 e2
    subst e1; subst e2
    have hff : fit n = false := by simpa using hfn
    clear hfn
    have hs := Shaped_r T.out
    rw [← Hy.out] at hs
    go_enter Try.func61, Try.ntmps61
    go_wp2_with fail
    rw [← HW.out]
    refine (hs).mono ?_
    rintro e w1 ⟨rfl, hb⟩
    replace X := Lib.hid ((hb.block _ (blt X.out)).trans X.out)
    replace FW := Lib.hid (FW.out.trans (hb.mono FW.out.size))
    replace Q := Lib.hid ((hb.block _ (blt Q.out)).trans Q.out)
    replace AB := Lib.hid ((hb.block _ (blt AB.out)).trans AB.out)
    replace Z := Lib.hid ((hb.block _ (blt Z.out)).trans Z.out)
    replace T := Lib.hid (T.out.on hb)
    replace TA := Lib.hid (TA.out.on hb)
    clear hb
    obtain ⟨AB0, AB1, AB2, ABf, -⟩ := three AB.out
    go_wp2_with fail
    clear AB0 AB1 AB2 ABf
    have hs := Shaped_r TA.out
    rw [← Hu.out] at hs
    refine (hs).mono ?_
    rintro e w2 ⟨rfl, hb⟩
    replace X := Lib.hid ((hb.block _ (blt X.out)).trans X.out)
    replace FW := Lib.hid (FW.out.trans (hb.mono FW.out.size))
    replace Q := Lib.hid ((hb.block _ (blt Q.out)).trans Q.out)
    replace AB := Lib.hid ((hb.block _ (blt AB.out)).trans AB.out)
    replace Z := Lib.hid ((hb.block _ (blt Z.out)).trans Z.out)
    replace T := Lib.hid (T.out.on hb)
    replace TA := Lib.hid (TA.out.on hb)
    clear hb
    obtain ⟨X0, Xf, -⟩ := one1 X.out
    go_wp2_with fail
    clear X0 Xf
    have hf := fits94_w n w2
    rw [hff] at hf
    refine hf.mono ?_
    rintro e w' ⟨rfl, rfl⟩
    obtain ⟨Z0, Z1, Z2, Zf, -⟩ := three Z.out
    go_wp2_with fail
    exact bodyPost_ret (v := .tuple #[.agg #[.int .i64 0, .int .i64 0, .slice none 0 0], .int .i64 5]) (by simp [results, Try.results61, go_sem, Z0, Z1, Z2]) rfl
      ⟨_, _, _, _, _, rfl, (((FB0.out.trans (FW.out.mono FB0.out.size)).setCell (by simp only []; omega) _).setCell (by simp only []; omega) _).setCell (by simp only []; omega) _, Rd.zero _ _⟩
  have hnn := (fit_iff n).mp hfn
  have HFN := Lib.hid hfn
  clear hfn
  have hs := Shaped_r T.out
  rw [← Hy.out] at hs
  go_enter Try.func61, Try.ntmps61
  go_wp2_with fail
  rw [← HW.out]
  refine (hs).mono ?_
  rintro e w1 ⟨rfl, hb⟩
  replace X := Lib.hid ((hb.block _ (blt X.out)).trans X.out)
  replace FW := Lib.hid (FW.out.trans (hb.mono FW.out.size))
  replace Q := Lib.hid ((hb.block _ (blt Q.out)).trans Q.out)
  replace AB := Lib.hid ((hb.block _ (blt AB.out)).trans AB.out)
  replace Z := Lib.hid ((hb.block _ (blt Z.out)).trans Z.out)
  replace T := Lib.hid (T.out.on hb)
  replace TA := Lib.hid (TA.out.on hb)
  clear hb
  obtain ⟨AB0, AB1, AB2, ABf, -⟩ := three AB.out
  go_wp2_with fail
  clear AB0 AB1 AB2 ABf
  have hs := Shaped_r TA.out
  rw [← Hu.out] at hs
  refine (hs).mono ?_
  rintro e w2 ⟨rfl, hb⟩
  replace X := Lib.hid ((hb.block _ (blt X.out)).trans X.out)
  replace FW := Lib.hid (FW.out.trans (hb.mono FW.out.size))
  replace Q := Lib.hid ((hb.block _ (blt Q.out)).trans Q.out)
  replace AB := Lib.hid ((hb.block _ (blt AB.out)).trans AB.out)
  replace Z := Lib.hid ((hb.block _ (blt Z.out)).trans Z.out)
  replace T := Lib.hid (T.out.on hb)
  replace TA := Lib.hid (TA.out.on hb)
  clear hb
  obtain ⟨X0, Xf, -⟩ := one1 X.out
  go_wp2_with fail
  clear X0 Xf
  have hf := fits94_w n w2
  rw [HFN.out] at hf
  refine hf.mono ?_
  rintro e w' ⟨rfl, rfl⟩
  have e : namedR t a n = subR (Fnm a n) t := by unfold namedR; rw [if_pos ⟨Hy.out.symm, Hu.out.symm, HFN.out⟩]
  rw [RES.out] at e
  have hcon := run_w (maker_nm (nb := w.heap.size + 1 + 1) (ab := w.heap.size + 1) (n0 := n) (ka := a.kind) (na := a.num) (aa := aoa) (ma := a.sub.length) (ca := capa) (a := a) (PA := (· < w.heap.size)) ⟨hnn.1, hnn.2⟩ Hu.out.symm) _ t w2 T.out Hy.out.symm (fun q hq => by have h1 := FW.out.size; have h2 := SW.out; rcases hq with rfl | rfl | hq <;> omega) ⟨X.out, AB.out, HA0.out.keep (w' := w2) (fun _ h => h) fun q hq => (FB0.out.trans (FW.out.mono FB0.out.size)).block q hq⟩
  rw [← e] at hcon
  have HCON := Lib.hid hcon
  clear hcon e
  obtain ⟨Q0, Q1, Q2, Qf, -⟩ := three Q.out
  go_wp2_with fail
  clear Q0 Q1 Q2 Qf
  refine HCON.out.mono ?_
  rintro e w3 ⟨k3, n3, ao3, m3, c3, rfl, hb, hr⟩
  have HR3 := Lib.hid (hr.keep (P' := fun q => w.heap.size + 1 + 1 + 1 < q ∧ q < w3.heap.size) (fun q hq => ⟨by have h1 := FW.out.size; have h2 := SW.out; have h3 := hq.1; omega, hq.2⟩) fun _ _ => rfl)
  clear hr
  replace X := Lib.hid ((hb.block _ (blt X.out)).trans X.out)
  replace FW := Lib.hid (FW.out.trans (hb.mono FW.out.size))
  replace Q := Lib.hid ((hb.block _ (blt Q.out)).trans Q.out)
  replace AB := Lib.hid ((hb.block _ (blt AB.out)).trans AB.out)
  replace Z := Lib.hid ((hb.block _ (blt Z.out)).trans Z.out)
  replace T := Lib.hid (T.out.on hb)
  replace TA := Lib.hid (TA.out.on hb)
  clear hb
  obtain ⟨Z0, Z1, Z2, Zf, -⟩ := three Z.out
  go_wp2_with fail
  exact bodyPost_ret (v := .tuple #[.agg #[.int .i64 k3, .int .i64 n3, .slice ao3 m3 c3], .int .i64 rc]) (by simp [results, Try.results61, go_sem, Z0, Z1, Z2]) rfl
    ⟨_, _, _, _, _, rfl, (((FB0.out.trans (FW.out.mono FB0.out.size)).setCell (by simp only []; omega) _).setCell (by simp only []; omega) _).setCell (by simp only []; omega) _, HR3.out.keep (fun q hq => ⟨by have := hq.1; omega, by rw [set3_size]; exact hq.2⟩) fun q hq => set3_off _ _ _ _ _ q (by have := hq.1; omega)⟩
set_option maxRecDepth 100000 in
set_option maxHeartbeats 4000000 in
theorem Bind_w (v : Value) (t : Tm) (n : Int) (w : World) (hr : Rd (· < w.heap.size) w v t) :
    Calls Try.prog 58 #[v, .int .i64 n] w (AnsTE w (bindR t n).1 (bindR t n).2) := by
  obtain ⟨rt, rc, hres⟩ : ∃ rt rc, bindR t n = (rt, rc) := ⟨_, _, rfl⟩
  rw [hres]
  have RES := Lib.hid hres
  clear hres
  obtain ⟨ao, cap, rfl⟩ := hr.shape
  obtain ⟨W, hW⟩ : ∃ W, W = ((w.alloc (.cells #[.int .i64 t.kind, .int .i64 t.num, .slice ao t.sub.length cap] 24)).alloc (.cells #[.int .i64 n] 3)).alloc (.cells #[.int .i64 0, .int .i64 0, .slice none 0 0] 24) := ⟨_, rfl⟩
  have hb0 : Below w.heap.size w W := by rw [hW]; exact ((((Below.refl _ _).alloc (Nat.le_refl _) _).alloc (by simp only [World.size_alloc]; omega) _).alloc (by simp only [World.size_alloc]; omega) _)
  have hsW : W.heap.size = w.heap.size + 3 := by rw [hW]; simp only [World.size_alloc]
  have Q := Lib.hid (show W.heap[w.heap.size]? = some (.cells #[.int .i64 t.kind, .int .i64 t.num, .slice ao t.sub.length cap] 24) by rw [hW]; exact (Below.heap_alloc _ _ _ (by simp only [World.size_alloc]; omega)).trans ((Below.heap_alloc _ _ _ (by simp only [World.size_alloc]; omega)).trans (heap_new _ _ _ (by first | rfl | simp only [World.size_alloc]))))
  have X := Lib.hid (show W.heap[w.heap.size + 1]? = some (.cells #[.int .i64 n] 3) by rw [hW]; exact (Below.heap_alloc _ _ _ (by simp only [World.size_alloc]; omega)).trans (heap_new _ _ _ (by first | rfl | simp only [World.size_alloc])))
  have Z := Lib.hid (show W.heap[w.heap.size + 1 + 1]? = some (.cells #[.int .i64 0, .int .i64 0, .slice none 0 0] 24) by rw [hW]; exact heap_new _ _ _ (by first | rfl | simp only [World.size_alloc]))
  have T := Lib.hid (hr.on hb0)
  have FW := Lib.hid (Below.refl W.heap.size W)
  have FB0 := Lib.hid hb0
  have SW := Lib.hid hsW
  clear hb0 hsW
  have HW := Lib.hid hW
  clear hW hr
  obtain ⟨y, hy⟩ : ∃ y, y = Shp t := ⟨_, rfl⟩
  have Hy := Lib.hid hy
  clear hy
  cases y
  · skip
    have e : bindR t n = (tm0, 5) := by unfold bindR; rw [if_neg (fun h => by rw [← Hy.out] at h; cases h.1)]
    rw [RES.out] at e
    injection e with e1 e2
    subst e1; subst e2
    have hs := Shaped_r T.out
    rw [← Hy.out] at hs
    go_enter Try.func58, Try.ntmps58
    go_wp2_with fail
    rw [← HW.out]
    refine (hs).mono ?_
    rintro e w1 ⟨rfl, hb⟩
    replace X := Lib.hid ((hb.block _ (blt X.out)).trans X.out)
    replace FW := Lib.hid (FW.out.trans (hb.mono FW.out.size))
    replace Q := Lib.hid ((hb.block _ (blt Q.out)).trans Q.out)
    replace Z := Lib.hid ((hb.block _ (blt Z.out)).trans Z.out)
    replace T := Lib.hid (T.out.on hb)
    clear hb
    obtain ⟨Z0, Z1, Z2, Zf, -⟩ := three Z.out
    go_wp2_with fail
    exact bodyPost_ret (v := .tuple #[.agg #[.int .i64 0, .int .i64 0, .slice none 0 0], .int .i64 5]) (by simp [results, Try.results58, go_sem, Z0, Z1, Z2]) rfl
      ⟨_, _, _, _, _, rfl, (((FB0.out.trans (FW.out.mono FB0.out.size)).setCell (by simp only []; omega) _).setCell (by simp only []; omega) _).setCell (by simp only []; omega) _, Rd.zero _ _⟩
  by_cases hfn : fit n = true
  rotate_left
  · skip
    have e : bindR t n = (tm0, 5) := by unfold bindR; rw [if_neg (fun h => hfn h.2)]
    rw [RES.out] at e
    injection e with e1 e2
    subst e1; subst e2
    have hff : fit n = false := by simpa using hfn
    clear hfn
    have hs := Shaped_r T.out
    rw [← Hy.out] at hs
    go_enter Try.func58, Try.ntmps58
    go_wp2_with fail
    rw [← HW.out]
    refine (hs).mono ?_
    rintro e w1 ⟨rfl, hb⟩
    replace X := Lib.hid ((hb.block _ (blt X.out)).trans X.out)
    replace FW := Lib.hid (FW.out.trans (hb.mono FW.out.size))
    replace Q := Lib.hid ((hb.block _ (blt Q.out)).trans Q.out)
    replace Z := Lib.hid ((hb.block _ (blt Z.out)).trans Z.out)
    replace T := Lib.hid (T.out.on hb)
    clear hb
    obtain ⟨X0, Xf, -⟩ := one1 X.out
    go_wp2_with fail
    clear X0 Xf
    have hf := fits94_w n w1
    rw [hff] at hf
    refine hf.mono ?_
    rintro e w' ⟨rfl, rfl⟩
    obtain ⟨Z0, Z1, Z2, Zf, -⟩ := three Z.out
    go_wp2_with fail
    exact bodyPost_ret (v := .tuple #[.agg #[.int .i64 0, .int .i64 0, .slice none 0 0], .int .i64 5]) (by simp [results, Try.results58, go_sem, Z0, Z1, Z2]) rfl
      ⟨_, _, _, _, _, rfl, (((FB0.out.trans (FW.out.mono FB0.out.size)).setCell (by simp only []; omega) _).setCell (by simp only []; omega) _).setCell (by simp only []; omega) _, Rd.zero _ _⟩
  have hnn := (fit_iff n).mp hfn
  have HFN := Lib.hid hfn
  clear hfn
  have hs := Shaped_r T.out
  rw [← Hy.out] at hs
  go_enter Try.func58, Try.ntmps58
  go_wp2_with fail
  rw [← HW.out]
  refine (hs).mono ?_
  rintro e w1 ⟨rfl, hb⟩
  replace X := Lib.hid ((hb.block _ (blt X.out)).trans X.out)
  replace FW := Lib.hid (FW.out.trans (hb.mono FW.out.size))
  replace Q := Lib.hid ((hb.block _ (blt Q.out)).trans Q.out)
  replace Z := Lib.hid ((hb.block _ (blt Z.out)).trans Z.out)
  replace T := Lib.hid (T.out.on hb)
  clear hb
  obtain ⟨X0, Xf, -⟩ := one1 X.out
  go_wp2_with fail
  clear X0 Xf
  have hf := fits94_w n w1
  rw [HFN.out] at hf
  refine hf.mono ?_
  rintro e w' ⟨rfl, rfl⟩
  have e : bindR t n = subR (Fbd n) t := by unfold bindR; rw [if_pos ⟨Hy.out.symm, HFN.out⟩]
  rw [RES.out] at e
  have hcon := run_w (maker_bd (nb := w.heap.size + 1) (n0 := n) ⟨hnn.1, hnn.2⟩) _ t w1 T.out Hy.out.symm (fun q hq => by have h1 := FW.out.size; have h2 := SW.out; subst hq; omega) X.out
  rw [← e] at hcon
  have HCON := Lib.hid hcon
  clear hcon e
  obtain ⟨Q0, Q1, Q2, Qf, -⟩ := three Q.out
  go_wp2_with fail
  clear Q0 Q1 Q2 Qf
  refine HCON.out.mono ?_
  rintro e w2 ⟨k2, n2, ao2, m2, c2, rfl, hb, hr⟩
  have HR2 := Lib.hid (hr.keep (P' := fun q => w.heap.size + 1 + 1 < q ∧ q < w2.heap.size) (fun q hq => ⟨by have h1 := FW.out.size; have h2 := SW.out; have h3 := hq.1; omega, hq.2⟩) fun _ _ => rfl)
  clear hr
  replace X := Lib.hid ((hb.block _ (blt X.out)).trans X.out)
  replace FW := Lib.hid (FW.out.trans (hb.mono FW.out.size))
  replace Q := Lib.hid ((hb.block _ (blt Q.out)).trans Q.out)
  replace Z := Lib.hid ((hb.block _ (blt Z.out)).trans Z.out)
  replace T := Lib.hid (T.out.on hb)
  clear hb
  obtain ⟨Z0, Z1, Z2, Zf, -⟩ := three Z.out
  go_wp2_with fail
  exact bodyPost_ret (v := .tuple #[.agg #[.int .i64 k2, .int .i64 n2, .slice ao2 m2 c2], .int .i64 rc]) (by simp [results, Try.results58, go_sem, Z0, Z1, Z2]) rfl
    ⟨_, _, _, _, _, rfl, (((FB0.out.trans (FW.out.mono FB0.out.size)).setCell (by simp only []; omega) _).setCell (by simp only []; omega) _).setCell (by simp only []; omega) _, HR2.out.keep (fun q hq => ⟨by have := hq.1; omega, by rw [set3_size]; exact hq.2⟩) fun q hq => set3_off _ _ _ _ _ q (by have := hq.1; omega)⟩
set_option maxRecDepth 100000 in
set_option maxHeartbeats 4000000 in
theorem refAt_w (v va : Value) (t a : Tm) (n : Int) (w : World) (hr : Rd (· < w.heap.size) w v t) (ha : Rd (· < w.heap.size) w va a) :
    Calls Try.prog 57 #[v, va, .int .i64 n] w (AnsTE w (atR t a n).1 (atR t a n).2) := by
  obtain ⟨rt, rc, hres⟩ : ∃ rt rc, atR t a n = (rt, rc) := ⟨_, _, rfl⟩
  rw [hres]
  have RES := Lib.hid hres
  clear hres
  obtain ⟨ao, cap, rfl⟩ := hr.shape
  obtain ⟨aoa, capa, rfl⟩ := ha.shape
  obtain ⟨W, hW⟩ : ∃ W, W = ((w.alloc (.cells #[.int .i64 t.kind, .int .i64 t.num, .slice ao t.sub.length cap] 24)).alloc (.cells #[.int .i64 a.kind, .int .i64 a.num, .slice aoa a.sub.length capa] 24)).alloc (.cells #[.int .i64 0, .int .i64 0, .slice none 0 0] 24) := ⟨_, rfl⟩
  have hb0 : Below w.heap.size w W := by rw [hW]; exact ((((Below.refl _ _).alloc (Nat.le_refl _) _).alloc (by simp only [World.size_alloc]; omega) _).alloc (by simp only [World.size_alloc]; omega) _)
  have hsW : W.heap.size = w.heap.size + 3 := by rw [hW]; simp only [World.size_alloc]
  have Q := Lib.hid (show W.heap[w.heap.size]? = some (.cells #[.int .i64 t.kind, .int .i64 t.num, .slice ao t.sub.length cap] 24) by rw [hW]; exact (Below.heap_alloc _ _ _ (by simp only [World.size_alloc]; omega)).trans ((Below.heap_alloc _ _ _ (by simp only [World.size_alloc]; omega)).trans (heap_new _ _ _ (by first | rfl | simp only [World.size_alloc]))))
  have AB := Lib.hid (show W.heap[w.heap.size + 1]? = some (.cells #[.int .i64 a.kind, .int .i64 a.num, .slice aoa a.sub.length capa] 24) by rw [hW]; exact (Below.heap_alloc _ _ _ (by simp only [World.size_alloc]; omega)).trans (heap_new _ _ _ (by first | rfl | simp only [World.size_alloc])))
  have Z := Lib.hid (show W.heap[w.heap.size + 1 + 1]? = some (.cells #[.int .i64 0, .int .i64 0, .slice none 0 0] 24) by rw [hW]; exact heap_new _ _ _ (by first | rfl | simp only [World.size_alloc]))
  have T := Lib.hid (hr.on hb0)
  have FW := Lib.hid (Below.refl W.heap.size W)
  have FB0 := Lib.hid hb0
  have SW := Lib.hid hsW
  have TA := Lib.hid (ha.on hb0)
  clear ha
  clear hb0 hsW
  have HW := Lib.hid hW
  clear hW hr
  obtain ⟨y, hy⟩ : ∃ y, y = Shp t := ⟨_, rfl⟩
  have Hy := Lib.hid hy
  clear hy
  cases y
  · skip
    have e : atR t a n = (tm0, 5) := by unfold atR; rw [if_neg (fun h => by rw [← Hy.out] at h; cases h.1)]
    rw [RES.out] at e
    injection e with e1 e2
    subst e1; subst e2
    have hs := refShaped_r T.out
    rw [← Hy.out] at hs
    go_enter Try.func57, Try.ntmps57
    go_wp2_with fail
    rw [← HW.out]
    refine (hs).mono ?_
    rintro e w1 ⟨rfl, hb⟩
    replace FW := Lib.hid (FW.out.trans (hb.mono FW.out.size))
    replace Q := Lib.hid ((hb.block _ (blt Q.out)).trans Q.out)
    replace AB := Lib.hid ((hb.block _ (blt AB.out)).trans AB.out)
    replace Z := Lib.hid ((hb.block _ (blt Z.out)).trans Z.out)
    replace T := Lib.hid (T.out.on hb)
    replace TA := Lib.hid (TA.out.on hb)
    clear hb
    obtain ⟨Z0, Z1, Z2, Zf, -⟩ := three Z.out
    go_wp2_with fail
    exact bodyPost_ret (v := .tuple #[.agg #[.int .i64 0, .int .i64 0, .slice none 0 0], .int .i64 5]) (by simp [results, Try.results57, go_sem, Z0, Z1, Z2]) rfl
      ⟨_, _, _, _, _, rfl, (((FB0.out.trans (FW.out.mono FB0.out.size)).setCell (by simp only []; omega) _).setCell (by simp only []; omega) _).setCell (by simp only []; omega) _, Rd.zero _ _⟩
  obtain ⟨u, hu⟩ : ∃ y, y = Shp a := ⟨_, rfl⟩
  have Hu := Lib.hid hu
  clear hu
  cases u
  · skip
    have e : atR t a n = (tm0, 5) := by unfold atR; rw [if_neg (fun h => by rw [← Hu.out] at h; cases h.2.1)]
    rw [RES.out] at e
    injection e with e1 e2
    subst e1; subst e2
    have hs := refShaped_r T.out
    rw [← Hy.out] at hs
    go_enter Try.func57, Try.ntmps57
    go_wp2_with fail
    rw [← HW.out]
    refine (hs).mono ?_
    rintro e w1 ⟨rfl, hb⟩
    replace FW := Lib.hid (FW.out.trans (hb.mono FW.out.size))
    replace Q := Lib.hid ((hb.block _ (blt Q.out)).trans Q.out)
    replace AB := Lib.hid ((hb.block _ (blt AB.out)).trans AB.out)
    replace Z := Lib.hid ((hb.block _ (blt Z.out)).trans Z.out)
    replace T := Lib.hid (T.out.on hb)
    replace TA := Lib.hid (TA.out.on hb)
    clear hb
    obtain ⟨AB0, AB1, AB2, ABf, -⟩ := three AB.out
    go_wp2_with fail
    clear AB0 AB1 AB2 ABf
    have hs := refShaped_r TA.out
    rw [← Hu.out] at hs
    refine (hs).mono ?_
    rintro e w2 ⟨rfl, hb⟩
    replace FW := Lib.hid (FW.out.trans (hb.mono FW.out.size))
    replace Q := Lib.hid ((hb.block _ (blt Q.out)).trans Q.out)
    replace AB := Lib.hid ((hb.block _ (blt AB.out)).trans AB.out)
    replace Z := Lib.hid ((hb.block _ (blt Z.out)).trans Z.out)
    replace T := Lib.hid (T.out.on hb)
    replace TA := Lib.hid (TA.out.on hb)
    clear hb
    obtain ⟨Z0, Z1, Z2, Zf, -⟩ := three Z.out
    go_wp2_with fail
    exact bodyPost_ret (v := .tuple #[.agg #[.int .i64 0, .int .i64 0, .slice none 0 0], .int .i64 5]) (by simp [results, Try.results57, go_sem, Z0, Z1, Z2]) rfl
      ⟨_, _, _, _, _, rfl, (((FB0.out.trans (FW.out.mono FB0.out.size)).setCell (by simp only []; omega) _).setCell (by simp only []; omega) _).setCell (by simp only []; omega) _, Rd.zero _ _⟩
  by_cases hfn : fit n = true
  rotate_left
  · skip
    have e : atR t a n = (tm0, 5) := by unfold atR; rw [if_neg (fun h => hfn h.2.2)]
    rw [RES.out] at e
    injection e with e1 e2
    subst e1; subst e2
    have hff : fit n = false := by simpa using hfn
    clear hfn
    have hs := refShaped_r T.out
    rw [← Hy.out] at hs
    go_enter Try.func57, Try.ntmps57
    go_wp2_with fail
    rw [← HW.out]
    refine (hs).mono ?_
    rintro e w1 ⟨rfl, hb⟩
    replace FW := Lib.hid (FW.out.trans (hb.mono FW.out.size))
    replace Q := Lib.hid ((hb.block _ (blt Q.out)).trans Q.out)
    replace AB := Lib.hid ((hb.block _ (blt AB.out)).trans AB.out)
    replace Z := Lib.hid ((hb.block _ (blt Z.out)).trans Z.out)
    replace T := Lib.hid (T.out.on hb)
    replace TA := Lib.hid (TA.out.on hb)
    clear hb
    obtain ⟨AB0, AB1, AB2, ABf, -⟩ := three AB.out
    go_wp2_with fail
    clear AB0 AB1 AB2 ABf
    have hs := refShaped_r TA.out
    rw [← Hu.out] at hs
    refine (hs).mono ?_
    rintro e w2 ⟨rfl, hb⟩
    replace FW := Lib.hid (FW.out.trans (hb.mono FW.out.size))
    replace Q := Lib.hid ((hb.block _ (blt Q.out)).trans Q.out)
    replace AB := Lib.hid ((hb.block _ (blt AB.out)).trans AB.out)
    replace Z := Lib.hid ((hb.block _ (blt Z.out)).trans Z.out)
    replace T := Lib.hid (T.out.on hb)
    replace TA := Lib.hid (TA.out.on hb)
    clear hb
    go_wp2_with fail
    have hf := fits75_w n w2
    rw [hff] at hf
    refine hf.mono ?_
    rintro e w' ⟨rfl, rfl⟩
    obtain ⟨Z0, Z1, Z2, Zf, -⟩ := three Z.out
    go_wp2_with fail
    exact bodyPost_ret (v := .tuple #[.agg #[.int .i64 0, .int .i64 0, .slice none 0 0], .int .i64 5]) (by simp [results, Try.results57, go_sem, Z0, Z1, Z2]) rfl
      ⟨_, _, _, _, _, rfl, (((FB0.out.trans (FW.out.mono FB0.out.size)).setCell (by simp only []; omega) _).setCell (by simp only []; omega) _).setCell (by simp only []; omega) _, Rd.zero _ _⟩
  have hnn := (fit_iff n).mp hfn
  have HFN := Lib.hid hfn
  clear hfn
  have hs := refShaped_r T.out
  rw [← Hy.out] at hs
  go_enter Try.func57, Try.ntmps57
  go_wp2_with fail
  rw [← HW.out]
  refine (hs).mono ?_
  rintro e w1 ⟨rfl, hb⟩
  replace FW := Lib.hid (FW.out.trans (hb.mono FW.out.size))
  replace Q := Lib.hid ((hb.block _ (blt Q.out)).trans Q.out)
  replace AB := Lib.hid ((hb.block _ (blt AB.out)).trans AB.out)
  replace Z := Lib.hid ((hb.block _ (blt Z.out)).trans Z.out)
  replace T := Lib.hid (T.out.on hb)
  replace TA := Lib.hid (TA.out.on hb)
  clear hb
  obtain ⟨AB0, AB1, AB2, ABf, -⟩ := three AB.out
  go_wp2_with fail
  clear AB0 AB1 AB2 ABf
  have hs := refShaped_r TA.out
  rw [← Hu.out] at hs
  refine (hs).mono ?_
  rintro e w2 ⟨rfl, hb⟩
  replace FW := Lib.hid (FW.out.trans (hb.mono FW.out.size))
  replace Q := Lib.hid ((hb.block _ (blt Q.out)).trans Q.out)
  replace AB := Lib.hid ((hb.block _ (blt AB.out)).trans AB.out)
  replace Z := Lib.hid ((hb.block _ (blt Z.out)).trans Z.out)
  replace T := Lib.hid (T.out.on hb)
  replace TA := Lib.hid (TA.out.on hb)
  clear hb
  go_wp2_with fail
  have hf := fits75_w n w2
  rw [HFN.out] at hf
  refine hf.mono ?_
  rintro e w' ⟨rfl, rfl⟩
  have e : atR t a n = subR (Fat a n) t := by unfold atR; rw [if_pos ⟨Hy.out.symm, Hu.out.symm, HFN.out⟩]
  rw [RES.out] at e
  have E := Lib.hid e.symm
  have hsh := (Shp_iff t).mp Hy.out.symm
  have hcon := refat_w a _ n ⟨hnn.1, hnn.2⟩ Hu.out.symm (dep t) _ t 0 w2 T.out.fit hsh.2.2 (by omega) (by omega) TA.out
  rw [Int.add_zero] at hcon
  have HCON := Lib.hid hcon
  clear hcon e hsh
  obtain ⟨Q0, Q1, Q2, Qf, -⟩ := three Q.out
  obtain ⟨AB0, AB1, AB2, ABf, -⟩ := three AB.out
  go_wp2_with fail
  clear Q0 Q1 Q2 Qf AB0 AB1 AB2 ABf
  refine HCON.out.mono ?_
  rintro e w3 ⟨k3, n3, ao3, m3, c3, lg3, y3, rfl, hb, hr, hok⟩
  have hd := doneR_of hok
  rw [E.out] at hd
  have hcd := done_w (fun q => w.heap.size + 1 + 1 < q ∧ q < w3.heap.size) k3 n3 ao3 m3 c3 lg3 y3 w3 (fun q hq => hq.2) (hr.keep (fun q hq => ⟨by have h1 := FW.out.size; have h2 := SW.out; have h3 := hq.1; omega, hq.2⟩) fun _ _ => rfl)
  rw [hd] at hcd
  have HCD := Lib.hid hcd
  clear hd hcd hok hr
  replace FW := Lib.hid (FW.out.trans (hb.mono FW.out.size))
  replace Q := Lib.hid ((hb.block _ (blt Q.out)).trans Q.out)
  replace AB := Lib.hid ((hb.block _ (blt AB.out)).trans AB.out)
  replace Z := Lib.hid ((hb.block _ (blt Z.out)).trans Z.out)
  replace T := Lib.hid (T.out.on hb)
  replace TA := Lib.hid (TA.out.on hb)
  clear hb
  go_wp2_with fail
  refine HCD.out.mono ?_
  rintro e w4 ⟨k4, n4, ao4, m4, c4, rfl, hb, hr⟩
  have HR4 := Lib.hid (hr.keep (P' := fun q => w.heap.size + 1 + 1 < q ∧ q < w4.heap.size) (fun q hq => ⟨hq.1, Nat.lt_of_lt_of_le hq.2 hb.size⟩) fun _ _ => rfl)
  clear hr
  replace FW := Lib.hid (FW.out.trans (hb.mono FW.out.size))
  replace Q := Lib.hid ((hb.block _ (blt Q.out)).trans Q.out)
  replace AB := Lib.hid ((hb.block _ (blt AB.out)).trans AB.out)
  replace Z := Lib.hid ((hb.block _ (blt Z.out)).trans Z.out)
  replace T := Lib.hid (T.out.on hb)
  replace TA := Lib.hid (TA.out.on hb)
  clear hb
  obtain ⟨Z0, Z1, Z2, Zf, -⟩ := three Z.out
  go_wp2_with fail
  exact bodyPost_ret (v := .tuple #[.agg #[.int .i64 k4, .int .i64 n4, .slice ao4 m4 c4], .int .i64 rc]) (by simp [results, Try.results57, go_sem, Z0, Z1, Z2]) rfl
    ⟨_, _, _, _, _, rfl, (((FB0.out.trans (FW.out.mono FB0.out.size)).setCell (by simp only []; omega) _).setCell (by simp only []; omega) _).setCell (by simp only []; omega) _, HR4.out.keep (fun q hq => ⟨by have := hq.1; omega, by rw [set3_size]; exact hq.2⟩) fun q hq => set3_off _ _ _ _ _ q (by have := hq.1; omega)⟩
set_option maxRecDepth 100000 in
set_option maxHeartbeats 4000000 in
theorem refNamed_w (v va : Value) (t a : Tm) (n : Int) (w : World) (hr : Rd (· < w.heap.size) w v t) (ha : Rd (· < w.heap.size) w va a) :
    Calls Try.prog 62 #[v, va, .int .i64 n] w (AnsTE w (namedR t a n).1 (namedR t a n).2) := by
  obtain ⟨rt, rc, hres⟩ : ∃ rt rc, namedR t a n = (rt, rc) := ⟨_, _, rfl⟩
  rw [hres]
  have RES := Lib.hid hres
  clear hres
  obtain ⟨ao, cap, rfl⟩ := hr.shape
  obtain ⟨aoa, capa, rfl⟩ := ha.shape
  obtain ⟨W, hW⟩ : ∃ W, W = ((w.alloc (.cells #[.int .i64 t.kind, .int .i64 t.num, .slice ao t.sub.length cap] 24)).alloc (.cells #[.int .i64 a.kind, .int .i64 a.num, .slice aoa a.sub.length capa] 24)).alloc (.cells #[.int .i64 0, .int .i64 0, .slice none 0 0] 24) := ⟨_, rfl⟩
  have hb0 : Below w.heap.size w W := by rw [hW]; exact ((((Below.refl _ _).alloc (Nat.le_refl _) _).alloc (by simp only [World.size_alloc]; omega) _).alloc (by simp only [World.size_alloc]; omega) _)
  have hsW : W.heap.size = w.heap.size + 3 := by rw [hW]; simp only [World.size_alloc]
  have Q := Lib.hid (show W.heap[w.heap.size]? = some (.cells #[.int .i64 t.kind, .int .i64 t.num, .slice ao t.sub.length cap] 24) by rw [hW]; exact (Below.heap_alloc _ _ _ (by simp only [World.size_alloc]; omega)).trans ((Below.heap_alloc _ _ _ (by simp only [World.size_alloc]; omega)).trans (heap_new _ _ _ (by first | rfl | simp only [World.size_alloc]))))
  have AB := Lib.hid (show W.heap[w.heap.size + 1]? = some (.cells #[.int .i64 a.kind, .int .i64 a.num, .slice aoa a.sub.length capa] 24) by rw [hW]; exact (Below.heap_alloc _ _ _ (by simp only [World.size_alloc]; omega)).trans (heap_new _ _ _ (by first | rfl | simp only [World.size_alloc])))
  have Z := Lib.hid (show W.heap[w.heap.size + 1 + 1]? = some (.cells #[.int .i64 0, .int .i64 0, .slice none 0 0] 24) by rw [hW]; exact heap_new _ _ _ (by first | rfl | simp only [World.size_alloc]))
  have T := Lib.hid (hr.on hb0)
  have FW := Lib.hid (Below.refl W.heap.size W)
  have FB0 := Lib.hid hb0
  have SW := Lib.hid hsW
  have TA := Lib.hid (ha.on hb0)
  clear ha
  clear hb0 hsW
  have HW := Lib.hid hW
  clear hW hr
  obtain ⟨y, hy⟩ : ∃ y, y = Shp t := ⟨_, rfl⟩
  have Hy := Lib.hid hy
  clear hy
  cases y
  · skip
    have e : namedR t a n = (tm0, 5) := by unfold namedR; rw [if_neg (fun h => by rw [← Hy.out] at h; cases h.1)]
    rw [RES.out] at e
    injection e with e1 e2
    subst e1; subst e2
    have hs := refShaped_r T.out
    rw [← Hy.out] at hs
    go_enter Try.func62, Try.ntmps62
    go_wp2_with fail
    rw [← HW.out]
    refine (hs).mono ?_
    rintro e w1 ⟨rfl, hb⟩
    replace FW := Lib.hid (FW.out.trans (hb.mono FW.out.size))
    replace Q := Lib.hid ((hb.block _ (blt Q.out)).trans Q.out)
    replace AB := Lib.hid ((hb.block _ (blt AB.out)).trans AB.out)
    replace Z := Lib.hid ((hb.block _ (blt Z.out)).trans Z.out)
    replace T := Lib.hid (T.out.on hb)
    replace TA := Lib.hid (TA.out.on hb)
    clear hb
    obtain ⟨Z0, Z1, Z2, Zf, -⟩ := three Z.out
    go_wp2_with fail
    exact bodyPost_ret (v := .tuple #[.agg #[.int .i64 0, .int .i64 0, .slice none 0 0], .int .i64 5]) (by simp [results, Try.results62, go_sem, Z0, Z1, Z2]) rfl
      ⟨_, _, _, _, _, rfl, (((FB0.out.trans (FW.out.mono FB0.out.size)).setCell (by simp only []; omega) _).setCell (by simp only []; omega) _).setCell (by simp only []; omega) _, Rd.zero _ _⟩
  obtain ⟨u, hu⟩ : ∃ y, y = Shp a := ⟨_, rfl⟩
  have Hu := Lib.hid hu
  clear hu
  cases u
  · skip
    have e : namedR t a n = (tm0, 5) := by unfold namedR; rw [if_neg (fun h => by rw [← Hu.out] at h; cases h.2.1)]
    rw [RES.out] at e
    injection e with e1 e2
    subst e1; subst e2
    have hs := refShaped_r T.out
    rw [← Hy.out] at hs
    go_enter Try.func62, Try.ntmps62
    go_wp2_with fail
    rw [← HW.out]
    refine (hs).mono ?_
    rintro e w1 ⟨rfl, hb⟩
    replace FW := Lib.hid (FW.out.trans (hb.mono FW.out.size))
    replace Q := Lib.hid ((hb.block _ (blt Q.out)).trans Q.out)
    replace AB := Lib.hid ((hb.block _ (blt AB.out)).trans AB.out)
    replace Z := Lib.hid ((hb.block _ (blt Z.out)).trans Z.out)
    replace T := Lib.hid (T.out.on hb)
    replace TA := Lib.hid (TA.out.on hb)
    clear hb
    obtain ⟨AB0, AB1, AB2, ABf, -⟩ := three AB.out
    go_wp2_with fail
    clear AB0 AB1 AB2 ABf
    have hs := refShaped_r TA.out
    rw [← Hu.out] at hs
    refine (hs).mono ?_
    rintro e w2 ⟨rfl, hb⟩
    replace FW := Lib.hid (FW.out.trans (hb.mono FW.out.size))
    replace Q := Lib.hid ((hb.block _ (blt Q.out)).trans Q.out)
    replace AB := Lib.hid ((hb.block _ (blt AB.out)).trans AB.out)
    replace Z := Lib.hid ((hb.block _ (blt Z.out)).trans Z.out)
    replace T := Lib.hid (T.out.on hb)
    replace TA := Lib.hid (TA.out.on hb)
    clear hb
    obtain ⟨Z0, Z1, Z2, Zf, -⟩ := three Z.out
    go_wp2_with fail
    exact bodyPost_ret (v := .tuple #[.agg #[.int .i64 0, .int .i64 0, .slice none 0 0], .int .i64 5]) (by simp [results, Try.results62, go_sem, Z0, Z1, Z2]) rfl
      ⟨_, _, _, _, _, rfl, (((FB0.out.trans (FW.out.mono FB0.out.size)).setCell (by simp only []; omega) _).setCell (by simp only []; omega) _).setCell (by simp only []; omega) _, Rd.zero _ _⟩
  by_cases hfn : fit n = true
  rotate_left
  · skip
    have e : namedR t a n = (tm0, 5) := by unfold namedR; rw [if_neg (fun h => hfn h.2.2)]
    rw [RES.out] at e
    injection e with e1 e2
    subst e1; subst e2
    have hff : fit n = false := by simpa using hfn
    clear hfn
    have hs := refShaped_r T.out
    rw [← Hy.out] at hs
    go_enter Try.func62, Try.ntmps62
    go_wp2_with fail
    rw [← HW.out]
    refine (hs).mono ?_
    rintro e w1 ⟨rfl, hb⟩
    replace FW := Lib.hid (FW.out.trans (hb.mono FW.out.size))
    replace Q := Lib.hid ((hb.block _ (blt Q.out)).trans Q.out)
    replace AB := Lib.hid ((hb.block _ (blt AB.out)).trans AB.out)
    replace Z := Lib.hid ((hb.block _ (blt Z.out)).trans Z.out)
    replace T := Lib.hid (T.out.on hb)
    replace TA := Lib.hid (TA.out.on hb)
    clear hb
    obtain ⟨AB0, AB1, AB2, ABf, -⟩ := three AB.out
    go_wp2_with fail
    clear AB0 AB1 AB2 ABf
    have hs := refShaped_r TA.out
    rw [← Hu.out] at hs
    refine (hs).mono ?_
    rintro e w2 ⟨rfl, hb⟩
    replace FW := Lib.hid (FW.out.trans (hb.mono FW.out.size))
    replace Q := Lib.hid ((hb.block _ (blt Q.out)).trans Q.out)
    replace AB := Lib.hid ((hb.block _ (blt AB.out)).trans AB.out)
    replace Z := Lib.hid ((hb.block _ (blt Z.out)).trans Z.out)
    replace T := Lib.hid (T.out.on hb)
    replace TA := Lib.hid (TA.out.on hb)
    clear hb
    go_wp2_with fail
    have hf := fits75_w n w2
    rw [hff] at hf
    refine hf.mono ?_
    rintro e w' ⟨rfl, rfl⟩
    obtain ⟨Z0, Z1, Z2, Zf, -⟩ := three Z.out
    go_wp2_with fail
    exact bodyPost_ret (v := .tuple #[.agg #[.int .i64 0, .int .i64 0, .slice none 0 0], .int .i64 5]) (by simp [results, Try.results62, go_sem, Z0, Z1, Z2]) rfl
      ⟨_, _, _, _, _, rfl, (((FB0.out.trans (FW.out.mono FB0.out.size)).setCell (by simp only []; omega) _).setCell (by simp only []; omega) _).setCell (by simp only []; omega) _, Rd.zero _ _⟩
  have hnn := (fit_iff n).mp hfn
  have HFN := Lib.hid hfn
  clear hfn
  have hs := refShaped_r T.out
  rw [← Hy.out] at hs
  go_enter Try.func62, Try.ntmps62
  go_wp2_with fail
  rw [← HW.out]
  refine (hs).mono ?_
  rintro e w1 ⟨rfl, hb⟩
  replace FW := Lib.hid (FW.out.trans (hb.mono FW.out.size))
  replace Q := Lib.hid ((hb.block _ (blt Q.out)).trans Q.out)
  replace AB := Lib.hid ((hb.block _ (blt AB.out)).trans AB.out)
  replace Z := Lib.hid ((hb.block _ (blt Z.out)).trans Z.out)
  replace T := Lib.hid (T.out.on hb)
  replace TA := Lib.hid (TA.out.on hb)
  clear hb
  obtain ⟨AB0, AB1, AB2, ABf, -⟩ := three AB.out
  go_wp2_with fail
  clear AB0 AB1 AB2 ABf
  have hs := refShaped_r TA.out
  rw [← Hu.out] at hs
  refine (hs).mono ?_
  rintro e w2 ⟨rfl, hb⟩
  replace FW := Lib.hid (FW.out.trans (hb.mono FW.out.size))
  replace Q := Lib.hid ((hb.block _ (blt Q.out)).trans Q.out)
  replace AB := Lib.hid ((hb.block _ (blt AB.out)).trans AB.out)
  replace Z := Lib.hid ((hb.block _ (blt Z.out)).trans Z.out)
  replace T := Lib.hid (T.out.on hb)
  replace TA := Lib.hid (TA.out.on hb)
  clear hb
  go_wp2_with fail
  have hf := fits75_w n w2
  rw [HFN.out] at hf
  refine hf.mono ?_
  rintro e w' ⟨rfl, rfl⟩
  have e : namedR t a n = subR (Fnm a n) t := by unfold namedR; rw [if_pos ⟨Hy.out.symm, Hu.out.symm, HFN.out⟩]
  rw [RES.out] at e
  have E := Lib.hid e.symm
  have hsh := (Shp_iff t).mp Hy.out.symm
  have hcon := refnamed_w a _ n Hu.out.symm (dep t) _ t 0 w2 T.out.fit hsh.2.2 (by omega) (by omega) TA.out
  have HCON := Lib.hid hcon
  clear hcon e hsh
  obtain ⟨Q0, Q1, Q2, Qf, -⟩ := three Q.out
  obtain ⟨AB0, AB1, AB2, ABf, -⟩ := three AB.out
  go_wp2_with fail
  clear Q0 Q1 Q2 Qf AB0 AB1 AB2 ABf
  refine HCON.out.mono ?_
  rintro e w3 ⟨k3, n3, ao3, m3, c3, lg3, y3, rfl, hb, hr, hok⟩
  have hd := doneR_of hok
  rw [E.out] at hd
  have hcd := done_w (fun q => w.heap.size + 1 + 1 < q ∧ q < w3.heap.size) k3 n3 ao3 m3 c3 lg3 y3 w3 (fun q hq => hq.2) (hr.keep (fun q hq => ⟨by have h1 := FW.out.size; have h2 := SW.out; have h3 := hq.1; omega, hq.2⟩) fun _ _ => rfl)
  rw [hd] at hcd
  have HCD := Lib.hid hcd
  clear hd hcd hok hr
  replace FW := Lib.hid (FW.out.trans (hb.mono FW.out.size))
  replace Q := Lib.hid ((hb.block _ (blt Q.out)).trans Q.out)
  replace AB := Lib.hid ((hb.block _ (blt AB.out)).trans AB.out)
  replace Z := Lib.hid ((hb.block _ (blt Z.out)).trans Z.out)
  replace T := Lib.hid (T.out.on hb)
  replace TA := Lib.hid (TA.out.on hb)
  clear hb
  go_wp2_with fail
  refine HCD.out.mono ?_
  rintro e w4 ⟨k4, n4, ao4, m4, c4, rfl, hb, hr⟩
  have HR4 := Lib.hid (hr.keep (P' := fun q => w.heap.size + 1 + 1 < q ∧ q < w4.heap.size) (fun q hq => ⟨hq.1, Nat.lt_of_lt_of_le hq.2 hb.size⟩) fun _ _ => rfl)
  clear hr
  replace FW := Lib.hid (FW.out.trans (hb.mono FW.out.size))
  replace Q := Lib.hid ((hb.block _ (blt Q.out)).trans Q.out)
  replace AB := Lib.hid ((hb.block _ (blt AB.out)).trans AB.out)
  replace Z := Lib.hid ((hb.block _ (blt Z.out)).trans Z.out)
  replace T := Lib.hid (T.out.on hb)
  replace TA := Lib.hid (TA.out.on hb)
  clear hb
  obtain ⟨Z0, Z1, Z2, Zf, -⟩ := three Z.out
  go_wp2_with fail
  exact bodyPost_ret (v := .tuple #[.agg #[.int .i64 k4, .int .i64 n4, .slice ao4 m4 c4], .int .i64 rc]) (by simp [results, Try.results62, go_sem, Z0, Z1, Z2]) rfl
    ⟨_, _, _, _, _, rfl, (((FB0.out.trans (FW.out.mono FB0.out.size)).setCell (by simp only []; omega) _).setCell (by simp only []; omega) _).setCell (by simp only []; omega) _, HR4.out.keep (fun q hq => ⟨by have := hq.1; omega, by rw [set3_size]; exact hq.2⟩) fun q hq => set3_off _ _ _ _ _ q (by have := hq.1; omega)⟩
set_option maxRecDepth 100000 in
set_option maxHeartbeats 4000000 in
theorem refBind_w (v : Value) (t : Tm) (n : Int) (w : World) (hr : Rd (· < w.heap.size) w v t) :
    Calls Try.prog 63 #[v, .int .i64 n] w (AnsTE w (bindR t n).1 (bindR t n).2) := by
  obtain ⟨rt, rc, hres⟩ : ∃ rt rc, bindR t n = (rt, rc) := ⟨_, _, rfl⟩
  rw [hres]
  have RES := Lib.hid hres
  clear hres
  obtain ⟨ao, cap, rfl⟩ := hr.shape
  obtain ⟨W, hW⟩ : ∃ W, W = (w.alloc (.cells #[.int .i64 t.kind, .int .i64 t.num, .slice ao t.sub.length cap] 24)).alloc (.cells #[.int .i64 0, .int .i64 0, .slice none 0 0] 24) := ⟨_, rfl⟩
  have hb0 : Below w.heap.size w W := by rw [hW]; exact (((Below.refl _ _).alloc (Nat.le_refl _) _).alloc (by simp only [World.size_alloc]; omega) _)
  have hsW : W.heap.size = w.heap.size + 2 := by rw [hW]; simp only [World.size_alloc]
  have Q := Lib.hid (show W.heap[w.heap.size]? = some (.cells #[.int .i64 t.kind, .int .i64 t.num, .slice ao t.sub.length cap] 24) by rw [hW]; exact (Below.heap_alloc _ _ _ (by simp only [World.size_alloc]; omega)).trans (heap_new _ _ _ (by first | rfl | simp only [World.size_alloc])))
  have Z := Lib.hid (show W.heap[w.heap.size + 1]? = some (.cells #[.int .i64 0, .int .i64 0, .slice none 0 0] 24) by rw [hW]; exact heap_new _ _ _ (by first | rfl | simp only [World.size_alloc]))
  have T := Lib.hid (hr.on hb0)
  have FW := Lib.hid (Below.refl W.heap.size W)
  have FB0 := Lib.hid hb0
  have SW := Lib.hid hsW
  clear hb0 hsW
  have HW := Lib.hid hW
  clear hW hr
  obtain ⟨y, hy⟩ : ∃ y, y = Shp t := ⟨_, rfl⟩
  have Hy := Lib.hid hy
  clear hy
  cases y
  · skip
    have e : bindR t n = (tm0, 5) := by unfold bindR; rw [if_neg (fun h => by rw [← Hy.out] at h; cases h.1)]
    rw [RES.out] at e
    injection e with e1 e2
    subst e1; subst e2
    have hs := refShaped_r T.out
    rw [← Hy.out] at hs
    go_enter Try.func63, Try.ntmps63
    go_wp2_with fail
    rw [← HW.out]
    refine (hs).mono ?_
    rintro e w1 ⟨rfl, hb⟩
    replace FW := Lib.hid (FW.out.trans (hb.mono FW.out.size))
    replace Q := Lib.hid ((hb.block _ (blt Q.out)).trans Q.out)
    replace Z := Lib.hid ((hb.block _ (blt Z.out)).trans Z.out)
    replace T := Lib.hid (T.out.on hb)
    clear hb
    obtain ⟨Z0, Z1, Z2, Zf, -⟩ := three Z.out
    go_wp2_with fail
    exact bodyPost_ret (v := .tuple #[.agg #[.int .i64 0, .int .i64 0, .slice none 0 0], .int .i64 5]) (by simp [results, Try.results63, go_sem, Z0, Z1, Z2]) rfl
      ⟨_, _, _, _, _, rfl, (((FB0.out.trans (FW.out.mono FB0.out.size)).setCell (by simp only []; omega) _).setCell (by simp only []; omega) _).setCell (by simp only []; omega) _, Rd.zero _ _⟩
  by_cases hfn : fit n = true
  rotate_left
  · skip
    have e : bindR t n = (tm0, 5) := by unfold bindR; rw [if_neg (fun h => hfn h.2)]
    rw [RES.out] at e
    injection e with e1 e2
    subst e1; subst e2
    have hff : fit n = false := by simpa using hfn
    clear hfn
    have hs := refShaped_r T.out
    rw [← Hy.out] at hs
    go_enter Try.func63, Try.ntmps63
    go_wp2_with fail
    rw [← HW.out]
    refine (hs).mono ?_
    rintro e w1 ⟨rfl, hb⟩
    replace FW := Lib.hid (FW.out.trans (hb.mono FW.out.size))
    replace Q := Lib.hid ((hb.block _ (blt Q.out)).trans Q.out)
    replace Z := Lib.hid ((hb.block _ (blt Z.out)).trans Z.out)
    replace T := Lib.hid (T.out.on hb)
    clear hb
    go_wp2_with fail
    have hf := fits75_w n w1
    rw [hff] at hf
    refine hf.mono ?_
    rintro e w' ⟨rfl, rfl⟩
    obtain ⟨Z0, Z1, Z2, Zf, -⟩ := three Z.out
    go_wp2_with fail
    exact bodyPost_ret (v := .tuple #[.agg #[.int .i64 0, .int .i64 0, .slice none 0 0], .int .i64 5]) (by simp [results, Try.results63, go_sem, Z0, Z1, Z2]) rfl
      ⟨_, _, _, _, _, rfl, (((FB0.out.trans (FW.out.mono FB0.out.size)).setCell (by simp only []; omega) _).setCell (by simp only []; omega) _).setCell (by simp only []; omega) _, Rd.zero _ _⟩
  have hnn := (fit_iff n).mp hfn
  have HFN := Lib.hid hfn
  clear hfn
  have hs := refShaped_r T.out
  rw [← Hy.out] at hs
  go_enter Try.func63, Try.ntmps63
  go_wp2_with fail
  rw [← HW.out]
  refine (hs).mono ?_
  rintro e w1 ⟨rfl, hb⟩
  replace FW := Lib.hid (FW.out.trans (hb.mono FW.out.size))
  replace Q := Lib.hid ((hb.block _ (blt Q.out)).trans Q.out)
  replace Z := Lib.hid ((hb.block _ (blt Z.out)).trans Z.out)
  replace T := Lib.hid (T.out.on hb)
  clear hb
  go_wp2_with fail
  have hf := fits75_w n w1
  rw [HFN.out] at hf
  refine hf.mono ?_
  rintro e w' ⟨rfl, rfl⟩
  have e : bindR t n = subR (Fbd n) t := by unfold bindR; rw [if_pos ⟨Hy.out.symm, HFN.out⟩]
  rw [RES.out] at e
  have E := Lib.hid e.symm
  have hsh := (Shp_iff t).mp Hy.out.symm
  have hcon := bind_w n (dep t) _ t 0 w1 T.out.fit hsh.2.2 (by omega) (by omega)
  have HCON := Lib.hid hcon
  clear hcon e hsh
  obtain ⟨Q0, Q1, Q2, Qf, -⟩ := three Q.out
  go_wp2_with fail
  clear Q0 Q1 Q2 Qf
  refine HCON.out.mono ?_
  rintro e w2 ⟨k2, n2, ao2, m2, c2, rfl, hb, hr⟩
  have hok : OkG (mp (Fbd n) t 0) (mp (Fbd n) t 0) false := ⟨fun _ => rfl, fun e => (by cases e)⟩
  have hd := doneR_of hok
  rw [E.out] at hd
  have hcd := done_w (fun q => w.heap.size + 1 < q ∧ q < w2.heap.size) k2 n2 ao2 m2 c2 false _ w2 (fun q hq => hq.2) (hr.keep (fun q hq => ⟨by have h1 := FW.out.size; have h2 := SW.out; have h3 := hq.1; omega, hq.2⟩) fun _ _ => rfl)
  rw [hd] at hcd
  have HCD := Lib.hid hcd
  clear hd hcd hok hr
  replace FW := Lib.hid (FW.out.trans (hb.mono FW.out.size))
  replace Q := Lib.hid ((hb.block _ (blt Q.out)).trans Q.out)
  replace Z := Lib.hid ((hb.block _ (blt Z.out)).trans Z.out)
  replace T := Lib.hid (T.out.on hb)
  clear hb
  go_wp2_with fail
  refine HCD.out.mono ?_
  rintro e w3 ⟨k3, n3, ao3, m3, c3, rfl, hb, hr⟩
  have HR3 := Lib.hid (hr.keep (P' := fun q => w.heap.size + 1 < q ∧ q < w3.heap.size) (fun q hq => ⟨hq.1, Nat.lt_of_lt_of_le hq.2 hb.size⟩) fun _ _ => rfl)
  clear hr
  replace FW := Lib.hid (FW.out.trans (hb.mono FW.out.size))
  replace Q := Lib.hid ((hb.block _ (blt Q.out)).trans Q.out)
  replace Z := Lib.hid ((hb.block _ (blt Z.out)).trans Z.out)
  replace T := Lib.hid (T.out.on hb)
  clear hb
  obtain ⟨Z0, Z1, Z2, Zf, -⟩ := three Z.out
  go_wp2_with fail
  exact bodyPost_ret (v := .tuple #[.agg #[.int .i64 k3, .int .i64 n3, .slice ao3 m3 c3], .int .i64 rc]) (by simp [results, Try.results63, go_sem, Z0, Z1, Z2]) rfl
    ⟨_, _, _, _, _, rfl, (((FB0.out.trans (FW.out.mono FB0.out.size)).setCell (by simp only []; omega) _).setCell (by simp only []; omega) _).setCell (by simp only []; omega) _, HR3.out.keep (fun q hq => ⟨by have := hq.1; omega, by rw [set3_size]; exact hq.2⟩) fun q hq => set3_off _ _ _ _ _ q (by have := hq.1; omega)⟩
end Go.Proofs.Ythjlfjaciigfiaa
namespace Go.Proofs.Ythjlfjaciigfiaa
open Go.RowKit
set_option linter.unusedVariables false
set_option linter.unusedSimpArgs false

theorem At_q {w : World} {va v : Value} {x t a : Tm} {n c : Int} (hq : atR t x n = (a, c)) (hx : Rd (· < w.heap.size) w va x) (h : Rd (· < w.heap.size) w v t) : Calls Try.prog 56 #[v, va, .int .i64 n] w (AnsTE w a c) := by
  have := At_w v va t x n w h hx; rwa [hq] at this
theorem refAt_q {w : World} {va v : Value} {x t a : Tm} {n c : Int} (hq : atR t x n = (a, c)) (hx : Rd (· < w.heap.size) w va x) (h : Rd (· < w.heap.size) w v t) : Calls Try.prog 57 #[v, va, .int .i64 n] w (AnsTE w a c) := by
  have := refAt_w v va t x n w h hx; rwa [hq] at this
theorem Named_q {w : World} {va v : Value} {x t a : Tm} {n c : Int} (hq : namedR t x n = (a, c)) (hx : Rd (· < w.heap.size) w va x) (h : Rd (· < w.heap.size) w v t) : Calls Try.prog 61 #[v, va, .int .i64 n] w (AnsTE w a c) := by
  have := Named_w v va t x n w h hx; rwa [hq] at this
theorem refNamed_q {w : World} {va v : Value} {x t a : Tm} {n c : Int} (hq : namedR t x n = (a, c)) (hx : Rd (· < w.heap.size) w va x) (h : Rd (· < w.heap.size) w v t) : Calls Try.prog 62 #[v, va, .int .i64 n] w (AnsTE w a c) := by
  have := refNamed_w v va t x n w h hx; rwa [hq] at this
theorem Bind_q {w : World} {v : Value} {t a : Tm} {n c : Int} (hq : bindR t n = (a, c)) (h : Rd (· < w.heap.size) w v t) : Calls Try.prog 58 #[v, .int .i64 n] w (AnsTE w a c) := by
  have := Bind_w v t n w h; rwa [hq] at this
theorem refBind_q {w : World} {v : Value} {t a : Tm} {n c : Int} (hq : bindR t n = (a, c)) (h : Rd (· < w.heap.size) w v t) : Calls Try.prog 63 #[v, .int .i64 n] w (AnsTE w a c) := by
  have := refBind_w v t n w h; rwa [hq] at this

set_option maxRecDepth 100000 in
set_option maxHeartbeats 4000000 in
theorem Open_w (v : Value) (t : Tm) (n : Int) (w : World) (hr : Rd (· < w.heap.size) w v t) (hn : -9223372036854775808 ≤ n ∧ n ≤ 9223372036854775807) :
    Calls Try.prog 59 #[v, .int .i64 n] w (AnsTE w (manyR t [free n]).1 (manyR t [free n]).2) := by
  obtain ⟨rt, rc, hres⟩ : ∃ rt rc, manyR t [free n] = (rt, rc) := ⟨_, _, rfl⟩
  rw [hres]
  obtain ⟨ao, cap, rfl⟩ := hr.shape
  obtain ⟨W, hW⟩ : ∃ W, W = (w.alloc (.cells #[.int .i64 t.kind, .int .i64 t.num, .slice ao t.sub.length cap] 24)).alloc (.cells #[.int .i64 0, .int .i64 0, .slice none 0 0] 24) := ⟨_, rfl⟩
  have hb0 : Below w.heap.size w W := by rw [hW]; exact (((Below.refl _ _).alloc (Nat.le_refl _) _).alloc (by simp only [World.size_alloc]; omega) _)
  have hsW : W.heap.size = w.heap.size + 2 := by rw [hW]; simp only [World.size_alloc]
  have Q : W.heap[w.heap.size]? = some (.cells #[.int .i64 t.kind, .int .i64 t.num, .slice ao t.sub.length cap] 24) := by rw [hW]; exact (Below.heap_alloc _ _ _ (by simp only [World.size_alloc]; omega)).trans (heap_new _ _ _ rfl)
  have Z : W.heap[w.heap.size + 1]? = some (.cells #[.int .i64 0, .int .i64 0, .slice none 0 0] 24) := by rw [hW]; exact heap_new _ _ _ (by simp only [World.size_alloc])
  have HQ := Lib.hid Q
  have HZ := Lib.hid Z
  have T := Lib.hid (hr.on hb0)
  have FB0 := Lib.hid hb0
  have SW := Lib.hid hsW
  have HW := Lib.hid hW
  have RES := Lib.hid hres
  have HN := Lib.hid hn
  obtain ⟨q0, q1, q2, -, ql⟩ := three Q
  rw [hW] at q0 q1 q2 ql
  clear hb0 hsW hW hr Q Z hres hn
  go_enter Try.func59, Try.ntmps59
  go_wp2_with fail
  rw [← HW.out] at q0 q1 q2 ql ⊢
  refine wp_region_order [(0, true), (1, true), (2, false), (3, false), (4, true), (5, true), (6, false), (7, false)]
    (fun w' => w'.cell? ⟨w.heap.size, 0, none⟩ = some (.int .i64 t.kind) ∧ w'.cell? ⟨w.heap.size, 1, none⟩ = some (.int .i64 t.num) ∧ w'.cell? ⟨w.heap.size, 2, none⟩ = some (.slice ao t.sub.length cap))
    (by kernel_rfl) (by kernel_rfl) ⟨q0, q1, q2⟩ (fun hHeld => ?_)
  simp only [pickT, List.getElem?_cons_zero, List.getElem?_cons_succ, Option.getD_some]
  repeat (refine wpT_take (v := ?_) (by rfl) (fun w' hSw => ?_) ?_; rotate_left; (go_simp; with_reducible rfl); simp only [Act.put, List.setIfInBounds_toArray, List.set_cons_zero, List.set_cons_succ])
  refine wpT_do (fun K hK => ?_)
  go_simp
  go_at_call 100
  refine (Free_w n _).mono ?_
  rintro e w1 ⟨rfl, hb⟩
  have hb1 : Below W.heap.size W w1 := (below_drewN (Below.refl _ _) 1).trans hb
  have HB1 := Lib.hid (FB0.out.trans (hb1.mono FB0.out.size))
  have T1 := Lib.hid (T.out.on hb1)
  have HQ1 := Lib.hid ((hb1.block _ (blt HQ.out)).trans HQ.out)
  have HZ1 := Lib.hid ((hb1.block _ (blt HZ.out)).trans HZ.out)
  have hsz1 : w.heap.size + 2 ≤ w1.heap.size := by have := hb1.size; have := SW.out; omega
  clear hb hb1 q0 q1 q2 ql
  obtain ⟨q0, q1, q2, -, ql⟩ := three HQ1.out
  refine hK.out _ _ ⟨q0, q1, q2⟩ (fun hHeld => ?_)
  clear hK K hHeld
  have hcon := One_q (x := free n) RES.out (Rd.leaf _ w1 8 n none 0 (Nat.zero_le _) (by omega) HN.out) T1.out
  have HCON := Lib.hid hcon
  clear hcon
  refine wpT_do (fun K hK => ?_)
  go_simp
  go_at_call 53
  refine HCON.out.mono ?_
  rintro e w2 ⟨k2, n2, ao2, m2, c2, rfl, hb2, hr2⟩
  have HB2 := Lib.hid (HB1.out.trans (hb2.mono HB1.out.size))
  have HQ2 := Lib.hid ((hb2.block _ (blt HQ1.out)).trans HQ1.out)
  have HZ2 := Lib.hid ((hb2.block _ (blt HZ1.out)).trans HZ1.out)
  have HR2 := Lib.hid (hr2.keep (P' := fun q => w.heap.size + 1 < q ∧ q < w2.heap.size) (fun q hq => ⟨by have := hq.1; omega, hq.2⟩) fun _ _ => rfl)
  clear hb2 hr2 q0 q1 q2 ql
  obtain ⟨q0, q1, q2, -, ql⟩ := three HQ2.out
  refine hK.out _ _ ⟨q0, q1, q2⟩ (fun hHeld => ?_)
  clear hK K hHeld
  repeat (refine wpT_take (v := ?_) (by rfl) (fun w' hSw => ?_) ?_; rotate_left; (go_simp; with_reducible rfl); simp only [Act.put, List.setIfInBounds_toArray, List.set_cons_zero, List.set_cons_succ])
  obtain ⟨z0, z1, z2, zf, zl⟩ := three HZ2.out
  have zf0 := zf 0
  have zf1 := zf 1
  have zf2 := zf 2
  have hoff := set3_off w2 (w.heap.size + 1) (.int .i64 k2) (.int .i64 n2) (.slice ao2 m2 c2)
  have HX := Lib.hid (set3_blk (a := .int .i64 k2) (b := .int .i64 n2) (c := .slice ao2 m2 c2) HZ2.out)
  have HB3 := Lib.hid ((((HB2.out.setCell (p := ⟨w.heap.size + 1, 0, none⟩) (by simp only []; omega) (.int .i64 k2)).setCell (p := ⟨w.heap.size + 1, 1, none⟩) (by simp only []; omega) (.int .i64 n2)).setCell (p := ⟨w.heap.size + 1, 2, none⟩) (by simp only []; omega) (.slice ao2 m2 c2)))
  have HR3 := Lib.hid (HR2.out.keep (w' := ((w2.setCell ⟨w.heap.size + 1, 0, none⟩ (.int .i64 k2)).setCell ⟨w.heap.size + 1, 1, none⟩ (.int .i64 n2)).setCell ⟨w.heap.size + 1, 2, none⟩ (.slice ao2 m2 c2))
    (P' := fun q => w.heap.size + 1 < q ∧ q < (((w2.setCell ⟨w.heap.size + 1, 0, none⟩ (.int .i64 k2)).setCell ⟨w.heap.size + 1, 1, none⟩ (.int .i64 n2)).setCell ⟨w.heap.size + 1, 2, none⟩ (.slice ao2 m2 c2)).heap.size) (fun q hq => ⟨hq.1, by rw [set3_size]; exact hq.2⟩) fun q hq => hoff q (by omega))
  have HQ3 := Lib.hid ((hoff _ (by omega)).trans HQ2.out)
  refine wpT_do (fun K hK => ?_)
  go_simp
  clear z0 z1 z2 zf zf0 zf1 zf2 zl hoff q0 q1 q2 ql
  generalize ((w2.setCell ⟨w.heap.size + 1, 0, none⟩ (.int .i64 k2)).setCell ⟨w.heap.size + 1, 1, none⟩ (.int .i64 n2)).setCell ⟨w.heap.size + 1, 2, none⟩ (.slice ao2 m2 c2) = w3 at HX HB3 HR3 HQ3 ⊢
  obtain ⟨q0, q1, q2, -, ql⟩ := three HQ3.out
  refine hK.out _ _ ⟨q0, q1, q2⟩ (fun hHeld => ?_)
  clear hK K hHeld
  obtain ⟨z0, z1, z2, zf, zl⟩ := three HX.out
  refine wpT_last (fun K hK => ?_)
  go_simp
  refine hK.out _ _ ?_
  clear hK K
  go_wp2_with fail
  exact bodyPost_ret (v := .tuple #[.agg #[.int .i64 k2, .int .i64 n2, .slice ao2 m2 c2], .int .i64 rc]) (by simp [results, Try.results59, go_sem, z0, z1, z2]) rfl ⟨_, _, _, _, _, rfl, HB3.out, HR3.out.keep (fun q hq => ⟨by omega, hq.2⟩) fun _ _ => rfl⟩
theorem Open_q {w : World} {v : Value} {t a : Tm} {n c : Int} (hq : manyR t [free n] = (a, c)) (hn : -9223372036854775808 ≤ n ∧ n ≤ 9223372036854775807) (h : Rd (· < w.heap.size) w v t) : Calls Try.prog 59 #[v, .int .i64 n] w (AnsTE w a c) := by
  have := Open_w v t n w h hn; rwa [hq] at this
end Go.Proofs.Ythjlfjaciigfiaa
