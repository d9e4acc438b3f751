/-
  subst.At, Named, Bind; ref09.At, Named, Bind: contracts of the walk.
-/
import Derived.Test.YthjlfjaciigfiaaLeafs
import Derived.Test.YthjlfjaciigfiaaRefAN
import Derived.Test.YthjlfjaciigfiaaAwake9
namespace Go.Proofs.Ythjlfjaciigfiaa
open Go.RowKit
set_option linter.unusedVariables false
set_option linter.unusedSimpArgs false

set_option maxRecDepth 100000 in
set_option maxHeartbeats 4000000 in
theorem At_w (v va : Value) (t a : Tm) (n : Int) (w : World) (hr : Rd (· < w.heap.size) w v t) (ha : Rd (· < w.heap.size) w va a) :
    Calls Try.prog 56 #[v, va, .int .i64 n] w (AnsTE w (atR t a n).1 (atR t a n).2) := by
  obtain ⟨rt, rc, hres⟩ : ∃ rt rc, atR t a n = (rt, rc) := ⟨_, _, rfl⟩
  rw [hres]
  have RES := Lib.hid hres
  clear hres
  obtain ⟨ao, cap, rfl⟩ := hr.shape
  obtain ⟨aoa, capa, rfl⟩ := ha.shape
  obtain ⟨W, hW⟩ : ∃ W, W = (((w.alloc (.cells #[.int .i64 t.kind, .int .i64 t.num, .slice ao t.sub.length cap] 24)).alloc (.cells #[.int .i64 a.kind, .int .i64 a.num, .slice aoa a.sub.length capa] 24)).alloc (.cells #[.int .i64 n] 3)).alloc (.cells #[.int .i64 0, .int .i64 0, .slice none 0 0] 24) := ⟨_, rfl⟩
  have hb0 : Below w.heap.size w W := by rw [hW]; exact (((((Below.refl _ _).alloc (Nat.le_refl _) _).alloc (by simp only [World.size_alloc]; omega) _).alloc (by simp only [World.size_alloc]; omega) _).alloc (by simp only [World.size_alloc]; omega) _)
  have hsW : W.heap.size = w.heap.size + 4 := by rw [hW]; simp only [World.size_alloc]
  have Q := Lib.hid (show W.heap[w.heap.size]? = some (.cells #[.int .i64 t.kind, .int .i64 t.num, .slice ao t.sub.length cap] 24) by rw [hW]; exact (Below.heap_alloc _ _ _ (by simp only [World.size_alloc]; omega)).trans ((Below.heap_alloc _ _ _ (by simp only [World.size_alloc]; omega)).trans ((Below.heap_alloc _ _ _ (by simp only [World.size_alloc]; omega)).trans (heap_new _ _ _ (by first | rfl | simp only [World.size_alloc])))))
  have AB := Lib.hid (show W.heap[w.heap.size + 1]? = some (.cells #[.int .i64 a.kind, .int .i64 a.num, .slice aoa a.sub.length capa] 24) by rw [hW]; exact (Below.heap_alloc _ _ _ (by simp only [World.size_alloc]; omega)).trans ((Below.heap_alloc _ _ _ (by simp only [World.size_alloc]; omega)).trans (heap_new _ _ _ (by first | rfl | simp only [World.size_alloc]))))
  have X := Lib.hid (show W.heap[w.heap.size + 1 + 1]? = some (.cells #[.int .i64 n] 3) by rw [hW]; exact (Below.heap_alloc _ _ _ (by simp only [World.size_alloc]; omega)).trans (heap_new _ _ _ (by first | rfl | simp only [World.size_alloc])))
  have Z := Lib.hid (show W.heap[w.heap.size + 1 + 1 + 1]? = some (.cells #[.int .i64 0, .int .i64 0, .slice none 0 0] 24) by rw [hW]; exact heap_new _ _ _ (by first | rfl | simp only [World.size_alloc]))
  have T := Lib.hid (hr.on hb0)
  have FW := Lib.hid (Below.refl W.heap.size W)
  have FB0 := Lib.hid hb0
  have SW := Lib.hid hsW
  have TA := Lib.hid (ha.on hb0)
  have HA0 := Lib.hid ha
  clear ha
  clear hb0 hsW
  have HW := Lib.hid hW
  clear hW hr
  obtain ⟨y, hy⟩ : ∃ y, y = Shp t := ⟨_, rfl⟩
  have Hy := Lib.hid hy
  clear hy
  cases y
  · skip
    have e : atR t a n = (tm0, 5) := by unfold atR; rw [if_neg (fun h => by rw [← Hy.out] at h; cases h.1)]
    rw [RES.out] at e
    injection e with e1 e2
    subst e1; subst e2
    have hs := Shaped_r T.out
    rw [← Hy.out] at hs
    go_enter Try.func56, Try.ntmps56
    go_wp2_with fail
    rw [← HW.out]
    refine (hs).mono ?_
    rintro e w1 ⟨rfl, hb⟩
    replace X := Lib.hid ((hb.block _ (blt X.out)).trans X.out)
    replace FW := Lib.hid (FW.out.trans (hb.mono FW.out.size))
    replace Q := Lib.hid ((hb.block _ (blt Q.out)).trans Q.out)
    replace AB := Lib.hid ((hb.block _ (blt AB.out)).trans AB.out)
    replace Z := Lib.hid ((hb.block _ (blt Z.out)).trans Z.out)
    replace T := Lib.hid (T.out.on hb)
    replace TA := Lib.hid (TA.out.on hb)
    clear hb
    obtain ⟨Z0, Z1, Z2, Zf, -⟩ := three Z.out
    go_wp2_with fail
    exact bodyPost_ret (v := .tuple #[.agg #[.int .i64 0, .int .i64 0, .slice none 0 0], .int .i64 5]) (by simp [results, Try.results56, go_sem, Z0, Z1, Z2]) rfl
      ⟨_, _, _, _, _, rfl, (((FB0.out.trans (FW.out.mono FB0.out.size)).setCell (by simp only []; omega) _).setCell (by simp only []; omega) _).setCell (by simp only []; omega) _, Rd.zero _ _⟩
  obtain ⟨u, hu⟩ : ∃ y, y = Shp a := ⟨_, rfl⟩
  have Hu := Lib.hid hu
  clear hu
  cases u
  · skip
    have e : atR t a n = (tm0, 5) := by unfold atR; rw [if_neg (fun h => by rw [← Hu.out] at h; cases h.2.1)]
    rw [RES.out] at e
    injection e with e1 e2
    subst e1; subst e2
    have hs := Shaped_r T.out
    rw [← Hy.out] at hs
    go_enter Try.func56, Try.ntmps56
    go_wp2_with fail
    rw [← HW.out]
    refine (hs).mono ?_
    rintro e w1 ⟨rfl, hb⟩
    replace X := Lib.hid ((hb.block _ (blt X.out)).trans X.out)
    replace FW := Lib.hid (FW.out.trans (hb.mono FW.out.size))
    replace Q := Lib.hid ((hb.block _ (blt Q.out)).trans Q.out)
    replace AB := Lib.hid ((hb.block _ (blt AB.out)).trans AB.out)
    replace Z := Lib.hid ((hb.block _ (blt Z.out)).trans Z.out)
    replace T := Lib.hid (T.out.on hb)
    replace TA := Lib.hid (TA.out.on hb)
    clear hb
    obtain ⟨AB0, AB1, AB2, ABf, -⟩ := three AB.out
    go_wp2_with fail
    clear AB0 AB1 AB2 ABf
    have hs := Shaped_r TA.out
    rw [← Hu.out] at hs
    refine (hs).mono ?_
    rintro e w2 ⟨rfl, hb⟩
    replace X := Lib.hid ((hb.block _ (blt X.out)).trans X.out)
    replace FW := Lib.hid (FW.out.trans (hb.mono FW.out.size))
    replace Q := Lib.hid ((hb.block _ (blt Q.out)).trans Q.out)
    replace AB := Lib.hid ((hb.block _ (blt AB.out)).trans AB.out)
    replace Z := Lib.hid ((hb.block _ (blt Z.out)).trans Z.out)
    replace T := Lib.hid (T.out.on hb)
    replace TA := Lib.hid (TA.out.on hb)
    clear hb
    obtain ⟨Z0, Z1, Z2, Zf, -⟩ := three Z.out
    go_wp2_with fail
    exact bodyPost_ret (v := .tuple #[.agg #[.int .i64 0, .int .i64 0, .slice none 0 0], .int .i64 5]) (by simp [results, Try.results56, go_sem, Z0, Z1, Z2]) rfl
      ⟨_, _, _, _, _, rfl, (((FB0.out.trans (FW.out.mono FB0.out.size)).setCell (by simp only []; omega) _).setCell (by simp only []; omega) _).setCell (by simp only []; omega) _, Rd.zero _ _⟩
  by_cases hfn : fit n = true
  rotate_left
  · skip
    have e : atR t a n = (tm0, 5) := by unfold atR; rw [if_neg (fun h => hfn h.2.2)]
    rw [RES.out] at e
    injection e with e1 e2
    subst e1; subst e2
    have hff : fit n = false := by simpa using hfn
    clear hfn
    have hs := Shaped_r T.out
    rw [← Hy.out] at hs
    go_enter Try.func56, Try.ntmps56
    go_wp2_with fail
    rw [← HW.out]
    refine (hs).mono ?_
    rintro e w1 ⟨rfl, hb⟩
    replace X := Lib.hid ((hb.block _ (blt X.out)).trans X.out)
    replace FW := Lib.hid (FW.out.trans (hb.mono FW.out.size))
    replace Q := Lib.hid ((hb.block _ (blt Q.out)).trans Q.out)
    replace AB := Lib.hid ((hb.block _ (blt AB.out)).trans AB.out)
    replace Z := Lib.hid ((hb.block _ (blt Z.out)).trans Z.out)
    replace T := Lib.hid (T.out.on hb)
    replace TA := Lib.hid (TA.out.on hb)
    clear hb
    obtain ⟨AB0, AB1, AB2, ABf, -⟩ := three AB.out
    go_wp2_with fail
    clear AB0 AB1 AB2 ABf
    have hs := Shaped_r TA.out
    rw [← Hu.out] at hs
    refine (hs).mono ?_
    rintro e w2 ⟨rfl, hb⟩
    replace X := Lib.hid ((hb.block _ (blt X.out)).trans X.out)
    replace FW := Lib.hid (FW.out.trans (hb.mono FW.out.size))
    replace Q := Lib.hid ((hb.block _ (blt Q.out)).trans Q.out)
    replace AB := Lib.hid ((hb.block _ (blt AB.out)).trans AB.out)
    replace Z := Lib.hid ((hb.block _ (blt Z.out)).trans Z.out)
    replace T := Lib.hid (T.out.on hb)
    replace TA := Lib.hid (TA.out.on hb)
    clear hb
    obtain ⟨X0, Xf, -⟩ := one1 X.out
    go_wp2_with fail
    clear X0 Xf
    have hf := fits94_w n w2
    rw [hff] at hf
    refine hf.mono ?_
    rintro e w' ⟨rfl, rfl⟩
    obtain ⟨Z0, Z1, Z2, Zf, -⟩ := three Z.out
    go_wp2_with fail
    exact bodyPost_ret (v := .tuple #[.agg #[.int .i64 0, .int .i64 0, .slice none 0 0], .int .i64 5]) (by simp [results, Try.results56, go_sem, Z0, Z1, Z2]) rfl
      ⟨_, _, _, _, _, rfl, (((FB0.out.trans (FW.out.mono FB0.out.size)).setCell (by simp only []; omega) _).setCell (by simp only []; omega) _).setCell (by simp only []; omega) _, Rd.zero _ _⟩
  have hnn := (fit_iff n).mp hfn
  have HFN := Lib.hid hfn
  clear hfn
  have hs := Shaped_r T.out
  rw [← Hy.out] at hs
  go_enter Try.func56, Try.ntmps56
  go_wp2_with fail
  rw [← HW.out]
  refine (hs).mono ?_
  rintro e w1 ⟨rfl, hb⟩
  replace X := Lib.hid ((hb.block _ (blt X.out)).trans X.out)
  replace FW := Lib.hid (FW.out.trans (hb.mono FW.out.size))
  replace Q := Lib.hid ((hb.block _ (blt Q.out)).trans Q.out)
  replace AB := Lib.hid ((hb.block _ (blt AB.out)).trans AB.out)
  replace Z := Lib.hid ((hb.block _ (blt Z.out)).trans Z.out)
  replace T := Lib.hid (T.out.on hb)
  replace TA := Lib.hid (TA.out.on hb)
  clear hb
  obtain ⟨AB0, AB1, AB2, ABf, -⟩ := three AB.out
  go_wp2_with fail
  clear AB0 AB1 AB2 ABf
  have hs := Shaped_r TA.out
  rw [← Hu.out] at hs
  refine (hs).mono ?_
  rintro e w2 ⟨rfl, hb⟩
  replace X := Lib.hid ((hb.block _ (blt X.out)).trans X.out)
  replace FW := Lib.hid (FW.out.trans (hb.mono FW.out.size))
  replace Q := Lib.hid ((hb.block _ (blt Q.out)).trans Q.out)
  replace AB := Lib.hid ((hb.block _ (blt AB.out)).trans AB.out)
  replace Z := Lib.hid ((hb.block _ (blt Z.out)).trans Z.out)
  replace T := Lib.hid (T.out.on hb)
  replace TA := Lib.hid (TA.out.on hb)
  clear hb
  obtain ⟨X0, Xf, -⟩ := one1 X.out
  go_wp2_with fail
  clear X0 Xf
  have hf := fits94_w n w2
  rw [HFN.out] at hf
  refine hf.mono ?_
  rintro e w' ⟨rfl, rfl⟩
  have e : atR t a n = subR (Fat a n) t := by unfold atR; rw [if_pos ⟨Hy.out.symm, Hu.out.symm, HFN.out⟩]
  rw [RES.out] at e
  have hcon := run_w (maker_at (nb := w.heap.size + 1 + 1) (ab := w.heap.size + 1) (n0 := n) (ka := a.kind) (na := a.num) (aa := aoa) (ma := a.sub.length) (ca := capa) (a := a) (PA := (· < w.heap.size)) ⟨hnn.1, hnn.2⟩ Hu.out.symm) _ t w2 T.out Hy.out.symm (fun q hq => by have h1 := FW.out.size; have h2 := SW.out; rcases hq with rfl | rfl | hq <;> omega) ⟨X.out, AB.out, HA0.out.keep (w' := w2) (fun _ h => h) fun q hq => (FB0.out.trans (FW.out.mono FB0.out.size)).block q hq⟩
  rw [← e] at hcon
  have HCON := Lib.hid hcon
  clear hcon e
  obtain ⟨Q0, Q1, Q2, Qf, -⟩ := three Q.out
  go_wp2_with fail
  clear Q0 Q1 Q2 Qf
  refine HCON.out.mono ?_
  rintro e w3 ⟨k3, n3, ao3, m3, c3, rfl, hb, hr⟩
  have HR3 := Lib.hid (hr.keep (P' := fun q => w.heap.size + 1 + 1 + 1 < q ∧ q < w3.heap.size) (fun q hq => ⟨by have h1 := FW.out.size; have h2 := SW.out; have h3 := hq.1; omega, hq.2⟩) fun _ _ => rfl)
  clear hr
  replace X := Lib.hid ((hb.block _ (blt X.out)).trans X.out)
  replace FW := Lib.hid (FW.out.trans (hb.mono FW.out.size))
  replace Q := Lib.hid ((hb.block _ (blt Q.out)).trans Q.out)
  replace AB := Lib.hid ((hb.block _ (blt AB.out)).trans AB.out)
  replace Z := Lib.hid ((hb.block _ (blt Z.out)).trans Z.out)
  replace T := Lib.hid (T.out.on hb)
  replace TA := Lib.hid (TA.out.on hb)
  clear hb
  obtain ⟨Z0, Z1, Z2, Zf, -⟩ := three Z.out
  go_wp2_with fail
  exact bodyPost_ret (v := .tuple #[.agg #[.int .i64 k3, .int .i64 n3, .slice ao3 m3 c3], .int .i64 rc]) (by simp [results, Try.results56, go_sem, Z0, Z1, Z2]) rfl
    ⟨_, _, _, _, _, rfl, (((FB0.out.trans (FW.out.mono FB0.out.size)).setCell (by simp only []; omega) _).setCell (by simp only []; omega) _).setCell (by simp only []; omega) _, HR3.out.keep (fun q hq => ⟨by have := hq.1; omega, by rw [set3_size]; exact hq.2⟩) fun q hq => set3_off _ _ _ _ _ q (by have := hq.1; omega)⟩
set_option maxRecDepth 100000 in
set_option maxHeartbeats 4000000 in
theorem Named_w (v va : Value) (t a : Tm) (n : Int) (w : World) (hr : Rd (· < w.heap.size) w v t) (ha : Rd (· < w.heap.size) w va a) :
    Calls Try.prog 61 #[v, va, .int .i64 n] w (AnsTE w (namedR t a n).1 (namedR t a n).2) := by
  obtain ⟨rt, rc, hres⟩ : ∃ rt rc, namedR t a n = (rt, rc) := ⟨_, _, rfl⟩
  rw [hres]
  have RES := Lib.hid hres
  clear hres
  obtain ⟨ao, cap, rfl⟩ := hr.shape
  obtain ⟨aoa, capa, rfl⟩ := ha.shape
  obtain ⟨W, hW⟩ : ∃ W, W = (((w.alloc (.cells #[.int .i64 t.kind, .int .i64 t.num, .slice ao t.sub.length cap] 24)).alloc (.cells #[.int .i64 a.kind, .int .i64 a.num, .slice aoa a.sub.length capa] 24)).alloc (.cells #[.int .i64 n] 3)).alloc (.cells #[.int .i64 0, .int .i64 0, .slice none 0 0] 24) := ⟨_, rfl⟩
  have hb0 : Below w.heap.size w W := by rw [hW]; exact (((((Below.refl _ _).alloc (Nat.le_refl _) _).alloc (by simp only [World.size_alloc]; omega) _).alloc (by simp only [World.size_alloc]; omega) _).alloc (by simp only [World.size_alloc]; omega) _)
  have hsW : W.heap.size = w.heap.size + 4 := by rw [hW]; simp only [World.size_alloc]
  have Q := Lib.hid (show W.heap[w.heap.size]? = some (.cells #[.int .i64 t.kind, .int .i64 t.num, .slice ao t.sub.length cap] 24) by rw [hW]; exact (Below.heap_alloc _ _ _ (by simp only [World.size_alloc]; omega)).trans ((Below.heap_alloc _ _ _ (by simp only [World.size_alloc]; omega)).trans ((Below.heap_alloc _ _ _ (by simp only [World.size_alloc]; omega)).trans (heap_new _ _ _ (by first | rfl | simp only [World.size_alloc])))))
  have AB := Lib.hid (show W.heap[w.heap.size + 1]? = some (.cells #[.int .i64 a.kind, .int .i64 a.num, .slice aoa a.sub.length capa] 24) by rw [hW]; exact (Below.heap_alloc _ _ _ (by simp only [World.size_alloc]; omega)).trans ((Below.heap_alloc _ _ _ (by simp only [World.size_alloc]; omega)).trans (heap_new _ _ _ (by first | rfl | simp only [World.size_alloc]))))
  have X := Lib.hid (show W.heap[w.heap.size + 1 + 1]? = some (.cells #[.int .i64 n] 3) by rw [hW]; exact (Below.heap_alloc _ _ _ (by simp only [World.size_alloc]; omega)).trans (heap_new _ _ _ (by first | rfl | simp only [World.size_alloc])))
  have Z := Lib.hid (show W.heap[w.heap.size + 1 + 1 + 1]? = some (.cells #[.int .i64 0, .int .i64 0, .slice none 0 0] 24) by rw [hW]; exact heap_new _ _ _ (by first | rfl | simp only [World.size_alloc]))
  have T := Lib.hid (hr.on hb0)
  have FW := Lib.hid (Below.refl W.heap.size W)
  have FB0 := Lib.hid hb0
  have SW := Lib.hid hsW
  have TA := Lib.hid (ha.on hb0)
  have HA0 := Lib.hid ha
  clear ha
  clear hb0 hsW
  have HW := Lib.hid hW
  clear hW hr
  obtain ⟨y, hy⟩ : ∃ y, y = Shp t := ⟨_, rfl⟩
  have Hy := Lib.hid hy
  clear hy
  cases y
  · skip
    have e : namedR t a n = (tm0, 5) := by unfold namedR; rw [if_neg (fun h => by rw [← Hy.out] at h; cases h.1)]
    rw [RES.out] at e
    injection e with e1 e2
    subst e1; subst e2
    have hs := Shaped_r T.out
    rw [← Hy.out] at hs
    go_enter Try.func61, Try.ntmps61
    go_wp2_with fail
    rw [← HW.out]
    refine (hs).mono ?_
    rintro e w1 ⟨rfl, hb⟩
    replace X := Lib.hid ((hb.block _ (blt X.out)).trans X.out)
    replace FW := Lib.hid (FW.out.trans (hb.mono FW.out.size))
    replace Q := Lib.hid ((hb.block _ (blt Q.out)).trans Q.out)
    replace AB := Lib.hid ((hb.block _ (blt AB.out)).trans AB.out)
    replace Z := Lib.hid ((hb.block _ (blt Z.out)).trans Z.out)
    replace T := Lib.hid (T.out.on hb)
    replace TA := Lib.hid (TA.out.on hb)
    clear hb
    obtain ⟨Z0, Z1, Z2, Zf, -⟩ := three Z.out
    go_wp2_with fail
    exact bodyPost_ret (v := .tuple #[.agg #[.int .i64 0, .int .i64 0, .slice none 0 0], .int .i64 5]) (by simp [results, Try.results61, go_sem, Z0, Z1, Z2]) rfl
      ⟨_, _, _, _, _, rfl, (((FB0.out.trans (FW.out.mono FB0.out.size)).setCell (by simp only []; omega) _).setCell (by simp only []; omega) _).setCell (by simp only []; omega) _, Rd.zero _ _⟩
  obtain ⟨u, hu⟩ : ∃ y, y = Shp a := ⟨_, rfl⟩
  have Hu := Lib.hid hu
  clear hu
  cases u
  · skip
    have e : namedR t a n = (tm0, 5) := by unfold namedR; rw [if_neg (fun h => by rw [← Hu.out] at h; cases h.2.1)]
    rw [RES.out] at e
    injection e with e1 e2
    subst e1; subst e2
    have hs := Shaped_r T.out
    rw [← Hy.out] at hs
    go_enter Try.func61, Try.ntmps61
    go_wp2_with fail
    rw [← HW.out]
    refine (hs).mono ?_
    rintro e w1 ⟨rfl, hb⟩
    replace X := Lib.hid ((hb.block _ (blt X.out)).trans X.out)
    replace FW := Lib.hid (FW.out.trans (hb.mono FW.out.size))
    replace Q := Lib.hid ((hb.block _ (blt Q.out)).trans Q.out)
    replace AB := Lib.hid ((hb.block _ (blt AB.out)).trans AB.out)
    replace Z := Lib.hid ((hb.block _ (blt Z.out)).trans Z.out)
    replace T := Lib.hid (T.out.on hb)
    replace TA := Lib.hid (TA.out.on hb)
    clear hb
    obtain ⟨AB0, AB1, AB2, ABf, -⟩ := three AB.out
    go_wp2_with fail
    clear AB0 AB1 AB2 ABf
    have hs := Shaped_r TA.out
    rw [← Hu.out] at hs
    refine (hs).mono ?_
    rintro e w2 ⟨rfl, hb⟩
    replace X := Lib.hid ((hb.block _ (blt X.out)).trans X.out)
    replace FW := Lib.hid (FW.out.trans (hb.mono FW.out.size))
    replace Q := Lib.hid ((hb.block _ (blt Q.out)).trans Q.out)
    replace AB := Lib.hid ((hb.block _ (blt AB.out)).trans AB.out)
    replace Z := Lib.hid ((hb.block _ (blt Z.out)).trans Z.out)
    replace T := Lib.hid (T.out.on hb)
    replace TA := Lib.hid (TA.out.on hb)
    clear hb
    obtain ⟨Z0, Z1, Z2, Zf, -⟩ := three Z.out
    go_wp2_with fail
    exact bodyPost_ret (v := .tuple #[.agg #[.int .i64 0, .int .i64 0, .slice none 0 0], .int .i64 5]) (by simp [results, Try.results61, go_sem, Z0, Z1, Z2]) rfl
      ⟨_, _, _, _, _, rfl, (((FB0.out.trans (FW.out.mono FB0.out.size)).setCell (by simp only []; omega) _).setCell (by simp only []; omega) _).setCell (by simp only []; omega) _, Rd.zero _ _⟩
  by_cases hfn : fit n = true
  rotate_left
  · skip
    have e : namedR t a n = (tm0, 5) := by unfold namedR; rw [if_neg (fun h => hfn h.2.2)]
    rw [RES.out] at e
    injection e with e1 e2
    subst e1; subst e2
    have hff : fit n = false := by simpa using hfn
    clear hfn
    have hs := Shaped_r T.out
    rw [← Hy.out] at hs
    go_enter Try.func61, Try.ntmps61
    go_wp2_with fail
    rw [← HW.out]
    refine (hs).mono ?_
    rintro e w1 ⟨rfl, hb⟩
    replace X := Lib.hid ((hb.block _ (blt X.out)).trans X.out)
    replace FW := Lib.hid (FW.out.trans (hb.mono FW.out.size))
    replace Q := Lib.hid ((hb.block _ (blt Q.out)).trans Q.out)
    replace AB := Lib.hid ((hb.block _ (blt AB.out)).trans AB.out)
    replace Z := Lib.hid ((hb.block _ (blt Z.out)).trans Z.out)
    replace T := Lib.hid (T.out.on hb)
    replace TA := Lib.hid (TA.out.on hb)
    clear hb
    obtain ⟨AB0, AB1, AB2, ABf, -⟩ := three AB.out
    go_wp2_with fail
    clear AB0 AB1 AB2 ABf
    have hs := Shaped_r TA.out
    rw [← Hu.out] at hs
    refine (hs).mono ?_
    rintro e w2 ⟨rfl, hb⟩
    replace X := Lib.hid ((hb.block _ (blt X.out)).trans X.out)
    replace FW := Lib.hid (FW.out.trans (hb.mono FW.out.size))
    replace Q := Lib.hid ((hb.block _ (blt Q.out)).trans Q.out)
    replace AB := Lib.hid ((hb.block _ (blt AB.out)).trans AB.out)
    replace Z := Lib.hid ((hb.block _ (blt Z.out)).trans Z.out)
    replace T := Lib.hid (T.out.on hb)
    replace TA := Lib.hid (TA.out.on hb)
    clear hb
    obtain ⟨X0, Xf, -⟩ := one1 X.out
    go_wp2_with fail
    clear X0 Xf
    have hf := fits94_w n w2
    rw [hff] at hf
    refine hf.mono ?_
    rintro e w' ⟨rfl, rfl⟩
    obtain ⟨Z0, Z1, Z2, Zf, -⟩ := three Z.out
    go_wp2_with fail
    exact bodyPost_ret (v := .tuple #[.agg #[.int .i64 0, .int .i64 0, .slice none 0 0], .int .i64 5]) (by simp [results, Try.results61, go_sem, Z0, Z1, Z2]) rfl
      ⟨_, _, _, _, _, rfl, (((FB0.out.trans (FW.out.mono FB0.out.size)).setCell (by simp only []; omega) _).setCell (by simp only []; omega) _).setCell (by simp only []; omega) _, Rd.zero _ _⟩
  have hnn := (fit_iff n).mp hfn
  have HFN := Lib.hid hfn
  clear hfn
  have hs := Shaped_r T.out
  rw [← Hy.out] at hs
  go_enter Try.func61, Try.ntmps61
  go_wp2_with fail
  rw [← HW.out]
  refine (hs).mono ?_
  rintro e w1 ⟨rfl, hb⟩
  replace X := Lib.hid ((hb.block _ (blt X.out)).trans X.out)
  replace FW := Lib.hid (FW.out.trans (hb.mono FW.out.size))
  replace Q := Lib.hid ((hb.block _ (blt Q.out)).trans Q.out)
  replace AB := Lib.hid ((hb.block _ (blt AB.out)).trans AB.out)
  replace Z := Lib.hid ((hb.block _ (blt Z.out)).trans Z.out)
  replace T := Lib.hid (T.out.on hb)
  replace TA := Lib.hid (TA.out.on hb)
  clear hb
  obtain ⟨AB0, AB1, AB2, ABf, -⟩ := three AB.out
  go_wp2_with fail
  clear AB0 AB1 AB2 ABf
  have hs := Shaped_r TA.out
  rw [← Hu.out] at hs
  refine (hs).mono ?_
  rintro e w2 ⟨rfl, hb⟩
  replace X := Lib.hid ((hb.block _ (blt X.out)).trans X.out)
  replace FW := Lib.hid (FW.out.trans (hb.mono FW.out.size))
  replace Q := Lib.hid ((hb.block _ (blt Q.out)).trans Q.out)
  replace AB := Lib.hid ((hb.block _ (blt AB.out)).trans AB.out)
  replace Z := Lib.hid ((hb.block _ (blt Z.out)).trans Z.out)
  replace T := Lib.hid (T.out.on hb)
  replace TA := Lib.hid (TA.out.on hb)
  clear hb
  obtain ⟨X0, Xf, -⟩ := one1 X.out
  go_wp2_with fail
  clear X0 Xf
  have hf := fits94_w n w2
  rw [HFN.out] at hf
  refine hf.mono ?_
  rintro e w' ⟨rfl, rfl⟩
  have e : namedR t a n = subR (Fnm a n) t := by unfold namedR; rw [if_pos ⟨Hy.out.symm, Hu.out.symm, HFN.out⟩]
  rw [RES.out] at e
  have hcon := run_w (maker_nm (nb := w.heap.size + 1 + 1) (ab := w.heap.size + 1) (n0 := n) (ka := a.kind) (na := a.num) (aa := aoa) (ma := a.sub.length) (ca := capa) (a := a) (PA := (· < w.heap.size)) ⟨hnn.1, hnn.2⟩ Hu.out.symm) _ t w2 T.out Hy.out.symm (fun q hq => by have h1 := FW.out.size; have h2 := SW.out; rcases hq with rfl | rfl | hq <;> omega) ⟨X.out, AB.out, HA0.out.keep (w' := w2) (fun _ h => h) fun q hq => (FB0.out.trans (FW.out.mono FB0.out.size)).block q hq⟩
  rw [← e] at hcon
  have HCON := Lib.hid hcon
  clear hcon e
  obtain ⟨Q0, Q1, Q2, Qf, -⟩ := three Q.out
  go_wp2_with fail
  clear Q0 Q1 Q2 Qf
  refine HCON.out.mono ?_
  rintro e w3 ⟨k3, n3, ao3, m3, c3, rfl, hb, hr⟩
  have HR3 := Lib.hid (hr.keep (P' := fun q => w.heap.size + 1 + 1 + 1 < q ∧ q < w3.heap.size) (fun q hq => ⟨by have h1 := FW.out.size; have h2 := SW.out; have h3 := hq.1; omega, hq.2⟩) fun _ _ => rfl)
  clear hr
  replace X := Lib.hid ((hb.block _ (blt X.out)).trans X.out)
  replace FW := Lib.hid (FW.out.trans (hb.mono FW.out.size))
  replace Q := Lib.hid ((hb.block _ (blt Q.out)).trans Q.out)
  replace AB := Lib.hid ((hb.block _ (blt AB.out)).trans AB.out)
  replace Z := Lib.hid ((hb.block _ (blt Z.out)).trans Z.out)
  replace T := Lib.hid (T.out.on hb)
  replace TA := Lib.hid (TA.out.on hb)
  clear hb
  obtain ⟨Z0, Z1, Z2, Zf, -⟩ := three Z.out
  go_wp2_with fail
  exact bodyPost_ret (v := .tuple #[.agg #[.int .i64 k3, .int .i64 n3, .slice ao3 m3 c3], .int .i64 rc]) (by simp [results, Try.results61, go_sem, Z0, Z1, Z2]) rfl
    ⟨_, _, _, _, _, rfl, (((FB0.out.trans (FW.out.mono FB0.out.size)).setCell (by simp only []; omega) _).setCell (by simp only []; omega) _).setCell (by simp only []; omega) _, HR3.out.keep (fun q hq => ⟨by have := hq.1; omega, by rw [set3_size]; exact hq.2⟩) fun q hq => set3_off _ _ _ _ _ q (by have := hq.1; omega)⟩
set_option maxRecDepth 100000 in
set_option maxHeartbeats 4000000 in
theorem Bind_w (v : Value) (t : Tm) (n : Int) (w : World) (hr : Rd (· < w.heap.size) w v t) :
    Calls Try.prog 58 #[v, .int .i64 n] w (AnsTE w (bindR t n).1 (bindR t n).2) := by
  obtain ⟨rt, rc, hres⟩ : ∃ rt rc, bindR t n = (rt, rc) := ⟨_, _, rfl⟩
  rw [hres]
  have RES := Lib.hid hres
  clear hres
  obtain ⟨ao, cap, rfl⟩ := hr.shape
  obtain ⟨W, hW⟩ : ∃ W, W = ((w.alloc (.cells #[.int .i64 t.kind, .int .i64 t.num, .slice ao t.sub.length cap] 24)).alloc (.cells #[.int .i64 n] 3)).alloc (.cells #[.int .i64 0, .int .i64 0, .slice none 0 0] 24) := ⟨_, rfl⟩
  have hb0 : Below w.heap.size w W := by rw [hW]; exact ((((Below.refl _ _).alloc (Nat.le_refl _) _).alloc (by simp only [World.size_alloc]; omega) _).alloc (by simp only [World.size_alloc]; omega) _)
  have hsW : W.heap.size = w.heap.size + 3 := by rw [hW]; simp only [World.size_alloc]
  have Q := Lib.hid (show W.heap[w.heap.size]? = some (.cells #[.int .i64 t.kind, .int .i64 t.num, .slice ao t.sub.length cap] 24) by rw [hW]; exact (Below.heap_alloc _ _ _ (by simp only [World.size_alloc]; omega)).trans ((Below.heap_alloc _ _ _ (by simp only [World.size_alloc]; omega)).trans (heap_new _ _ _ (by first | rfl | simp only [World.size_alloc]))))
  have X := Lib.hid (show W.heap[w.heap.size + 1]? = some (.cells #[.int .i64 n] 3) by rw [hW]; exact (Below.heap_alloc _ _ _ (by simp only [World.size_alloc]; omega)).trans (heap_new _ _ _ (by first | rfl | simp only [World.size_alloc])))
  have Z := Lib.hid (show W.heap[w.heap.size + 1 + 1]? = some (.cells #[.int .i64 0, .int .i64 0, .slice none 0 0] 24) by rw [hW]; exact heap_new _ _ _ (by first | rfl | simp only [World.size_alloc]))
  have T := Lib.hid (hr.on hb0)
  have FW := Lib.hid (Below.refl W.heap.size W)
  have FB0 := Lib.hid hb0
  have SW := Lib.hid hsW
  clear hb0 hsW
  have HW := Lib.hid hW
  clear hW hr
  obtain ⟨y, hy⟩ : ∃ y, y = Shp t := ⟨_, rfl⟩
  have Hy := Lib.hid hy
  clear hy
  cases y
  · skip
    have e : bindR t n = (tm0, 5) := by unfold bindR; rw [if_neg (fun h => by rw [← Hy.out] at h; cases h.1)]
    rw [RES.out] at e
    injection e with e1 e2
    subst e1; subst e2
    have hs := Shaped_r T.out
    rw [← Hy.out] at hs
    go_enter Try.func58, Try.ntmps58
    go_wp2_with fail
    rw [← HW.out]
    refine (hs).mono ?_
    rintro e w1 ⟨rfl, hb⟩
    replace X := Lib.hid ((hb.block _ (blt X.out)).trans X.out)
    replace FW := Lib.hid (FW.out.trans (hb.mono FW.out.size))
    replace Q := Lib.hid ((hb.block _ (blt Q.out)).trans Q.out)
    replace Z := Lib.hid ((hb.block _ (blt Z.out)).trans Z.out)
    replace T := Lib.hid (T.out.on hb)
    clear hb
    obtain ⟨Z0, Z1, Z2, Zf, -⟩ := three Z.out
    go_wp2_with fail
    exact bodyPost_ret (v := .tuple #[.agg #[.int .i64 0, .int .i64 0, .slice none 0 0], .int .i64 5]) (by simp [results, Try.results58, go_sem, Z0, Z1, Z2]) rfl
      ⟨_, _, _, _, _, rfl, (((FB0.out.trans (FW.out.mono FB0.out.size)).setCell (by simp only []; omega) _).setCell (by simp only []; omega) _).setCell (by simp only []; omega) _, Rd.zero _ _⟩
  by_cases hfn : fit n = true
  rotate_left
  · skip
    have e : bindR t n = (tm0, 5) := by unfold bindR; rw [if_neg (fun h => hfn h.2)]
    rw [RES.out] at e
    injection e with e1 e2
    subst e1; subst e2
    have hff : fit n = false := by simpa using hfn
    clear hfn
    have hs := Shaped_r T.out
    rw [← Hy.out] at hs
    go_enter Try.func58, Try.ntmps58
    go_wp2_with fail
    rw [← HW.out]
    refine (hs).mono ?_
    rintro e w1 ⟨rfl, hb⟩
    replace X := Lib.hid ((hb.block _ (blt X.out)).trans X.out)
    replace FW := Lib.hid (FW.out.trans (hb.mono FW.out.size))
    replace Q := Lib.hid ((hb.block _ (blt Q.out)).trans Q.out)
    replace Z := Lib.hid ((hb.block _ (blt Z.out)).trans Z.out)
    replace T := Lib.hid (T.out.on hb)
    clear hb
    obtain ⟨X0, Xf, -⟩ := one1 X.out
    go_wp2_with fail
    clear X0 Xf
    have hf := fits94_w n w1
    rw [hff] at hf
    refine hf.mono ?_
    rintro e w' ⟨rfl, rfl⟩
    obtain ⟨Z0, Z1, Z2, Zf, -⟩ := three Z.out
    go_wp2_with fail
    exact bodyPost_ret (v := .tuple #[.agg #[.int .i64 0, .int .i64 0, .slice none 0 0], .int .i64 5]) (by simp [results, Try.results58, go_sem, Z0, Z1, Z2]) rfl
      ⟨_, _, _, _, _, rfl, (((FB0.out.trans (FW.out.mono FB0.out.size)).setCell (by simp only []; omega) _).setCell (by simp only []; omega) _).setCell (by simp only []; omega) _, Rd.zero _ _⟩
  have hnn := (fit_iff n).mp hfn
  have HFN := Lib.hid hfn
  clear hfn
  have hs := Shaped_r T.out
  rw [← Hy.out] at hs
  go_enter Try.func58, Try.ntmps58
  go_wp2_with fail
  rw [← HW.out]
  refine (hs).mono ?_
  rintro e w1 ⟨rfl, hb⟩
  replace X := Lib.hid ((hb.block _ (blt X.out)).trans X.out)
  replace FW := Lib.hid (FW.out.trans (hb.mono FW.out.size))
  replace Q := Lib.hid ((hb.block _ (blt Q.out)).trans Q.out)
  replace Z := Lib.hid ((hb.block _ (blt Z.out)).trans Z.out)
  replace T := Lib.hid (T.out.on hb)
  clear hb
  obtain ⟨X0, Xf, -⟩ := one1 X.out
  go_wp2_with fail
  clear X0 Xf
  have hf := fits94_w n w1
  rw [HFN.out] at hf
  refine hf.mono ?_
  rintro e w' ⟨rfl, rfl⟩
  have e : bindR t n = subR (Fbd n) t := by unfold bindR; rw [if_pos ⟨Hy.out.symm, HFN.out⟩]
  rw [RES.out] at e
  have hcon := run_w (maker_bd (nb := w.heap.size + 1) (n0 := n) ⟨hnn.1, hnn.2⟩) _ t w1 T.out Hy.out.symm (fun q hq => by have h1 := FW.out.size; have h2 := SW.out; subst hq; omega) X.out
  rw [← e] at hcon
  have HCON := Lib.hid hcon
  clear hcon e
  obtain ⟨Q0, Q1, Q2, Qf, -⟩ := three Q.out
  go_wp2_with fail
  clear Q0 Q1 Q2 Qf
  refine HCON.out.mono ?_
  rintro e w2 ⟨k2, n2, ao2, m2, c2, rfl, hb, hr⟩
  have HR2 := Lib.hid (hr.keep (P' := fun q => w.heap.size + 1 + 1 < q ∧ q < w2.heap.size) (fun q hq => ⟨by have h1 := FW.out.size; have h2 := SW.out; have h3 := hq.1; omega, hq.2⟩) fun _ _ => rfl)
  clear hr
  replace X := Lib.hid ((hb.block _ (blt X.out)).trans X.out)
  replace FW := Lib.hid (FW.out.trans (hb.mono FW.out.size))
  replace Q := Lib.hid ((hb.block _ (blt Q.out)).trans Q.out)
  replace Z := Lib.hid ((hb.block _ (blt Z.out)).trans Z.out)
  replace T := Lib.hid (T.out.on hb)
  clear hb
  obtain ⟨Z0, Z1, Z2, Zf, -⟩ := three Z.out
  go_wp2_with fail
  exact bodyPost_ret (v := .tuple #[.agg #[.int .i64 k2, .int .i64 n2, .slice ao2 m2 c2], .int .i64 rc]) (by simp [results, Try.results58, go_sem, Z0, Z1, Z2]) rfl
    ⟨_, _, _, _, _, rfl, (((FB0.out.trans (FW.out.mono FB0.out.size)).setCell (by simp only []; omega) _).setCell (by simp only []; omega) _).setCell (by simp only []; omega) _, HR2.out.keep (fun q hq => ⟨by have := hq.1; omega, by rw [set3_size]; exact hq.2⟩) fun q hq => set3_off _ _ _ _ _ q (by have := hq.1; omega)⟩
set_option maxRecDepth 100000 in
set_option maxHeartbeats 4000000 in
theorem refAt_w (v va : Value) (t a : Tm) (n : Int) (w : World) (hr : Rd (· < w.heap.size) w v t) (ha : Rd (· < w.heap.size) w va a) :
    Calls Try.prog 57 #[v, va, .int .i64 n] w (AnsTE w (atR t a n).1 (atR t a n).2) := by
  obtain ⟨rt, rc, hres⟩ : ∃ rt rc, atR t a n = (rt, rc) := ⟨_, _, rfl⟩
  rw [hres]
  have RES := Lib.hid hres
  clear hres
  obtain ⟨ao, cap, rfl⟩ := hr.shape
  obtain ⟨aoa, capa, rfl⟩ := ha.shape
  obtain ⟨W, hW⟩ : ∃ W, W = ((w.alloc (.cells #[.int .i64 t.kind, .int .i64 t.num, .slice ao t.sub.length cap] 24)).alloc (.cells #[.int .i64 a.kind, .int .i64 a.num, .slice aoa a.sub.length capa] 24)).alloc (.cells #[.int .i64 0, .int .i64 0, .slice none 0 0] 24) := ⟨_, rfl⟩
  have hb0 : Below w.heap.size w W := by rw [hW]; exact ((((Below.refl _ _).alloc (Nat.le_refl _) _).alloc (by simp only [World.size_alloc]; omega) _).alloc (by simp only [World.size_alloc]; omega) _)
  have hsW : W.heap.size = w.heap.size + 3 := by rw [hW]; simp only [World.size_alloc]
  have Q := Lib.hid (show W.heap[w.heap.size]? = some (.cells #[.int .i64 t.kind, .int .i64 t.num, .slice ao t.sub.length cap] 24) by rw [hW]; exact (Below.heap_alloc _ _ _ (by simp only [World.size_alloc]; omega)).trans ((Below.heap_alloc _ _ _ (by simp only [World.size_alloc]; omega)).trans (heap_new _ _ _ (by first | rfl | simp only [World.size_alloc]))))
  have AB := Lib.hid (show W.heap[w.heap.size + 1]? = some (.cells #[.int .i64 a.kind, .int .i64 a.num, .slice aoa a.sub.length capa] 24) by rw [hW]; exact (Below.heap_alloc _ _ _ (by simp only [World.size_alloc]; omega)).trans (heap_new _ _ _ (by first | rfl | simp only [World.size_alloc])))
  have Z := Lib.hid (show W.heap[w.heap.size + 1 + 1]? = some (.cells #[.int .i64 0, .int .i64 0, .slice none 0 0] 24) by rw [hW]; exact heap_new _ _ _ (by first | rfl | simp only [World.size_alloc]))
  have T := Lib.hid (hr.on hb0)
  have FW := Lib.hid (Below.refl W.heap.size W)
  have FB0 := Lib.hid hb0
  have SW := Lib.hid hsW
  have TA := Lib.hid (ha.on hb0)
  clear ha
  clear hb0 hsW
  have HW := Lib.hid hW
  clear hW hr
  obtain ⟨y, hy⟩ : ∃ y, y = Shp t := ⟨_, rfl⟩
  have Hy := Lib.hid hy
  clear hy
  cases y
  · skip
    have e : atR t a n = (tm0, 5) := by unfold atR; rw [if_neg (fun h => by rw [← Hy.out] at h; cases h.1)]
    rw [RES.out] at e
    injection e with e1 e2
    subst e1; subst e2
    have hs := refShaped_r T.out
    rw [← Hy.out] at hs
    go_enter Try.func57, Try.ntmps57
    go_wp2_with fail
    rw [← HW.out]
    refine (hs).mono ?_
    rintro e w1 ⟨rfl, hb⟩
    replace FW := Lib.hid (FW.out.trans (hb.mono FW.out.size))
    replace Q := Lib.hid ((hb.block _ (blt Q.out)).trans Q.out)
    replace AB := Lib.hid ((hb.block _ (blt AB.out)).trans AB.out)
    replace Z := Lib.hid ((hb.block _ (blt Z.out)).trans Z.out)
    replace T := Lib.hid (T.out.on hb)
    replace TA := Lib.hid (TA.out.on hb)
    clear hb
    obtain ⟨Z0, Z1, Z2, Zf, -⟩ := three Z.out
    go_wp2_with fail
    exact bodyPost_ret (v := .tuple #[.agg #[.int .i64 0, .int .i64 0, .slice none 0 0], .int .i64 5]) (by simp [results, Try.results57, go_sem, Z0, Z1, Z2]) rfl
      ⟨_, _, _, _, _, rfl, (((FB0.out.trans (FW.out.mono FB0.out.size)).setCell (by simp only []; omega) _).setCell (by simp only []; omega) _).setCell (by simp only []; omega) _, Rd.zero _ _⟩
  obtain ⟨u, hu⟩ : ∃ y, y = Shp a := ⟨_, rfl⟩
  have Hu := Lib.hid hu
  clear hu
  cases u
  · skip
    have e : atR t a n = (tm0, 5) := by unfold atR; rw [if_neg (fun h => by rw [← Hu.out] at h; cases h.2.1)]
    rw [RES.out] at e
    injection e with e1 e2
    subst e1; subst e2
    have hs := refShaped_r T.out
    rw [← Hy.out] at hs
    go_enter Try.func57, Try.ntmps57
    go_wp2_with fail
    rw [← HW.out]
    refine (hs).mono ?_
    rintro e w1 ⟨rfl, hb⟩
    replace FW := Lib.hid (FW.out.trans (hb.mono FW.out.size))
    replace Q := Lib.hid ((hb.block _ (blt Q.out)).trans Q.out)
    replace AB := Lib.hid ((hb.block _ (blt AB.out)).trans AB.out)
    replace Z := Lib.hid ((hb.block _ (blt Z.out)).trans Z.out)
    replace T := Lib.hid (T.out.on hb)
    replace TA := Lib.hid (TA.out.on hb)
    clear hb
    obtain ⟨AB0, AB1, AB2, ABf, -⟩ := three AB.out
    go_wp2_with fail
    clear AB0 AB1 AB2 ABf
    have hs := refShaped_r TA.out
    rw [← Hu.out] at hs
    refine (hs).mono ?_
    rintro e w2 ⟨rfl, hb⟩
    replace FW := Lib.hid (FW.out.trans (hb.mono FW.out.size))
    replace Q := Lib.hid ((hb.block _ (blt Q.out)).trans Q.out)
    replace AB := Lib.hid ((hb.block _ (blt AB.out)).trans AB.out)
    replace Z := Lib.hid ((hb.block _ (blt Z.out)).trans Z.out)
    replace T := Lib.hid (T.out.on hb)
    replace TA := Lib.hid (TA.out.on hb)
    clear hb
    obtain ⟨Z0, Z1, Z2, Zf, -⟩ := three Z.out
    go_wp2_with fail
    exact bodyPost_ret (v := .tuple #[.agg #[.int .i64 0, .int .i64 0, .slice none 0 0], .int .i64 5]) (by simp [results, Try.results57, go_sem, Z0, Z1, Z2]) rfl
      ⟨_, _, _, _, _, rfl, (((FB0.out.trans (FW.out.mono FB0.out.size)).setCell (by simp only []; omega) _).setCell (by simp only []; omega) _).setCell (by simp only []; omega) _, Rd.zero _ _⟩
  by_cases hfn : fit n = true
  rotate_left
  · skip
    have e : atR t a n = (tm0, 5) := by unfold atR; rw [if_neg (fun h => hfn h.2.2)]
    rw [RES.out] at e
    injection e with e1 e2
    subst e1; subst e2
    have hff : fit n = false := by simpa using hfn
    clear hfn
    have hs := refShaped_r T.out
    rw [← Hy.out] at hs
    go_enter Try.func57, Try.ntmps57
    go_wp2_with fail
    rw [← HW.out]
    refine (hs).mono ?_
    rintro e w1 ⟨rfl, hb⟩
    replace FW := Lib.hid (FW.out.trans (hb.mono FW.out.size))
    replace Q := Lib.hid ((hb.block _ (blt Q.out)).trans Q.out)
    replace AB := Lib.hid ((hb.block _ (blt AB.out)).trans AB.out)
    replace Z := Lib.hid ((hb.block _ (blt Z.out)).trans Z.out)
    replace T := Lib.hid (T.out.on hb)
    replace TA := Lib.hid (TA.out.on hb)
    clear hb
    obtain ⟨AB0, AB1, AB2, ABf, -⟩ := three AB.out
    go_wp2_with fail
    clear AB0 AB1 AB2 ABf
    have hs := refShaped_r TA.out
    rw [← Hu.out] at hs
    refine (hs).mono ?_
    rintro e w2 ⟨rfl, hb⟩
    replace FW := Lib.hid (FW.out.trans (hb.mono FW.out.size))
    replace Q := Lib.hid ((hb.block _ (blt Q.out)).trans Q.out)
    replace AB := Lib.hid ((hb.block _ (blt AB.out)).trans AB.out)
    replace Z := Lib.hid ((hb.block _ (blt Z.out)).trans Z.out)
    replace T := Lib.hid (T.out.on hb)
    replace TA := Lib.hid (TA.out.on hb)
    clear hb
    go_wp2_with fail
    have hf := fits75_w n w2
    rw [hff] at hf
    refine hf.mono ?_
    rintro e w' ⟨rfl, rfl⟩
    obtain ⟨Z0, Z1, Z2, Zf, -⟩ := three Z.out
    go_wp2_with fail
    exact bodyPost_ret (v := .tuple #[.agg #[.int .i64 0, .int .i64 0, .slice none 0 0], .int .i64 5]) (by simp [results, Try.results57, go_sem, Z0, Z1, Z2]) rfl
      ⟨_, _, _, _, _, rfl, (((FB0.out.trans (FW.out.mono FB0.out.size)).setCell (by simp only []; omega) _).setCell (by simp only []; omega) _).setCell (by simp only []; omega) _, Rd.zero _ _⟩
  have hnn := (fit_iff n).mp hfn
  have HFN := Lib.hid hfn
  clear hfn
  have hs := refShaped_r T.out
  rw [← Hy.out] at hs
  go_enter Try.func57, Try.ntmps57
  go_wp2_with fail
  rw [← HW.out]
  refine (hs).mono ?_
  rintro e w1 ⟨rfl, hb⟩
  replace FW := Lib.hid (FW.out.trans (hb.mono FW.out.size))
  replace Q := Lib.hid ((hb.block _ (blt Q.out)).trans Q.out)
  replace AB := Lib.hid ((hb.block _ (blt AB.out)).trans AB.out)
  replace Z := Lib.hid ((hb.block _ (blt Z.out)).trans Z.out)
  replace T := Lib.hid (T.out.on hb)
  replace TA := Lib.hid (TA.out.on hb)
  clear hb
  obtain ⟨AB0, AB1, AB2, ABf, -⟩ := three AB.out
  go_wp2_with fail
  clear AB0 AB1 AB2 ABf
  have hs := refShaped_r TA.out
  rw [← Hu.out] at hs
  refine (hs).mono ?_
  rintro e w2 ⟨rfl, hb⟩
  replace FW := Lib.hid (FW.out.trans (hb.mono FW.out.size))
  replace Q := Lib.hid ((hb.block _ (blt Q.out)).trans Q.out)
  replace AB := Lib.hid ((hb.block _ (blt AB.out)).trans AB.out)
  replace Z := Lib.hid ((hb.block _ (blt Z.out)).trans Z.out)
  replace T := Lib.hid (T.out.on hb)
  replace TA := Lib.hid (TA.out.on hb)
  clear hb
  go_wp2_with fail
  have hf := fits75_w n w2
  rw [HFN.out] at hf
  refine hf.mono ?_
  rintro e w' ⟨rfl, rfl⟩
  have e : atR t a n = subR (Fat a n) t := by unfold atR; rw [if_pos ⟨Hy.out.symm, Hu.out.symm, HFN.out⟩]
  rw [RES.out] at e
  have E := Lib.hid e.symm
  have hsh := (Shp_iff t).mp Hy.out.symm
  have hcon := refat_w a _ n ⟨hnn.1, hnn.2⟩ Hu.out.symm (dep t) _ t 0 w2 T.out.fit hsh.2.2 (by omega) (by omega) TA.out
  rw [Int.add_zero] at hcon
  have HCON := Lib.hid hcon
  clear hcon e hsh
  obtain ⟨Q0, Q1, Q2, Qf, -⟩ := three Q.out
  obtain ⟨AB0, AB1, AB2, ABf, -⟩ := three AB.out
  go_wp2_with fail
  clear Q0 Q1 Q2 Qf AB0 AB1 AB2 ABf
  refine HCON.out.mono ?_
  rintro e w3 ⟨k3, n3, ao3, m3, c3, lg3, y3, rfl, hb, hr, hok⟩
  have hd := doneR_of hok
  rw [E.out] at hd
  have hcd := done_w (fun q => w.heap.size + 1 + 1 < q ∧ q < w3.heap.size) k3 n3 ao3 m3 c3 lg3 y3 w3 (fun q hq => hq.2) (hr.keep (fun q hq => ⟨by have h1 := FW.out.size; have h2 := SW.out; have h3 := hq.1; omega, hq.2⟩) fun _ _ => rfl)
  rw [hd] at hcd
  have HCD := Lib.hid hcd
  clear hd hcd hok hr
  replace FW := Lib.hid (FW.out.trans (hb.mono FW.out.size))
  replace Q := Lib.hid ((hb.block _ (blt Q.out)).trans Q.out)
  replace AB := Lib.hid ((hb.block _ (blt AB.out)).trans AB.out)
  replace Z := Lib.hid ((hb.block _ (blt Z.out)).trans Z.out)
  replace T := Lib.hid (T.out.on hb)
  replace TA := Lib.hid (TA.out.on hb)
  clear hb
  go_wp2_with fail
  refine HCD.out.mono ?_
  rintro e w4 ⟨k4, n4, ao4, m4, c4, rfl, hb, hr⟩
  have HR4 := Lib.hid (hr.keep (P' := fun q => w.heap.size + 1 + 1 < q ∧ q < w4.heap.size) (fun q hq => ⟨hq.1, Nat.lt_of_lt_of_le hq.2 hb.size⟩) fun _ _ => rfl)
  clear hr
  replace FW := Lib.hid (FW.out.trans (hb.mono FW.out.size))
  replace Q := Lib.hid ((hb.block _ (blt Q.out)).trans Q.out)
  replace AB := Lib.hid ((hb.block _ (blt AB.out)).trans AB.out)
  replace Z := Lib.hid ((hb.block _ (blt Z.out)).trans Z.out)
  replace T := Lib.hid (T.out.on hb)
  replace TA := Lib.hid (TA.out.on hb)
  clear hb
  obtain ⟨Z0, Z1, Z2, Zf, -⟩ := three Z.out
  go_wp2_with fail
  exact bodyPost_ret (v := .tuple #[.agg #[.int .i64 k4, .int .i64 n4, .slice ao4 m4 c4], .int .i64 rc]) (by simp [results, Try.results57, go_sem, Z0, Z1, Z2]) rfl
    ⟨_, _, _, _, _, rfl, (((FB0.out.trans (FW.out.mono FB0.out.size)).setCell (by simp only []; omega) _).setCell (by simp only []; omega) _).setCell (by simp only []; omega) _, HR4.out.keep (fun q hq => ⟨by have := hq.1; omega, by rw [set3_size]; exact hq.2⟩) fun q hq => set3_off _ _ _ _ _ q (by have := hq.1; omega)⟩
set_option maxRecDepth 100000 in
set_option maxHeartbeats 4000000 in
theorem refNamed_w (v va : Value) (t a : Tm) (n : Int) (w : World) (hr : Rd (· < w.heap.size) w v t) (ha : Rd (· < w.heap.size) w va a) :
    Calls Try.prog 62 #[v, va, .int .i64 n] w (AnsTE w (namedR t a n).1 (namedR t a n).2) := by
  obtain ⟨rt, rc, hres⟩ : ∃ rt rc, namedR t a n = (rt, rc) := ⟨_, _, rfl⟩
  rw [hres]
  have RES := Lib.hid hres
  clear hres
  obtain ⟨ao, cap, rfl⟩ := hr.shape
  obtain ⟨aoa, capa, rfl⟩ := ha.shape
  obtain ⟨W, hW⟩ : ∃ W, W = ((w.alloc (.cells #[.int .i64 t.kind, .int .i64 t.num, .slice ao t.sub.length cap] 24)).alloc (.cells #[.int .i64 a.kind, .int .i64 a.num, .slice aoa a.sub.length capa] 24)).alloc (.cells #[.int .i64 0, .int .i64 0, .slice none 0 0] 24) := ⟨_, rfl⟩
  have hb0 : Below w.heap.size w W := by rw [hW]; exact ((((Below.refl _ _).alloc (Nat.le_refl _) _).alloc (by simp only [World.size_alloc]; omega) _).alloc (by simp only [World.size_alloc]; omega) _)
  have hsW : W.heap.size = w.heap.size + 3 := by rw [hW]; simp only [World.size_alloc]
  have Q := Lib.hid (show W.heap[w.heap.size]? = some (.cells #[.int .i64 t.kind, .int .i64 t.num, .slice ao t.sub.length cap] 24) by rw [hW]; exact (Below.heap_alloc _ _ _ (by simp only [World.size_alloc]; omega)).trans ((Below.heap_alloc _ _ _ (by simp only [World.size_alloc]; omega)).trans (heap_new _ _ _ (by first | rfl | simp only [World.size_alloc]))))
  have AB := Lib.hid (show W.heap[w.heap.size + 1]? = some (.cells #[.int .i64 a.kind, .int .i64 a.num, .slice aoa a.sub.length capa] 24) by rw [hW]; exact (Below.heap_alloc _ _ _ (by simp only [World.size_alloc]; omega)).trans (heap_new _ _ _ (by first | rfl | simp only [World.size_alloc])))
  have Z := Lib.hid (show W.heap[w.heap.size + 1 + 1]? = some (.cells #[.int .i64 0, .int .i64 0, .slice none 0 0] 24) by rw [hW]; exact heap_new _ _ _ (by first | rfl | simp only [World.size_alloc]))
  have T := Lib.hid (hr.on hb0)
  have FW := Lib.hid (Below.refl W.heap.size W)
  have FB0 := Lib.hid hb0
  have SW := Lib.hid hsW
  have TA := Lib.hid (ha.on hb0)
  clear ha
  clear hb0 hsW
  have HW := Lib.hid hW
  clear hW hr
  obtain ⟨y, hy⟩ : ∃ y, y = Shp t := ⟨_, rfl⟩
  have Hy := Lib.hid hy
  clear hy
  cases y
  · skip
    have e : namedR t a n = (tm0, 5) := by unfold namedR; rw [if_neg (fun h => by rw [← Hy.out] at h; cases h.1)]
    rw [RES.out] at e
    injection e with e1 e2
    subst e1; subst e2
    have hs := refShaped_r T.out
    rw [← Hy.out] at hs
    go_enter Try.func62, Try.ntmps62
    go_wp2_with fail
    rw [← HW.out]
    refine (hs).mono ?_
    rintro e w1 ⟨rfl, hb⟩
    replace FW := Lib.hid (FW.out.trans (hb.mono FW.out.size))
    replace Q := Lib.hid ((hb.block _ (blt Q.out)).trans Q.out)
    replace AB := Lib.hid ((hb.block _ (blt AB.out)).trans AB.out)
    replace Z := Lib.hid ((hb.block _ (blt Z.out)).trans Z.out)
    replace T := Lib.hid (T.out.on hb)
    replace TA := Lib.hid (TA.out.on hb)
    clear hb
    obtain ⟨Z0, Z1, Z2, Zf, -⟩ := three Z.out
    go_wp2_with fail
    exact bodyPost_ret (v := .tuple #[.agg #[.int .i64 0, .int .i64 0, .slice none 0 0], .int .i64 5]) (by simp [results, Try.results62, go_sem, Z0, Z1, Z2]) rfl
      ⟨_, _, _, _, _, rfl, (((FB0.out.trans (FW.out.mono FB0.out.size)).setCell (by simp only []; omega) _).setCell (by simp only []; omega) _).setCell (by simp only []; omega) _, Rd.zero _ _⟩
  obtain ⟨u, hu⟩ : ∃ y, y = Shp a := ⟨_, rfl⟩
  have Hu := Lib.hid hu
  clear hu
  cases u
  · skip
    have e : namedR t a n = (tm0, 5) := by unfold namedR; rw [if_neg (fun h => by rw [← Hu.out] at h; cases h.2.1)]
    rw [RES.out] at e
    injection e with e1 e2
    subst e1; subst e2
    have hs := refShaped_r T.out
    rw [← Hy.out] at hs
    go_enter Try.func62, Try.ntmps62
    go_wp2_with fail
    rw [← HW.out]
    refine (hs).mono ?_
    rintro e w1 ⟨rfl, hb⟩
    replace FW := Lib.hid (FW.out.trans (hb.mono FW.out.size))
    replace Q := Lib.hid ((hb.block _ (blt Q.out)).trans Q.out)
    replace AB := Lib.hid ((hb.block _ (blt AB.out)).trans AB.out)
    replace Z := Lib.hid ((hb.block _ (blt Z.out)).trans Z.out)
    replace T := Lib.hid (T.out.on hb)
    replace TA := Lib.hid (TA.out.on hb)
    clear hb
    obtain ⟨AB0, AB1, AB2, ABf, -⟩ := three AB.out
    go_wp2_with fail
    clear AB0 AB1 AB2 ABf
    have hs := refShaped_r TA.out
    rw [← Hu.out] at hs
    refine (hs).mono ?_
    rintro e w2 ⟨rfl, hb⟩
    replace FW := Lib.hid (FW.out.trans (hb.mono FW.out.size))
    replace Q := Lib.hid ((hb.block _ (blt Q.out)).trans Q.out)
    replace AB := Lib.hid ((hb.block _ (blt AB.out)).trans AB.out)
    replace Z := Lib.hid ((hb.block _ (blt Z.out)).trans Z.out)
    replace T := Lib.hid (T.out.on hb)
    replace TA := Lib.hid (TA.out.on hb)
    clear hb
    obtain ⟨Z0, Z1, Z2, Zf, -⟩ := three Z.out
    go_wp2_with fail
    exact bodyPost_ret (v := .tuple #[.agg #[.int .i64 0, .int .i64 0, .slice none 0 0], .int .i64 5]) (by simp [results, Try.results62, go_sem, Z0, Z1, Z2]) rfl
      ⟨_, _, _, _, _, rfl, (((FB0.out.trans (FW.out.mono FB0.out.size)).setCell (by simp only []; omega) _).setCell (by simp only []; omega) _).setCell (by simp only []; omega) _, Rd.zero _ _⟩
  by_cases hfn : fit n = true
  rotate_left
  · skip
    have e : namedR t a n = (tm0, 5) := by unfold namedR; rw [if_neg (fun h => hfn h.2.2)]
    rw [RES.out] at e
    injection e with e1 e2
    subst e1; subst e2
    have hff : fit n = false := by simpa using hfn
    clear hfn
    have hs := refShaped_r T.out
    rw [← Hy.out] at hs
    go_enter Try.func62, Try.ntmps62
    go_wp2_with fail
    rw [← HW.out]
    refine (hs).mono ?_
    rintro e w1 ⟨rfl, hb⟩
    replace FW := Lib.hid (FW.out.trans (hb.mono FW.out.size))
    replace Q := Lib.hid ((hb.block _ (blt Q.out)).trans Q.out)
    replace AB := Lib.hid ((hb.block _ (blt AB.out)).trans AB.out)
    replace Z := Lib.hid ((hb.block _ (blt Z.out)).trans Z.out)
    replace T := Lib.hid (T.out.on hb)
    replace TA := Lib.hid (TA.out.on hb)
    clear hb
    obtain ⟨AB0, AB1, AB2, ABf, -⟩ := three AB.out
    go_wp2_with fail
    clear AB0 AB1 AB2 ABf
    have hs := refShaped_r TA.out
    rw [← Hu.out] at hs
    refine (hs).mono ?_
    rintro e w2 ⟨rfl, hb⟩
    replace FW := Lib.hid (FW.out.trans (hb.mono FW.out.size))
    replace Q := Lib.hid ((hb.block _ (blt Q.out)).trans Q.out)
    replace AB := Lib.hid ((hb.block _ (blt AB.out)).trans AB.out)
    replace Z := Lib.hid ((hb.block _ (blt Z.out)).trans Z.out)
    replace T := Lib.hid (T.out.on hb)
    replace TA := Lib.hid (TA.out.on hb)
    clear hb
    go_wp2_with fail
    have hf := fits75_w n w2
    rw [hff] at hf
    refine hf.mono ?_
    rintro e w' ⟨rfl, rfl⟩
    obtain ⟨Z0, Z1, Z2, Zf, -⟩ := three Z.out
    go_wp2_with fail
    exact bodyPost_ret (v := .tuple #[.agg #[.int .i64 0, .int .i64 0, .slice none 0 0], .int .i64 5]) (by simp [results, Try.results62, go_sem, Z0, Z1, Z2]) rfl
      ⟨_, _, _, _, _, rfl, (((FB0.out.trans (FW.out.mono FB0.out.size)).setCell (by simp only []; omega) _).setCell (by simp only []; omega) _).setCell (by simp only []; omega) _, Rd.zero _ _⟩
  have hnn := (fit_iff n).mp hfn
  have HFN := Lib.hid hfn
  clear hfn
  have hs := refShaped_r T.out
  rw [← Hy.out] at hs
  go_enter Try.func62, Try.ntmps62
  go_wp2_with fail
  rw [← HW.out]
  refine (hs).mono ?_
  rintro e w1 ⟨rfl, hb⟩
  replace FW := Lib.hid (FW.out.trans (hb.mono FW.out.size))
  replace Q := Lib.hid ((hb.block _ (blt Q.out)).trans Q.out)
  replace AB := Lib.hid ((hb.block _ (blt AB.out)).trans AB.out)
  replace Z := Lib.hid ((hb.block _ (blt Z.out)).trans Z.out)
  replace T := Lib.hid (T.out.on hb)
  replace TA := Lib.hid (TA.out.on hb)
  clear hb
  obtain ⟨AB0, AB1, AB2, ABf, -⟩ := three AB.out
  go_wp2_with fail
  clear AB0 AB1 AB2 ABf
  have hs := refShaped_r TA.out
  rw [← Hu.out] at hs
  refine (hs).mono ?_
  rintro e w2 ⟨rfl, hb⟩
  replace FW := Lib.hid (FW.out.trans (hb.mono FW.out.size))
  replace Q := Lib.hid ((hb.block _ (blt Q.out)).trans Q.out)
  replace AB := Lib.hid ((hb.block _ (blt AB.out)).trans AB.out)
  replace Z := Lib.hid ((hb.block _ (blt Z.out)).trans Z.out)
  replace T := Lib.hid (T.out.on hb)
  replace TA := Lib.hid (TA.out.on hb)
  clear hb
  go_wp2_with fail
  have hf := fits75_w n w2
  rw [HFN.out] at hf
  refine hf.mono ?_
  rintro e w' ⟨rfl, rfl⟩
  have e : namedR t a n = subR (Fnm a n) t := by unfold namedR; rw [if_pos ⟨Hy.out.symm, Hu.out.symm, HFN.out⟩]
  rw [RES.out] at e
  have E := Lib.hid e.symm
  have hsh := (Shp_iff t).mp Hy.out.symm
  have hcon := refnamed_w a _ n Hu.out.symm (dep t) _ t 0 w2 T.out.fit hsh.2.2 (by omega) (by omega) TA.out
  have HCON := Lib.hid hcon
  clear hcon e hsh
  obtain ⟨Q0, Q1, Q2, Qf, -⟩ := three Q.out
  obtain ⟨AB0, AB1, AB2, ABf, -⟩ := three AB.out
  go_wp2_with fail
  clear Q0 Q1 Q2 Qf AB0 AB1 AB2 ABf
  refine HCON.out.mono ?_
  rintro e w3 ⟨k3, n3, ao3, m3, c3, lg3, y3, rfl, hb, hr, hok⟩
  have hd := doneR_of hok
  rw [E.out] at hd
  have hcd := done_w (fun q => w.heap.size + 1 + 1 < q ∧ q < w3.heap.size) k3 n3 ao3 m3 c3 lg3 y3 w3 (fun q hq => hq.2) (hr.keep (fun q hq => ⟨by have h1 := FW.out.size; have h2 := SW.out; have h3 := hq.1; omega, hq.2⟩) fun _ _ => rfl)
  rw [hd] at hcd
  have HCD := Lib.hid hcd
  clear hd hcd hok hr
  replace FW := Lib.hid (FW.out.trans (hb.mono FW.out.size))
  replace Q := Lib.hid ((hb.block _ (blt Q.out)).trans Q.out)
  replace AB := Lib.hid ((hb.block _ (blt AB.out)).trans AB.out)
  replace Z := Lib.hid ((hb.block _ (blt Z.out)).trans Z.out)
  replace T := Lib.hid (T.out.on hb)
  replace TA := Lib.hid (TA.out.on hb)
  clear hb
  go_wp2_with fail
  refine HCD.out.mono ?_
  rintro e w4 ⟨k4, n4, ao4, m4, c4, rfl, hb, hr⟩
  have HR4 := Lib.hid (hr.keep (P' := fun q => w.heap.size + 1 + 1 < q ∧ q < w4.heap.size) (fun q hq => ⟨hq.1, Nat.lt_of_lt_of_le hq.2 hb.size⟩) fun _ _ => rfl)
  clear hr
  replace FW := Lib.hid (FW.out.trans (hb.mono FW.out.size))
  replace Q := Lib.hid ((hb.block _ (blt Q.out)).trans Q.out)
  replace AB := Lib.hid ((hb.block _ (blt AB.out)).trans AB.out)
  replace Z := Lib.hid ((hb.block _ (blt Z.out)).trans Z.out)
  replace T := Lib.hid (T.out.on hb)
  replace TA := Lib.hid (TA.out.on hb)
  clear hb
  obtain ⟨Z0, Z1, Z2, Zf, -⟩ := three Z.out
  go_wp2_with fail
  exact bodyPost_ret (v := .tuple #[.agg #[.int .i64 k4, .int .i64 n4, .slice ao4 m4 c4], .int .i64 rc]) (by simp [results, Try.results62, go_sem, Z0, Z1, Z2]) rfl
    ⟨_, _, _, _, _, rfl, (((FB0.out.trans (FW.out.mono FB0.out.size)).setCell (by simp only []; omega) _).setCell (by simp only []; omega) _).setCell (by simp only []; omega) _, HR4.out.keep (fun q hq => ⟨by have := hq.1; omega, by rw [set3_size]; exact hq.2⟩) fun q hq => set3_off _ _ _ _ _ q (by have := hq.1; omega)⟩
set_option maxRecDepth 100000 in
set_option maxHeartbeats 4000000 in
theorem refBind_w (v : Value) (t : Tm) (n : Int) (w : World) (hr : Rd (· < w.heap.size) w v t) :
    Calls Try.prog 63 #[v, .int .i64 n] w (AnsTE w (bindR t n).1 (bindR t n).2) := by
  obtain ⟨rt, rc, hres⟩ : ∃ rt rc, bindR t n = (rt, rc) := ⟨_, _, rfl⟩
  rw [hres]
  have RES := Lib.hid hres
  clear hres
  obtain ⟨ao, cap, rfl⟩ := hr.shape
  obtain ⟨W, hW⟩ : ∃ W, W = (w.alloc (.cells #[.int .i64 t.kind, .int .i64 t.num, .slice ao t.sub.length cap] 24)).alloc (.cells #[.int .i64 0, .int .i64 0, .slice none 0 0] 24) := ⟨_, rfl⟩
  have hb0 : Below w.heap.size w W := by rw [hW]; exact (((Below.refl _ _).alloc (Nat.le_refl _) _).alloc (by simp only [World.size_alloc]; omega) _)
  have hsW : W.heap.size = w.heap.size + 2 := by rw [hW]; simp only [World.size_alloc]
  have Q := Lib.hid (show W.heap[w.heap.size]? = some (.cells #[.int .i64 t.kind, .int .i64 t.num, .slice ao t.sub.length cap] 24) by rw [hW]; exact (Below.heap_alloc _ _ _ (by simp only [World.size_alloc]; omega)).trans (heap_new _ _ _ (by first | rfl | simp only [World.size_alloc])))
  have Z := Lib.hid (show W.heap[w.heap.size + 1]? = some (.cells #[.int .i64 0, .int .i64 0, .slice none 0 0] 24) by rw [hW]; exact heap_new _ _ _ (by first | rfl | simp only [World.size_alloc]))
  have T := Lib.hid (hr.on hb0)
  have FW := Lib.hid (Below.refl W.heap.size W)
  have FB0 := Lib.hid hb0
  have SW := Lib.hid hsW
  clear hb0 hsW
  have HW := Lib.hid hW
  clear hW hr
  obtain ⟨y, hy⟩ : ∃ y, y = Shp t := ⟨_, rfl⟩
  have Hy := Lib.hid hy
  clear hy
  cases y
  · skip
    have e : bindR t n = (tm0, 5) := by unfold bindR; rw [if_neg (fun h => by rw [← Hy.out] at h; cases h.1)]
    rw [RES.out] at e
    injection e with e1 e2
    subst e1; subst e2
    have hs := refShaped_r T.out
    rw [← Hy.out] at hs
    go_enter Try.func63, Try.ntmps63
    go_wp2_with fail
    rw [← HW.out]
    refine (hs).mono ?_
    rintro e w1 ⟨rfl, hb⟩
    replace FW := Lib.hid (FW.out.trans (hb.mono FW.out.size))
    replace Q := Lib.hid ((hb.block _ (blt Q.out)).trans Q.out)
    replace Z := Lib.hid ((hb.block _ (blt Z.out)).trans Z.out)
    replace T := Lib.hid (T.out.on hb)
    clear hb
    obtain ⟨Z0, Z1, Z2, Zf, -⟩ := three Z.out
    go_wp2_with fail
    exact bodyPost_ret (v := .tuple #[.agg #[.int .i64 0, .int .i64 0, .slice none 0 0], .int .i64 5]) (by simp [results, Try.results63, go_sem, Z0, Z1, Z2]) rfl
      ⟨_, _, _, _, _, rfl, (((FB0.out.trans (FW.out.mono FB0.out.size)).setCell (by simp only []; omega) _).setCell (by simp only []; omega) _).setCell (by simp only []; omega) _, Rd.zero _ _⟩
  by_cases hfn : fit n = true
  rotate_left
  · skip
    have e : bindR t n = (tm0, 5) := by unfold bindR; rw [if_neg (fun h => hfn h.2)]
    rw [RES.out] at e
    injection e with e1 e2
    subst e1; subst e2
    have hff : fit n = false := by simpa using hfn
    clear hfn
    have hs := refShaped_r T.out
    rw [← Hy.out] at hs
    go_enter Try.func63, Try.ntmps63
    go_wp2_with fail
    rw [← HW.out]
    refine (hs).mono ?_
    rintro e w1 ⟨rfl, hb⟩
    replace FW := Lib.hid (FW.out.trans (hb.mono FW.out.size))
    replace Q := Lib.hid ((hb.block _ (blt Q.out)).trans Q.out)
    replace Z := Lib.hid ((hb.block _ (blt Z.out)).trans Z.out)
    replace T := Lib.hid (T.out.on hb)
    clear hb
    go_wp2_with fail
    have hf := fits75_w n w1
    rw [hff] at hf
    refine hf.mono ?_
    rintro e w' ⟨rfl, rfl⟩
    obtain ⟨Z0, Z1, Z2, Zf, -⟩ := three Z.out
    go_wp2_with fail
    exact bodyPost_ret (v := .tuple #[.agg #[.int .i64 0, .int .i64 0, .slice none 0 0], .int .i64 5]) (by simp [results, Try.results63, go_sem, Z0, Z1, Z2]) rfl
      ⟨_, _, _, _, _, rfl, (((FB0.out.trans (FW.out.mono FB0.out.size)).setCell (by simp only []; omega) _).setCell (by simp only []; omega) _).setCell (by simp only []; omega) _, Rd.zero _ _⟩
  have hnn := (fit_iff n).mp hfn
  have HFN := Lib.hid hfn
  clear hfn
  have hs := refShaped_r T.out
  rw [← Hy.out] at hs
  go_enter Try.func63, Try.ntmps63
  go_wp2_with fail
  rw [← HW.out]
  refine (hs).mono ?_
  rintro e w1 ⟨rfl, hb⟩
  replace FW := Lib.hid (FW.out.trans (hb.mono FW.out.size))
  replace Q := Lib.hid ((hb.block _ (blt Q.out)).trans Q.out)
  replace Z := Lib.hid ((hb.block _ (blt Z.out)).trans Z.out)
  replace T := Lib.hid (T.out.on hb)
  clear hb
  go_wp2_with fail
  have hf := fits75_w n w1
  rw [HFN.out] at hf
  refine hf.mono ?_
  rintro e w' ⟨rfl, rfl⟩
  have e : bindR t n = subR (Fbd n) t := by unfold bindR; rw [if_pos ⟨Hy.out.symm, HFN.out⟩]
  rw [RES.out] at e
  have E := Lib.hid e.symm
  have hsh := (Shp_iff t).mp Hy.out.symm
  have hcon := bind_w n (dep t) _ t 0 w1 T.out.fit hsh.2.2 (by omega) (by omega)
  have HCON := Lib.hid hcon
  clear hcon e hsh
  obtain ⟨Q0, Q1, Q2, Qf, -⟩ := three Q.out
  go_wp2_with fail
  clear Q0 Q1 Q2 Qf
  refine HCON.out.mono ?_
  rintro e w2 ⟨k2, n2, ao2, m2, c2, rfl, hb, hr⟩
  have hok : OkG (mp (Fbd n) t 0) (mp (Fbd n) t 0) false := ⟨fun _ => rfl, fun e => (by cases e)⟩
  have hd := doneR_of hok
  rw [E.out] at hd
  have hcd := done_w (fun q => w.heap.size + 1 < q ∧ q < w2.heap.size) k2 n2 ao2 m2 c2 false _ w2 (fun q hq => hq.2) (hr.keep (fun q hq => ⟨by have h1 := FW.out.size; have h2 := SW.out; have h3 := hq.1; omega, hq.2⟩) fun _ _ => rfl)
  rw [hd] at hcd
  have HCD := Lib.hid hcd
  clear hd hcd hok hr
  replace FW := Lib.hid (FW.out.trans (hb.mono FW.out.size))
  replace Q := Lib.hid ((hb.block _ (blt Q.out)).trans Q.out)
  replace Z := Lib.hid ((hb.block _ (blt Z.out)).trans Z.out)
  replace T := Lib.hid (T.out.on hb)
  clear hb
  go_wp2_with fail
  refine HCD.out.mono ?_
  rintro e w3 ⟨k3, n3, ao3, m3, c3, rfl, hb, hr⟩
  have HR3 := Lib.hid (hr.keep (P' := fun q => w.heap.size + 1 < q ∧ q < w3.heap.size) (fun q hq => ⟨hq.1, Nat.lt_of_lt_of_le hq.2 hb.size⟩) fun _ _ => rfl)
  clear hr
  replace FW := Lib.hid (FW.out.trans (hb.mono FW.out.size))
  replace Q := Lib.hid ((hb.block _ (blt Q.out)).trans Q.out)
  replace Z := Lib.hid ((hb.block _ (blt Z.out)).trans Z.out)
  replace T := Lib.hid (T.out.on hb)
  clear hb
  obtain ⟨Z0, Z1, Z2, Zf, -⟩ := three Z.out
  go_wp2_with fail
  exact bodyPost_ret (v := .tuple #[.agg #[.int .i64 k3, .int .i64 n3, .slice ao3 m3 c3], .int .i64 rc]) (by simp [results, Try.results63, go_sem, Z0, Z1, Z2]) rfl
    ⟨_, _, _, _, _, rfl, (((FB0.out.trans (FW.out.mono FB0.out.size)).setCell (by simp only []; omega) _).setCell (by simp only []; omega) _).setCell (by simp only []; omega) _, HR3.out.keep (fun q hq => ⟨by have := hq.1; omega, by rw [set3_size]; exact hq.2⟩) fun q hq => set3_off _ _ _ _ _ q (by have := hq.1; omega)⟩
end Go.Proofs.Ythjlfjaciigfiaa
