/-
  term.Pi, Lam, ref07.Two, term.Copy: contracts of the walk.
-/
import Derived.Test.YthjlfjaciigfiaaQs
import Derived.Test.YthjlfjaciigfiaaCloned
namespace Go.Proofs.Ythjlfjaciigfiaa
open Go.RowKit
set_option linter.unusedVariables false
set_option linter.unusedSimpArgs false

/-- a term is answered, in whatever memory -/
def AnsR (w : World) (t : Tm) (e : Ending) (w' : World) : Prop :=
  ∃ k n ao m c, e = .returned (.agg #[.int .i64 k, .int .i64 n, .slice ao m c]) ∧ Below w.heap.size w w' ∧ Rd (· < w'.heap.size) w' (.agg #[.int .i64 k, .int .i64 n, .slice ao m c]) t
def AnsRE (w : World) (t : Tm) (c : Int) (e : Ending) (w' : World) : Prop :=
  ∃ k n ao m cp, e = .returned (.tuple #[.agg #[.int .i64 k, .int .i64 n, .slice ao m cp], .int .i64 c]) ∧ Below w.heap.size w w' ∧ Rd (· < w'.heap.size) w' (.agg #[.int .i64 k, .int .i64 n, .slice ao m cp]) t

/-- a term is answered, in new memory and in P -/
def AnsP (P : Nat → Prop) (w : World) (t : Tm) (e : Ending) (w' : World) : Prop :=
  ∃ k n ao m c, e = .returned (.agg #[.int .i64 k, .int .i64 n, .slice ao m c]) ∧ Below w.heap.size w w' ∧ Rd (fun q => P q ∨ Fr w w' q) w' (.agg #[.int .i64 k, .int .i64 n, .slice ao m c]) t

/-- a slice of two terms that was built -/
theorem two_sub {w : World} {g : Nat} {P : Nat → Prop} {k1 n1 k2 n2 : Int} {a1 a2 : Option Addr} {m1 m2 c1 c2 : Nat} {a b : Tm}
    (hg : w.heap[g]? = some (.cells #[.int .i64 k1, .int .i64 n1, .slice a1 m1 c1, .int .i64 k2, .int .i64 n2, .slice a2 m2 c2] 24)) (hP : P g)
    (ha : Rd P w (.agg #[.int .i64 k1, .int .i64 n1, .slice a1 m1 c1]) a) (hb : Rd P w (.agg #[.int .i64 k2, .int .i64 n2, .slice a2 m2 c2]) b) : SubR P w (Rd P w) (.slice (some ⟨g, 0, none⟩) 2 2) [a, b] := by
  refine ⟨_, 2, rfl, Nat.le_refl _, by unfold maxLen; omega, fun i hi => ?_⟩
  match i, hi with
  | 0, _ => exact ⟨g, 0, _, _, _, rfl, hP, by unfold World.cell?; rw [hg]; rfl, by unfold World.cell?; rw [hg]; rfl, by unfold World.cell?; rw [hg]; rfl, ha⟩
  | 1, _ => exact ⟨g, 0, _, _, _, rfl, hP, by unfold World.cell?; rw [hg]; rfl, by unfold World.cell?; rw [hg]; rfl, by unfold World.cell?; rw [hg]; rfl, hb⟩
theorem keep3 {w : World} {P : Nat → Prop} {r : Nat} {v : Value} {t : Tm} {a b c : Value} (h : Rd P w v t) (hr : ¬ P r) : Rd P (((w.setCell ⟨r, 0, none⟩ a).setCell ⟨r, 1, none⟩ b).setCell ⟨r, 2, none⟩ c) v t :=
  h.keep (fun _ h => h) fun q hq => by
    have : q ≠ r := fun e => hr (e ▸ hq)
    rw [Below.heap_setCell _ _ _ _ this, Below.heap_setCell _ _ _ _ this, Below.heap_setCell _ _ _ _ this]

set_option maxRecDepth 100000 in
set_option maxHeartbeats 4000000 in
theorem Pi_w (va vb : Value) (a b : Tm) (w : World) (P : Nat → Prop) (hP : ∀ q, P q → q < w.heap.size) (ha : Rd P w va a) (hb : Rd P w vb b) :
    Calls Try.prog 79 #[va, vb] w (AnsP P w (.node 3 0 [a, b])) := by
  obtain ⟨aoa, capa, rfl⟩ := ha.shape
  obtain ⟨aob, capb, rfl⟩ := hb.shape
  obtain ⟨W, hW⟩ : ∃ W, W = (((w.alloc (.cells #[.int .i64 a.kind, .int .i64 a.num, .slice aoa a.sub.length capa] 24)).alloc (.cells #[.int .i64 b.kind, .int .i64 b.num, .slice aob b.sub.length capb] 24)).alloc (.cells #[.int .i64 0, .int .i64 0, .slice none 0 0] 24)).alloc (.cells #[.int .i64 a.kind, .int .i64 a.num, .slice aoa a.sub.length capa, .int .i64 b.kind, .int .i64 b.num, .slice aob b.sub.length capb] 24) := ⟨_, rfl⟩
  have hbW : Below w.heap.size w W := by rw [hW]; exact ((((Below.refl _ _).alloc (Nat.le_refl _) _).alloc (by simp only [World.size_alloc]; omega) _).alloc (by simp only [World.size_alloc]; omega) _).alloc (by simp only [World.size_alloc]; omega) _
  have hsW : W.heap.size = w.heap.size + 4 := by rw [hW]; simp only [World.size_alloc]
  have q3 : W.heap[w.heap.size + 1 + 1 + 1]? = some (.cells #[.int .i64 a.kind, .int .i64 a.num, .slice aoa a.sub.length capa, .int .i64 b.kind, .int .i64 b.num, .slice aob b.sub.length capb] 24) := by rw [hW]; exact heap_new _ _ _ (by simp only [World.size_alloc])
  have q2 : W.heap[w.heap.size + 1 + 1]? = some (.cells #[.int .i64 0, .int .i64 0, .slice none 0 0] 24) := by rw [hW]; exact (Below.heap_alloc _ _ _ (by simp only [World.size_alloc]; omega)).trans (heap_new _ _ _ (by simp only [World.size_alloc]))
  have hsub := two_sub (P := fun q => (P q ∨ (w.heap.size ≤ q ∧ q < W.heap.size)) ∧ q ≠ w.heap.size + 1 + 1) q3 ⟨.inr ⟨by omega, by omega⟩, by omega⟩ (ha.keep (fun q hq => ⟨.inl hq, by have := hP q hq; omega⟩) fun q hq => hbW.block q (hP q hq)) (hb.keep (fun q hq => ⟨.inl hq, by have := hP q hq; omega⟩) fun q hq => hbW.block q (hP q hq))
  have HSUB := Lib.hid hsub
  have HW := Lib.hid hW
  have HBW := Lib.hid hbW
  have HSW := Lib.hid hsW
  have Q2 := Lib.hid q2
  clear hW hsub hbW hsW q2 q3 ha hb
  go_enter Try.func79, Try.ntmps79
  go_wp2_with fail
  rw [← HW.out]
  refine (node_w _ _ _ _ _ _).mono ?_
  rintro e w1 ⟨rfl, hb1⟩
  have hsW := HSW.out
  obtain ⟨z0, z1, z2, zf, hz⟩ := three ((hb1.block _ (by omega)).trans Q2.out)
  have hrd := Rd.node (k := 3) (n := 0) (HSUB.out.keep (w' := w1) (fun _ h => h) (fun q hq => hb1.block q (hq.1.elim (fun h => by have := hP q h; omega) fun h => h.2)) (fun _ h => h) (fun q hq => hb1.block q (hq.1.elim (fun h => by have := hP q h; omega) fun h => h.2))) (by omega) (by omega)
  have hbel := HBW.out.trans (hb1.mono HBW.out.size)
  have hs1 := hb1.size
  have HRD := Lib.hid hrd
  have HBEL := Lib.hid hbel
  clear hrd hbel hb1
  go_wp2_with fail
  refine bodyPost_ret (v := .agg #[.int .i64 3, .int .i64 0, .slice (some ⟨w.heap.size + 1 + 1 + 1, 0, none⟩) 2 2]) (by simp [results, Try.results79, go_sem, z0, z1, z2]) rfl ⟨_, _, _, _, _, rfl, ((HBEL.out.setCell (by simp only []; omega) _).setCell (by simp only []; omega) _).setCell (by simp only []; omega) _, ?_⟩
  exact (keep3 HRD.out (fun h => h.2 rfl)).keep (fun q hq => hq.1.imp id fun h => ⟨h.1, by have := h.2; simp [World.setCell]; omega⟩) fun _ _ => rfl
set_option maxRecDepth 100000 in
set_option maxHeartbeats 4000000 in
theorem Lam_w (va vb : Value) (a b : Tm) (w : World) (P : Nat → Prop) (hP : ∀ q, P q → q < w.heap.size) (ha : Rd P w va a) (hb : Rd P w vb b) :
    Calls Try.prog 80 #[va, vb] w (AnsP P w (.node 4 0 [a, b])) := by
  obtain ⟨aoa, capa, rfl⟩ := ha.shape
  obtain ⟨aob, capb, rfl⟩ := hb.shape
  obtain ⟨W, hW⟩ : ∃ W, W = (((w.alloc (.cells #[.int .i64 a.kind, .int .i64 a.num, .slice aoa a.sub.length capa] 24)).alloc (.cells #[.int .i64 b.kind, .int .i64 b.num, .slice aob b.sub.length capb] 24)).alloc (.cells #[.int .i64 0, .int .i64 0, .slice none 0 0] 24)).alloc (.cells #[.int .i64 a.kind, .int .i64 a.num, .slice aoa a.sub.length capa, .int .i64 b.kind, .int .i64 b.num, .slice aob b.sub.length capb] 24) := ⟨_, rfl⟩
  have hbW : Below w.heap.size w W := by rw [hW]; exact ((((Below.refl _ _).alloc (Nat.le_refl _) _).alloc (by simp only [World.size_alloc]; omega) _).alloc (by simp only [World.size_alloc]; omega) _).alloc (by simp only [World.size_alloc]; omega) _
  have hsW : W.heap.size = w.heap.size + 4 := by rw [hW]; simp only [World.size_alloc]
  have q3 : W.heap[w.heap.size + 1 + 1 + 1]? = some (.cells #[.int .i64 a.kind, .int .i64 a.num, .slice aoa a.sub.length capa, .int .i64 b.kind, .int .i64 b.num, .slice aob b.sub.length capb] 24) := by rw [hW]; exact heap_new _ _ _ (by simp only [World.size_alloc])
  have q2 : W.heap[w.heap.size + 1 + 1]? = some (.cells #[.int .i64 0, .int .i64 0, .slice none 0 0] 24) := by rw [hW]; exact (Below.heap_alloc _ _ _ (by simp only [World.size_alloc]; omega)).trans (heap_new _ _ _ (by simp only [World.size_alloc]))
  have hsub := two_sub (P := fun q => (P q ∨ (w.heap.size ≤ q ∧ q < W.heap.size)) ∧ q ≠ w.heap.size + 1 + 1) q3 ⟨.inr ⟨by omega, by omega⟩, by omega⟩ (ha.keep (fun q hq => ⟨.inl hq, by have := hP q hq; omega⟩) fun q hq => hbW.block q (hP q hq)) (hb.keep (fun q hq => ⟨.inl hq, by have := hP q hq; omega⟩) fun q hq => hbW.block q (hP q hq))
  have HSUB := Lib.hid hsub
  have HW := Lib.hid hW
  have HBW := Lib.hid hbW
  have HSW := Lib.hid hsW
  have Q2 := Lib.hid q2
  clear hW hsub hbW hsW q2 q3 ha hb
  go_enter Try.func80, Try.ntmps80
  go_wp2_with fail
  rw [← HW.out]
  refine (node_w _ _ _ _ _ _).mono ?_
  rintro e w1 ⟨rfl, hb1⟩
  have hsW := HSW.out
  obtain ⟨z0, z1, z2, zf, hz⟩ := three ((hb1.block _ (by omega)).trans Q2.out)
  have hrd := Rd.node (k := 4) (n := 0) (HSUB.out.keep (w' := w1) (fun _ h => h) (fun q hq => hb1.block q (hq.1.elim (fun h => by have := hP q h; omega) fun h => h.2)) (fun _ h => h) (fun q hq => hb1.block q (hq.1.elim (fun h => by have := hP q h; omega) fun h => h.2))) (by omega) (by omega)
  have hbel := HBW.out.trans (hb1.mono HBW.out.size)
  have hs1 := hb1.size
  have HRD := Lib.hid hrd
  have HBEL := Lib.hid hbel
  clear hrd hbel hb1
  go_wp2_with fail
  refine bodyPost_ret (v := .agg #[.int .i64 4, .int .i64 0, .slice (some ⟨w.heap.size + 1 + 1 + 1, 0, none⟩) 2 2]) (by simp [results, Try.results80, go_sem, z0, z1, z2]) rfl ⟨_, _, _, _, _, rfl, ((HBEL.out.setCell (by simp only []; omega) _).setCell (by simp only []; omega) _).setCell (by simp only []; omega) _, ?_⟩
  exact (keep3 HRD.out (fun h => h.2 rfl)).keep (fun q hq => hq.1.imp id fun h => ⟨h.1, by have := h.2; simp [World.setCell]; omega⟩) fun _ _ => rfl
set_option maxRecDepth 100000 in
set_option maxHeartbeats 4000000 in
theorem Two_w (kd : Int) (hkd : -9223372036854775808 ≤ kd ∧ kd ≤ 9223372036854775807) (va vb : Value) (a b : Tm) (w : World) (P : Nat → Prop) (hP : ∀ q, P q → q < w.heap.size) (ha : Rd P w va a) (hb : Rd P w vb b) :
    Calls Try.prog 54 #[.int .i64 kd, va, vb] w (AnsP P w (.node kd 0 [a, b])) := by
  obtain ⟨aoa, capa, rfl⟩ := ha.shape
  obtain ⟨aob, capb, rfl⟩ := hb.shape
  have HA := Lib.hid ha
  have HB := Lib.hid hb
  clear ha hb
  go_enter Try.func54, Try.ntmps54
  go_wp2_with fail
  refine bodyPost_ret (v := .agg #[.int .i64 kd, .int .i64 0, .slice (some ⟨w.heap.size + 1 + 1 + 1, 0, none⟩) 2 2]) (by simp [results, Try.results54, go_sem]) rfl ?_
  have hbel : ∀ o1 o2 o3 o4 : Obj, Below w.heap.size w ((((w.alloc o1).alloc o2).alloc o3).alloc o4) := fun o1 o2 o3 o4 => ((((Below.refl _ _).alloc (Nat.le_refl _) _).alloc (by simp only [World.size_alloc]; omega) _).alloc (by simp only [World.size_alloc]; omega) _).alloc (by simp only [World.size_alloc]; omega) _
  refine ⟨_, _, _, _, _, rfl, hbel _ _ _ _, Rd.node (two_sub (heap_new _ _ _ (by simp only [World.size_alloc])) (.inr ⟨by omega, by simp only [World.size_alloc]; omega⟩) (HA.out.keep (fun q hq => .inl hq) fun q hq => (hbel _ _ _ _).block q (hP q hq)) (HB.out.keep (fun q hq => .inl hq) fun q hq => (hbel _ _ _ _).block q (hP q hq))) hkd (by omega)⟩

/-- a copy, or the zero term -/
def copyR (t : Tm) : Tm := if Shp t = true then t else tm0
set_option maxRecDepth 100000 in
set_option maxHeartbeats 4000000 in
theorem Copy_w (v : Value) (t : Tm) (w : World) (hr : Rd (· < w.heap.size) w v t) : Calls Try.prog 85 #[v] w (AnsT w (copyR t)) := by
  obtain ⟨ao, cap, rfl⟩ := hr.shape
  obtain ⟨W, hW⟩ : ∃ W, W = (w.alloc (.cells #[.int .i64 t.kind, .int .i64 t.num, .slice ao t.sub.length cap] 24)).alloc (.cells #[.int .i64 0, .int .i64 0, .slice none 0 0] 24) := ⟨_, rfl⟩
  have hb0 : Below w.heap.size w W := by rw [hW]; exact (((Below.refl _ _).alloc (Nat.le_refl _) _).alloc (by simp only [World.size_alloc]; omega) _)
  have hsW : W.heap.size = w.heap.size + 2 := by rw [hW]; simp only [World.size_alloc]
  have Q : W.heap[w.heap.size]? = some (.cells #[.int .i64 t.kind, .int .i64 t.num, .slice ao t.sub.length cap] 24) := by rw [hW]; exact (Below.heap_alloc _ _ _ (by simp only [World.size_alloc]; omega)).trans (heap_new _ _ _ (by first | rfl | simp only [World.size_alloc]))
  replace Q := Lib.hid Q
  have Z : W.heap[w.heap.size + 1]? = some (.cells #[.int .i64 0, .int .i64 0, .slice none 0 0] 24) := by rw [hW]; exact heap_new _ _ _ (by first | rfl | simp only [World.size_alloc])
  replace Z := Lib.hid Z
  have T := Lib.hid (hr.on hb0)
  have FW := Lib.hid (Below.refl W.heap.size W)
  have FB0 := Lib.hid hb0
  have SW := Lib.hid hsW
  clear hb0 hsW
  have HW := Lib.hid hW
  clear hW hr
  obtain ⟨y, hy⟩ : ∃ y, y = Shp t := ⟨_, rfl⟩
  have HY := Lib.hid hy
  clear hy
  cases y
  · have e : copyR t = tm0 := by unfold copyR; rw [← HY.out]; simp
    rw [e]; clear e
    go_enter Try.func85, Try.ntmps85
    go_wp2_with fail
    rw [← HW.out]
    have hs := Shaped_r T.out
    rw [← HY.out] at hs
    refine hs.mono ?_
    rintro e w1 ⟨rfl, hb⟩
    replace FW := Lib.hid (FW.out.trans (hb.mono FW.out.size))
    replace Q := Lib.hid ((hb.block _ (blt Q.out)).trans Q.out)
    replace Z := Lib.hid ((hb.block _ (blt Z.out)).trans Z.out)
    replace T := Lib.hid (T.out.on hb)
    clear hb hs
    obtain ⟨Z0, Z1, Z2, Zf, -⟩ := three Z.out
    go_wp2_with fail
    exact bodyPost_ret (v := .agg #[.int .i64 0, .int .i64 0, .slice none 0 0]) (by simp [results, Try.results85, go_sem, Z0, Z1, Z2]) rfl ⟨_, _, _, _, _, rfl, (((FB0.out.trans (FW.out.mono FB0.out.size)).setCell (by simp only []; omega) _).setCell (by simp only []; omega) _).setCell (by simp only []; omega) _, Rd.zero _ _⟩
  · have e : copyR t = t := by unfold copyR; rw [← HY.out]; simp
    have HG := Lib.hid ((Shp_iff t).mp HY.out.symm).2.2
    rw [e]; clear e
    go_enter Try.func85, Try.ntmps85
    go_wp2_with fail
    rw [← HW.out]
    have hs := Shaped_r T.out
    rw [← HY.out] at hs
    refine hs.mono ?_
    rintro e w1 ⟨rfl, hb⟩
    replace FW := Lib.hid (FW.out.trans (hb.mono FW.out.size))
    replace Q := Lib.hid ((hb.block _ (blt Q.out)).trans Q.out)
    replace Z := Lib.hid ((hb.block _ (blt Z.out)).trans Z.out)
    replace T := Lib.hid (T.out.on hb)
    clear hb hs
    obtain ⟨Q0, Q1, Q2, Qf, -⟩ := three Q.out
    go_wp2_with fail
    clear Q0 Q1 Q2 Qf
    refine (cloned_w (dep t) _ t _ T.out.fit HG.out).mono ?_
    rintro e w2 ⟨k2, n2, ao2, m2, c2, rfl, hb, hr2⟩
    have G2 := Lib.hid (hr2.frm FW.out.size)
    clear hr2
    replace FW := Lib.hid (FW.out.trans (hb.mono FW.out.size))
    replace Q := Lib.hid ((hb.block _ (blt Q.out)).trans Q.out)
    replace Z := Lib.hid ((hb.block _ (blt Z.out)).trans Z.out)
    replace T := Lib.hid (T.out.on hb)
    clear hb
    obtain ⟨Z0, Z1, Z2, Zf, -⟩ := three Z.out
    go_wp2_with fail
    exact bodyPost_ret (v := .agg #[.int .i64 k2, .int .i64 n2, .slice ao2 m2 c2]) (by simp [results, Try.results85, go_sem, Z0, Z1, Z2]) rfl ⟨_, _, _, _, _, rfl, (((FB0.out.trans (FW.out.mono FB0.out.size)).setCell (by simp only []; omega) _).setCell (by simp only []; omega) _).setCell (by simp only []; omega) _, G2.out.laid FB0.out.size (by have := SW.out; omega)⟩
end Go.Proofs.Ythjlfjaciigfiaa
