/-
  The leaf functions of subst.At, Named, Bind and their makers: contracts.
-/
import Derived.Test.YthjlfjaciigfiaaRun9
namespace Go.Proofs.Ythjlfjaciigfiaa
open Go.RowKit
set_option linter.unusedVariables false
set_option linter.unusedSimpArgs false

/-- what the leaf functions of At and Named need: the number's box, the term's box, the walker's box -/
def StAt (nb ab pb wb : Nat) (n0 ka na : Int) (aa : Option Addr) (ma ca : Nat) (a : Tm) (PA : Nat → Prop) (w : World) : Prop :=
  w.heap[nb]? = some (.cells #[.int .i64 n0] 3) ∧ w.heap[ab]? = some (.cells #[.int .i64 ka, .int .i64 na, .slice aa ma ca] 24) ∧ w.heap[pb]? = some (.cells #[.pointer (some ⟨wb, 0, none⟩)] 71) ∧ Rd PA w (.agg #[.int .i64 ka, .int .i64 na, .slice aa ma ca]) a
/-- ahead of the walker -/
def StAt0 (nb ab : Nat) (n0 ka na : Int) (aa : Option Addr) (ma ca : Nat) (a : Tm) (PA : Nat → Prop) (w : World) : Prop :=
  w.heap[nb]? = some (.cells #[.int .i64 n0] 3) ∧ w.heap[ab]? = some (.cells #[.int .i64 ka, .int .i64 na, .slice aa ma ca] 24) ∧ Rd PA w (.agg #[.int .i64 ka, .int .i64 na, .slice aa ma ca]) a

set_option maxRecDepth 100000 in
set_option maxHeartbeats 4000000 in
theorem leaf_at {nb ab pb wb : Nat} {n0 ka na : Int} {aa : Option Addr} {ma ca : Nat} {a : Tm} {PA : Nat → Prop} (hnb : nb ≠ wb) (hab : ab ≠ wb) (hpb : pb ≠ wb) (hPA : ∀ q, PA q → q ≠ wb) (hn0 : 0 ≤ n0 ∧ n0 ≤ 1048576) (hsh : Shp a = true) :
    Leafn 96 #[.pointer (some ⟨nb, 0, none⟩), .pointer (some ⟨pb, 0, none⟩), .pointer (some ⟨ab, 0, none⟩)] wb (fun q => q = nb ∨ q = ab ∨ q = pb ∨ PA q) (StAt nb ab pb wb n0 ka na aa ma ca a PA) (Fat a n0) := by
  have hkeep : ∀ w w', (StAt nb ab pb wb n0 ka na aa ma ca a PA) w → (∀ k, (k = nb ∨ k = ab ∨ k = pb ∨ PA k) → w'.heap[k]? = w.heap[k]?) → (StAt nb ab pb wb n0 ka na aa ma ca a PA) w' := fun w w' ⟨h1, h2, h3, h4⟩ hk =>
    ⟨(hk _ (.inl rfl)).trans h1, (hk _ (.inr (.inl rfl))).trans h2, (hk _ (.inr (.inr (.inl rfl)))).trans h3, h4.keep (fun _ h => h) fun q hq => hk q (.inr (.inr (.inr hq)))⟩
  have hoff : ∀ q, (q = nb ∨ q = ab ∨ q = pb ∨ PA q) → q ≠ wb := fun q hq => by
    rcases hq with rfl | rfl | rfl | hq
    · exact hnb
    · exact hab
    · exact hpb
    · exact hPA q hq
  refine ⟨fun k n ao m c b L w hk1 hk8 hnn0 hnn1 hb0 hb1 hL0 hL1 hC hWB hS => ?_, hkeep, hoff, fun args w => by kernel_rfl, leafy_at a n0⟩
  show Calls Try.prog 96 #[.agg #[.int .i64 k, .int .i64 n, .slice ao m c], .int .i64 b, .pointer (some ⟨nb, 0, none⟩), .pointer (some ⟨pb, 0, none⟩), .pointer (some ⟨ab, 0, none⟩)] w (AnsLf wb (.func (.func 96) #[] #[.pointer (some ⟨nb, 0, none⟩), .pointer (some ⟨pb, 0, none⟩), .pointer (some ⟨ab, 0, none⟩)]) (StAt nb ab pb wb n0 ka na aa ma ca a PA) L (Fat a n0 k n b) w)
  obtain ⟨W, hWd⟩ : ∃ W, W = ((w.alloc (.cells #[.int .i64 k, .int .i64 n, .slice ao m c] 24)).alloc (.cells #[.int .i64 0, .int .i64 0, .slice none 0 0] 24)) := ⟨_, rfl⟩
  have hbel : Below w.heap.size w W := by rw [hWd]; exact ((Below.refl _ _).alloc (Nat.le_refl _) _).alloc (by simp) _
  have hsz : W.heap.size = w.heap.size + 2 := by rw [hWd]; simp
  have Q : W.heap[w.heap.size]? = some (.cells #[.int .i64 k, .int .i64 n, .slice ao m c] 24) := by rw [hWd]; exact (Below.heap_alloc _ _ _ (by simp)).trans (heap_new _ _ _ rfl)
  have Z : W.heap[w.heap.size + 1]? = some (.cells #[.int .i64 0, .int .i64 0, .slice none 0 0] 24) := by rw [hWd]; exact heap_new _ _ _ (by simp)
  have hwbl := hWB.cells.2.2.2.2
  have HLT := Lib.hid hwbl
  have HWB := Lib.hid (hWB.keep (hbel.block _ hwbl))
  have HS := Lib.hid (hkeep _ _ hS fun q hq => hbel.block q (hC q hq))
  have HCO := Lib.hid hC
  have HOFF := Lib.hid hoff
  have HKEEP := Lib.hid hkeep
  have HBEL := Lib.hid hbel
  have HSZ := Lib.hid hsz
  have HQ := Lib.hid Q
  have HZ := Lib.hid Z
  have HWD := Lib.hid hWd
  clear hkeep hoff hbel hsz Q Z hwbl hWd hC hWB hS
  go_enter Try.func96, Try.ntmps96
  go_wp2_with fail
  rw [← HWD.out]
  refine (loose_w k n ao m c b _ ⟨hnn0, hnn1⟩ ⟨hb0, hb1⟩).mono ?_
  rintro e w1 ⟨rfl, hbl⟩
  have HW1 := Lib.hid (HWB.out.keep (hbl.block _ HWB.out.cells.2.2.2.2))
  have HQ1 := Lib.hid ((hbl.block _ (by have := HSZ.out; omega)).trans HQ.out)
  have HZ1 := Lib.hid ((hbl.block _ (by have := HSZ.out; omega)).trans HZ.out)
  have HS1 := Lib.hid (HKEEP.out _ w1 HS.out fun q hq => hbl.block q (by have := HCO.out q hq; have := HSZ.out; omega))
  have HB1 := Lib.hid (HBEL.out.trans (hbl.mono HBEL.out.size))
  have hsz1 : w.heap.size + 2 ≤ w1.heap.size := by have := hbl.size; have := HSZ.out; omega
  clear hbl HWB HQ HZ HS
  obtain ⟨z0, z1, z2, zf, zl⟩ := three HZ1.out
  obtain ⟨q0, q1, q2, qf, ql⟩ := three HQ1.out
  obtain ⟨s1, s2, s3, s4⟩ := HS1.out
  obtain ⟨nv0, nvf, nvl⟩ := one1 s1
  obtain ⟨a0, a1, a2, af, al⟩ := three s2
  obtain ⟨p0, pf, pl⟩ := one1 s3
  have HA4 := Lib.hid s4
  clear s1 s2 s3 s4
  by_cases hloose : k = 1 ∧ b ≤ n
  · obtain ⟨rfl, hbn⟩ := hloose
    have el : looseV 1 n b = n - b := by simp [looseV, hbn]
    rw [el]
    clear el
    by_cases h1 : n - b = n0
    · rw [h1]
      have hcon := raised_w (wb := wb) (fv := .func (.func 96) #[] #[.pointer (some ⟨nb, 0, none⟩), .pointer (some ⟨pb, 0, none⟩), .pointer (some ⟨ab, 0, none⟩)]) HKEEP.out HOFF.out _ a (n0 + b) L w1 (fun q hq => by have := HCO.out q hq; omega)
        (HA4.out.keep (w' := w1) (P' := fun q => q < w1.heap.size ∧ q ≠ wb) (fun q hq => ⟨by have := HCO.out q (.inr (.inr (.inr hq))); omega, HOFF.out q (.inr (.inr (.inr hq)))⟩) fun _ _ => rfl) hsh ⟨by omega, by omega⟩ ⟨hL0, hL1⟩ HW1.out HS1.out
      have HCON := Lib.hid hcon
      clear hcon
      go_wp2_with fail
      refine HCON.out.mono ?_
      rintro e w3 ⟨k3, n3, ao3, m3, c3, y3, L3, lg3, rfl, hb3, hr3, hs3, hw3, hok3⟩
      have hne : some (w.heap.size + 1) ≠ some wb := fun e => by injection e with e; have := HLT.out; omega
      have HZ3 := (hb3.block _ zl hne).trans HZ1.out
      have HB3 := Lib.hid ((Bx.of (row := some wb) HB1.out).trans (hb3.mono (by omega)))
      have hsz3 : w.heap.size + 2 ≤ w3.heap.size := by have := hb3.size; omega
      have HR3 := Lib.hid (hr3.keep (P' := fun q => w.heap.size + 2 ≤ q ∧ q < w3.heap.size) (fun q hq => ⟨by have : w1.heap.size ≤ q := hq.1; omega, hq.2⟩) fun _ _ => rfl)
      have HS3 := Lib.hid hs3
      have HW3 := Lib.hid hw3
      have HOK3 := Lib.hid hok3
      clear hb3 hr3 hs3 hw3 hok3 hne z0 z1 z2 zf zl q0 q1 q2 qf ql nv0 nvf a0 a1 a2 af p0 pf
      obtain ⟨z0, z1, z2, zf, zl⟩ := three HZ3
      go_wp2_with fail
      refine bodyPost_ret (v := .tuple #[.agg #[.int .i64 k3, .int .i64 n3, .slice ao3 m3 c3], .bool true]) (by simp [results, Try.results96, go_sem, z0, z1, z2]) rfl (AnsLf.fin HKEEP.out HCO.out HB3.out (Nat.le_succ _) HLT.out HS3.out HW3.out (fun e => by cases e) (fun _ => ⟨raise a (n0 + b), y3, ?_, HR3.out.keep (fun q hq => ⟨⟨by omega, hq.2⟩, by omega⟩) fun _ _ => rfl, HOK3.out⟩))
      unfold Fat
      rw [if_pos ⟨rfl, hbn⟩, if_pos h1]
    · have hb1' : (n - b == n0) = false := by simp; exact h1
      by_cases h2 : n0 < n - b
      · skip
        go_wp2_with fail
        refine (Var_w _ _).mono ?_
        rintro e w2 ⟨rfl, hb2⟩
        have HW2 := Lib.hid (HW1.out.keep (hb2.block _ HW1.out.cells.2.2.2.2))
        have HS2 := Lib.hid (HKEEP.out _ w2 HS1.out fun q hq => hb2.block q (by have := HCO.out q hq; omega))
        have HB2 := Lib.hid (Bx.of (row := some wb) (HB1.out.trans (hb2.mono (by omega))))
        have HZ2 := (hb2.block _ zl).trans HZ1.out
        clear hb2 z0 z1 z2 zf zl q0 q1 q2 qf ql nv0 nvf a0 a1 a2 af p0 pf
        obtain ⟨z0, z1, z2, zf, zl⟩ := three HZ2
        go_wp2_with fail
        refine bodyPost_ret (v := .tuple #[.agg #[.int .i64 1, .int .i64 (n - 1), .slice none 0 0], .bool true]) (by simp [results, Try.results96, go_sem, z0, z1, z2]) rfl (AnsLf.fin HKEEP.out HCO.out HB2.out (Nat.le_succ _) HLT.out HS2.out HW2.out (fun e => by cases e) (fun _ => ⟨.node 1 (n - 1) [], _, ?_, Rd.leaf _ _ _ _ _ _ (Nat.zero_le _) (by omega) (by omega), OkS.leaf hL0 hL1⟩))
        unfold Fat
        rw [if_pos ⟨rfl, hbn⟩, if_neg h1, if_pos h2]
      · skip
        go_wp2_with fail
        refine (Var_w _ _).mono ?_
        rintro e w2 ⟨rfl, hb2⟩
        have HW2 := Lib.hid (HW1.out.keep (hb2.block _ HW1.out.cells.2.2.2.2))
        have HS2 := Lib.hid (HKEEP.out _ w2 HS1.out fun q hq => hb2.block q (by have := HCO.out q hq; omega))
        have HB2 := Lib.hid (Bx.of (row := some wb) (HB1.out.trans (hb2.mono (by omega))))
        have HZ2 := (hb2.block _ zl).trans HZ1.out
        clear hb2 z0 z1 z2 zf zl q0 q1 q2 qf ql nv0 nvf a0 a1 a2 af p0 pf
        obtain ⟨z0, z1, z2, zf, zl⟩ := three HZ2
        go_wp2_with fail
        refine bodyPost_ret (v := .tuple #[.agg #[.int .i64 1, .int .i64 (n), .slice none 0 0], .bool true]) (by simp [results, Try.results96, go_sem, z0, z1, z2]) rfl (AnsLf.fin HKEEP.out HCO.out HB2.out (Nat.le_succ _) HLT.out HS2.out HW2.out (fun e => by cases e) (fun _ => ⟨.node 1 (n) [], _, ?_, Rd.leaf _ _ _ _ _ _ (Nat.zero_le _) (by omega) (by omega), OkS.leaf hL0 hL1⟩))
        unfold Fat
        rw [if_pos ⟨rfl, hbn⟩, if_neg h1, if_neg (by omega)]
  · have el : looseV k n b = -1 := by simp [looseV, hloose]
    rw [el]
    go_wp2_with fail
    refine bodyPost_ret (v := .tuple #[.agg #[.int .i64 0, .int .i64 0, .slice none 0 0], .bool false]) (by simp [results, Try.results96, go_sem, z0, z1, z2]) rfl (AnsLf.fin HKEEP.out HCO.out (Bx.of HB1.out) (Nat.le_succ _) HLT.out HS1.out HW1.out (fun _ => ⟨?_, rfl, rfl⟩) (fun e => by cases e))
    unfold Fat
    rw [if_neg hloose]
set_option maxRecDepth 100000 in
set_option maxHeartbeats 4000000 in
theorem leaf_nm {nb ab pb wb : Nat} {n0 ka na : Int} {aa : Option Addr} {ma ca : Nat} {a : Tm} {PA : Nat → Prop} (hnb : nb ≠ wb) (hab : ab ≠ wb) (hpb : pb ≠ wb) (hPA : ∀ q, PA q → q ≠ wb) (hn0 : 0 ≤ n0 ∧ n0 ≤ 1048576) (hsh : Shp a = true) :
    Leafn 103 #[.pointer (some ⟨nb, 0, none⟩), .pointer (some ⟨pb, 0, none⟩), .pointer (some ⟨ab, 0, none⟩)] wb (fun q => q = nb ∨ q = ab ∨ q = pb ∨ PA q) (StAt nb ab pb wb n0 ka na aa ma ca a PA) (Fnm a n0) := by
  have hkeep : ∀ w w', (StAt nb ab pb wb n0 ka na aa ma ca a PA) w → (∀ k, (k = nb ∨ k = ab ∨ k = pb ∨ PA k) → w'.heap[k]? = w.heap[k]?) → (StAt nb ab pb wb n0 ka na aa ma ca a PA) w' := fun w w' ⟨h1, h2, h3, h4⟩ hk =>
    ⟨(hk _ (.inl rfl)).trans h1, (hk _ (.inr (.inl rfl))).trans h2, (hk _ (.inr (.inr (.inl rfl)))).trans h3, h4.keep (fun _ h => h) fun q hq => hk q (.inr (.inr (.inr hq)))⟩
  have hoff : ∀ q, (q = nb ∨ q = ab ∨ q = pb ∨ PA q) → q ≠ wb := fun q hq => by
    rcases hq with rfl | rfl | rfl | hq
    · exact hnb
    · exact hab
    · exact hpb
    · exact hPA q hq
  refine ⟨fun k n ao m c b L w hk1 hk8 hnn0 hnn1 hb0 hb1 hL0 hL1 hC hWB hS => ?_, hkeep, hoff, fun args w => by kernel_rfl, leafy_nm a n0⟩
  show Calls Try.prog 103 #[.agg #[.int .i64 k, .int .i64 n, .slice ao m c], .int .i64 b, .pointer (some ⟨nb, 0, none⟩), .pointer (some ⟨pb, 0, none⟩), .pointer (some ⟨ab, 0, none⟩)] w (AnsLf wb (.func (.func 103) #[] #[.pointer (some ⟨nb, 0, none⟩), .pointer (some ⟨pb, 0, none⟩), .pointer (some ⟨ab, 0, none⟩)]) (StAt nb ab pb wb n0 ka na aa ma ca a PA) L (Fnm a n0 k n b) w)
  obtain ⟨W, hWd⟩ : ∃ W, W = ((w.alloc (.cells #[.int .i64 k, .int .i64 n, .slice ao m c] 24)).alloc (.cells #[.int .i64 0, .int .i64 0, .slice none 0 0] 24)) := ⟨_, rfl⟩
  have hbel : Below w.heap.size w W := by rw [hWd]; exact ((Below.refl _ _).alloc (Nat.le_refl _) _).alloc (by simp) _
  have hsz : W.heap.size = w.heap.size + 2 := by rw [hWd]; simp
  have Q : W.heap[w.heap.size]? = some (.cells #[.int .i64 k, .int .i64 n, .slice ao m c] 24) := by rw [hWd]; exact (Below.heap_alloc _ _ _ (by simp)).trans (heap_new _ _ _ rfl)
  have Z : W.heap[w.heap.size + 1]? = some (.cells #[.int .i64 0, .int .i64 0, .slice none 0 0] 24) := by rw [hWd]; exact heap_new _ _ _ (by simp)
  have hwbl := hWB.cells.2.2.2.2
  have HLT := Lib.hid hwbl
  have HWB := Lib.hid (hWB.keep (hbel.block _ hwbl))
  have HS := Lib.hid (hkeep _ _ hS fun q hq => hbel.block q (hC q hq))
  have HCO := Lib.hid hC
  have HOFF := Lib.hid hoff
  have HKEEP := Lib.hid hkeep
  have HBEL := Lib.hid hbel
  have HSZ := Lib.hid hsz
  have HQ := Lib.hid Q
  have HZ := Lib.hid Z
  have HWD := Lib.hid hWd
  clear hkeep hoff hbel hsz Q Z hwbl hWd hC hWB hS
  obtain ⟨w1, hw1⟩ : ∃ w1, w1 = W := ⟨_, rfl⟩
  have HW1 : Hid (WBox wb (.func (.func 103) #[] #[.pointer (some ⟨nb, 0, none⟩), .pointer (some ⟨pb, 0, none⟩), .pointer (some ⟨ab, 0, none⟩)]) L false w1) := by rw [hw1]; exact HWB.out
  have HQ1 : Hid (w1.heap[w.heap.size]? = some (.cells #[.int .i64 k, .int .i64 n, .slice ao m c] 24)) := by rw [hw1]; exact HQ.out
  have HZ1 : Hid (w1.heap[w.heap.size + 1]? = some (.cells #[.int .i64 0, .int .i64 0, .slice none 0 0] 24)) := by rw [hw1]; exact HZ.out
  have HS1 : Hid (StAt nb ab pb wb n0 ka na aa ma ca a PA w1) := by rw [hw1]; exact HS.out
  have HB1 : Hid (Below w.heap.size w w1) := by rw [hw1]; exact HBEL.out
  have hsz1 : w.heap.size + 2 ≤ w1.heap.size := by rw [hw1]; have := HSZ.out; omega
  have HWD1 : Hid (w1 = _) := Lib.hid (hw1.trans HWD.out)
  clear hw1
  obtain ⟨s1, s2, s3, s4⟩ := HS1.out
  obtain ⟨nv0, nvf, nvl⟩ := one1 s1
  obtain ⟨a0, a1, a2, af, al⟩ := three s2
  obtain ⟨p0, pf, pl⟩ := one1 s3
  have HA4 := Lib.hid s4
  clear s1 s2 s3 s4
  obtain ⟨z0, z1, z2, zf, zl⟩ := three HZ1.out
  obtain ⟨q0, q1, q2, qf, ql⟩ := three HQ1.out
  have hcell : ∀ (P : Prop), P → P := fun _ h => h
  by_cases h8 : k = 8
  · subst h8
    by_cases hnm : n = n0
    · have hq2 : (n != n0) = false := by simp [hnm]
      have HNM := Lib.hid hnm
      clear hnm
      have hcon := raised_w (wb := wb) (fv := .func (.func 103) #[] #[.pointer (some ⟨nb, 0, none⟩), .pointer (some ⟨pb, 0, none⟩), .pointer (some ⟨ab, 0, none⟩)]) HKEEP.out HOFF.out _ a (b) L w1 (fun q hq => by have := HCO.out q hq; omega)
        (HA4.out.keep (w' := w1) (P' := fun q => q < w1.heap.size ∧ q ≠ wb) (fun q hq => ⟨by have := HCO.out q (.inr (.inr (.inr hq))); omega, HOFF.out q (.inr (.inr (.inr hq)))⟩) fun _ _ => rfl) hsh ⟨by omega, by omega⟩ ⟨hL0, hL1⟩ HW1.out HS1.out
      have HCON := Lib.hid hcon
      clear hcon
      rw [HWD1.out] at z0 z1 z2 zf zl q0 q1 q2 qf ql nv0 nvf nvl a0 a1 a2 af al p0 pf pl
      go_enter Try.func103, Try.ntmps103
      go_wp2_with fail
      rw [← HWD1.out] at z0 z1 z2 zf zl q0 q1 q2 qf ql nv0 nvf nvl a0 a1 a2 af al p0 pf pl ⊢
      refine HCON.out.mono ?_
      rintro e w3 ⟨k3, n3, ao3, m3, c3, y3, L3, lg3, rfl, hb3, hr3, hs3, hw3, hok3⟩
      have hne : some (w.heap.size + 1) ≠ some wb := fun e => by injection e with e; have := HLT.out; omega
      have HZ3 := (hb3.block _ zl hne).trans HZ1.out
      have HB3 := Lib.hid ((Bx.of (row := some wb) HB1.out).trans (hb3.mono (by omega)))
      have hsz3 : w.heap.size + 2 ≤ w3.heap.size := by have := hb3.size; omega
      have HR3 := Lib.hid (hr3.keep (P' := fun q => w.heap.size + 2 ≤ q ∧ q < w3.heap.size) (fun q hq => ⟨by have : w1.heap.size ≤ q := hq.1; omega, hq.2⟩) fun _ _ => rfl)
      have HS3 := Lib.hid hs3
      have HW3 := Lib.hid hw3
      have HOK3 := Lib.hid hok3
      clear hb3 hr3 hs3 hw3 hok3 hne z0 z1 z2 zf zl q0 q1 q2 qf ql nv0 nvf a0 a1 a2 af p0 pf
      obtain ⟨z0, z1, z2, zf, zl⟩ := three HZ3
      go_wp2_with fail
      refine bodyPost_ret (v := .tuple #[.agg #[.int .i64 k3, .int .i64 n3, .slice ao3 m3 c3], .bool true]) (by simp [results, Try.results103, go_sem, z0, z1, z2]) rfl (AnsLf.fin HKEEP.out HCO.out HB3.out (Nat.le_succ _) HLT.out HS3.out HW3.out (fun e => by cases e) (fun _ => ⟨raise a b, y3, ?_, HR3.out.keep (fun q hq => ⟨⟨by omega, hq.2⟩, by omega⟩) fun _ _ => rfl, HOK3.out⟩))
      unfold Fnm
      rw [if_pos ⟨rfl, HNM.out⟩]
    · have hq2 : (n != n0) = true := by simp [hnm]
      rw [HWD1.out] at z0 z1 z2 zf zl q0 q1 q2 qf ql nv0 nvf nvl a0 a1 a2 af al p0 pf pl
      go_enter Try.func103, Try.ntmps103
      go_wp2_with fail
      rw [← HWD1.out] at z0 z1 z2 zf zl ⊢
      exact bodyPost_ret (v := .tuple #[.agg #[.int .i64 0, .int .i64 0, .slice none 0 0], .bool false]) (by simp [results, Try.results103, go_sem, z0, z1, z2]) rfl ⟨_, _, _, _, _, false, L, false, rfl, Bx.of HB1.out, HS1.out, HW1.out, fun _ => ⟨by unfold Fnm; rw [if_neg (fun h => hnm h.2)], rfl, rfl⟩, fun e => by cases e⟩
  · have hq2 : (k != 8) = true := by simp [h8]
    rw [HWD1.out] at z0 z1 z2 zf zl q0 q1 q2 qf ql nv0 nvf nvl a0 a1 a2 af al p0 pf pl
    go_enter Try.func103, Try.ntmps103
    go_wp2_with fail
    rw [← HWD1.out] at z0 z1 z2 zf zl ⊢
    exact bodyPost_ret (v := .tuple #[.agg #[.int .i64 0, .int .i64 0, .slice none 0 0], .bool false]) (by simp [results, Try.results103, go_sem, z0, z1, z2]) rfl ⟨_, _, _, _, _, false, L, false, rfl, Bx.of HB1.out, HS1.out, HW1.out, fun _ => ⟨by unfold Fnm; rw [if_neg (fun h => h8 h.1)], rfl, rfl⟩, fun e => by cases e⟩
set_option maxRecDepth 100000 in
set_option maxHeartbeats 4000000 in
theorem leaf_bd {nb wb : Nat} {n0 : Int} (hnb : nb ≠ wb) (hn0 : 0 ≤ n0 ∧ n0 ≤ 1048576) :
    Leafn 99 #[.pointer (some ⟨nb, 0, none⟩)] wb (fun q => q = nb) (fun w : World => w.heap[nb]? = some (.cells #[.int .i64 n0] 3)) (Fbd n0) := by
  have hkeep : ∀ w w', (fun w : World => w.heap[nb]? = some (.cells #[.int .i64 n0] 3)) w → (∀ k, (k = nb) → w'.heap[k]? = w.heap[k]?) → (fun w : World => w.heap[nb]? = some (.cells #[.int .i64 n0] 3)) w' := fun w w' h1 hk => (hk _ rfl).trans h1
  have hoff : ∀ q, q = nb → q ≠ wb := fun q hq => by rw [hq]; exact hnb
  refine ⟨fun k n ao m c b L w hk1 hk8 hnn0 hnn1 hb0 hb1 hL0 hL1 hC hWB hS => ?_, hkeep, hoff, fun args w => by kernel_rfl, leafy_bd n0⟩
  show Calls Try.prog 99 #[.agg #[.int .i64 k, .int .i64 n, .slice ao m c], .int .i64 b, .pointer (some ⟨nb, 0, none⟩)] w (AnsLf wb (.func (.func 99) #[] #[.pointer (some ⟨nb, 0, none⟩)]) (fun w : World => w.heap[nb]? = some (.cells #[.int .i64 n0] 3)) L (Fbd n0 k n b) w)
  obtain ⟨W, hWd⟩ : ∃ W, W = ((w.alloc (.cells #[.int .i64 k, .int .i64 n, .slice ao m c] 24)).alloc (.cells #[.int .i64 0, .int .i64 0, .slice none 0 0] 24)) := ⟨_, rfl⟩
  have hbel : Below w.heap.size w W := by rw [hWd]; exact ((Below.refl _ _).alloc (Nat.le_refl _) _).alloc (by simp) _
  have hsz : W.heap.size = w.heap.size + 2 := by rw [hWd]; simp
  have Q : W.heap[w.heap.size]? = some (.cells #[.int .i64 k, .int .i64 n, .slice ao m c] 24) := by rw [hWd]; exact (Below.heap_alloc _ _ _ (by simp)).trans (heap_new _ _ _ rfl)
  have Z : W.heap[w.heap.size + 1]? = some (.cells #[.int .i64 0, .int .i64 0, .slice none 0 0] 24) := by rw [hWd]; exact heap_new _ _ _ (by simp)
  have hwbl := hWB.cells.2.2.2.2
  have HLT := Lib.hid hwbl
  have HWB := Lib.hid (hWB.keep (hbel.block _ hwbl))
  have HS := Lib.hid (hkeep _ _ hS fun q hq => hbel.block q (hC q hq))
  have HCO := Lib.hid hC
  have HOFF := Lib.hid hoff
  have HKEEP := Lib.hid hkeep
  have HBEL := Lib.hid hbel
  have HSZ := Lib.hid hsz
  have HQ := Lib.hid Q
  have HZ := Lib.hid Z
  have HWD := Lib.hid hWd
  clear hkeep hoff hbel hsz Q Z hwbl hWd hC hWB hS
  go_enter Try.func99, Try.ntmps99
  go_wp2_with fail
  rw [← HWD.out]
  refine (loose_w k n ao m c b _ ⟨hnn0, hnn1⟩ ⟨hb0, hb1⟩).mono ?_
  rintro e w1 ⟨rfl, hbl⟩
  have HW1 := Lib.hid (HWB.out.keep (hbl.block _ HWB.out.cells.2.2.2.2))
  have HQ1 := Lib.hid ((hbl.block _ (by have := HSZ.out; omega)).trans HQ.out)
  have HZ1 := Lib.hid ((hbl.block _ (by have := HSZ.out; omega)).trans HZ.out)
  have HS1 := Lib.hid (HKEEP.out _ w1 HS.out fun q hq => hbl.block q (by have := HCO.out q hq; have := HSZ.out; omega))
  have HB1 := Lib.hid (HBEL.out.trans (hbl.mono HBEL.out.size))
  have hsz1 : w.heap.size + 2 ≤ w1.heap.size := by have := hbl.size; have := HSZ.out; omega
  clear hbl HWB HQ HZ HS
  obtain ⟨z0, z1, z2, zf, zl⟩ := three HZ1.out
  obtain ⟨q0, q1, q2, qf, ql⟩ := three HQ1.out
  have hs0 := HS1.out
  obtain ⟨nv0, nvf, -⟩ := one1 hs0
  by_cases hloose : k = 1 ∧ b ≤ n
  · obtain ⟨rfl, hbn⟩ := hloose
    have el : looseV 1 n b = n - b := by simp [looseV, hbn]
    rw [el]
    clear el
    go_wp2_with fail
    refine (Var_w _ _).mono ?_
    rintro e w2 ⟨rfl, hb2⟩
    have HW2 := Lib.hid (HW1.out.keep (hb2.block _ HW1.out.cells.2.2.2.2))
    have HS2 := Lib.hid (HKEEP.out _ w2 HS1.out fun q hq => hb2.block q (by have := HCO.out q hq; omega))
    have HB2 := Lib.hid (Bx.of (row := some wb) (HB1.out.trans (hb2.mono (by omega))))
    have HZ2 := (hb2.block _ zl).trans HZ1.out
    clear hb2 z0 z1 z2 zf zl q0 q1 q2 qf ql nv0 nvf
    obtain ⟨z0, z1, z2, zf, zl⟩ := three HZ2
    go_wp2_with fail
    refine bodyPost_ret (v := .tuple #[.agg #[.int .i64 1, .int .i64 (n + 1), .slice none 0 0], .bool true]) (by simp [results, Try.results99, go_sem, z0, z1, z2]) rfl (AnsLf.fin HKEEP.out HCO.out HB2.out (Nat.le_succ _) HLT.out HS2.out HW2.out (fun e => by cases e) (fun _ => ⟨.node 1 (n + 1) [], _, ?_, Rd.leaf _ _ _ _ _ _ (Nat.zero_le _) (by omega) (by omega), OkS.leaf hL0 hL1⟩))
    unfold Fbd
    rw [if_pos rfl, if_pos hbn]
  · have el : looseV k n b = -1 := by simp [looseV, hloose]
    rw [el]
    by_cases h8 : k = 8
    · subst h8
      by_cases hnm : n = n0
      · have hq2 : (n == n0) = true := by simp [hnm]
        go_wp2_with fail
        refine (Var_w _ _).mono ?_
        rintro e w2 ⟨rfl, hb2⟩
        have HW2 := Lib.hid (HW1.out.keep (hb2.block _ HW1.out.cells.2.2.2.2))
        have HS2 := Lib.hid (HKEEP.out _ w2 HS1.out fun q hq => hb2.block q (by have := HCO.out q hq; omega))
        have HB2 := Lib.hid (Bx.of (row := some wb) (HB1.out.trans (hb2.mono (by omega))))
        have HZ2 := (hb2.block _ zl).trans HZ1.out
        clear hb2 z0 z1 z2 zf zl q0 q1 q2 qf ql nv0 nvf
        obtain ⟨z0, z1, z2, zf, zl⟩ := three HZ2
        go_wp2_with fail
        refine bodyPost_ret (v := .tuple #[.agg #[.int .i64 1, .int .i64 (b), .slice none 0 0], .bool true]) (by simp [results, Try.results99, go_sem, z0, z1, z2]) rfl (AnsLf.fin HKEEP.out HCO.out HB2.out (Nat.le_succ _) HLT.out HS2.out HW2.out (fun e => by cases e) (fun _ => ⟨.node 1 (b) [], _, ?_, Rd.leaf _ _ _ _ _ _ (Nat.zero_le _) (by omega) (by omega), OkS.leaf hL0 hL1⟩))
        unfold Fbd
        rw [if_neg (by omega), if_pos ⟨rfl, hnm⟩]
      · have hq2 : (n == n0) = false := by simp [hnm]
        go_wp2_with fail
        refine bodyPost_ret (v := .tuple #[.agg #[.int .i64 0, .int .i64 0, .slice none 0 0], .bool false]) (by simp [results, Try.results99, go_sem, z0, z1, z2]) rfl (AnsLf.fin HKEEP.out HCO.out (Bx.of HB1.out) (Nat.le_succ _) HLT.out HS1.out HW1.out (fun _ => ⟨?_, rfl, rfl⟩) (fun e => by cases e))
        unfold Fbd
        rw [if_neg (by omega), if_neg (fun h => hnm h.2)]
    · have hq2 : (k == 8) = false := by simp [h8]
      go_wp2_with fail
      refine bodyPost_ret (v := .tuple #[.agg #[.int .i64 0, .int .i64 0, .slice none 0 0], .bool false]) (by simp [results, Try.results99, go_sem, z0, z1, z2]) rfl (AnsLf.fin HKEEP.out HCO.out (Bx.of HB1.out) (Nat.le_succ _) HLT.out HS1.out HW1.out (fun _ => ⟨?_, rfl, rfl⟩) (fun e => by cases e))
      unfold Fbd
      by_cases h1 : k = 1
      · rw [if_pos h1, if_neg (fun h => hloose ⟨h1, h⟩)]
      · rw [if_neg h1, if_neg (fun h => h8 h.1)]
set_option maxRecDepth 100000 in
set_option maxHeartbeats 4000000 in
theorem maker_at {nb ab : Nat} {n0 ka na : Int} {aa : Option Addr} {ma ca : Nat} {a : Tm} {PA : Nat → Prop} (hn0 : 0 ≤ n0 ∧ n0 ≤ 1048576) (hsh : Shp a = true) :
    Maker 95 96 #[.pointer (some ⟨nb, 0, none⟩), .pointer (some ⟨ab, 0, none⟩)] (fun q => q = nb ∨ q = ab ∨ PA q) (StAt0 nb ab n0 ka na aa ma ca a PA) (Fat a n0) := by
  refine ⟨fun wb w ⟨h1, h2, h3⟩ hC hwb hlt => ?_, fun w w' ⟨h1, h2, h3⟩ hk => ⟨(hk _ (.inl rfl)).trans h1, (hk _ (.inr (.inl rfl))).trans h2, h3.keep (fun _ h => h) fun q hq => hk q (.inr (.inr hq))⟩, fun args w => by kernel_rfl⟩
  show Calls Try.prog 95 #[.pointer (some ⟨wb, 0, none⟩), .pointer (some ⟨nb, 0, none⟩), .pointer (some ⟨ab, 0, none⟩)] w _
  have hcon := leaf_at (nb := nb) (ab := ab) (pb := w.heap.size) (wb := wb) (n0 := n0) (ka := ka) (na := na) (aa := aa) (ma := ma) (ca := ca) (a := a) (PA := PA) (fun e => hwb (.inl e.symm)) (fun e => hwb (.inr (.inl e.symm))) (by omega) (fun q hq e => hwb (.inr (.inr (e ▸ hq)))) hn0 hsh
  have HCON := Lib.hid hcon
  have H1 := Lib.hid h1
  have H2 := Lib.hid h2
  have H3 := Lib.hid h3
  have HC := Lib.hid hC
  clear hcon h1 h2 h3 hC
  go_enter Try.func95, Try.ntmps95
  go_wp2_with fail
  go_ret
  have hb := alloc_bel w (.cells #[.pointer (some ⟨wb, 0, none⟩)] 71)
  refine ⟨_, _, _, rfl, hb, fun q hq => ?_, ⟨(hb.block _ (blt H1.out)).trans H1.out, (hb.block _ (blt H2.out)).trans H2.out, heap_new _ _ _ rfl, H3.out.keep (fun _ h => h) fun q hq => hb.block q (HC.out q (.inr (.inr hq)))⟩, HCON.out⟩
  rw [World.size_alloc]
  rcases hq with rfl | rfl | rfl | hq
  · have := HC.out _ (.inl rfl); omega
  · have := HC.out _ (.inr (.inl rfl)); omega
  · omega
  · have := HC.out _ (.inr (.inr hq)); omega
set_option maxRecDepth 100000 in
set_option maxHeartbeats 4000000 in
theorem maker_nm {nb ab : Nat} {n0 ka na : Int} {aa : Option Addr} {ma ca : Nat} {a : Tm} {PA : Nat → Prop} (hn0 : 0 ≤ n0 ∧ n0 ≤ 1048576) (hsh : Shp a = true) :
    Maker 102 103 #[.pointer (some ⟨nb, 0, none⟩), .pointer (some ⟨ab, 0, none⟩)] (fun q => q = nb ∨ q = ab ∨ PA q) (StAt0 nb ab n0 ka na aa ma ca a PA) (Fnm a n0) := by
  refine ⟨fun wb w ⟨h1, h2, h3⟩ hC hwb hlt => ?_, fun w w' ⟨h1, h2, h3⟩ hk => ⟨(hk _ (.inl rfl)).trans h1, (hk _ (.inr (.inl rfl))).trans h2, h3.keep (fun _ h => h) fun q hq => hk q (.inr (.inr hq))⟩, fun args w => by kernel_rfl⟩
  show Calls Try.prog 102 #[.pointer (some ⟨wb, 0, none⟩), .pointer (some ⟨nb, 0, none⟩), .pointer (some ⟨ab, 0, none⟩)] w _
  have hcon := leaf_nm (nb := nb) (ab := ab) (pb := w.heap.size) (wb := wb) (n0 := n0) (ka := ka) (na := na) (aa := aa) (ma := ma) (ca := ca) (a := a) (PA := PA) (fun e => hwb (.inl e.symm)) (fun e => hwb (.inr (.inl e.symm))) (by omega) (fun q hq e => hwb (.inr (.inr (e ▸ hq)))) hn0 hsh
  have HCON := Lib.hid hcon
  have H1 := Lib.hid h1
  have H2 := Lib.hid h2
  have H3 := Lib.hid h3
  have HC := Lib.hid hC
  clear hcon h1 h2 h3 hC
  go_enter Try.func102, Try.ntmps102
  go_wp2_with fail
  go_ret
  have hb := alloc_bel w (.cells #[.pointer (some ⟨wb, 0, none⟩)] 71)
  refine ⟨_, _, _, rfl, hb, fun q hq => ?_, ⟨(hb.block _ (blt H1.out)).trans H1.out, (hb.block _ (blt H2.out)).trans H2.out, heap_new _ _ _ rfl, H3.out.keep (fun _ h => h) fun q hq => hb.block q (HC.out q (.inr (.inr hq)))⟩, HCON.out⟩
  rw [World.size_alloc]
  rcases hq with rfl | rfl | rfl | hq
  · have := HC.out _ (.inl rfl); omega
  · have := HC.out _ (.inr (.inl rfl)); omega
  · omega
  · have := HC.out _ (.inr (.inr hq)); omega
set_option maxRecDepth 100000 in
set_option maxHeartbeats 4000000 in
theorem maker_bd {nb : Nat} {n0 : Int} (hn0 : 0 ≤ n0 ∧ n0 ≤ 1048576) :
    Maker 98 99 #[.pointer (some ⟨nb, 0, none⟩)] (fun q => q = nb) (fun w : World => w.heap[nb]? = some (.cells #[.int .i64 n0] 3)) (Fbd n0) := by
  refine ⟨fun wb w h1 hC hwb hlt => ?_, fun w w' h1 hk => (hk _ rfl).trans h1, fun args w => by kernel_rfl⟩
  show Calls Try.prog 98 #[.pointer (some ⟨wb, 0, none⟩), .pointer (some ⟨nb, 0, none⟩)] w _
  have hcon := leaf_bd (nb := nb) (wb := wb) (n0 := n0) (fun e => hwb e.symm) hn0
  have HCON := Lib.hid hcon
  have H1 := Lib.hid h1
  have HC := Lib.hid hC
  clear hcon h1 hC
  go_enter Try.func98, Try.ntmps98
  go_wp2_with fail
  go_ret
  exact ⟨_, _, _, rfl, Below.refl _ _, fun q hq => HC.out q hq, H1.out, HCON.out⟩
end Go.Proofs.Ythjlfjaciigfiaa
