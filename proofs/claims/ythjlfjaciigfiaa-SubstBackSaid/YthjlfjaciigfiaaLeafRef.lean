/-
  The leaf functions of subst.At, Named, Bind and their makers: contracts.
  ref09.at: a contract of the walk.
  ref09.named: a contract of the walk.
-/
import Derived.Test.YthjlfjaciigfiaaRun9
import Derived.Test.YthjlfjaciigfiaaRefMany2
namespace Go.Proofs.Ythjlfjaciigfiaa
open Go.RowKit
set_option linter.unusedVariables false
set_option linter.unusedSimpArgs false

/-- what the leaf functions of At and Named need: the number's box, the term's box, the walker's box -/
def StAt (nb ab pb wb : Nat) (n0 ka na : Int) (aa : Option Addr) (ma ca : Nat) (a : Tm) (PA : Nat → Prop) (w : World) : Prop :=
  w.heap[nb]? = some (.cells #[.int .i64 n0] 3) ∧ w.heap[ab]? = some (.cells #[.int .i64 ka, .int .i64 na, .slice aa ma ca] 24) ∧ w.heap[pb]? = some (.cells #[.pointer (some ⟨wb, 0, none⟩)] 71) ∧ Rd PA w (.agg #[.int .i64 ka, .int .i64 na, .slice aa ma ca]) a
/-- ahead of the walker -/
def StAt0 (nb ab : Nat) (n0 ka na : Int) (aa : Option Addr) (ma ca : Nat) (a : Tm) (PA : Nat → Prop) (w : World) : Prop :=
  w.heap[nb]? = some (.cells #[.int .i64 n0] 3) ∧ w.heap[ab]? = some (.cells #[.int .i64 ka, .int .i64 na, .slice aa ma ca] 24) ∧ Rd PA w (.agg #[.int .i64 ka, .int .i64 na, .slice aa ma ca]) a

set_option maxRecDepth 100000 in
set_option maxHeartbeats 4000000 in
theorem leaf_at {nb ab pb wb : Nat} {n0 ka na : Int} {aa : Option Addr} {ma ca : Nat} {a : Tm} {PA : Nat → Prop} (hnb : nb ≠ wb) (hab : ab ≠ wb) (hpb : pb ≠ wb) (hPA : ∀ q, PA q → q ≠ wb) (hn0 : 0 ≤ n0 ∧ n0 ≤ 1048576) (hsh : Shp a = true) :
    Leafn 96 #[.pointer (some ⟨nb, 0, none⟩), .pointer (some ⟨pb, 0, none⟩), .pointer (some ⟨ab, 0, none⟩)] wb (fun q => q = nb ∨ q = ab ∨ q = pb ∨ PA q) (StAt nb ab pb wb n0 ka na aa ma ca a PA) (Fat a n0) := by
  have hkeep : ∀ w w', (StAt nb ab pb wb n0 ka na aa ma ca a PA) w → (∀ k, (k = nb ∨ k = ab ∨ k = pb ∨ PA k) → w'.heap[k]? = w.heap[k]?) → (StAt nb ab pb wb n0 ka na aa ma ca a PA) w' := fun w w' ⟨h1, h2, h3, h4⟩ hk =>
    ⟨(hk _ (.inl rfl)).trans h1, (hk _ (.inr (.inl rfl))).trans h2, (hk _ (.inr (.inr (.inl rfl)))).trans h3, h4.keep (fun _ h => h) fun q hq => hk q (.inr (.inr (.inr hq)))⟩
  have hoff : ∀ q, (q = nb ∨ q = ab ∨ q = pb ∨ PA q) → q ≠ wb := fun q hq => by
    rcases hq with rfl | rfl | rfl | hq
    · exact hnb
    · exact hab
    · exact hpb
    · exact hPA q hq
  refine ⟨fun k n ao m c b L w hk1 hk8 hnn0 hnn1 hb0 hb1 hL0 hL1 hC hWB hS => ?_, hkeep, hoff, fun args w => by kernel_rfl, leafy_at a n0⟩
  show Calls Try.prog 96 #[.agg #[.int .i64 k, .int .i64 n, .slice ao m c], .int .i64 b, .pointer (some ⟨nb, 0, none⟩), .pointer (some ⟨pb, 0, none⟩), .pointer (some ⟨ab, 0, none⟩)] w (AnsLf wb (.func (.func 96) #[] #[.pointer (some ⟨nb, 0, none⟩), .pointer (some ⟨pb, 0, none⟩), .pointer (some ⟨ab, 0, none⟩)]) (StAt nb ab pb wb n0 ka na aa ma ca a PA) L (Fat a n0 k n b) w)
  obtain ⟨W, hWd⟩ : ∃ W, W = ((w.alloc (.cells #[.int .i64 k, .int .i64 n, .slice ao m c] 24)).alloc (.cells #[.int .i64 0, .int .i64 0, .slice none 0 0] 24)) := ⟨_, rfl⟩
  have hbel : Below w.heap.size w W := by rw [hWd]; exact ((Below.refl _ _).alloc (Nat.le_refl _) _).alloc (by simp) _
  have hsz : W.heap.size = w.heap.size + 2 := by rw [hWd]; simp
  have Q : W.heap[w.heap.size]? = some (.cells #[.int .i64 k, .int .i64 n, .slice ao m c] 24) := by rw [hWd]; exact (Below.heap_alloc _ _ _ (by simp)).trans (heap_new _ _ _ rfl)
  have Z : W.heap[w.heap.size + 1]? = some (.cells #[.int .i64 0, .int .i64 0, .slice none 0 0] 24) := by rw [hWd]; exact heap_new _ _ _ (by simp)
  have hwbl := hWB.cells.2.2.2.2
  have HLT := Lib.hid hwbl
  have HWB := Lib.hid (hWB.keep (hbel.block _ hwbl))
  have HS := Lib.hid (hkeep _ _ hS fun q hq => hbel.block q (hC q hq))
  have HCO := Lib.hid hC
  have HOFF := Lib.hid hoff
  have HKEEP := Lib.hid hkeep
  have HBEL := Lib.hid hbel
  have HSZ := Lib.hid hsz
  have HQ := Lib.hid Q
  have HZ := Lib.hid Z
  have HWD := Lib.hid hWd
  clear hkeep hoff hbel hsz Q Z hwbl hWd hC hWB hS
  go_enter Try.func96, Try.ntmps96
  go_wp2_with fail
  rw [← HWD.out]
  refine (loose_w k n ao m c b _ ⟨hnn0, hnn1⟩ ⟨hb0, hb1⟩).mono ?_
  rintro e w1 ⟨rfl, hbl⟩
  have HW1 := Lib.hid (HWB.out.keep (hbl.block _ HWB.out.cells.2.2.2.2))
  have HQ1 := Lib.hid ((hbl.block _ (by have := HSZ.out; omega)).trans HQ.out)
  have HZ1 := Lib.hid ((hbl.block _ (by have := HSZ.out; omega)).trans HZ.out)
  have HS1 := Lib.hid (HKEEP.out _ w1 HS.out fun q hq => hbl.block q (by have := HCO.out q hq; have := HSZ.out; omega))
  have HB1 := Lib.hid (HBEL.out.trans (hbl.mono HBEL.out.size))
  have hsz1 : w.heap.size + 2 ≤ w1.heap.size := by have := hbl.size; have := HSZ.out; omega
  clear hbl HWB HQ HZ HS
  obtain ⟨z0, z1, z2, zf, zl⟩ := three HZ1.out
  obtain ⟨q0, q1, q2, qf, ql⟩ := three HQ1.out
  obtain ⟨s1, s2, s3, s4⟩ := HS1.out
  obtain ⟨nv0, nvf, nvl⟩ := one1 s1
  obtain ⟨a0, a1, a2, af, al⟩ := three s2
  obtain ⟨p0, pf, pl⟩ := one1 s3
  have HA4 := Lib.hid s4
  clear s1 s2 s3 s4
  by_cases hloose : k = 1 ∧ b ≤ n
  · obtain ⟨rfl, hbn⟩ := hloose
    have el : looseV 1 n b = n - b := by simp [looseV, hbn]
    rw [el]
    clear el
    by_cases h1 : n - b = n0
    · rw [h1]
      have hcon := raised_w (wb := wb) (fv := .func (.func 96) #[] #[.pointer (some ⟨nb, 0, none⟩), .pointer (some ⟨pb, 0, none⟩), .pointer (some ⟨ab, 0, none⟩)]) HKEEP.out HOFF.out _ a (n0 + b) L w1 (fun q hq => by have := HCO.out q hq; omega)
        (HA4.out.keep (w' := w1) (P' := fun q => q < w1.heap.size ∧ q ≠ wb) (fun q hq => ⟨by have := HCO.out q (.inr (.inr (.inr hq))); omega, HOFF.out q (.inr (.inr (.inr hq)))⟩) fun _ _ => rfl) hsh ⟨by omega, by omega⟩ ⟨hL0, hL1⟩ HW1.out HS1.out
      have HCON := Lib.hid hcon
      clear hcon
      go_wp2_with fail
      refine HCON.out.mono ?_
      rintro e w3 ⟨k3, n3, ao3, m3, c3, y3, L3, lg3, rfl, hb3, hr3, hs3, hw3, hok3⟩
      have hne : some (w.heap.size + 1) ≠ some wb := fun e => by injection e with e; have := HLT.out; omega
      have HZ3 := (hb3.block _ zl hne).trans HZ1.out
      have HB3 := Lib.hid ((Bx.of (row := some wb) HB1.out).trans (hb3.mono (by omega)))
      have hsz3 : w.heap.size + 2 ≤ w3.heap.size := by have := hb3.size; omega
      have HR3 := Lib.hid (hr3.keep (P' := fun q => w.heap.size + 2 ≤ q ∧ q < w3.heap.size) (fun q hq => ⟨by have : w1.heap.size ≤ q := hq.1; omega, hq.2⟩) fun _ _ => rfl)
      have HS3 := Lib.hid hs3
      have HW3 := Lib.hid hw3
      have HOK3 := Lib.hid hok3
      clear hb3 hr3 hs3 hw3 hok3 hne z0 z1 z2 zf zl q0 q1 q2 qf ql nv0 nvf a0 a1 a2 af p0 pf
      obtain ⟨z0, z1, z2, zf, zl⟩ := three HZ3
      go_wp2_with fail
      refine bodyPost_ret (v := .tuple #[.agg #[.int .i64 k3, .int .i64 n3, .slice ao3 m3 c3], .bool true]) (by simp [results, Try.results96, go_sem, z0, z1, z2]) rfl (AnsLf.fin HKEEP.out HCO.out HB3.out (Nat.le_succ _) HLT.out HS3.out HW3.out (fun e => by cases e) (fun _ => ⟨raise a (n0 + b), y3, ?_, HR3.out.keep (fun q hq => ⟨⟨by omega, hq.2⟩, by omega⟩) fun _ _ => rfl, HOK3.out⟩))
      unfold Fat
      rw [if_pos ⟨rfl, hbn⟩, if_pos h1]
    · have hb1' : (n - b == n0) = false := by simp; exact h1
      by_cases h2 : n0 < n - b
      · skip
        go_wp2_with fail
        refine (Var_w _ _).mono ?_
        rintro e w2 ⟨rfl, hb2⟩
        have HW2 := Lib.hid (HW1.out.keep (hb2.block _ HW1.out.cells.2.2.2.2))
        have HS2 := Lib.hid (HKEEP.out _ w2 HS1.out fun q hq => hb2.block q (by have := HCO.out q hq; omega))
        have HB2 := Lib.hid (Bx.of (row := some wb) (HB1.out.trans (hb2.mono (by omega))))
        have HZ2 := (hb2.block _ zl).trans HZ1.out
        clear hb2 z0 z1 z2 zf zl q0 q1 q2 qf ql nv0 nvf a0 a1 a2 af p0 pf
        obtain ⟨z0, z1, z2, zf, zl⟩ := three HZ2
        go_wp2_with fail
        refine bodyPost_ret (v := .tuple #[.agg #[.int .i64 1, .int .i64 (n - 1), .slice none 0 0], .bool true]) (by simp [results, Try.results96, go_sem, z0, z1, z2]) rfl (AnsLf.fin HKEEP.out HCO.out HB2.out (Nat.le_succ _) HLT.out HS2.out HW2.out (fun e => by cases e) (fun _ => ⟨.node 1 (n - 1) [], _, ?_, Rd.leaf _ _ _ _ _ _ (Nat.zero_le _) (by omega) (by omega), OkS.leaf hL0 hL1⟩))
        unfold Fat
        rw [if_pos ⟨rfl, hbn⟩, if_neg h1, if_pos h2]
      · skip
        go_wp2_with fail
        refine (Var_w _ _).mono ?_
        rintro e w2 ⟨rfl, hb2⟩
        have HW2 := Lib.hid (HW1.out.keep (hb2.block _ HW1.out.cells.2.2.2.2))
        have HS2 := Lib.hid (HKEEP.out _ w2 HS1.out fun q hq => hb2.block q (by have := HCO.out q hq; omega))
        have HB2 := Lib.hid (Bx.of (row := some wb) (HB1.out.trans (hb2.mono (by omega))))
        have HZ2 := (hb2.block _ zl).trans HZ1.out
        clear hb2 z0 z1 z2 zf zl q0 q1 q2 qf ql nv0 nvf a0 a1 a2 af p0 pf
        obtain ⟨z0, z1, z2, zf, zl⟩ := three HZ2
        go_wp2_with fail
        refine bodyPost_ret (v := .tuple #[.agg #[.int .i64 1, .int .i64 (n), .slice none 0 0], .bool true]) (by simp [results, Try.results96, go_sem, z0, z1, z2]) rfl (AnsLf.fin HKEEP.out HCO.out HB2.out (Nat.le_succ _) HLT.out HS2.out HW2.out (fun e => by cases e) (fun _ => ⟨.node 1 (n) [], _, ?_, Rd.leaf _ _ _ _ _ _ (Nat.zero_le _) (by omega) (by omega), OkS.leaf hL0 hL1⟩))
        unfold Fat
        rw [if_pos ⟨rfl, hbn⟩, if_neg h1, if_neg (by omega)]
  · have el : looseV k n b = -1 := by simp [looseV, hloose]
    rw [el]
    go_wp2_with fail
    refine bodyPost_ret (v := .tuple #[.agg #[.int .i64 0, .int .i64 0, .slice none 0 0], .bool false]) (by simp [results, Try.results96, go_sem, z0, z1, z2]) rfl (AnsLf.fin HKEEP.out HCO.out (Bx.of HB1.out) (Nat.le_succ _) HLT.out HS1.out HW1.out (fun _ => ⟨?_, rfl, rfl⟩) (fun e => by cases e))
    unfold Fat
    rw [if_neg hloose]
set_option maxRecDepth 100000 in
set_option maxHeartbeats 4000000 in
theorem leaf_nm {nb ab pb wb : Nat} {n0 ka na : Int} {aa : Option Addr} {ma ca : Nat} {a : Tm} {PA : Nat → Prop} (hnb : nb ≠ wb) (hab : ab ≠ wb) (hpb : pb ≠ wb) (hPA : ∀ q, PA q → q ≠ wb) (hn0 : 0 ≤ n0 ∧ n0 ≤ 1048576) (hsh : Shp a = true) :
    Leafn 103 #[.pointer (some ⟨nb, 0, none⟩), .pointer (some ⟨pb, 0, none⟩), .pointer (some ⟨ab, 0, none⟩)] wb (fun q => q = nb ∨ q = ab ∨ q = pb ∨ PA q) (StAt nb ab pb wb n0 ka na aa ma ca a PA) (Fnm a n0) := by
  have hkeep : ∀ w w', (StAt nb ab pb wb n0 ka na aa ma ca a PA) w → (∀ k, (k = nb ∨ k = ab ∨ k = pb ∨ PA k) → w'.heap[k]? = w.heap[k]?) → (StAt nb ab pb wb n0 ka na aa ma ca a PA) w' := fun w w' ⟨h1, h2, h3, h4⟩ hk =>
    ⟨(hk _ (.inl rfl)).trans h1, (hk _ (.inr (.inl rfl))).trans h2, (hk _ (.inr (.inr (.inl rfl)))).trans h3, h4.keep (fun _ h => h) fun q hq => hk q (.inr (.inr (.inr hq)))⟩
  have hoff : ∀ q, (q = nb ∨ q = ab ∨ q = pb ∨ PA q) → q ≠ wb := fun q hq => by
    rcases hq with rfl | rfl | rfl | hq
    · exact hnb
    · exact hab
    · exact hpb
    · exact hPA q hq
  refine ⟨fun k n ao m c b L w hk1 hk8 hnn0 hnn1 hb0 hb1 hL0 hL1 hC hWB hS => ?_, hkeep, hoff, fun args w => by kernel_rfl, leafy_nm a n0⟩
  show Calls Try.prog 103 #[.agg #[.int .i64 k, .int .i64 n, .slice ao m c], .int .i64 b, .pointer (some ⟨nb, 0, none⟩), .pointer (some ⟨pb, 0, none⟩), .pointer (some ⟨ab, 0, none⟩)] w (AnsLf wb (.func (.func 103) #[] #[.pointer (some ⟨nb, 0, none⟩), .pointer (some ⟨pb, 0, none⟩), .pointer (some ⟨ab, 0, none⟩)]) (StAt nb ab pb wb n0 ka na aa ma ca a PA) L (Fnm a n0 k n b) w)
  obtain ⟨W, hWd⟩ : ∃ W, W = ((w.alloc (.cells #[.int .i64 k, .int .i64 n, .slice ao m c] 24)).alloc (.cells #[.int .i64 0, .int .i64 0, .slice none 0 0] 24)) := ⟨_, rfl⟩
  have hbel : Below w.heap.size w W := by rw [hWd]; exact ((Below.refl _ _).alloc (Nat.le_refl _) _).alloc (by simp) _
  have hsz : W.heap.size = w.heap.size + 2 := by rw [hWd]; simp
  have Q : W.heap[w.heap.size]? = some (.cells #[.int .i64 k, .int .i64 n, .slice ao m c] 24) := by rw [hWd]; exact (Below.heap_alloc _ _ _ (by simp)).trans (heap_new _ _ _ rfl)
  have Z : W.heap[w.heap.size + 1]? = some (.cells #[.int .i64 0, .int .i64 0, .slice none 0 0] 24) := by rw [hWd]; exact heap_new _ _ _ (by simp)
  have hwbl := hWB.cells.2.2.2.2
  have HLT := Lib.hid hwbl
  have HWB := Lib.hid (hWB.keep (hbel.block _ hwbl))
  have HS := Lib.hid (hkeep _ _ hS fun q hq => hbel.block q (hC q hq))
  have HCO := Lib.hid hC
  have HOFF := Lib.hid hoff
  have HKEEP := Lib.hid hkeep
  have HBEL := Lib.hid hbel
  have HSZ := Lib.hid hsz
  have HQ := Lib.hid Q
  have HZ := Lib.hid Z
  have HWD := Lib.hid hWd
  clear hkeep hoff hbel hsz Q Z hwbl hWd hC hWB hS
  obtain ⟨w1, hw1⟩ : ∃ w1, w1 = W := ⟨_, rfl⟩
  have HW1 : Hid (WBox wb (.func (.func 103) #[] #[.pointer (some ⟨nb, 0, none⟩), .pointer (some ⟨pb, 0, none⟩), .pointer (some ⟨ab, 0, none⟩)]) L false w1) := by rw [hw1]; exact HWB.out
  have HQ1 : Hid (w1.heap[w.heap.size]? = some (.cells #[.int .i64 k, .int .i64 n, .slice ao m c] 24)) := by rw [hw1]; exact HQ.out
  have HZ1 : Hid (w1.heap[w.heap.size + 1]? = some (.cells #[.int .i64 0, .int .i64 0, .slice none 0 0] 24)) := by rw [hw1]; exact HZ.out
  have HS1 : Hid (StAt nb ab pb wb n0 ka na aa ma ca a PA w1) := by rw [hw1]; exact HS.out
  have HB1 : Hid (Below w.heap.size w w1) := by rw [hw1]; exact HBEL.out
  have hsz1 : w.heap.size + 2 ≤ w1.heap.size := by rw [hw1]; have := HSZ.out; omega
  have HWD1 : Hid (w1 = _) := Lib.hid (hw1.trans HWD.out)
  clear hw1
  obtain ⟨s1, s2, s3, s4⟩ := HS1.out
  obtain ⟨nv0, nvf, nvl⟩ := one1 s1
  obtain ⟨a0, a1, a2, af, al⟩ := three s2
  obtain ⟨p0, pf, pl⟩ := one1 s3
  have HA4 := Lib.hid s4
  clear s1 s2 s3 s4
  obtain ⟨z0, z1, z2, zf, zl⟩ := three HZ1.out
  obtain ⟨q0, q1, q2, qf, ql⟩ := three HQ1.out
  have hcell : ∀ (P : Prop), P → P := fun _ h => h
  by_cases h8 : k = 8
  · subst h8
    by_cases hnm : n = n0
    · have hq2 : (n != n0) = false := by simp [hnm]
      have HNM := Lib.hid hnm
      clear hnm
      have hcon := raised_w (wb := wb) (fv := .func (.func 103) #[] #[.pointer (some ⟨nb, 0, none⟩), .pointer (some ⟨pb, 0, none⟩), .pointer (some ⟨ab, 0, none⟩)]) HKEEP.out HOFF.out _ a (b) L w1 (fun q hq => by have := HCO.out q hq; omega)
        (HA4.out.keep (w' := w1) (P' := fun q => q < w1.heap.size ∧ q ≠ wb) (fun q hq => ⟨by have := HCO.out q (.inr (.inr (.inr hq))); omega, HOFF.out q (.inr (.inr (.inr hq)))⟩) fun _ _ => rfl) hsh ⟨by omega, by omega⟩ ⟨hL0, hL1⟩ HW1.out HS1.out
      have HCON := Lib.hid hcon
      clear hcon
      rw [HWD1.out] at z0 z1 z2 zf zl q0 q1 q2 qf ql nv0 nvf nvl a0 a1 a2 af al p0 pf pl
      go_enter Try.func103, Try.ntmps103
      go_wp2_with fail
      rw [← HWD1.out] at z0 z1 z2 zf zl q0 q1 q2 qf ql nv0 nvf nvl a0 a1 a2 af al p0 pf pl ⊢
      refine HCON.out.mono ?_
      rintro e w3 ⟨k3, n3, ao3, m3, c3, y3, L3, lg3, rfl, hb3, hr3, hs3, hw3, hok3⟩
      have hne : some (w.heap.size + 1) ≠ some wb := fun e => by injection e with e; have := HLT.out; omega
      have HZ3 := (hb3.block _ zl hne).trans HZ1.out
      have HB3 := Lib.hid ((Bx.of (row := some wb) HB1.out).trans (hb3.mono (by omega)))
      have hsz3 : w.heap.size + 2 ≤ w3.heap.size := by have := hb3.size; omega
      have HR3 := Lib.hid (hr3.keep (P' := fun q => w.heap.size + 2 ≤ q ∧ q < w3.heap.size) (fun q hq => ⟨by have : w1.heap.size ≤ q := hq.1; omega, hq.2⟩) fun _ _ => rfl)
      have HS3 := Lib.hid hs3
      have HW3 := Lib.hid hw3
      have HOK3 := Lib.hid hok3
      clear hb3 hr3 hs3 hw3 hok3 hne z0 z1 z2 zf zl q0 q1 q2 qf ql nv0 nvf a0 a1 a2 af p0 pf
      obtain ⟨z0, z1, z2, zf, zl⟩ := three HZ3
      go_wp2_with fail
      refine bodyPost_ret (v := .tuple #[.agg #[.int .i64 k3, .int .i64 n3, .slice ao3 m3 c3], .bool true]) (by simp [results, Try.results103, go_sem, z0, z1, z2]) rfl (AnsLf.fin HKEEP.out HCO.out HB3.out (Nat.le_succ _) HLT.out HS3.out HW3.out (fun e => by cases e) (fun _ => ⟨raise a b, y3, ?_, HR3.out.keep (fun q hq => ⟨⟨by omega, hq.2⟩, by omega⟩) fun _ _ => rfl, HOK3.out⟩))
      unfold Fnm
      rw [if_pos ⟨rfl, HNM.out⟩]
    · have hq2 : (n != n0) = true := by simp [hnm]
      rw [HWD1.out] at z0 z1 z2 zf zl q0 q1 q2 qf ql nv0 nvf nvl a0 a1 a2 af al p0 pf pl
      go_enter Try.func103, Try.ntmps103
      go_wp2_with fail
      rw [← HWD1.out] at z0 z1 z2 zf zl ⊢
      exact bodyPost_ret (v := .tuple #[.agg #[.int .i64 0, .int .i64 0, .slice none 0 0], .bool false]) (by simp [results, Try.results103, go_sem, z0, z1, z2]) rfl ⟨_, _, _, _, _, false, L, false, rfl, Bx.of HB1.out, HS1.out, HW1.out, fun _ => ⟨by unfold Fnm; rw [if_neg (fun h => hnm h.2)], rfl, rfl⟩, fun e => by cases e⟩
  · have hq2 : (k != 8) = true := by simp [h8]
    rw [HWD1.out] at z0 z1 z2 zf zl q0 q1 q2 qf ql nv0 nvf nvl a0 a1 a2 af al p0 pf pl
    go_enter Try.func103, Try.ntmps103
    go_wp2_with fail
    rw [← HWD1.out] at z0 z1 z2 zf zl ⊢
    exact bodyPost_ret (v := .tuple #[.agg #[.int .i64 0, .int .i64 0, .slice none 0 0], .bool false]) (by simp [results, Try.results103, go_sem, z0, z1, z2]) rfl ⟨_, _, _, _, _, false, L, false, rfl, Bx.of HB1.out, HS1.out, HW1.out, fun _ => ⟨by unfold Fnm; rw [if_neg (fun h => h8 h.1)], rfl, rfl⟩, fun e => by cases e⟩
set_option maxRecDepth 100000 in
set_option maxHeartbeats 4000000 in
theorem leaf_bd {nb wb : Nat} {n0 : Int} (hnb : nb ≠ wb) (hn0 : 0 ≤ n0 ∧ n0 ≤ 1048576) :
    Leafn 99 #[.pointer (some ⟨nb, 0, none⟩)] wb (fun q => q = nb) (fun w : World => w.heap[nb]? = some (.cells #[.int .i64 n0] 3)) (Fbd n0) := by
  have hkeep : ∀ w w', (fun w : World => w.heap[nb]? = some (.cells #[.int .i64 n0] 3)) w → (∀ k, (k = nb) → w'.heap[k]? = w.heap[k]?) → (fun w : World => w.heap[nb]? = some (.cells #[.int .i64 n0] 3)) w' := fun w w' h1 hk => (hk _ rfl).trans h1
  have hoff : ∀ q, q = nb → q ≠ wb := fun q hq => by rw [hq]; exact hnb
  refine ⟨fun k n ao m c b L w hk1 hk8 hnn0 hnn1 hb0 hb1 hL0 hL1 hC hWB hS => ?_, hkeep, hoff, fun args w => by kernel_rfl, leafy_bd n0⟩
  show Calls Try.prog 99 #[.agg #[.int .i64 k, .int .i64 n, .slice ao m c], .int .i64 b, .pointer (some ⟨nb, 0, none⟩)] w (AnsLf wb (.func (.func 99) #[] #[.pointer (some ⟨nb, 0, none⟩)]) (fun w : World => w.heap[nb]? = some (.cells #[.int .i64 n0] 3)) L (Fbd n0 k n b) w)
  obtain ⟨W, hWd⟩ : ∃ W, W = ((w.alloc (.cells #[.int .i64 k, .int .i64 n, .slice ao m c] 24)).alloc (.cells #[.int .i64 0, .int .i64 0, .slice none 0 0] 24)) := ⟨_, rfl⟩
  have hbel : Below w.heap.size w W := by rw [hWd]; exact ((Below.refl _ _).alloc (Nat.le_refl _) _).alloc (by simp) _
  have hsz : W.heap.size = w.heap.size + 2 := by rw [hWd]; simp
  have Q : W.heap[w.heap.size]? = some (.cells #[.int .i64 k, .int .i64 n, .slice ao m c] 24) := by rw [hWd]; exact (Below.heap_alloc _ _ _ (by simp)).trans (heap_new _ _ _ rfl)
  have Z : W.heap[w.heap.size + 1]? = some (.cells #[.int .i64 0, .int .i64 0, .slice none 0 0] 24) := by rw [hWd]; exact heap_new _ _ _ (by simp)
  have hwbl := hWB.cells.2.2.2.2
  have HLT := Lib.hid hwbl
  have HWB := Lib.hid (hWB.keep (hbel.block _ hwbl))
  have HS := Lib.hid (hkeep _ _ hS fun q hq => hbel.block q (hC q hq))
  have HCO := Lib.hid hC
  have HOFF := Lib.hid hoff
  have HKEEP := Lib.hid hkeep
  have HBEL := Lib.hid hbel
  have HSZ := Lib.hid hsz
  have HQ := Lib.hid Q
  have HZ := Lib.hid Z
  have HWD := Lib.hid hWd
  clear hkeep hoff hbel hsz Q Z hwbl hWd hC hWB hS
  go_enter Try.func99, Try.ntmps99
  go_wp2_with fail
  rw [← HWD.out]
  refine (loose_w k n ao m c b _ ⟨hnn0, hnn1⟩ ⟨hb0, hb1⟩).mono ?_
  rintro e w1 ⟨rfl, hbl⟩
  have HW1 := Lib.hid (HWB.out.keep (hbl.block _ HWB.out.cells.2.2.2.2))
  have HQ1 := Lib.hid ((hbl.block _ (by have := HSZ.out; omega)).trans HQ.out)
  have HZ1 := Lib.hid ((hbl.block _ (by have := HSZ.out; omega)).trans HZ.out)
  have HS1 := Lib.hid (HKEEP.out _ w1 HS.out fun q hq => hbl.block q (by have := HCO.out q hq; have := HSZ.out; omega))
  have HB1 := Lib.hid (HBEL.out.trans (hbl.mono HBEL.out.size))
  have hsz1 : w.heap.size + 2 ≤ w1.heap.size := by have := hbl.size; have := HSZ.out; omega
  clear hbl HWB HQ HZ HS
  obtain ⟨z0, z1, z2, zf, zl⟩ := three HZ1.out
  obtain ⟨q0, q1, q2, qf, ql⟩ := three HQ1.out
  have hs0 := HS1.out
  obtain ⟨nv0, nvf, -⟩ := one1 hs0
  by_cases hloose : k = 1 ∧ b ≤ n
  · obtain ⟨rfl, hbn⟩ := hloose
    have el : looseV 1 n b = n - b := by simp [looseV, hbn]
    rw [el]
    clear el
    go_wp2_with fail
    refine (Var_w _ _).mono ?_
    rintro e w2 ⟨rfl, hb2⟩
    have HW2 := Lib.hid (HW1.out.keep (hb2.block _ HW1.out.cells.2.2.2.2))
    have HS2 := Lib.hid (HKEEP.out _ w2 HS1.out fun q hq => hb2.block q (by have := HCO.out q hq; omega))
    have HB2 := Lib.hid (Bx.of (row := some wb) (HB1.out.trans (hb2.mono (by omega))))
    have HZ2 := (hb2.block _ zl).trans HZ1.out
    clear hb2 z0 z1 z2 zf zl q0 q1 q2 qf ql nv0 nvf
    obtain ⟨z0, z1, z2, zf, zl⟩ := three HZ2
    go_wp2_with fail
    refine bodyPost_ret (v := .tuple #[.agg #[.int .i64 1, .int .i64 (n + 1), .slice none 0 0], .bool true]) (by simp [results, Try.results99, go_sem, z0, z1, z2]) rfl (AnsLf.fin HKEEP.out HCO.out HB2.out (Nat.le_succ _) HLT.out HS2.out HW2.out (fun e => by cases e) (fun _ => ⟨.node 1 (n + 1) [], _, ?_, Rd.leaf _ _ _ _ _ _ (Nat.zero_le _) (by omega) (by omega), OkS.leaf hL0 hL1⟩))
    unfold Fbd
    rw [if_pos rfl, if_pos hbn]
  · have el : looseV k n b = -1 := by simp [looseV, hloose]
    rw [el]
    by_cases h8 : k = 8
    · subst h8
      by_cases hnm : n = n0
      · have hq2 : (n == n0) = true := by simp [hnm]
        go_wp2_with fail
        refine (Var_w _ _).mono ?_
        rintro e w2 ⟨rfl, hb2⟩
        have HW2 := Lib.hid (HW1.out.keep (hb2.block _ HW1.out.cells.2.2.2.2))
        have HS2 := Lib.hid (HKEEP.out _ w2 HS1.out fun q hq => hb2.block q (by have := HCO.out q hq; omega))
        have HB2 := Lib.hid (Bx.of (row := some wb) (HB1.out.trans (hb2.mono (by omega))))
        have HZ2 := (hb2.block _ zl).trans HZ1.out
        clear hb2 z0 z1 z2 zf zl q0 q1 q2 qf ql nv0 nvf
        obtain ⟨z0, z1, z2, zf, zl⟩ := three HZ2
        go_wp2_with fail
        refine bodyPost_ret (v := .tuple #[.agg #[.int .i64 1, .int .i64 (b), .slice none 0 0], .bool true]) (by simp [results, Try.results99, go_sem, z0, z1, z2]) rfl (AnsLf.fin HKEEP.out HCO.out HB2.out (Nat.le_succ _) HLT.out HS2.out HW2.out (fun e => by cases e) (fun _ => ⟨.node 1 (b) [], _, ?_, Rd.leaf _ _ _ _ _ _ (Nat.zero_le _) (by omega) (by omega), OkS.leaf hL0 hL1⟩))
        unfold Fbd
        rw [if_neg (by omega), if_pos ⟨rfl, hnm⟩]
      · have hq2 : (n == n0) = false := by simp [hnm]
        go_wp2_with fail
        refine bodyPost_ret (v := .tuple #[.agg #[.int .i64 0, .int .i64 0, .slice none 0 0], .bool false]) (by simp [results, Try.results99, go_sem, z0, z1, z2]) rfl (AnsLf.fin HKEEP.out HCO.out (Bx.of HB1.out) (Nat.le_succ _) HLT.out HS1.out HW1.out (fun _ => ⟨?_, rfl, rfl⟩) (fun e => by cases e))
        unfold Fbd
        rw [if_neg (by omega), if_neg (fun h => hnm h.2)]
    · have hq2 : (k == 8) = false := by simp [h8]
      go_wp2_with fail
      refine bodyPost_ret (v := .tuple #[.agg #[.int .i64 0, .int .i64 0, .slice none 0 0], .bool false]) (by simp [results, Try.results99, go_sem, z0, z1, z2]) rfl (AnsLf.fin HKEEP.out HCO.out (Bx.of HB1.out) (Nat.le_succ _) HLT.out HS1.out HW1.out (fun _ => ⟨?_, rfl, rfl⟩) (fun e => by cases e))
      unfold Fbd
      by_cases h1 : k = 1
      · rw [if_pos h1, if_neg (fun h => hloose ⟨h1, h⟩)]
      · rw [if_neg h1, if_neg (fun h => h8 h.1)]
set_option maxRecDepth 100000 in
set_option maxHeartbeats 4000000 in
theorem maker_at {nb ab : Nat} {n0 ka na : Int} {aa : Option Addr} {ma ca : Nat} {a : Tm} {PA : Nat → Prop} (hn0 : 0 ≤ n0 ∧ n0 ≤ 1048576) (hsh : Shp a = true) :
    Maker 95 96 #[.pointer (some ⟨nb, 0, none⟩), .pointer (some ⟨ab, 0, none⟩)] (fun q => q = nb ∨ q = ab ∨ PA q) (StAt0 nb ab n0 ka na aa ma ca a PA) (Fat a n0) := by
  refine ⟨fun wb w ⟨h1, h2, h3⟩ hC hwb hlt => ?_, fun w w' ⟨h1, h2, h3⟩ hk => ⟨(hk _ (.inl rfl)).trans h1, (hk _ (.inr (.inl rfl))).trans h2, h3.keep (fun _ h => h) fun q hq => hk q (.inr (.inr hq))⟩, fun args w => by kernel_rfl⟩
  show Calls Try.prog 95 #[.pointer (some ⟨wb, 0, none⟩), .pointer (some ⟨nb, 0, none⟩), .pointer (some ⟨ab, 0, none⟩)] w _
  have hcon := leaf_at (nb := nb) (ab := ab) (pb := w.heap.size) (wb := wb) (n0 := n0) (ka := ka) (na := na) (aa := aa) (ma := ma) (ca := ca) (a := a) (PA := PA) (fun e => hwb (.inl e.symm)) (fun e => hwb (.inr (.inl e.symm))) (by omega) (fun q hq e => hwb (.inr (.inr (e ▸ hq)))) hn0 hsh
  have HCON := Lib.hid hcon
  have H1 := Lib.hid h1
  have H2 := Lib.hid h2
  have H3 := Lib.hid h3
  have HC := Lib.hid hC
  clear hcon h1 h2 h3 hC
  go_enter Try.func95, Try.ntmps95
  go_wp2_with fail
  go_ret
  have hb := alloc_bel w (.cells #[.pointer (some ⟨wb, 0, none⟩)] 71)
  refine ⟨_, _, _, rfl, hb, fun q hq => ?_, ⟨(hb.block _ (blt H1.out)).trans H1.out, (hb.block _ (blt H2.out)).trans H2.out, heap_new _ _ _ rfl, H3.out.keep (fun _ h => h) fun q hq => hb.block q (HC.out q (.inr (.inr hq)))⟩, HCON.out⟩
  rw [World.size_alloc]
  rcases hq with rfl | rfl | rfl | hq
  · have := HC.out _ (.inl rfl); omega
  · have := HC.out _ (.inr (.inl rfl)); omega
  · omega
  · have := HC.out _ (.inr (.inr hq)); omega
set_option maxRecDepth 100000 in
set_option maxHeartbeats 4000000 in
theorem maker_nm {nb ab : Nat} {n0 ka na : Int} {aa : Option Addr} {ma ca : Nat} {a : Tm} {PA : Nat → Prop} (hn0 : 0 ≤ n0 ∧ n0 ≤ 1048576) (hsh : Shp a = true) :
    Maker 102 103 #[.pointer (some ⟨nb, 0, none⟩), .pointer (some ⟨ab, 0, none⟩)] (fun q => q = nb ∨ q = ab ∨ PA q) (StAt0 nb ab n0 ka na aa ma ca a PA) (Fnm a n0) := by
  refine ⟨fun wb w ⟨h1, h2, h3⟩ hC hwb hlt => ?_, fun w w' ⟨h1, h2, h3⟩ hk => ⟨(hk _ (.inl rfl)).trans h1, (hk _ (.inr (.inl rfl))).trans h2, h3.keep (fun _ h => h) fun q hq => hk q (.inr (.inr hq))⟩, fun args w => by kernel_rfl⟩
  show Calls Try.prog 102 #[.pointer (some ⟨wb, 0, none⟩), .pointer (some ⟨nb, 0, none⟩), .pointer (some ⟨ab, 0, none⟩)] w _
  have hcon := leaf_nm (nb := nb) (ab := ab) (pb := w.heap.size) (wb := wb) (n0 := n0) (ka := ka) (na := na) (aa := aa) (ma := ma) (ca := ca) (a := a) (PA := PA) (fun e => hwb (.inl e.symm)) (fun e => hwb (.inr (.inl e.symm))) (by omega) (fun q hq e => hwb (.inr (.inr (e ▸ hq)))) hn0 hsh
  have HCON := Lib.hid hcon
  have H1 := Lib.hid h1
  have H2 := Lib.hid h2
  have H3 := Lib.hid h3
  have HC := Lib.hid hC
  clear hcon h1 h2 h3 hC
  go_enter Try.func102, Try.ntmps102
  go_wp2_with fail
  go_ret
  have hb := alloc_bel w (.cells #[.pointer (some ⟨wb, 0, none⟩)] 71)
  refine ⟨_, _, _, rfl, hb, fun q hq => ?_, ⟨(hb.block _ (blt H1.out)).trans H1.out, (hb.block _ (blt H2.out)).trans H2.out, heap_new _ _ _ rfl, H3.out.keep (fun _ h => h) fun q hq => hb.block q (HC.out q (.inr (.inr hq)))⟩, HCON.out⟩
  rw [World.size_alloc]
  rcases hq with rfl | rfl | rfl | hq
  · have := HC.out _ (.inl rfl); omega
  · have := HC.out _ (.inr (.inl rfl)); omega
  · omega
  · have := HC.out _ (.inr (.inr hq)); omega
set_option maxRecDepth 100000 in
set_option maxHeartbeats 4000000 in
theorem maker_bd {nb : Nat} {n0 : Int} (hn0 : 0 ≤ n0 ∧ n0 ≤ 1048576) :
    Maker 98 99 #[.pointer (some ⟨nb, 0, none⟩)] (fun q => q = nb) (fun w : World => w.heap[nb]? = some (.cells #[.int .i64 n0] 3)) (Fbd n0) := by
  refine ⟨fun wb w h1 hC hwb hlt => ?_, fun w w' h1 hk => (hk _ rfl).trans h1, fun args w => by kernel_rfl⟩
  show Calls Try.prog 98 #[.pointer (some ⟨wb, 0, none⟩), .pointer (some ⟨nb, 0, none⟩)] w _
  have hcon := leaf_bd (nb := nb) (wb := wb) (n0 := n0) (fun e => hwb e.symm) hn0
  have HCON := Lib.hid hcon
  have H1 := Lib.hid h1
  have HC := Lib.hid hC
  clear hcon h1 hC
  go_enter Try.func98, Try.ntmps98
  go_wp2_with fail
  go_ret
  exact ⟨_, _, _, rfl, Below.refl _ _, fun q hq => HC.out q hq, H1.out, HCON.out⟩
end Go.Proofs.Ythjlfjaciigfiaa
namespace Go.Proofs.Ythjlfjaciigfiaa
open Go.RowKit
set_option linter.unusedVariables false
set_option linter.unusedSimpArgs false

set_option maxRecDepth 100000 in
set_option maxHeartbeats 4000000 in
theorem refat_w (a : Tm) (va : Value) (m : Int) (hm : 0 ≤ m ∧ m ≤ 1048576) (hsh : Shp a = true) : ∀ (d : Nat) (v : Value) (t : Tm) (n : Int) (w : World), RdN (· < w.heap.size) w d v t → gd t = true → 0 ≤ n → n + d ≤ 1048576 → Rd (· < w.heap.size) w va a →
    Calls Try.prog 97 #[v, va, .int .i64 (m + n)] w (AnsG w (OkG (mp (Fat a m) t n))) := by
  intro d
  induction d with
  | zero => intro v t n w hr; exact absurd hr (fun h => h)
  | succ d ih =>
    rintro v ⟨k, x, l⟩ n w hr hg hn0 hn1 hra
    have RA := Lib.hid hra
    obtain ⟨aoa, capa, hva⟩ := hra.shape
    subst hva
    clear hra
    have hll := gd_len hg
    have hgs := gd_sub hg
    obtain ⟨hk1, hk8, hx0, hx1⟩ := gd_num hg
    have hgv : k = 1 → l = [] := fun e => by subst e; exact gd_var hg
    have hgv8 : k = 8 → l = [] := fun e => by subst e; exact gd_free hg
    have hcm0 := hr.cap
    obtain ⟨ao, cap, rfl, hlm, hk, hx, he⟩ := hr.open
    have hcm : cap ≤ maxLen := hcm0 _ _ rfl
    clear hr hcm0
    have IH := Lib.hid ih
    have HE := Lib.hid he
    have HG := Lib.hid hgs
    have HK := Lib.hid hk
    have HX := Lib.hid hx
    have HCM := Lib.hid hcm
    have HGV := Lib.hid hgv
    have HGV8 := Lib.hid hgv8
    have HN := Lib.hid (And.intro hn0 hn1)
    clear ih he hk hx hgs hg hcm hgv hgv8
    obtain ⟨W, hWd⟩ : ∃ W, W = ((w.alloc (.cells #[.int .i64 k, .int .i64 x, .slice ao l.length cap] 24)).alloc (.cells #[.int .i64 a.kind, .int .i64 a.num, .slice aoa a.sub.length capa] 24)).alloc (.cells #[.int .i64 0, .int .i64 0, .slice none 0 0, .bool false] 78) := ⟨_, rfl⟩
    have HBEL := Lib.hid (show Below w.heap.size w W by rw [hWd]; exact ((((Below.refl _ _).alloc (Nat.le_refl _) _).alloc (by simp only [World.size_alloc]; omega) _).alloc (by simp only [World.size_alloc]; omega) _))
    have HSZ := Lib.hid (show W.heap.size = w.heap.size + 3 by rw [hWd]; simp only [World.size_alloc])
    have HQ := Lib.hid (show W.heap[w.heap.size]? = some (.cells #[.int .i64 k, .int .i64 x, .slice ao l.length cap] 24) by rw [hWd]; exact (Below.heap_alloc _ _ _ (by simp only [World.size_alloc]; omega)).trans ((Below.heap_alloc _ _ _ (by simp only [World.size_alloc]; omega)).trans (heap_new _ _ _ (by first | rfl | simp only [World.size_alloc]))))
    have HA := Lib.hid (show W.heap[w.heap.size + 1]? = some (.cells #[.int .i64 a.kind, .int .i64 a.num, .slice aoa a.sub.length capa] 24) by rw [hWd]; exact (Below.heap_alloc _ _ _ (by simp only [World.size_alloc]; omega)).trans (heap_new _ _ _ (by first | rfl | simp only [World.size_alloc])))
    have HZ := Lib.hid (show W.heap[w.heap.size + 1 + 1]? = some (.cells #[.int .i64 0, .int .i64 0, .slice none 0 0, .bool false] 78) by rw [hWd]; exact heap_new _ _ _ (by first | rfl | simp only [World.size_alloc]))
    have HWD := Lib.hid hWd
    clear hWd
    by_cases h1 : k = 1
    · subst h1
      have hl0 := HGV.out rfl
      subst hl0
      replace HWD : Hid (W = ((w.alloc (.cells #[.int .i64 1, .int .i64 x, .slice ao 0 cap] 24)).alloc (.cells #[.int .i64 a.kind, .int .i64 a.num, .slice aoa a.sub.length capa] 24)).alloc (.cells #[.int .i64 0, .int .i64 0, .slice none 0 0, .bool false] 78)) := HWD.out
      replace HQ : Hid (W.heap[w.heap.size]? = some (.cells #[.int .i64 1, .int .i64 x, .slice ao 0 cap] 24)) := HQ.out
      by_cases hxn : x = m + n
      · have e : mp (Fat a m) (.node 1 x []) n = raise a (m + n) := at_eq hm.1 (by omega)
        rw [e]; clear e
        have hq : (x == m + n) = true := by simp [hxn]
        have HCON := Lib.hid (refRaised_w _ a (m + n) W (RA.out.on HBEL.out) hsh ⟨by omega, by omega⟩)
        have HXN := Lib.hid hxn
        clear hxn
        go_enter Try.func97, Try.ntmps97
        go_wp2_with fail
        rw [← HWD.out]
        refine (HCON.out).mono ?_
        rintro e w1 ⟨k1, n1, ao1, m1, c1, lg1, y1, rfl, hb, hr1, hok1⟩
        obtain ⟨z0, z1, z2, z3, zf, -⟩ := four ((hb.block _ (blt HZ.out)).trans HZ.out)
        have HB1 := Lib.hid (HBEL.out.trans (hb.mono HBEL.out.size))
        have HR1 := Lib.hid (hr1.keep (P' := fun q => w.heap.size + 1 + 1 < q ∧ q < w1.heap.size) (fun q hq => ⟨by have := hq.1; have := HSZ.out; omega, hq.2⟩) fun _ _ => rfl)
        have HOK1 := Lib.hid hok1
        clear hb hr1 hok1
        go_wp2_with fail
        exact bodyPost_ret (v := .agg #[.int .i64 k1, .int .i64 n1, .slice ao1 m1 c1, .bool lg1]) (by simp [results, Try.results97, go_sem, z0, z1, z2, z3]) rfl
          ⟨_, _, _, _, _, _, _, rfl, ((((HB1.out.setCell (by simp only []; omega) _).setCell (by simp only []; omega) _).setCell (by simp only []; omega) _).setCell (by simp only []; omega) _), HR1.out.keep (fun q hq => ⟨by omega, by simp only [World.setCell, Array.size_modify]; exact hq.2⟩) fun q hq => set4_off _ _ _ _ _ _ q (by omega), HOK1.out⟩
      · have hq : (x == m + n) = false := by simp [hxn]
        by_cases hgt : m + n < x
        · have e : mp (Fat a m) (.node 1 x []) n = .node 1 (x - 1) [] := at_gt hm.1 (by omega)
          rw [e]; clear e
          go_enter Try.func97, Try.ntmps97
          go_wp2_with fail
          rw [← HWD.out]
          refine (Leaf_w _ _ _).mono ?_
          rintro e w1 ⟨rfl, hb⟩
          obtain ⟨z0, z1, z2, z3, zf, -⟩ := four ((hb.block _ (blt HZ.out)).trans HZ.out)
          have HB1 := Lib.hid (HBEL.out.trans (hb.mono HBEL.out.size))
          clear hb
          go_wp2_with fail
          exact bodyPost_ret (v := .agg #[.int .i64 1, .int .i64 (x - 1), .slice none 0 0, .bool false]) (by simp [results, Try.results97, go_sem, z0, z1, z2, z3]) rfl
            ⟨_, _, _, _, _, _, _, rfl, ((((HB1.out.setCell (by simp only []; omega) _).setCell (by simp only []; omega) _).setCell (by simp only []; omega) _).setCell (by simp only []; omega) _), Rd.leaf _ _ _ _ _ _ (Nat.zero_le _) (by omega) (by omega), fun _ => rfl, fun e => (by cases e)⟩
        · have e : mp (Fat a m) (.node 1 x []) n = .node 1 x [] := at_lt (by omega)
          rw [e]; clear e
          go_enter Try.func97, Try.ntmps97
          go_wp2_with fail
          exact bodyPost_ret (v := .agg #[.int .i64 1, .int .i64 x, .slice ao 0 cap, .bool false]) (by simp [results, Try.results97, go_sem]) rfl
            ⟨_, _, _, _, _, _, _, rfl, ((((Below.refl _ _).alloc (Nat.le_refl _) _).alloc (by simp) _).alloc (by simp; omega) _), Rd.leaf _ _ _ _ _ _ HCM.out (by omega) (by omega), fun _ => rfl, fun e => (by cases e)⟩
    have h1b : (k == 1) = false := by simp [h1]
    have e : mp (Fat a m) (.node k x l) n = .node k x (mpL (Fat a m) k l n 0) := by simp [mp, Fat, h1]
    rw [e]; clear e
    go_enter Try.func97, Try.ntmps97
    go_wp2_with fail
    rw [← HWD.out]
    have hM0 := MadeG.empty 4 78 GtC (w.heap.size + 1 + 1 < ·) (w.heap.size + 1 + 1 + 1) W (by have := HSZ.out; omega) (α := Tm × Bool)
    rw [show W.heap.size = w.heap.size + 1 + 1 + 1 from HSZ.out] at hM0
    have HM0 := Lib.hid hM0
    clear hM0
    have HBL0 := Lib.hid (alloc_bel W (.cells #[] 78))
    go_loopw [7, 8] (fun vs i wr => ∃ (j : Nat) (gs : List (Tm × Bool)), i = .int .i64 j ∧ j ≤ l.length ∧ gs.length = j ∧ MadeG 4 78 GtC (w.heap.size + 1 + 1 < ·) (w.heap.size + 1 + 1 + 1) wr vs gs ∧ Below (w.heap.size + 1 + 1 + 1) W wr ∧ (∀ q (h : q < gs.length) (h2 : q < (mpL (Fat a m) k l n 0).length), OkG (mpL (Fat a m) k l n 0)[q] gs[q].1 gs[q].2)) (fun _ i _ => l.length - (intOf i).toNat)
    case atStart => exact ⟨0, [], by go_num, Nat.zero_le _, rfl, HM0.out, HBL0.out.mono (by have := HSZ.out; omega), fun q h => absurd h (Nat.not_lt_zero _)⟩
    case round =>
      obtain ⟨j, gs, rfl, hj, hgl, hM, hb, hok⟩ := hrel
      have hbw := HBEL.out.trans (hb.mono (by omega))
      have hBl := Nat.lt_of_lt_of_le (show w.heap.size < W.heap.size by have := HSZ.out; omega) hb.size
      have HBr := Lib.hid ((hb.block w.heap.size (by omega)).trans HQ.out)
      have HZr := Lib.hid ((hb.block (w.heap.size + 1 + 1) (by omega)).trans HZ.out)
      have HAr := Lib.hid ((hb.block (w.heap.size + 1) (by omega)).trans HA.out)
      obtain ⟨i0, i1, i2, -, -⟩ := three HBr.out
      have hszr : w.heap.size + 1 + 1 + 1 ≤ wr.heap.size := by have := hb.size; have := HSZ.out; omega
      have HB := Lib.hid hb
      have HBW := Lib.hid hbw
      have HM := Lib.hid hM
      have HOKS := Lib.hid hok
      clear hb hbw hM hok
      by_cases hjl : j < l.length
      · obtain ⟨b, off, k2, n2, ao2, m2, cap2, rfl, hP, h0, h1, h2, hrd⟩ := HE.out j hjl
        have e0 := (HBW.out.cell (p := ⟨b, off + j * 3, none⟩) hP).trans h0
        have e1 := (HBW.out.cell (p := ⟨b, off + j * 3 + 1, none⟩) hP).trans h1
        have e2 := (HBW.out.cell (p := ⟨b, off + j * 3 + 2, none⟩) hP).trans h2
        have hbk := (bn_le k j)
        have hnj : (0 : Int) ≤ (j : Int) := Int.natCast_nonneg _
        have hji : (j : Int) < (l.length : Int) := by omega
        obtain ⟨a0, a1, a2, -, -⟩ := three HAr.out
        clear h0 h1 h2
        go_wp2_with fail
        have hdr : Below wr.heap.size wr wr.drew := below_drewN (Below.refl _ _) 1
        refine wp_region_order [(0, true), (1, true), (2, true), (3, true), (4, true), (5, true), (6, true), (7, true), (8, true), (9, true), (10, false), (11, true), (12, false), (13, false), (14, false), (15, false)]
          (fun w' => (w'.cell? ⟨w.heap.size, 0, none⟩ = some (.int .i64 k) ∧ w'.cell? ⟨w.heap.size, 1, none⟩ = some (.int .i64 x) ∧ w'.cell? ⟨w.heap.size, 2, none⟩ = some (.slice (some ⟨b, off, none⟩) l.length cap)) ∧ (w'.cell? ⟨b, off + j * 3, none⟩ = some (.int .i64 k2) ∧ w'.cell? ⟨b, off + j * 3 + 1, none⟩ = some (.int .i64 n2) ∧ w'.cell? ⟨b, off + j * 3 + 2, none⟩ = some (.slice ao2 m2 cap2)) ∧ (w'.cell? ⟨w.heap.size + 1, 0, none⟩ = some (.int .i64 a.kind) ∧ w'.cell? ⟨w.heap.size + 1, 1, none⟩ = some (.int .i64 a.num) ∧ w'.cell? ⟨w.heap.size + 1, 2, none⟩ = some (.slice aoa a.sub.length capa)))
          (by kernel_rfl) (by kernel_rfl) ⟨⟨i0, i1, i2⟩, ⟨e0, e1, e2⟩, ⟨a0, a1, a2⟩⟩ (fun hHeld => ?_)
        simp only [pickT, List.getElem?_cons_zero, List.getElem?_cons_succ, Option.getD_some]
        repeat (refine wpT_take (v := ?_) (by rfl) (fun w' hSw => ?_) ?_; rotate_left; (go_simp; with_reducible rfl); simp only [Act.put, List.setIfInBounds_toArray, List.set_cons_zero, List.set_cons_succ])
        refine wpT_do (fun K hK => ?_)
        go_simp
        go_at_call 114
        refine (Beneath_w k x _ _ _ _ rfl j _).mono ?_
        rintro e w3 ⟨rfl, hb3⟩
        replace hb3 := hdr.trans hb3
        have S3 := (show (w3.cell? ⟨w.heap.size, 0, none⟩ = some (.int .i64 k) ∧ w3.cell? ⟨w.heap.size, 1, none⟩ = some (.int .i64 x) ∧ w3.cell? ⟨w.heap.size, 2, none⟩ = some (.slice (some ⟨b, off, none⟩) l.length cap)) ∧ (w3.cell? ⟨b, off + j * 3, none⟩ = some (.int .i64 k2) ∧ w3.cell? ⟨b, off + j * 3 + 1, none⟩ = some (.int .i64 n2) ∧ w3.cell? ⟨b, off + j * 3 + 2, none⟩ = some (.slice ao2 m2 cap2)) ∧ (w3.cell? ⟨w.heap.size + 1, 0, none⟩ = some (.int .i64 a.kind) ∧ w3.cell? ⟨w.heap.size + 1, 1, none⟩ = some (.int .i64 a.num) ∧ w3.cell? ⟨w.heap.size + 1, 2, none⟩ = some (.slice aoa a.sub.length capa)) from ⟨⟨(hb3.cell (p := ⟨w.heap.size, 0, none⟩) (by show w.heap.size < _; omega)).trans i0, (hb3.cell (p := ⟨w.heap.size, 1, none⟩) (by show w.heap.size < _; omega)).trans i1, (hb3.cell (p := ⟨w.heap.size, 2, none⟩) (by show w.heap.size < _; omega)).trans i2⟩, ⟨(hb3.cell (p := ⟨b, off + j * 3, none⟩) (by show b < _; omega)).trans e0, (hb3.cell (p := ⟨b, off + j * 3 + 1, none⟩) (by show b < _; omega)).trans e1, (hb3.cell (p := ⟨b, off + j * 3 + 2, none⟩) (by show b < _; omega)).trans e2⟩, ⟨(hb3.cell (p := ⟨w.heap.size + 1, 0, none⟩) (by show w.heap.size + 1 < _; omega)).trans a0, (hb3.cell (p := ⟨w.heap.size + 1, 1, none⟩) (by show w.heap.size + 1 < _; omega)).trans a1, (hb3.cell (p := ⟨w.heap.size + 1, 2, none⟩) (by show w.heap.size + 1 < _; omega)).trans a2⟩⟩)
        have hM3 := HM.out.below keepsC_gt hb3
        have hbw3 := HBW.out.trans (hb3.mono (by omega))
        have hsz3 : w.heap.size + 1 + 1 + 1 ≤ w3.heap.size := by have := hb3.size; omega
        have hcon := IH.out _ l[j] (n + bn k j) w3 (RdN.keep (P := (· < w.heap.size)) (w' := w3) (fun b hb' => Nat.lt_of_lt_of_le hb' hbw3.size) (fun b hb' => hbw3.block b hb') d _ _ hrd) (HG.out j hjl) (by omega) (by have := HN.out; omega) (RA.out.keep (fun b hb' => Nat.lt_of_lt_of_le hb' hbw3.size) (fun b hb' => hbw3.block b hb'))
        have HM3 := Lib.hid hM3
        have HB3 := Lib.hid (HB.out.trans (hb3.mono (by omega)))
        have HCON := Lib.hid hcon
        clear hb3 hdr i0 i1 i2 e0 e1 e2 a0 a1 a2 hM3 hbw3 hcon hrd
        refine hK.out _ _ S3 (fun hHeld => ?_)
        clear hK K S3
        have hwr : IntKind.i64.wrap (m + n + bn k j) = m + (n + bn k j) := by rw [IntWalk.i64_in _ (by have := HN.out; omega)]; omega
        repeat (refine wpT_take (v := ?_) (by rfl) (fun w' hSw => ?_) ?_; rotate_left; (go_simp; with_reducible rfl); simp only [Act.put, List.setIfInBounds_toArray, List.set_cons_zero, List.set_cons_succ])
        clear hwr
        refine wpT_do (fun K hK => ?_)
        go_simp
        go_at_call 97
        skip
        refine HCON.out.mono ?_
        rintro e w4 ⟨k4, n4, ao4, m4, c4, lg4, y4, rfl, hb4, hr4, hok4⟩
        obtain ⟨⟨i0, i1, i2⟩, ⟨e0, e1, e2⟩, ⟨a0, a1, a2⟩⟩ := hHeld
        have HR4 := Lib.hid hr4
        have HB4 := Lib.hid hb4
        have HOK4 := Lib.hid hok4
        have S4 := (show (w4.cell? ⟨w.heap.size, 0, none⟩ = some (.int .i64 k) ∧ w4.cell? ⟨w.heap.size, 1, none⟩ = some (.int .i64 x) ∧ w4.cell? ⟨w.heap.size, 2, none⟩ = some (.slice (some ⟨b, off, none⟩) l.length cap)) ∧ (w4.cell? ⟨b, off + j * 3, none⟩ = some (.int .i64 k2) ∧ w4.cell? ⟨b, off + j * 3 + 1, none⟩ = some (.int .i64 n2) ∧ w4.cell? ⟨b, off + j * 3 + 2, none⟩ = some (.slice ao2 m2 cap2)) ∧ (w4.cell? ⟨w.heap.size + 1, 0, none⟩ = some (.int .i64 a.kind) ∧ w4.cell? ⟨w.heap.size + 1, 1, none⟩ = some (.int .i64 a.num) ∧ w4.cell? ⟨w.heap.size + 1, 2, none⟩ = some (.slice aoa a.sub.length capa)) from ⟨⟨(hb4.cell (p := ⟨w.heap.size, 0, none⟩) (by show w.heap.size < _; omega)).trans i0, (hb4.cell (p := ⟨w.heap.size, 1, none⟩) (by show w.heap.size < _; omega)).trans i1, (hb4.cell (p := ⟨w.heap.size, 2, none⟩) (by show w.heap.size < _; omega)).trans i2⟩, ⟨(hb4.cell (p := ⟨b, off + j * 3, none⟩) (by show b < _; omega)).trans e0, (hb4.cell (p := ⟨b, off + j * 3 + 1, none⟩) (by show b < _; omega)).trans e1, (hb4.cell (p := ⟨b, off + j * 3 + 2, none⟩) (by show b < _; omega)).trans e2⟩, ⟨(hb4.cell (p := ⟨w.heap.size + 1, 0, none⟩) (by show w.heap.size + 1 < _; omega)).trans a0, (hb4.cell (p := ⟨w.heap.size + 1, 1, none⟩) (by show w.heap.size + 1 < _; omega)).trans a1, (hb4.cell (p := ⟨w.heap.size + 1, 2, none⟩) (by show w.heap.size + 1 < _; omega)).trans a2⟩⟩)
        refine hK.out _ _ S4 (fun hHeld => ?_)
        clear hK K S4 hr4 hb4 hok4
        refine wpT_do (fun K hK => ?_)
        go_simp
        refine hK.out _ _ (by go_keep) (fun hHeld => ?_)
        clear hK K
        obtain ⟨i78, hi78, hy1, hy2, hy3⟩ := info_parts info78
        obtain ⟨css, p1, p2, p3⟩ := HM3.out
        have hownB := HM3.out.block
        refine wpT_do (fun K hK => ?_)
        refine step_app_made rfl _ _ 91 rfl (w.heap.size + 1 + 1 + 1) 78 i78 _ 4 48 Try.underlying91 hi78 hy1 hy2 hy3 rfl (by omega) u7 gs.length css.flatten rfl p1 HB4.out hsz3 1 [.int .i64 k4, .int .i64 n4, .slice ao4 m4 c4, .bool lg4] rfl rfl (one4 _ _ _ _ _ _) (by unfold maxLen; omega) (by omega) ?_
        intro g5 cap5 w5 ha hk5
        have hal := alloc_bel w4 (.cells #[.int .i64 k4, .int .i64 n4, .slice ao4 m4 c4, .bool lg4] 78)
        have hb5 := HB4.out.trans (hal.mono HB4.out.size)
        have hM5 : MadeG 4 78 GtC (w.heap.size + 1 + 1 < ·) (w.heap.size + 1 + 1 + 1) w5 (.slice (some ⟨g5, 0, none⟩) (gs.length + 1) cap5) (gs ++ [(y4, lg4)]) := by
          refine MadeG.app keepsC_gt (W := w4.alloc (.cells #[.int .i64 k4, .int .i64 n4, .slice ao4 m4 c4, .bool lg4] 78)) (css := css) (new := [[.int .i64 k4, .int .i64 n4, .slice ao4 m4 c4, .bool lg4]]) (fun i hi => ?_) p2 rfl (by simpa using ha) rfl (fun i hi => ?_)
          · obtain ⟨cs, r1, r2, r3⟩ := p3 i hi
            exact ⟨cs, r1, r2, keepsC_gt _ _ _ _ _ _ r3 (fun q hq => ⟨hq.1, Nat.lt_of_lt_of_le hq.2.1 hb5.size, hq.2.2⟩) fun q hq => hb5.block q hq.2.1⟩
          · obtain rfl : i = 0 := by simpa using hi
            refine ⟨_, rfl, rfl, k4, n4, ao4, m4, c4, rfl, HR4.out.keep (fun q hq => ⟨fun e => ?_, ?_, ?_⟩) fun q hq => hal.block q hq.2⟩
            · have := (hownB _ e).2; have := hq.1; omega
            · exact Nat.lt_of_lt_of_le hq.2 hal.size
            · have := hq.1; show w.heap.size + 1 + 1 < q; omega
        have hB5 : Below (w.heap.size + 1 + 1 + 1) W w5 := (HB3.out.trans (hb5.mono hsz3)).trans (ha.below (by have := hb5.size; omega) fun q hq => (hownB q hq).1)
        have kB := hk5 w.heap.size (by omega) (fun e => by have := (hownB _ e).1; omega)
        have kb := hk5 b (by omega) (fun e => by have := (hownB _ e).1; omega)
        have kA := hk5 (w.heap.size + 1) (by omega) (fun e => by have := (hownB _ e).1; omega)
        have S5 := (show (w5.cell? ⟨w.heap.size, 0, none⟩ = some (.int .i64 k) ∧ w5.cell? ⟨w.heap.size, 1, none⟩ = some (.int .i64 x) ∧ w5.cell? ⟨w.heap.size, 2, none⟩ = some (.slice (some ⟨b, off, none⟩) l.length cap)) ∧ (w5.cell? ⟨b, off + j * 3, none⟩ = some (.int .i64 k2) ∧ w5.cell? ⟨b, off + j * 3 + 1, none⟩ = some (.int .i64 n2) ∧ w5.cell? ⟨b, off + j * 3 + 2, none⟩ = some (.slice ao2 m2 cap2)) ∧ (w5.cell? ⟨w.heap.size + 1, 0, none⟩ = some (.int .i64 a.kind) ∧ w5.cell? ⟨w.heap.size + 1, 1, none⟩ = some (.int .i64 a.num) ∧ w5.cell? ⟨w.heap.size + 1, 2, none⟩ = some (.slice aoa a.sub.length capa)) from ⟨⟨(cell_keep (a := ⟨w.heap.size, 0, none⟩) kB).trans i0, (cell_keep (a := ⟨w.heap.size, 1, none⟩) kB).trans i1, (cell_keep (a := ⟨w.heap.size, 2, none⟩) kB).trans i2⟩, ⟨(cell_keep (a := ⟨b, off + j * 3, none⟩) kb).trans e0, (cell_keep (a := ⟨b, off + j * 3 + 1, none⟩) kb).trans e1, (cell_keep (a := ⟨b, off + j * 3 + 2, none⟩) kb).trans e2⟩, ⟨(cell_keep (a := ⟨w.heap.size + 1, 0, none⟩) kA).trans a0, (cell_keep (a := ⟨w.heap.size + 1, 1, none⟩) kA).trans a1, (cell_keep (a := ⟨w.heap.size + 1, 2, none⟩) kA).trans a2⟩⟩)
        rw [hgl] at hM5
        have HM5 := Lib.hid hM5
        have HB5 := Lib.hid hB5
        clear hM5 hB5 kB kb kA ha hk5 p1 p2 p3 hal hb5 hownB hi78 hy1 hy2 hy3 i0 i1 i2 e0 e1 e2 a0 a1 a2
        refine hK.out _ _ S5 (fun hHeld => ?_)
        clear hK K S5
        refine wpT_last (fun K hK => ?_)
        go_simp
        refine hK.out _ _ ?_
        clear hK K hHeld
        go_wp2_with fail
        go_roundw
        case rel =>
          refine ⟨j + 1, gs ++ [(y4, lg4)], by go_num, by omega, by simp [hgl], HM5.out, HB5.out, fun q h h2 => ?_⟩
          by_cases hq : q < gs.length
          · rw [List.getElem_append_left hq]
            exact HOKS.out q hq h2
          · have hqj : q = j := by simp at h; omega
            subst hqj
            rw [List.getElem_append_right (by omega), mpL_get _ _ _ _ _ _ hjl]
            simp only [hgl, Nat.sub_self, List.getElem_cons_zero, Nat.zero_add]
            exact HOK4.out
        case measure =>
          have q : (intOf (.int .i64 ((j : Int) + 1))).toNat = j + 1 := by show ((j : Int) + 1).toNat = _; omega
          have q2 : (intOf (.int .i64 (j : Int))).toNat = j := by show ((j : Int)).toNat = _; omega
          rw [q, q2]; omega
      · have hml : (mpL (Fat a m) k l n 0).length = gs.length := by rw [mpL_len]; omega
        have hcon := subs_w (fun q => w.heap.size + 1 + 1 < q ∧ q < wr.heap.size) k x ao l.length cap u7 gs (mpL (Fat a m) k l n 0) wr (fun q hq => hq.2) (HM.out.gots (by omega)) hml (by omega) (fun i h => HOKS.out i h (by omega)) HK.out HX.out
        have HCON := Lib.hid hcon
        clear hcon
        go_wp2_with fail
        refine HCON.out.mono ?_
        rintro e w6 ⟨k6, n6, ao6, m6, c6, lg6, y6, rfl, hb6, hr6, hok6⟩
        obtain ⟨z0, z1, z2, z3, zf, -⟩ := four ((hb6.block _ (by omega)).trans HZr.out)
        have HB6 := Lib.hid (HBW.out.trans (hb6.mono HBW.out.size))
        have HR6 := Lib.hid (hr6.keep (P' := fun q => w.heap.size + 1 + 1 < q ∧ q < w6.heap.size) (fun q hq => by
          rcases hq with h | h
          · exact ⟨h.1, Nat.lt_of_lt_of_le h.2 hb6.size⟩
          · exact ⟨by have := h.1; omega, h.2⟩) fun _ _ => rfl)
        have HOK6 := Lib.hid hok6
        clear hb6 hr6 hok6
        go_wp2_with fail
        exact bodyPost_ret (v := .agg #[.int .i64 k6, .int .i64 n6, .slice ao6 m6 c6, .bool lg6]) (by simp [results, Try.results97, go_sem, z0, z1, z2, z3]) rfl
          ⟨_, _, _, _, _, _, _, rfl, ((((HB6.out.setCell (by simp only []; omega) _).setCell (by simp only []; omega) _).setCell (by simp only []; omega) _).setCell (by simp only []; omega) _), HR6.out.keep (fun q hq => ⟨by omega, by simp only [World.setCell, Array.size_modify]; exact hq.2⟩) fun q hq => set4_off _ _ _ _ _ _ q (by omega), HOK6.out⟩
end Go.Proofs.Ythjlfjaciigfiaa
namespace Go.Proofs.Ythjlfjaciigfiaa
open Go.RowKit
set_option linter.unusedVariables false
set_option linter.unusedSimpArgs false

set_option maxRecDepth 100000 in
set_option maxHeartbeats 4000000 in
theorem refnamed_w (a : Tm) (va : Value) (nm : Int) (hsh : Shp a = true) : ∀ (d : Nat) (v : Value) (t : Tm) (n : Int) (w : World), RdN (· < w.heap.size) w d v t → gd t = true → 0 ≤ n → n + d ≤ 1048576 → Rd (· < w.heap.size) w va a →
    Calls Try.prog 104 #[v, va, .int .i64 nm, .int .i64 n] w (AnsG w (OkG (mp (Fnm a nm) t n))) := by
  intro d
  induction d with
  | zero => intro v t n w hr; exact absurd hr (fun h => h)
  | succ d ih =>
    rintro v ⟨k, x, l⟩ n w hr hg hn0 hn1 hra
    have RA := Lib.hid hra
    obtain ⟨aoa, capa, hva⟩ := hra.shape
    subst hva
    clear hra
    have hll := gd_len hg
    have hgs := gd_sub hg
    obtain ⟨hk1, hk8, hx0, hx1⟩ := gd_num hg
    have hgv : k = 1 → l = [] := fun e => by subst e; exact gd_var hg
    have hgv8 : k = 8 → l = [] := fun e => by subst e; exact gd_free hg
    have hcm0 := hr.cap
    obtain ⟨ao, cap, rfl, hlm, hk, hx, he⟩ := hr.open
    have hcm : cap ≤ maxLen := hcm0 _ _ rfl
    clear hr hcm0
    have IH := Lib.hid ih
    have HE := Lib.hid he
    have HG := Lib.hid hgs
    have HK := Lib.hid hk
    have HX := Lib.hid hx
    have HCM := Lib.hid hcm
    have HGV := Lib.hid hgv
    have HGV8 := Lib.hid hgv8
    have HN := Lib.hid (And.intro hn0 hn1)
    clear ih he hk hx hgs hg hcm hgv hgv8
    obtain ⟨W, hWd⟩ : ∃ W, W = ((w.alloc (.cells #[.int .i64 k, .int .i64 x, .slice ao l.length cap] 24)).alloc (.cells #[.int .i64 a.kind, .int .i64 a.num, .slice aoa a.sub.length capa] 24)).alloc (.cells #[.int .i64 0, .int .i64 0, .slice none 0 0, .bool false] 78) := ⟨_, rfl⟩
    have HBEL := Lib.hid (show Below w.heap.size w W by rw [hWd]; exact ((((Below.refl _ _).alloc (Nat.le_refl _) _).alloc (by simp only [World.size_alloc]; omega) _).alloc (by simp only [World.size_alloc]; omega) _))
    have HSZ := Lib.hid (show W.heap.size = w.heap.size + 3 by rw [hWd]; simp only [World.size_alloc])
    have HQ := Lib.hid (show W.heap[w.heap.size]? = some (.cells #[.int .i64 k, .int .i64 x, .slice ao l.length cap] 24) by rw [hWd]; exact (Below.heap_alloc _ _ _ (by simp only [World.size_alloc]; omega)).trans ((Below.heap_alloc _ _ _ (by simp only [World.size_alloc]; omega)).trans (heap_new _ _ _ (by first | rfl | simp only [World.size_alloc]))))
    have HA := Lib.hid (show W.heap[w.heap.size + 1]? = some (.cells #[.int .i64 a.kind, .int .i64 a.num, .slice aoa a.sub.length capa] 24) by rw [hWd]; exact (Below.heap_alloc _ _ _ (by simp only [World.size_alloc]; omega)).trans (heap_new _ _ _ (by first | rfl | simp only [World.size_alloc])))
    have HZ := Lib.hid (show W.heap[w.heap.size + 1 + 1]? = some (.cells #[.int .i64 0, .int .i64 0, .slice none 0 0, .bool false] 78) by rw [hWd]; exact heap_new _ _ _ (by first | rfl | simp only [World.size_alloc]))
    have HWD := Lib.hid hWd
    clear hWd
    by_cases h8 : k = 8 ∧ x = nm
    · obtain ⟨h8, hxm⟩ := h8
      subst h8
      have hl0 := HGV8.out rfl
      subst hl0
      replace HWD : Hid (W = ((w.alloc (.cells #[.int .i64 8, .int .i64 x, .slice ao 0 cap] 24)).alloc (.cells #[.int .i64 a.kind, .int .i64 a.num, .slice aoa a.sub.length capa] 24)).alloc (.cells #[.int .i64 0, .int .i64 0, .slice none 0 0, .bool false] 78)) := HWD.out
      replace HQ : Hid (W.heap[w.heap.size]? = some (.cells #[.int .i64 8, .int .i64 x, .slice ao 0 cap] 24)) := HQ.out
      have e : mp (Fnm a nm) (.node 8 x []) n = raise a n := by simp [mp, Fnm, hxm]
      rw [e]; clear e
      have hq : (x == nm) = true := by simp [hxm]
      have HCON := Lib.hid (refRaised_w _ a n W (RA.out.on HBEL.out) hsh ⟨by omega, by omega⟩)
      have HXN := Lib.hid hxm
      clear hxm
      go_enter Try.func104, Try.ntmps104
      go_wp2_with fail
      rw [← HWD.out]
      refine (HCON.out).mono ?_
      rintro e w1 ⟨k1, n1, ao1, m1, c1, lg1, y1, rfl, hb, hr1, hok1⟩
      obtain ⟨z0, z1, z2, z3, zf, -⟩ := four ((hb.block _ (blt HZ.out)).trans HZ.out)
      have HB1 := Lib.hid (HBEL.out.trans (hb.mono HBEL.out.size))
      have HR1 := Lib.hid (hr1.keep (P' := fun q => w.heap.size + 1 + 1 < q ∧ q < w1.heap.size) (fun q hq => ⟨by have := hq.1; have := HSZ.out; omega, hq.2⟩) fun _ _ => rfl)
      have HOK1 := Lib.hid hok1
      clear hb hr1 hok1
      go_wp2_with fail
      exact bodyPost_ret (v := .agg #[.int .i64 k1, .int .i64 n1, .slice ao1 m1 c1, .bool lg1]) (by simp [results, Try.results104, go_sem, z0, z1, z2, z3]) rfl
        ⟨_, _, _, _, _, _, _, rfl, ((((HB1.out.setCell (by simp only []; omega) _).setCell (by simp only []; omega) _).setCell (by simp only []; omega) _).setCell (by simp only []; omega) _), HR1.out.keep (fun q hq => ⟨by omega, by simp only [World.setCell, Array.size_modify]; exact hq.2⟩) fun q hq => set4_off _ _ _ _ _ _ q (by omega), HOK1.out⟩
    have e : mp (Fnm a nm) (.node k x l) n = .node k x (mpL (Fnm a nm) k l n 0) := by
      have : ¬ (k = 8 ∧ x = nm) := h8
      simp [mp, Fnm, this]
    rw [e]; clear e
    have h88 : (k == 8) = false ∨ ((k == 8) = true ∧ (x == nm) = false) := by
      by_cases q : k = 8
      · exact .inr ⟨by simp [q], by simp; exact fun e => h8 ⟨q, e⟩⟩
      · exact .inl (by simp [q])
    have H8 := Lib.hid h8
    clear h8
    rcases h88 with h88 | ⟨h88, hq3⟩
    all_goals (
      go_enter Try.func104, Try.ntmps104
      go_wp2_with fail
      rw [← HWD.out]
      have hM0 := MadeG.empty 4 78 GtC (w.heap.size + 1 + 1 < ·) (w.heap.size + 1 + 1 + 1) W (by have := HSZ.out; omega) (α := Tm × Bool)
      rw [show W.heap.size = w.heap.size + 1 + 1 + 1 from HSZ.out] at hM0
      have HM0 := Lib.hid hM0
      clear hM0
      have HBL0 := Lib.hid (alloc_bel W (.cells #[] 78))
      go_loopw [9, 10] (fun vs i wr => ∃ (j : Nat) (gs : List (Tm × Bool)), i = .int .i64 j ∧ j ≤ l.length ∧ gs.length = j ∧ MadeG 4 78 GtC (w.heap.size + 1 + 1 < ·) (w.heap.size + 1 + 1 + 1) wr vs gs ∧ Below (w.heap.size + 1 + 1 + 1) W wr ∧ (∀ q (h : q < gs.length) (h2 : q < (mpL (Fnm a nm) k l n 0).length), OkG (mpL (Fnm a nm) k l n 0)[q] gs[q].1 gs[q].2)) (fun _ i _ => l.length - (intOf i).toNat)
      case atStart => exact ⟨0, [], by go_num, Nat.zero_le _, rfl, HM0.out, HBL0.out.mono (by have := HSZ.out; omega), fun q h => absurd h (Nat.not_lt_zero _)⟩
      case round =>
        obtain ⟨j, gs, rfl, hj, hgl, hM, hb, hok⟩ := hrel
        have hbw := HBEL.out.trans (hb.mono (by omega))
        have hBl := Nat.lt_of_lt_of_le (show w.heap.size < W.heap.size by have := HSZ.out; omega) hb.size
        have HBr := Lib.hid ((hb.block w.heap.size (by omega)).trans HQ.out)
        have HZr := Lib.hid ((hb.block (w.heap.size + 1 + 1) (by omega)).trans HZ.out)
        have HAr := Lib.hid ((hb.block (w.heap.size + 1) (by omega)).trans HA.out)
        obtain ⟨i0, i1, i2, -, -⟩ := three HBr.out
        have hszr : w.heap.size + 1 + 1 + 1 ≤ wr.heap.size := by have := hb.size; have := HSZ.out; omega
        have HB := Lib.hid hb
        have HBW := Lib.hid hbw
        have HM := Lib.hid hM
        have HOKS := Lib.hid hok
        clear hb hbw hM hok
        by_cases hjl : j < l.length
        · obtain ⟨b, off, k2, n2, ao2, m2, cap2, rfl, hP, h0, h1, h2, hrd⟩ := HE.out j hjl
          have e0 := (HBW.out.cell (p := ⟨b, off + j * 3, none⟩) hP).trans h0
          have e1 := (HBW.out.cell (p := ⟨b, off + j * 3 + 1, none⟩) hP).trans h1
          have e2 := (HBW.out.cell (p := ⟨b, off + j * 3 + 2, none⟩) hP).trans h2
          have hbk := (bn_le k j)
          have hnj : (0 : Int) ≤ (j : Int) := Int.natCast_nonneg _
          have hji : (j : Int) < (l.length : Int) := by omega
          obtain ⟨a0, a1, a2, -, -⟩ := three HAr.out
          clear h0 h1 h2
          go_wp2_with fail
          have hdr : Below wr.heap.size wr wr.drew := below_drewN (Below.refl _ _) 1
          refine wp_region_order [(0, true), (1, true), (2, true), (3, true), (4, true), (5, true), (6, true), (7, true), (8, true), (9, true), (10, true), (11, false), (12, true), (13, false), (14, false), (15, false), (16, false)]
            (fun w' => (w'.cell? ⟨w.heap.size, 0, none⟩ = some (.int .i64 k) ∧ w'.cell? ⟨w.heap.size, 1, none⟩ = some (.int .i64 x) ∧ w'.cell? ⟨w.heap.size, 2, none⟩ = some (.slice (some ⟨b, off, none⟩) l.length cap)) ∧ (w'.cell? ⟨b, off + j * 3, none⟩ = some (.int .i64 k2) ∧ w'.cell? ⟨b, off + j * 3 + 1, none⟩ = some (.int .i64 n2) ∧ w'.cell? ⟨b, off + j * 3 + 2, none⟩ = some (.slice ao2 m2 cap2)) ∧ (w'.cell? ⟨w.heap.size + 1, 0, none⟩ = some (.int .i64 a.kind) ∧ w'.cell? ⟨w.heap.size + 1, 1, none⟩ = some (.int .i64 a.num) ∧ w'.cell? ⟨w.heap.size + 1, 2, none⟩ = some (.slice aoa a.sub.length capa)))
            (by kernel_rfl) (by kernel_rfl) ⟨⟨i0, i1, i2⟩, ⟨e0, e1, e2⟩, ⟨a0, a1, a2⟩⟩ (fun hHeld => ?_)
          simp only [pickT, List.getElem?_cons_zero, List.getElem?_cons_succ, Option.getD_some]
          repeat (refine wpT_take (v := ?_) (by rfl) (fun w' hSw => ?_) ?_; rotate_left; (go_simp; with_reducible rfl); simp only [Act.put, List.setIfInBounds_toArray, List.set_cons_zero, List.set_cons_succ])
          refine wpT_do (fun K hK => ?_)
          go_simp
          go_at_call 114
          refine (Beneath_w k x _ _ _ _ rfl j _).mono ?_
          rintro e w3 ⟨rfl, hb3⟩
          replace hb3 := hdr.trans hb3
          have S3 := (show (w3.cell? ⟨w.heap.size, 0, none⟩ = some (.int .i64 k) ∧ w3.cell? ⟨w.heap.size, 1, none⟩ = some (.int .i64 x) ∧ w3.cell? ⟨w.heap.size, 2, none⟩ = some (.slice (some ⟨b, off, none⟩) l.length cap)) ∧ (w3.cell? ⟨b, off + j * 3, none⟩ = some (.int .i64 k2) ∧ w3.cell? ⟨b, off + j * 3 + 1, none⟩ = some (.int .i64 n2) ∧ w3.cell? ⟨b, off + j * 3 + 2, none⟩ = some (.slice ao2 m2 cap2)) ∧ (w3.cell? ⟨w.heap.size + 1, 0, none⟩ = some (.int .i64 a.kind) ∧ w3.cell? ⟨w.heap.size + 1, 1, none⟩ = some (.int .i64 a.num) ∧ w3.cell? ⟨w.heap.size + 1, 2, none⟩ = some (.slice aoa a.sub.length capa)) from ⟨⟨(hb3.cell (p := ⟨w.heap.size, 0, none⟩) (by show w.heap.size < _; omega)).trans i0, (hb3.cell (p := ⟨w.heap.size, 1, none⟩) (by show w.heap.size < _; omega)).trans i1, (hb3.cell (p := ⟨w.heap.size, 2, none⟩) (by show w.heap.size < _; omega)).trans i2⟩, ⟨(hb3.cell (p := ⟨b, off + j * 3, none⟩) (by show b < _; omega)).trans e0, (hb3.cell (p := ⟨b, off + j * 3 + 1, none⟩) (by show b < _; omega)).trans e1, (hb3.cell (p := ⟨b, off + j * 3 + 2, none⟩) (by show b < _; omega)).trans e2⟩, ⟨(hb3.cell (p := ⟨w.heap.size + 1, 0, none⟩) (by show w.heap.size + 1 < _; omega)).trans a0, (hb3.cell (p := ⟨w.heap.size + 1, 1, none⟩) (by show w.heap.size + 1 < _; omega)).trans a1, (hb3.cell (p := ⟨w.heap.size + 1, 2, none⟩) (by show w.heap.size + 1 < _; omega)).trans a2⟩⟩)
          have hM3 := HM.out.below keepsC_gt hb3
          have hbw3 := HBW.out.trans (hb3.mono (by omega))
          have hsz3 : w.heap.size + 1 + 1 + 1 ≤ w3.heap.size := by have := hb3.size; omega
          have hcon := IH.out _ l[j] (n + bn k j) w3 (RdN.keep (P := (· < w.heap.size)) (w' := w3) (fun b hb' => Nat.lt_of_lt_of_le hb' hbw3.size) (fun b hb' => hbw3.block b hb') d _ _ hrd) (HG.out j hjl) (by omega) (by have := HN.out; omega) (RA.out.keep (fun b hb' => Nat.lt_of_lt_of_le hb' hbw3.size) (fun b hb' => hbw3.block b hb'))
          have HM3 := Lib.hid hM3
          have HB3 := Lib.hid (HB.out.trans (hb3.mono (by omega)))
          have HCON := Lib.hid hcon
          clear hb3 hdr i0 i1 i2 e0 e1 e2 a0 a1 a2 hM3 hbw3 hcon hrd
          refine hK.out _ _ S3 (fun hHeld => ?_)
          clear hK K S3
          have hwr : IntKind.i64.wrap (n + bn k j) = n + bn k j := IntWalk.i64_in _ (by have := HN.out; omega)
          repeat (refine wpT_take (v := ?_) (by rfl) (fun w' hSw => ?_) ?_; rotate_left; (go_simp; with_reducible rfl); simp only [Act.put, List.setIfInBounds_toArray, List.set_cons_zero, List.set_cons_succ])
          clear hwr
          refine wpT_do (fun K hK => ?_)
          go_simp
          go_at_call 104
          skip
          refine HCON.out.mono ?_
          rintro e w4 ⟨k4, n4, ao4, m4, c4, lg4, y4, rfl, hb4, hr4, hok4⟩
          obtain ⟨⟨i0, i1, i2⟩, ⟨e0, e1, e2⟩, ⟨a0, a1, a2⟩⟩ := hHeld
          have HR4 := Lib.hid hr4
          have HB4 := Lib.hid hb4
          have HOK4 := Lib.hid hok4
          have S4 := (show (w4.cell? ⟨w.heap.size, 0, none⟩ = some (.int .i64 k) ∧ w4.cell? ⟨w.heap.size, 1, none⟩ = some (.int .i64 x) ∧ w4.cell? ⟨w.heap.size, 2, none⟩ = some (.slice (some ⟨b, off, none⟩) l.length cap)) ∧ (w4.cell? ⟨b, off + j * 3, none⟩ = some (.int .i64 k2) ∧ w4.cell? ⟨b, off + j * 3 + 1, none⟩ = some (.int .i64 n2) ∧ w4.cell? ⟨b, off + j * 3 + 2, none⟩ = some (.slice ao2 m2 cap2)) ∧ (w4.cell? ⟨w.heap.size + 1, 0, none⟩ = some (.int .i64 a.kind) ∧ w4.cell? ⟨w.heap.size + 1, 1, none⟩ = some (.int .i64 a.num) ∧ w4.cell? ⟨w.heap.size + 1, 2, none⟩ = some (.slice aoa a.sub.length capa)) from ⟨⟨(hb4.cell (p := ⟨w.heap.size, 0, none⟩) (by show w.heap.size < _; omega)).trans i0, (hb4.cell (p := ⟨w.heap.size, 1, none⟩) (by show w.heap.size < _; omega)).trans i1, (hb4.cell (p := ⟨w.heap.size, 2, none⟩) (by show w.heap.size < _; omega)).trans i2⟩, ⟨(hb4.cell (p := ⟨b, off + j * 3, none⟩) (by show b < _; omega)).trans e0, (hb4.cell (p := ⟨b, off + j * 3 + 1, none⟩) (by show b < _; omega)).trans e1, (hb4.cell (p := ⟨b, off + j * 3 + 2, none⟩) (by show b < _; omega)).trans e2⟩, ⟨(hb4.cell (p := ⟨w.heap.size + 1, 0, none⟩) (by show w.heap.size + 1 < _; omega)).trans a0, (hb4.cell (p := ⟨w.heap.size + 1, 1, none⟩) (by show w.heap.size + 1 < _; omega)).trans a1, (hb4.cell (p := ⟨w.heap.size + 1, 2, none⟩) (by show w.heap.size + 1 < _; omega)).trans a2⟩⟩)
          refine hK.out _ _ S4 (fun hHeld => ?_)
          clear hK K S4 hr4 hb4 hok4
          refine wpT_do (fun K hK => ?_)
          go_simp
          refine hK.out _ _ (by go_keep) (fun hHeld => ?_)
          clear hK K
          obtain ⟨i78, hi78, hy1, hy2, hy3⟩ := info_parts info78
          obtain ⟨css, p1, p2, p3⟩ := HM3.out
          have hownB := HM3.out.block
          refine wpT_do (fun K hK => ?_)
          refine step_app_made rfl _ _ 91 rfl (w.heap.size + 1 + 1 + 1) 78 i78 _ 4 48 Try.underlying91 hi78 hy1 hy2 hy3 rfl (by omega) u9 gs.length css.flatten rfl p1 HB4.out hsz3 1 [.int .i64 k4, .int .i64 n4, .slice ao4 m4 c4, .bool lg4] rfl rfl (one4 _ _ _ _ _ _) (by unfold maxLen; omega) (by omega) ?_
          intro g5 cap5 w5 ha hk5
          have hal := alloc_bel w4 (.cells #[.int .i64 k4, .int .i64 n4, .slice ao4 m4 c4, .bool lg4] 78)
          have hb5 := HB4.out.trans (hal.mono HB4.out.size)
          have hM5 : MadeG 4 78 GtC (w.heap.size + 1 + 1 < ·) (w.heap.size + 1 + 1 + 1) w5 (.slice (some ⟨g5, 0, none⟩) (gs.length + 1) cap5) (gs ++ [(y4, lg4)]) := by
            refine MadeG.app keepsC_gt (W := w4.alloc (.cells #[.int .i64 k4, .int .i64 n4, .slice ao4 m4 c4, .bool lg4] 78)) (css := css) (new := [[.int .i64 k4, .int .i64 n4, .slice ao4 m4 c4, .bool lg4]]) (fun i hi => ?_) p2 rfl (by simpa using ha) rfl (fun i hi => ?_)
            · obtain ⟨cs, r1, r2, r3⟩ := p3 i hi
              exact ⟨cs, r1, r2, keepsC_gt _ _ _ _ _ _ r3 (fun q hq => ⟨hq.1, Nat.lt_of_lt_of_le hq.2.1 hb5.size, hq.2.2⟩) fun q hq => hb5.block q hq.2.1⟩
            · obtain rfl : i = 0 := by simpa using hi
              refine ⟨_, rfl, rfl, k4, n4, ao4, m4, c4, rfl, HR4.out.keep (fun q hq => ⟨fun e => ?_, ?_, ?_⟩) fun q hq => hal.block q hq.2⟩
              · have := (hownB _ e).2; have := hq.1; omega
              · exact Nat.lt_of_lt_of_le hq.2 hal.size
              · have := hq.1; show w.heap.size + 1 + 1 < q; omega
          have hB5 : Below (w.heap.size + 1 + 1 + 1) W w5 := (HB3.out.trans (hb5.mono hsz3)).trans (ha.below (by have := hb5.size; omega) fun q hq => (hownB q hq).1)
          have kB := hk5 w.heap.size (by omega) (fun e => by have := (hownB _ e).1; omega)
          have kb := hk5 b (by omega) (fun e => by have := (hownB _ e).1; omega)
          have kA := hk5 (w.heap.size + 1) (by omega) (fun e => by have := (hownB _ e).1; omega)
          have S5 := (show (w5.cell? ⟨w.heap.size, 0, none⟩ = some (.int .i64 k) ∧ w5.cell? ⟨w.heap.size, 1, none⟩ = some (.int .i64 x) ∧ w5.cell? ⟨w.heap.size, 2, none⟩ = some (.slice (some ⟨b, off, none⟩) l.length cap)) ∧ (w5.cell? ⟨b, off + j * 3, none⟩ = some (.int .i64 k2) ∧ w5.cell? ⟨b, off + j * 3 + 1, none⟩ = some (.int .i64 n2) ∧ w5.cell? ⟨b, off + j * 3 + 2, none⟩ = some (.slice ao2 m2 cap2)) ∧ (w5.cell? ⟨w.heap.size + 1, 0, none⟩ = some (.int .i64 a.kind) ∧ w5.cell? ⟨w.heap.size + 1, 1, none⟩ = some (.int .i64 a.num) ∧ w5.cell? ⟨w.heap.size + 1, 2, none⟩ = some (.slice aoa a.sub.length capa)) from ⟨⟨(cell_keep (a := ⟨w.heap.size, 0, none⟩) kB).trans i0, (cell_keep (a := ⟨w.heap.size, 1, none⟩) kB).trans i1, (cell_keep (a := ⟨w.heap.size, 2, none⟩) kB).trans i2⟩, ⟨(cell_keep (a := ⟨b, off + j * 3, none⟩) kb).trans e0, (cell_keep (a := ⟨b, off + j * 3 + 1, none⟩) kb).trans e1, (cell_keep (a := ⟨b, off + j * 3 + 2, none⟩) kb).trans e2⟩, ⟨(cell_keep (a := ⟨w.heap.size + 1, 0, none⟩) kA).trans a0, (cell_keep (a := ⟨w.heap.size + 1, 1, none⟩) kA).trans a1, (cell_keep (a := ⟨w.heap.size + 1, 2, none⟩) kA).trans a2⟩⟩)
          rw [hgl] at hM5
          have HM5 := Lib.hid hM5
          have HB5 := Lib.hid hB5
          clear hM5 hB5 kB kb kA ha hk5 p1 p2 p3 hal hb5 hownB hi78 hy1 hy2 hy3 i0 i1 i2 e0 e1 e2 a0 a1 a2
          refine hK.out _ _ S5 (fun hHeld => ?_)
          clear hK K S5
          refine wpT_last (fun K hK => ?_)
          go_simp
          refine hK.out _ _ ?_
          clear hK K hHeld
          go_wp2_with fail
          go_roundw
          case rel =>
            refine ⟨j + 1, gs ++ [(y4, lg4)], by go_num, by omega, by simp [hgl], HM5.out, HB5.out, fun q h h2 => ?_⟩
            by_cases hq : q < gs.length
            · rw [List.getElem_append_left hq]
              exact HOKS.out q hq h2
            · have hqj : q = j := by simp at h; omega
              subst hqj
              rw [List.getElem_append_right (by omega), mpL_get _ _ _ _ _ _ hjl]
              simp only [hgl, Nat.sub_self, List.getElem_cons_zero, Nat.zero_add]
              exact HOK4.out
          case measure =>
            have q : (intOf (.int .i64 ((j : Int) + 1))).toNat = j + 1 := by show ((j : Int) + 1).toNat = _; omega
            have q2 : (intOf (.int .i64 (j : Int))).toNat = j := by show ((j : Int)).toNat = _; omega
            rw [q, q2]; omega
        · have hml : (mpL (Fnm a nm) k l n 0).length = gs.length := by rw [mpL_len]; omega
          have hcon := subs_w (fun q => w.heap.size + 1 + 1 < q ∧ q < wr.heap.size) k x ao l.length cap u9 gs (mpL (Fnm a nm) k l n 0) wr (fun q hq => hq.2) (HM.out.gots (by omega)) hml (by omega) (fun i h => HOKS.out i h (by omega)) HK.out HX.out
          have HCON := Lib.hid hcon
          clear hcon
          go_wp2_with fail
          refine HCON.out.mono ?_
          rintro e w6 ⟨k6, n6, ao6, m6, c6, lg6, y6, rfl, hb6, hr6, hok6⟩
          obtain ⟨z0, z1, z2, z3, zf, -⟩ := four ((hb6.block _ (by omega)).trans HZr.out)
          have HB6 := Lib.hid (HBW.out.trans (hb6.mono HBW.out.size))
          have HR6 := Lib.hid (hr6.keep (P' := fun q => w.heap.size + 1 + 1 < q ∧ q < w6.heap.size) (fun q hq => by
            rcases hq with h | h
            · exact ⟨h.1, Nat.lt_of_lt_of_le h.2 hb6.size⟩
            · exact ⟨by have := h.1; omega, h.2⟩) fun _ _ => rfl)
          have HOK6 := Lib.hid hok6
          clear hb6 hr6 hok6
          go_wp2_with fail
          exact bodyPost_ret (v := .agg #[.int .i64 k6, .int .i64 n6, .slice ao6 m6 c6, .bool lg6]) (by simp [results, Try.results104, go_sem, z0, z1, z2, z3]) rfl
            ⟨_, _, _, _, _, _, _, rfl, ((((HB6.out.setCell (by simp only []; omega) _).setCell (by simp only []; omega) _).setCell (by simp only []; omega) _).setCell (by simp only []; omega) _), HR6.out.keep (fun q hq => ⟨by omega, by simp only [World.setCell, Array.size_modify]; exact hq.2⟩) fun q hq => set4_off _ _ _ _ _ _ q (by omega), HOK6.out⟩)
end Go.Proofs.Ythjlfjaciigfiaa
