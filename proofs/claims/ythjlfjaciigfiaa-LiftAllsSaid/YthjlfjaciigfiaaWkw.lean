/-
  subst's (*walker).walk: a contract of the walk, for any leaf function that has one.
-/
import Derived.Test.YthjlfjaciigfiaaWkr1
import Derived.Test.YthjlfjaciigfiaaOrdT
namespace Go.Proofs.Ythjlfjaciigfiaa
open Go.RowKit
set_option linter.unusedVariables false
set_option linter.unusedSimpArgs false

/-- as OkS, for lists -/
def OkL (L : Int) (lg : Bool) (xs ys : List Tm) (L' : Int) (lg' : Bool) : Prop :=
  (lg' = false → lg = false ∧ ys = xs ∧ 0 ≤ L' ∧ L' ≤ L ∧ L ≤ L' + nszL xs) ∧ (lg' = true → (lg = true ∨ ¬ (gdL xs = true ∧ nszL xs ≤ L)) ∧ -8193 ≤ L' ∧ L' ≤ 8192)
theorem gdL_append (a b : List Tm) : gdL (a ++ b) = (gdL a && gdL b) := by
  induction a with
  | nil => simp [gdL]
  | cons x a ih => simp [gdL, ih, Bool.and_assoc]
theorem OkL.start {L : Int} {lg : Bool} (h : lg = false → 0 ≤ L) (hL : -8193 ≤ L ∧ L ≤ 8192) : OkL L lg [] [] L lg :=
  ⟨fun e => ⟨e, rfl, h e, Int.le_refl _, by simp [nszL]⟩, fun e => ⟨.inl e, hL⟩⟩
theorem OkL.step {L L' L'' : Int} {lg lg' lg'' : Bool} {xs ys : List Tm} {x y : Tm} (h : OkL L lg xs ys L' lg') (h2 : OkS L' lg' x y L'' lg'') : OkL L lg (xs ++ [x]) (ys ++ [y]) L'' lg'' := by
  refine ⟨fun e => ?_, fun e => ⟨?_, (h2.2 e).2⟩⟩
  · obtain ⟨q1, q2, q3, q4, q5⟩ := h2.1 e
    obtain ⟨p1, p2, p3, p4, p5⟩ := h.1 q1
    refine ⟨p1, by rw [p2, q2], q3, by omega, ?_⟩
    rw [nszL_append]; simp only [nszL]; omega
  · have hh : ∀ (q : gdL (xs ++ [x]) = true ∧ (nszL (xs ++ [x]) : Int) ≤ L), gdL xs = true ∧ gd x = true ∧ (nszL xs : Int) + nsz x ≤ L := fun q => by
      have q1 := q.1
      have q2 := q.2
      rw [gdL_append] at q1
      simp only [gdL, Bool.and_true, Bool.and_eq_true] at q1
      rw [nszL_append] at q2
      simp only [nszL] at q2
      exact ⟨q1.1, q1.2, by omega⟩
    rcases (h2.2 e).1 with q | q
    · rcases (h.2 q).1 with p | p
      · exact .inl p
      · exact .inr fun z => p ⟨(hh z).1, by have := (hh z).2.2; omega⟩
    · by_cases hl : lg' = true
      · rcases (h.2 hl).1 with p | p
        · exact .inl p
        · exact .inr fun z => p ⟨(hh z).1, by have := (hh z).2.2; omega⟩
      · obtain ⟨p1, p2, p3, p4, p5⟩ := h.1 (by simpa using hl)
        exact .inr fun z => q ⟨(hh z).2.1, by have := (hh z).2.2; omega⟩
theorem OkL.node {L L' : Int} {lg' : Bool} {xs ys : List Tm} {k n : Int} (h : OkL (L - 1) (decide (L - 1 < 0)) xs ys L' lg') : OkS L false (.node k n xs) (.node k n ys) L' lg' := by
  have hg : gd (.node k n xs) = true → gdL xs = true := fun q => by simp only [gd, Bool.and_eq_true] at q; exact q.2
  refine ⟨fun e => ?_, fun e => ⟨.inr fun z => ?_, (h.2 e).2⟩⟩
  · obtain ⟨q1, q2, q3, q4, q5⟩ := h.1 e
    refine ⟨rfl, by rw [q2], q3, by omega, ?_⟩
    simp only [nsz]; omega
  · have z2 := z.2
    simp only [nsz] at z2
    rcases (h.2 e).1 with q | q
    · have : L - 1 < 0 := by simpa using q
      omega
    · exact q ⟨hg z.1, by omega⟩
theorem set3_blk {w : World} {r : Nat} {z0 z1 z2 a b c : Value} {t : TypeId} (h : w.heap[r]? = some (.cells #[z0, z1, z2] t)) : (((w.setCell ⟨r, 0, none⟩ a).setCell ⟨r, 1, none⟩ b).setCell ⟨r, 2, none⟩ c).heap[r]? = some (.cells #[a, b, c] t) := by
  simp [World.setCell, Array.getElem?_modify, h]
theorem OkS.bnd {L L' : Int} {lg lg' : Bool} {x y : Tm} (h : OkS L lg x y L' lg') (hL : L ≤ 8192) : (-8193 ≤ L' ∧ L' ≤ 8192) ∧ (lg' = false → 0 ≤ L') := by
  cases lg' with
  | false => have := h.1 rfl; exact ⟨⟨by omega, by omega⟩, fun _ => by omega⟩
  | true => exact ⟨(h.2 rfl).2, fun e => (by cases e)⟩
/-- what has been made reads as a term -/
theorem OutX.term {row : Option Nat} {w0 : World} {o : Nat} {k n : Int} {vs : Value} {l : List Tm} {wr : World} (h : OutX row w0 o k n vs l wr) (hk : -9223372036854775808 ≤ k ∧ k ≤ 9223372036854775807) (hn : -9223372036854775808 ≤ n ∧ n ≤ 9223372036854775807) :
    Rd (fun q => o < q ∧ q < wr.heap.size) wr (.agg #[.int .i64 k, .int .i64 n, vs]) (.node k n l) :=
  Rd.node (h.made.terms _ (fun g h1 h2 => ⟨h2, h1⟩) (fun g h1 h2 => ⟨by omega, h2⟩)) hk hn

set_option maxRecDepth 100000 in
set_option maxHeartbeats 8000000 in
theorem wwalk_w {F : Nat} {caps : Array Value} {wb : Nat} {C : Nat → Prop} {St : World → Prop} {G : Int → Int → Int → Option Tm} (hc : Leafn F caps wb C St G) :
    ∀ (d : Nat) (v : Value) (t : Tm) (b L : Int) (lg : Bool) (w : World), RdN (fun q => q < w.heap.size ∧ some q ≠ some wb) w d v t → gd t = true → 0 ≤ b → b + d ≤ 1048576 → (∀ q, C q → q < w.heap.size) → (-8193 ≤ L ∧ L ≤ 8192) → (lg = false → 0 ≤ L) →
      WBox wb (.func (.func F) #[] caps) L lg w → St w →
      Calls Try.prog 117 #[.pointer (some ⟨wb, 0, none⟩), v, .int .i64 b] w (AnsK wb (.func (.func F) #[] caps) St L lg (mp G t b) w) := by
  have HCLO := Lib.hid hc
  have hen := hc.enter
  clear hc
  intro d
  induction d with
  | zero => intro v t b L lg w hr; exact absurd hr (fun h => h)
  | succ d ih =>
    rintro v ⟨k, x, l⟩ b L lg w hr hg hb0 hb1 hC hL hLg hWB hS
    have hll := gd_len hg
    have hgs := gd_sub hg
    obtain ⟨hk1, hk8, hx0, hx1⟩ := gd_num hg
    obtain ⟨ao, cap, rfl, hlm, hk, hx, he⟩ := hr.open
    clear hr
    obtain ⟨W, hWd⟩ : ∃ W, W = ((w.alloc (.cells #[.int .i64 k, .int .i64 x, .slice ao l.length cap] 24)).alloc (.cells #[.int .i64 0, .int .i64 0, .slice none 0 0] 24)) := ⟨_, rfl⟩
    have hbel : Below w.heap.size w W := by rw [hWd]; exact ((Below.refl _ _).alloc (Nat.le_refl _) _).alloc (by simp) _
    have hsz : W.heap.size = w.heap.size + 2 := by rw [hWd]; simp
    have Q : W.heap[w.heap.size]? = some (.cells #[.int .i64 k, .int .i64 x, .slice ao l.length cap] 24) := by rw [hWd]; exact (Below.heap_alloc _ _ _ (by simp)).trans (heap_new _ _ _ rfl)
    have Z : W.heap[w.heap.size + 1]? = some (.cells #[.int .i64 0, .int .i64 0, .slice none 0 0] 24) := by rw [hWd]; exact heap_new _ _ _ (by simp)
    have hwbl := hWB.cells.2.2.2.2
    have HLT := Lib.hid hwbl
    have HWB := Lib.hid (hWB.keep (hbel.block _ hwbl))
    have HS := Lib.hid (HCLO.out.keep _ _ hS fun q hq => hbel.block q (hC q hq))
    have IH := Lib.hid ih
    have HE := Lib.hid he
    have HG := Lib.hid hgs
    have HK := Lib.hid hk
    have HX := Lib.hid hx
    have HCO := Lib.hid hC
    have HBEL := Lib.hid hbel
    have HSZ := Lib.hid hsz
    have HQ := Lib.hid Q
    have HZ := Lib.hid Z
    have HWD := Lib.hid hWd
    have HN := Lib.hid (And.intro hb0 hb1)
    have HLG := Lib.hid hLg
    have hKEEP : ∀ w w', St w → (∀ k, C k → w'.heap[k]? = w.heap[k]?) → St w' := HCLO.out.keep
    have HKEEP := Lib.hid hKEEP
    have hbb : b ≤ 1048576 := by omega
    clear ih he hgs hk hx hC hbel hsz Q Z hWd hLg hg hwbl hWB hS hKEEP
    cases lg with
    | true =>
      go_enter Try.func117, Try.ntmps117
      obtain ⟨g0, g1, g2, gf, gl⟩ := HWB.out.cells
      obtain ⟨q0, q1, q2, -, ql⟩ := three HQ.out
      rw [HWD.out] at g0 g1 g2 gf gl q0 q1 q2 ql
      go_wp2_with fail
      rw [← HWD.out]
      clear g0 g1 g2 gf gl q0 q1 q2 ql
      refine (Sort_w _ _).mono ?_
      rintro e w4 ⟨rfl, hb4⟩
      have HW4 := Lib.hid (HWB.out.keep (hb4.block _ HWB.out.cells.2.2.2.2))
      have HS4 := Lib.hid (HKEEP.out _ w4 HS.out fun q hq => hb4.block q (by have := HCO.out q hq; have := HSZ.out; omega))
      have HB4 := Lib.hid ((Bx.of (row := some wb) HBEL.out).trans (Bx.of (hb4.mono (by have := HSZ.out; omega))))
      obtain ⟨z0, z1, z2, zf, zl⟩ := three ((hb4.block _ (by have := HSZ.out; omega)).trans HZ.out)
      clear hb4
      go_wp2_with fail
      exact bodyPost_ret (v := .agg #[.int .i64 2, .int .i64 0, .slice none 0 0]) (by simp [results, Try.results117, go_sem, z0, z1, z2]) rfl (AnsK.fin HKEEP.out HCO.out HB4.out (Nat.le_succ _) HLT.out HS4.out HW4.out (Rd.leaf _ _ _ _ _ _ (Nat.zero_le _) (by omega) (by omega)) (OkS.start _ _ _ _ rfl hL))
    | false =>
      have hL0 := HLG.out rfl
      go_enter Try.func117, Try.ntmps117
      obtain ⟨g0, g1, g2, gf, gl⟩ := HWB.out.cells
      obtain ⟨q0, q1, q2, -, ql⟩ := three HQ.out
      rw [HWD.out] at g0 g1 g2 gf gl q0 q1 q2 ql
      go_wp2_with fail
      rw [← HWD.out] at g0 g1 g2 gf gl q0 q1 q2 ql ⊢
      have hcd := HCLO.out.call k x ao l.length cap b L
      refine wp_region_tree (.one 0 true (.one 1 true (.one 2 true (.one 3 true (.one 4 true (.one 5 true (.two 6 (.rest [(7, true), (8, true), (9, true), (10, false), (11, false), (12, false)]) 10 (.rest [(6, false), (7, true), (8, true), (9, true), (11, false), (12, false)]))))))))
        (fun w' => w'.cell? ⟨wb, 2, none⟩ = some (.func (.func F) #[] caps) ∧ (w'.cell? ⟨w.heap.size, 0, none⟩ = some (.int .i64 k) ∧ w'.cell? ⟨w.heap.size, 1, none⟩ = some (.int .i64 x) ∧ w'.cell? ⟨w.heap.size, 2, none⟩ = some (.slice ao l.length cap)))
        (by kernel_rfl) (by kernel_rfl) ⟨g2, q0, q1, q2⟩ (fun hHeld => ?_)
      clear g0 g1 g2 gf q0 q1 q2
      have hen2 := hen
      simp only [pickR, pickT, opIn, List.getElem?_cons_zero, List.getElem?_cons_succ, Option.getD_some]
      repeat (refine wpR_take (v := ?_) (by rfl) (fun w' hSw => ?_) ?_; rotate_left; (go_simp; with_reducible rfl); simp only [Act.put, List.setIfInBounds_toArray, List.set_cons_zero, List.set_cons_succ])
      refine wpR_two ?_ ?_
      · have hcon := hcd W.drew hk1 hk8 hx0 hx1 hb0 hbb hL0 hL.2 (fun q hq => by have := HCO.out q hq; have := HSZ.out; show q < W.heap.size; omega) HWB.out (HKEEP.out _ W.drew HS.out fun _ _ => rfl)
        have HCON := Lib.hid hcon
        clear hcon hcd
        refine wpR_do (fun K hK => ?_)
        go_simp
        refine HCON.out.mono ?_
        rintro e w1 ⟨k1, n1, ao1, m1, c1, dn, L1, lg1, rfl, hb1, hs1, hw1, hd0, hd1⟩
        replace hb1 : Bx (some wb) W.heap.size W w1 := (Bx.of (below_drewN (Below.refl _ _) 1)).trans hb1
        have hsW : w.heap.size + 2 ≤ w1.heap.size := by have := hb1.size; have := HSZ.out; omega
        have HBW1 := Lib.hid ((Bx.of (row := some wb) HBEL.out).trans (hb1.mono (by have := HSZ.out; omega)))
        have HQ1 := Lib.hid ((hb1.block _ ql (by intro e; injection e with e; have := HLT.out; omega)).trans HQ.out)
        have HZ1 := Lib.hid ((hb1.block _ (by have := HSZ.out; omega) (by intro e; injection e with e; have := HLT.out; omega)).trans HZ.out)
        have HS1 := Lib.hid hs1
        have HW1 := Lib.hid hw1
        have HD0 := Lib.hid hd0
        have HD1 : Hid (dn = true → ∃ x1 y, G k x b = some x1 ∧ Rd (fun q => w.heap.size + 2 ≤ q ∧ q < w1.heap.size) w1 (.agg #[.int .i64 k1, .int .i64 n1, .slice ao1 m1 c1]) y ∧ OkS L false x1 y L1 lg1) := Lib.hid (fun e => by
          obtain ⟨x1, y, r1, r2, r3⟩ := hd1 e
          exact ⟨x1, y, r1, r2.keep (fun q hq => ⟨by have : W.heap.size ≤ q := hq.1; have := HSZ.out; omega, hq.2⟩) fun _ _ => rfl, r3⟩)
        clear hb1 hs1 hw1 hd0 hd1 hHeld HCON HWB HS HQ HZ
        obtain ⟨g0, g1, g2, gf, gl1⟩ := HW1.out.cells
        obtain ⟨q0, q1, q2, -, ql1⟩ := three HQ1.out
        refine hK.out _ _ ⟨g2, q0, q1, q2⟩ (fun hHeld => ?_)
        clear hK K
        refine wpR_rest ?_
        repeat (refine wpT_take (v := ?_) (by rfl) (fun w' hSw => ?_) ?_; rotate_left; (go_simp; with_reducible rfl); simp only [Act.put, List.setIfInBounds_toArray, List.set_cons_zero, List.set_cons_succ])
        obtain ⟨wA, hwA⟩ : ∃ wA, wA = w1.alloc (.cells #[.int .i64 0, .int .i64 0, .slice none 0 0] 24) := ⟨_, rfl⟩
        have hbA : Below w1.heap.size w1 wA := by rw [hwA]; exact alloc_bel _ _
        have hXA : wA.heap[w1.heap.size]? = some (.cells #[.int .i64 0, .int .i64 0, .slice none 0 0] 24) := by rw [hwA]; exact heap_new _ _ _ rfl
        have HWA := Lib.hid hwA
        have hSA := And.intro ((hbA.cell (p := ⟨wb, 2, none⟩) gl1).trans g2) (And.intro ((hbA.cell (p := ⟨w.heap.size, 0, none⟩) ql1).trans q0) (And.intro ((hbA.cell (p := ⟨w.heap.size, 1, none⟩) ql1).trans q1) ((hbA.cell (p := ⟨w.heap.size, 2, none⟩) ql1).trans q2)))
        refine wpT_do (fun K hK => ?_)
        go_simp
        rw [← hwA]
        refine hK.out _ _ hSA (fun hHeld => ?_)
        clear hK K hHeld g0 g1 g2 gf q0 q1 q2
        have HBW1 := Lib.hid (HBW1.out.trans (Bx.of (hbA.mono (by omega))))
        have HQ1 := Lib.hid ((hbA.block _ ql1).trans HQ1.out)
        have HZ1 := Lib.hid ((hbA.block _ (by omega)).trans HZ1.out)
        have HS1 := Lib.hid (HKEEP.out _ wA HS1.out fun q hq => hbA.block q (by have := HCO.out q hq; omega))
        have HW1 := Lib.hid (HW1.out.keep (hbA.block _ gl1))
        have HD1 : Hid (dn = true → ∃ x1 y, G k x b = some x1 ∧ Rd (fun q => w.heap.size + 2 ≤ q ∧ q < wA.heap.size ∧ q ≠ w1.heap.size) wA (.agg #[.int .i64 k1, .int .i64 n1, .slice ao1 m1 c1]) y ∧ OkS L false x1 y L1 lg1) := Lib.hid (fun e => by
          obtain ⟨x1, y, r1, r2, r3⟩ := HD1.out e
          exact ⟨x1, y, r1, r2.keep (fun q hq => ⟨hq.1, Nat.lt_of_lt_of_le hq.2 hbA.size, by omega⟩) fun q hq => hbA.block q hq.2, r3⟩)
        have HXA := Lib.hid hXA
        have hXw : w.heap.size + 2 ≤ w1.heap.size := by omega
        clear hbA hXA hwA hSA HWA
        obtain ⟨x0, x1, x2, xf, xl⟩ := three HXA.out
        have xf0 := xf 0
        have xf1 := xf 1
        have xf2 := xf 2
        have HXL := Lib.hid xl
        refine wpT_do (fun K hK => ?_)
        go_simp
        have hoff := set3_off wA w1.heap.size (.int .i64 k1) (.int .i64 n1) (.slice ao1 m1 c1)
        have hss := set3_size wA w1.heap.size (.int .i64 k1) (.int .i64 n1) (.slice ao1 m1 c1)
        have hblk := set3_blk (a := .int .i64 k1) (b := .int .i64 n1) (c := .slice ao1 m1 c1) HXA.out
        have HB3 := Lib.hid (((HBW1.out.setCell (p := ⟨w1.heap.size, 0, none⟩) (.inl (by simp only []; omega)) (.int .i64 k1)).setCell (p := ⟨w1.heap.size, 1, none⟩) (.inl (by simp only []; omega)) (.int .i64 n1)).setCell (p := ⟨w1.heap.size, 2, none⟩) (.inl (by simp only []; omega)) (.slice ao1 m1 c1))
        generalize ((wA.setCell ⟨w1.heap.size, 0, none⟩ (.int .i64 k1)).setCell ⟨w1.heap.size, 1, none⟩ (.int .i64 n1)).setCell ⟨w1.heap.size, 2, none⟩ (.slice ao1 m1 c1) = wS at hoff hss hblk HB3 ⊢
        have HX3 := Lib.hid hblk
        have HQ3 := Lib.hid ((hoff _ (by omega)).trans HQ1.out)
        have HZ3 := Lib.hid ((hoff _ (by omega)).trans HZ1.out)
        have HW3 := Lib.hid (HW1.out.keep (hoff _ (by have := HLT.out; omega)))
        have HS3 := Lib.hid (HKEEP.out _ wS HS1.out fun q hq => hoff q (by have := HCO.out q hq; omega))
        have HD3 : Hid (dn = true → ∃ x1 y, G k x b = some x1 ∧ Rd (fun q => w.heap.size + 2 ≤ q ∧ q < wS.heap.size) wS (.agg #[.int .i64 k1, .int .i64 n1, .slice ao1 m1 c1]) y ∧ OkS L false x1 y L1 lg1) := Lib.hid (fun e => by
          obtain ⟨x1, y, r1, r2, r3⟩ := HD1.out e
          exact ⟨x1, y, r1, r2.keep (fun q hq => ⟨hq.1, by omega⟩) fun q hq => hoff q hq.2.2, r3⟩)
        have hsS : w.heap.size + 2 ≤ wS.heap.size := by have := HXL.out; omega
        clear x0 x1 x2 xf xf0 xf1 xf2 xl hoff hss hblk HBW1 HXA HQ1 HZ1 HW1 HS1 HD1 HXL
        obtain ⟨g0, g1, g2, gf, gl3⟩ := HW3.out.cells
        obtain ⟨q0, q1, q2, -, ql3⟩ := three HQ3.out
        refine hK.out _ _ ⟨g2, q0, q1, q2⟩ (fun hHeld => ?_)
        clear hK K hHeld
        refine wpT_last (fun K hK => ?_)
        go_simp
        refine hK.out _ _ ?_
        clear hK K
        generalize w1.heap.size = X at HX3 hXw ⊢
        cases dn with
        | true =>
          obtain ⟨x1, y, hG, hRy, hOk⟩ := HD3.out rfl
          have hmp : mp G (.node k x l) b = x1 := by simp only [mp, hG]
          have hOk2 : OkS L false (mp G (.node k x l) b) y L1 lg1 := by rw [hmp]; exact hOk
          have HOK := Lib.hid hOk2
          have HRY := Lib.hid hRy
          obtain ⟨z0, z1, z2, zf, zl⟩ := three HZ3.out
          obtain ⟨x0, x1, x2, xf, xl⟩ := three HX3.out
          clear hG hRy hOk hmp hOk2
          go_wp2_with fail
          exact bodyPost_ret (v := .agg #[.int .i64 k1, .int .i64 n1, .slice ao1 m1 c1]) (by simp [results, Try.results117, go_sem, z0, z1, z2]) rfl (AnsK.fin HKEEP.out HCO.out HB3.out (Nat.le_succ _) HLT.out HS3.out HW3.out (HRY.out.keep (fun q hq => ⟨⟨by omega, hq.2⟩, by omega⟩) fun _ _ => rfl) HOK.out)
        | false =>
          obtain ⟨hG, hL1, hlg1⟩ := HD0.out rfl
          subst hL1
          subst hlg1
          have hmp : mp G (.node k x l) b = .node k x (mpL G k l b 0) := by simp only [mp, hG]
          have HMP := Lib.hid hmp
          have gf0 := gf 0
          have gf1 := gf 1
          clear hG hmp HD0 HD3 HX3
          have hneB : w.heap.size ≠ wb := by have := HLT.out; omega
          have HWa := Lib.hid (HW3.out.set0 (L' := L1 - 1))
          have hka : ∀ q, q ≠ wb → (wS.setCell ⟨wb, 0, none⟩ (.int .i64 (L1 - 1))).heap[q]? = wS.heap[q]? := fun q hq => Below.heap_setCell _ _ _ _ hq
          have HBa := Lib.hid (HB3.out.setCell (p := ⟨wb, 0, none⟩) (.inr rfl) (.int .i64 (L1 - 1)))
          have HQa := Lib.hid ((hka _ hneB).trans HQ3.out)
          have HZa := Lib.hid ((hka (w.heap.size + 1) (by have := HLT.out; omega)).trans HZ3.out)
          have HSa := Lib.hid (HKEEP.out _ _ HS3.out fun q hq => hka q (HCLO.out.off q hq))
          have hsa : (wS.setCell ⟨wb, 0, none⟩ (.int .i64 (L1 - 1))).heap.size = wS.heap.size := by simp [World.setCell]
          obtain ⟨qa0, qa1, qa2, -, -⟩ := three HQa.out
          obtain ⟨-, ga1, -, gfa, -⟩ := HWa.out.cells
          have gfa1 := gfa 1
          by_cases hlt : L1 - 1 < 0
          · have HWb := Lib.hid (HWa.out.set1 (lg' := true))
            have hkb : ∀ q, q ≠ wb → ((wS.setCell ⟨wb, 0, none⟩ (.int .i64 (L1 - 1))).setCell ⟨wb, 1, none⟩ (.bool true)).heap[q]? = (wS.setCell ⟨wb, 0, none⟩ (.int .i64 (L1 - 1))).heap[q]? := fun q hq => Below.heap_setCell _ _ _ _ hq
            have HBb := Lib.hid (HBa.out.setCell (p := ⟨wb, 1, none⟩) (.inr rfl) (.bool true))
            have HQb := Lib.hid ((hkb _ hneB).trans HQa.out)
            have HZb := Lib.hid ((hkb (w.heap.size + 1) (by have := HLT.out; omega)).trans HZa.out)
            have HSb := Lib.hid (HKEEP.out _ _ HSa.out fun q hq => hkb q (HCLO.out.off q hq))
            have hsb : ((wS.setCell ⟨wb, 0, none⟩ (.int .i64 (L1 - 1))).setCell ⟨wb, 1, none⟩ (.bool true)).heap.size = wS.heap.size := by simp [World.setCell]
            obtain ⟨qb0, qb1, qb2, -, -⟩ := three HQb.out
            go_wp2_with fail
            have hsY : ((wS.setCell ⟨wb, 0, none⟩ (.int .i64 (L1 - 1))).setCell ⟨wb, 1, none⟩ (.bool true)).heap.size = wS.heap.size := hsb
            have hst0 : OutX (some wb) (((wS.setCell ⟨wb, 0, none⟩ (.int .i64 (L1 - 1))).setCell ⟨wb, 1, none⟩ (.bool true)).alloc (.cells #[.int .i64 k, .int .i64 x, .slice none 0 0] 24)) wS.heap.size k x (.slice none 0 0) [] (((wS.setCell ⟨wb, 0, none⟩ (.int .i64 (L1 - 1))).setCell ⟨wb, 1, none⟩ (.bool true)).alloc (.cells #[.int .i64 k, .int .i64 x, .slice none 0 0] 24)) := OutX.start (heap_new ((wS.setCell ⟨wb, 0, none⟩ (.int .i64 (L1 - 1))).setCell ⟨wb, 1, none⟩ (.bool true)) _ _ hsY.symm) (fun r e => by injection e with e; have := HLT.out; omega)
            have HST := Lib.hid hst0
            have hbl : Below ((wS.setCell ⟨wb, 0, none⟩ (.int .i64 (L1 - 1))).setCell ⟨wb, 1, none⟩ (.bool true)).heap.size ((wS.setCell ⟨wb, 0, none⟩ (.int .i64 (L1 - 1))).setCell ⟨wb, 1, none⟩ (.bool true)) (((wS.setCell ⟨wb, 0, none⟩ (.int .i64 (L1 - 1))).setCell ⟨wb, 1, none⟩ (.bool true)).alloc (.cells #[.int .i64 k, .int .i64 x, .slice none 0 0] 24)) := alloc_bel _ _
            have HB0 := Lib.hid (HBb.out.trans (Bx.of (hbl.mono (by rw [hsY]; omega))))
            have HQ0 := Lib.hid ((hbl.block _ (by rw [hsY]; omega)).trans HQb.out)
            have HZ0 := Lib.hid ((hbl.block _ (by rw [hsY]; omega)).trans HZb.out)
            have HS0 := Lib.hid (HKEEP.out _ _ HSb.out fun q hq => hbl.block q (by have := HCO.out q hq; rw [hsY]; omega))
            have HW0 := Lib.hid (HWb.out.keep (hbl.block _ (by have := HLT.out; rw [hsY]; omega)))
            clear hst0 hbl hsY hsa qa0 qa1 qa2 ga1 gfa gfa1 hka hsb qb0 qb1 qb2 hkb g0 g1 g2 gf gf0 gf1 q0 q1 q2
            generalize ((wS.setCell ⟨wb, 0, none⟩ (.int .i64 (L1 - 1))).setCell ⟨wb, 1, none⟩ (.bool true)).alloc (.cells #[.int .i64 k, .int .i64 x, .slice none 0 0] 24) = w0 at HST HB0 HQ0 HZ0 HS0 HW0 ⊢
            generalize wS.heap.size = o at HST hsS ⊢
            have hok0 : OkL (L1 - 1) (decide (L1 - 1 < 0)) ((mpL G k l b 0).take 0) [] (L1 - 1) true := by
              have hd : decide (L1 - 1 < 0) = true := by simp; omega
              rw [hd, List.take_zero]
              exact OkL.start (by intro q; first | omega | cases q) ⟨by omega, by omega⟩
            have HOK0 := Lib.hid hok0
            clear hok0
            go_loopw [53] (fun i wr => ∃ (j : Nat) (vs : Value) (ys : List Tm) (L' : Int) (lg' : Bool), i = .int .i64 j ∧ j ≤ l.length ∧ ys.length = j ∧ OutX (some wb) w0 o k x vs ys wr ∧ St wr ∧ WBox wb (.func (.func F) #[] caps) L' lg' wr ∧ (-8193 ≤ L' ∧ L' ≤ 8192) ∧ (lg' = false → 0 ≤ L') ∧ OkL (L1 - 1) (decide (L1 - 1 < 0)) ((mpL G k l b 0).take j) ys L' lg') (fun i _ => l.length - (intOf i).toNat)
            case atStart => exact ⟨0, _, [], L1 - 1, true, rfl, Nat.zero_le _, rfl, HST.out, HS0.out, HW0.out, ⟨by omega, by omega⟩, (by intro q; first | omega | cases q), HOK0.out⟩
            case round =>
              obtain ⟨j, vs, ys, L', lg', rfl, hj, hyl, hL, hs', hw', hLb, hLz, hok⟩ := hrel
              have HOK := Lib.hid hok
              clear hok HST HOK0 HS0 HW0
              have hLo := hL.lt
              have hneB : some w.heap.size ≠ some wb := fun e => by injection e with e; have := HLT.out; omega
              have hb : Bx (some wb) w.heap.size w wr := HB0.out.trans (hL.bel.mono (by omega))
              by_cases hjl : j < l.length
              · obtain ⟨bq, off, k2, n2, ao2, m2, cap2, rfl, ⟨hP, hPr⟩, h0, h1, h2, hrd⟩ := HE.out j hjl
                have e0 := (hb.cell (p := ⟨bq, off + j * 3, none⟩) hP hPr).trans h0
                have e1 := (hb.cell (p := ⟨bq, off + j * 3 + 1, none⟩) hP hPr).trans h1
                have e2 := (hb.cell (p := ⟨bq, off + j * 3 + 2, none⟩) hP hPr).trans h2
                have hbw : bq < wr.heap.size := Nat.lt_of_lt_of_le hP hb.size
                obtain ⟨i0, i1, i2, -, -⟩ := three ((hL.bel.block _ (by omega) hneB).trans HQ0.out)
                have HL := Lib.hid hL
                have HB := Lib.hid hb
                have HS' := Lib.hid hs'
                have HW' := Lib.hid hw'
                have HLZ := Lib.hid hLz
                clear h0 h1 h2 hL hb hs' hw' hLz
                have hcase : ((j : Int) == 1) = false ∧ bn k j = 0 ∨ ((j : Int) == 1) = true ∧ (k != 5) = false ∧ bn k j = 0 ∨ ((j : Int) == 1) = true ∧ (k != 5) = true ∧ bn k j = 1 := by
                  unfold bn
                  by_cases q1 : j = 1
                  · by_cases q2 : k = 5
                    · right; left; exact ⟨by simp [q1], by simp [q2], by rw [if_neg (by omega)]⟩
                    · right; right; exact ⟨by simp [q1], by simp [q2], by rw [if_pos ⟨q1, q2⟩]⟩
                  · left; exact ⟨by simp; omega, by rw [if_neg (by omega)]⟩
                have hlc : (j : Int) < (l.length : Int) := by omega
                have hBw : w.heap.size < wr.heap.size := by omega
                have hnb : b ≤ 1048575 := by omega
                rcases hcase with ⟨q1, q2⟩ | ⟨q1, q2, q3⟩ | ⟨q1, q2, q3⟩
                · skip
                  have QQ := Lib.hid q2
                  clear q2
                  go_wp2_with fail
                  have hgs0 := heap_new wr (.cells #[.int .i64 k2, .int .i64 n2, .slice ao2 m2 cap2] 24) _ rfl
                  have hbel : Below wr.heap.size wr (wr.alloc (.cells #[.int .i64 k2, .int .i64 n2, .slice ao2 m2 cap2] 24)).drew := below_drewN ((Below.refl _ _).alloc (Nat.le_refl _) _) 1
                  have hlw : wr.heap.size < (wr.alloc (.cells #[.int .i64 k2, .int .i64 n2, .slice ao2 m2 cap2] 24)).drew.heap.size := by show _ < (wr.alloc _).heap.size; rw [World.size_alloc]; omega
                  obtain ⟨c0, c1, c2, -, -⟩ := three hgs0
                  generalize wr.alloc (.cells #[.int .i64 k2, .int .i64 n2, .slice ao2 m2 cap2] 24) = wa at hbel hgs0 hlw c0 c1 c2 ⊢
                  have hLA := HL.out.on (Bx.of hbel)
                  have hbA := HB.out.trans (Bx.of (hbel.mono HB.out.size))
                  have hsA := HKEEP.out _ wa.drew HS'.out (fun q hq => hbel.block q (by have := HCO.out q hq; have := HB.out.size; omega))
                  have hwA := HW'.out.keep (hbel.block _ (by have := HLT.out; have := HB.out.size; omega))
                  have hng : vs.ownBlock ≠ some wr.heap.size := fun e => by have := (HL.out.made.block _ e).2; omega
                  have hngr : some wr.heap.size ≠ some wb := fun e => by injection e with e; have := HLT.out; have := HB.out.size; omega
                  have hoR : some o ≠ some wb := fun e => by injection e with e; have := HLT.out; omega
                  have hcon := IH.out _ l[j] (b) L' lg' wa.drew (RdN.keep (P := (fun q => q < w.heap.size ∧ some q ≠ some wb)) (w' := wa.drew) (fun b hb' => ⟨Nat.lt_of_lt_of_le hb'.1 hbA.size, hb'.2⟩) (fun b hb' => hbA.block b hb'.1 hb'.2) d _ _ hrd) (HG.out j hjl) (by have := HN.out; omega) (by have := HN.out; omega)
                    (fun q hq => by have := HCO.out q hq; have := hbA.size; omega) hLb HLZ.out hwA hsA
                  obtain ⟨-, -, o2, -, -⟩ := three hLA.box
                  have o2' : wa.cell? ⟨o, 2, none⟩ = some vs := o2
                  have htk : (mpL G k l b 0).take j ++ [mp G l[j] (b)] = (mpL G k l b 0).take (j + 1) := by
                    rw [mpL_take _ _ _ _ _ hjl, QQ.out]
                    try (first | rfl | rw [Int.add_zero])
                  have HLA := Lib.hid hLA
                  have HCON := Lib.hid hcon
                  have HTK := Lib.hid htk
                  have HGS := Lib.hid (show wa.drew.heap[wr.heap.size]? = _ from hgs0)
                  have hwbr : wb < wa.drew.heap.size := by have := HLT.out; have := hbA.size; omega
                  have HCL := Lib.hid (fun q (hq : C q) => (show q < o by have := HCO.out q hq; omega))
                  generalize hgs : wr.heap.size = gs at c0 c1 c2 HGS hng hngr hlw ⊢
                  clear e0 e1 e2 i0 i1 i2 hLA hcon hgs0 o2 hbel hbA hgs hsA hwA htk
                  refine wp_region_order [(0, true), (1, true), (2, true), (3, true), (4, true), (5, false), (6, false), (7, false), (8, true), (9, false)] (fun w' => w'.cell? ⟨gs, 0, none⟩ = some (.int .i64 k2) ∧ w'.cell? ⟨gs, 1, none⟩ = some (.int .i64 n2) ∧ w'.cell? ⟨gs, 2, none⟩ = some (.slice ao2 m2 cap2) ∧ w'.cell? ⟨o, 2, none⟩ = some vs)
                    (by kernel_rfl) (by kernel_rfl) ⟨c0, c1, c2, o2'⟩ (fun hHeld => ?_)
                  simp only [pickT, List.getElem?_cons_zero, List.getElem?_cons_succ, Option.getD_some]
                  repeat (refine wpT_take (v := ?_) (by rfl) (fun w' hSw => ?_) ?_; rotate_left; (go_simp; with_reducible rfl); simp only [Act.put, List.setIfInBounds_toArray, List.set_cons_zero, List.set_cons_succ])
                  refine wpT_do (fun K hK => ?_)
                  go_simp
                  go_at_call 117
                  refine HCON.out.mono ?_
                  rintro e w3 ⟨k3, n3, ao3, m3, c3, y3, L3, lg3, rfl, hb3, hr3, hs3, hw3, hok3⟩
                  have HR3 := Lib.hid hr3
                  have HS3 := Lib.hid hs3
                  have HW3 := Lib.hid hw3
                  have HOK3 := Lib.hid hok3
                  clear hr3 hs3 hw3 hok3 hHeld
                  refine hK.out _ _ ⟨(hb3.cell (p := ⟨gs, 0, none⟩) hlw hngr).trans c0, (hb3.cell (p := ⟨gs, 1, none⟩) hlw hngr).trans c1, (hb3.cell (p := ⟨gs, 2, none⟩) hlw hngr).trans c2, (hb3.cell (p := ⟨o, 2, none⟩) HLA.out.lt hoR).trans o2'⟩ (fun hHeld => ?_)
                  clear hK K
                  refine wpT_do (fun K hK => ?_)
                  go_simp
                  refine hK.out _ _ (by go_keep) (fun hHeld => ?_)
                  clear hK K
                  refine wpT_do (fun K hK => ?_)
                  refine step_outX rfl _ _ rfl HLA.out (by omega) rfl hb3 HR3.out 1 rfl ?_
                  intro g5 m5 cap5 w5 hL5 hk5 q5
                  obtain ⟨-, -, o5, f5, -⟩ := three q5
                  have hlw3 := Nat.lt_of_lt_of_le hlw hb3.size
                  obtain ⟨g0, g1, g2, -, -⟩ := three ((hk5 _ hlw3 hng).trans ((hb3.block _ hlw hngr).trans HGS.out))
                  have f5' := f5 2
                  have hs5 := HKEEP.out _ (w5.setCell ⟨o, 2, none⟩ (.slice (some ⟨g5, 0, none⟩) m5 cap5)) HS3.out (fun q hq => by
                    have h1 := HCL.out q hq
                    have h2 := HLA.out.lt
                    have h3 := hb3.size
                    rw [Below.heap_setCell _ _ _ _ (by show q ≠ o; omega)]
                    exact hk5 q (by omega) (fun e => by have := (HLA.out.made.block _ e).1; omega))
                  have hw5 := HW3.out.keep (w' := w5.setCell ⟨o, 2, none⟩ (.slice (some ⟨g5, 0, none⟩) m5 cap5)) (by
                    have h2 := HLA.out.lt
                    have h3 := hb3.size
                    have h4 := HLT.out
                    rw [Below.heap_setCell _ _ _ _ (by show wb ≠ o; omega)]
                    exact hk5 wb (by omega) (fun e => by have := (HLA.out.made.block _ e).1; omega))
                  have HL5 := Lib.hid hL5
                  have HS5 := Lib.hid hs5
                  have HW5 := Lib.hid hw5
                  clear hL5 f5 q5 hk5 hs5 hw5 hlw3
                  refine hK.out _ _ ⟨g0, g1, g2, o5⟩ (fun hHeld => ?_)
                  clear hK K
                  repeat (refine wpT_take (v := ?_) (by rfl) (fun w' hSw => ?_) ?_; rotate_left; (go_simp; with_reducible rfl); simp only [Act.put, List.setIfInBounds_toArray, List.set_cons_zero, List.set_cons_succ])
                  refine wpT_last (fun K hK => ?_)
                  go_simp
                  refine hK.out _ _ ?_
                  clear hK K
                  go_wp2_with fail
                  go_roundw
                  case rel => exact ⟨j + 1, _, ys ++ [y3], L3, lg3, by go_num, by omega, by simp [hyl], HL5.out, HS5.out, HW5.out, (HOK3.out.bnd (by omega)).1, (HOK3.out.bnd (by omega)).2, by rw [← HTK.out]; exact HOK.out.step HOK3.out⟩
                  case measure =>
                    have q : (intOf (.int .i64 ((j : Int) + 1))).toNat = j + 1 := by show ((j : Int) + 1).toNat = _; omega
                    have q2 : (intOf (.int .i64 (j : Int))).toNat = j := by show ((j : Int)).toNat = _; omega
                    rw [q, q2]; omega
                · skip
                  have QQ := Lib.hid q3
                  clear q3
                  go_wp2_with fail
                  have hgs0 := heap_new wr (.cells #[.int .i64 k2, .int .i64 n2, .slice ao2 m2 cap2] 24) _ rfl
                  have hbel : Below wr.heap.size wr (wr.alloc (.cells #[.int .i64 k2, .int .i64 n2, .slice ao2 m2 cap2] 24)).drew := below_drewN ((Below.refl _ _).alloc (Nat.le_refl _) _) 1
                  have hlw : wr.heap.size < (wr.alloc (.cells #[.int .i64 k2, .int .i64 n2, .slice ao2 m2 cap2] 24)).drew.heap.size := by show _ < (wr.alloc _).heap.size; rw [World.size_alloc]; omega
                  obtain ⟨c0, c1, c2, -, -⟩ := three hgs0
                  generalize wr.alloc (.cells #[.int .i64 k2, .int .i64 n2, .slice ao2 m2 cap2] 24) = wa at hbel hgs0 hlw c0 c1 c2 ⊢
                  have hLA := HL.out.on (Bx.of hbel)
                  have hbA := HB.out.trans (Bx.of (hbel.mono HB.out.size))
                  have hsA := HKEEP.out _ wa.drew HS'.out (fun q hq => hbel.block q (by have := HCO.out q hq; have := HB.out.size; omega))
                  have hwA := HW'.out.keep (hbel.block _ (by have := HLT.out; have := HB.out.size; omega))
                  have hng : vs.ownBlock ≠ some wr.heap.size := fun e => by have := (HL.out.made.block _ e).2; omega
                  have hngr : some wr.heap.size ≠ some wb := fun e => by injection e with e; have := HLT.out; have := HB.out.size; omega
                  have hoR : some o ≠ some wb := fun e => by injection e with e; have := HLT.out; omega
                  have hcon := IH.out _ l[j] (b) L' lg' wa.drew (RdN.keep (P := (fun q => q < w.heap.size ∧ some q ≠ some wb)) (w' := wa.drew) (fun b hb' => ⟨Nat.lt_of_lt_of_le hb'.1 hbA.size, hb'.2⟩) (fun b hb' => hbA.block b hb'.1 hb'.2) d _ _ hrd) (HG.out j hjl) (by have := HN.out; omega) (by have := HN.out; omega)
                    (fun q hq => by have := HCO.out q hq; have := hbA.size; omega) hLb HLZ.out hwA hsA
                  obtain ⟨-, -, o2, -, -⟩ := three hLA.box
                  have o2' : wa.cell? ⟨o, 2, none⟩ = some vs := o2
                  have htk : (mpL G k l b 0).take j ++ [mp G l[j] (b)] = (mpL G k l b 0).take (j + 1) := by
                    rw [mpL_take _ _ _ _ _ hjl, QQ.out]
                    try (first | rfl | rw [Int.add_zero])
                  have HLA := Lib.hid hLA
                  have HCON := Lib.hid hcon
                  have HTK := Lib.hid htk
                  have HGS := Lib.hid (show wa.drew.heap[wr.heap.size]? = _ from hgs0)
                  have hwbr : wb < wa.drew.heap.size := by have := HLT.out; have := hbA.size; omega
                  have HCL := Lib.hid (fun q (hq : C q) => (show q < o by have := HCO.out q hq; omega))
                  generalize hgs : wr.heap.size = gs at c0 c1 c2 HGS hng hngr hlw ⊢
                  clear e0 e1 e2 i0 i1 i2 hLA hcon hgs0 o2 hbel hbA hgs hsA hwA htk
                  refine wp_region_order [(0, true), (1, true), (2, true), (3, true), (4, true), (5, false), (6, false), (7, false), (8, true), (9, false)] (fun w' => w'.cell? ⟨gs, 0, none⟩ = some (.int .i64 k2) ∧ w'.cell? ⟨gs, 1, none⟩ = some (.int .i64 n2) ∧ w'.cell? ⟨gs, 2, none⟩ = some (.slice ao2 m2 cap2) ∧ w'.cell? ⟨o, 2, none⟩ = some vs)
                    (by kernel_rfl) (by kernel_rfl) ⟨c0, c1, c2, o2'⟩ (fun hHeld => ?_)
                  simp only [pickT, List.getElem?_cons_zero, List.getElem?_cons_succ, Option.getD_some]
                  repeat (refine wpT_take (v := ?_) (by rfl) (fun w' hSw => ?_) ?_; rotate_left; (go_simp; with_reducible rfl); simp only [Act.put, List.setIfInBounds_toArray, List.set_cons_zero, List.set_cons_succ])
                  refine wpT_do (fun K hK => ?_)
                  go_simp
                  go_at_call 117
                  refine HCON.out.mono ?_
                  rintro e w3 ⟨k3, n3, ao3, m3, c3, y3, L3, lg3, rfl, hb3, hr3, hs3, hw3, hok3⟩
                  have HR3 := Lib.hid hr3
                  have HS3 := Lib.hid hs3
                  have HW3 := Lib.hid hw3
                  have HOK3 := Lib.hid hok3
                  clear hr3 hs3 hw3 hok3 hHeld
                  refine hK.out _ _ ⟨(hb3.cell (p := ⟨gs, 0, none⟩) hlw hngr).trans c0, (hb3.cell (p := ⟨gs, 1, none⟩) hlw hngr).trans c1, (hb3.cell (p := ⟨gs, 2, none⟩) hlw hngr).trans c2, (hb3.cell (p := ⟨o, 2, none⟩) HLA.out.lt hoR).trans o2'⟩ (fun hHeld => ?_)
                  clear hK K
                  refine wpT_do (fun K hK => ?_)
                  go_simp
                  refine hK.out _ _ (by go_keep) (fun hHeld => ?_)
                  clear hK K
                  refine wpT_do (fun K hK => ?_)
                  refine step_outX rfl _ _ rfl HLA.out (by omega) rfl hb3 HR3.out 1 rfl ?_
                  intro g5 m5 cap5 w5 hL5 hk5 q5
                  obtain ⟨-, -, o5, f5, -⟩ := three q5
                  have hlw3 := Nat.lt_of_lt_of_le hlw hb3.size
                  obtain ⟨g0, g1, g2, -, -⟩ := three ((hk5 _ hlw3 hng).trans ((hb3.block _ hlw hngr).trans HGS.out))
                  have f5' := f5 2
                  have hs5 := HKEEP.out _ (w5.setCell ⟨o, 2, none⟩ (.slice (some ⟨g5, 0, none⟩) m5 cap5)) HS3.out (fun q hq => by
                    have h1 := HCL.out q hq
                    have h2 := HLA.out.lt
                    have h3 := hb3.size
                    rw [Below.heap_setCell _ _ _ _ (by show q ≠ o; omega)]
                    exact hk5 q (by omega) (fun e => by have := (HLA.out.made.block _ e).1; omega))
                  have hw5 := HW3.out.keep (w' := w5.setCell ⟨o, 2, none⟩ (.slice (some ⟨g5, 0, none⟩) m5 cap5)) (by
                    have h2 := HLA.out.lt
                    have h3 := hb3.size
                    have h4 := HLT.out
                    rw [Below.heap_setCell _ _ _ _ (by show wb ≠ o; omega)]
                    exact hk5 wb (by omega) (fun e => by have := (HLA.out.made.block _ e).1; omega))
                  have HL5 := Lib.hid hL5
                  have HS5 := Lib.hid hs5
                  have HW5 := Lib.hid hw5
                  clear hL5 f5 q5 hk5 hs5 hw5 hlw3
                  refine hK.out _ _ ⟨g0, g1, g2, o5⟩ (fun hHeld => ?_)
                  clear hK K
                  repeat (refine wpT_take (v := ?_) (by rfl) (fun w' hSw => ?_) ?_; rotate_left; (go_simp; with_reducible rfl); simp only [Act.put, List.setIfInBounds_toArray, List.set_cons_zero, List.set_cons_succ])
                  refine wpT_last (fun K hK => ?_)
                  go_simp
                  refine hK.out _ _ ?_
                  clear hK K
                  go_wp2_with fail
                  go_roundw
                  case rel => exact ⟨j + 1, _, ys ++ [y3], L3, lg3, by go_num, by omega, by simp [hyl], HL5.out, HS5.out, HW5.out, (HOK3.out.bnd (by omega)).1, (HOK3.out.bnd (by omega)).2, by rw [← HTK.out]; exact HOK.out.step HOK3.out⟩
                  case measure =>
                    have q : (intOf (.int .i64 ((j : Int) + 1))).toNat = j + 1 := by show ((j : Int) + 1).toNat = _; omega
                    have q2 : (intOf (.int .i64 (j : Int))).toNat = j := by show ((j : Int)).toNat = _; omega
                    rw [q, q2]; omega
                · skip
                  have QQ := Lib.hid q3
                  clear q3
                  go_wp2_with fail
                  have hgs0 := heap_new wr (.cells #[.int .i64 k2, .int .i64 n2, .slice ao2 m2 cap2] 24) _ rfl
                  have hbel : Below wr.heap.size wr (wr.alloc (.cells #[.int .i64 k2, .int .i64 n2, .slice ao2 m2 cap2] 24)).drew := below_drewN ((Below.refl _ _).alloc (Nat.le_refl _) _) 1
                  have hlw : wr.heap.size < (wr.alloc (.cells #[.int .i64 k2, .int .i64 n2, .slice ao2 m2 cap2] 24)).drew.heap.size := by show _ < (wr.alloc _).heap.size; rw [World.size_alloc]; omega
                  obtain ⟨c0, c1, c2, -, -⟩ := three hgs0
                  generalize wr.alloc (.cells #[.int .i64 k2, .int .i64 n2, .slice ao2 m2 cap2] 24) = wa at hbel hgs0 hlw c0 c1 c2 ⊢
                  have hLA := HL.out.on (Bx.of hbel)
                  have hbA := HB.out.trans (Bx.of (hbel.mono HB.out.size))
                  have hsA := HKEEP.out _ wa.drew HS'.out (fun q hq => hbel.block q (by have := HCO.out q hq; have := HB.out.size; omega))
                  have hwA := HW'.out.keep (hbel.block _ (by have := HLT.out; have := HB.out.size; omega))
                  have hng : vs.ownBlock ≠ some wr.heap.size := fun e => by have := (HL.out.made.block _ e).2; omega
                  have hngr : some wr.heap.size ≠ some wb := fun e => by injection e with e; have := HLT.out; have := HB.out.size; omega
                  have hoR : some o ≠ some wb := fun e => by injection e with e; have := HLT.out; omega
                  have hcon := IH.out _ l[j] (b + 1) L' lg' wa.drew (RdN.keep (P := (fun q => q < w.heap.size ∧ some q ≠ some wb)) (w' := wa.drew) (fun b hb' => ⟨Nat.lt_of_lt_of_le hb'.1 hbA.size, hb'.2⟩) (fun b hb' => hbA.block b hb'.1 hb'.2) d _ _ hrd) (HG.out j hjl) (by have := HN.out; omega) (by have := HN.out; omega)
                    (fun q hq => by have := HCO.out q hq; have := hbA.size; omega) hLb HLZ.out hwA hsA
                  obtain ⟨-, -, o2, -, -⟩ := three hLA.box
                  have o2' : wa.cell? ⟨o, 2, none⟩ = some vs := o2
                  have htk : (mpL G k l b 0).take j ++ [mp G l[j] (b + 1)] = (mpL G k l b 0).take (j + 1) := by
                    rw [mpL_take _ _ _ _ _ hjl, QQ.out]
                    try (first | rfl | rw [Int.add_zero])
                  have HLA := Lib.hid hLA
                  have HCON := Lib.hid hcon
                  have HTK := Lib.hid htk
                  have HGS := Lib.hid (show wa.drew.heap[wr.heap.size]? = _ from hgs0)
                  have hwbr : wb < wa.drew.heap.size := by have := HLT.out; have := hbA.size; omega
                  have HCL := Lib.hid (fun q (hq : C q) => (show q < o by have := HCO.out q hq; omega))
                  generalize hgs : wr.heap.size = gs at c0 c1 c2 HGS hng hngr hlw ⊢
                  clear e0 e1 e2 i0 i1 i2 hLA hcon hgs0 o2 hbel hbA hgs hsA hwA htk
                  refine wp_region_order [(0, true), (1, true), (2, true), (3, true), (4, true), (5, false), (6, false), (7, false), (8, true), (9, false)] (fun w' => w'.cell? ⟨gs, 0, none⟩ = some (.int .i64 k2) ∧ w'.cell? ⟨gs, 1, none⟩ = some (.int .i64 n2) ∧ w'.cell? ⟨gs, 2, none⟩ = some (.slice ao2 m2 cap2) ∧ w'.cell? ⟨o, 2, none⟩ = some vs)
                    (by kernel_rfl) (by kernel_rfl) ⟨c0, c1, c2, o2'⟩ (fun hHeld => ?_)
                  simp only [pickT, List.getElem?_cons_zero, List.getElem?_cons_succ, Option.getD_some]
                  repeat (refine wpT_take (v := ?_) (by rfl) (fun w' hSw => ?_) ?_; rotate_left; (go_simp; with_reducible rfl); simp only [Act.put, List.setIfInBounds_toArray, List.set_cons_zero, List.set_cons_succ])
                  refine wpT_do (fun K hK => ?_)
                  go_simp
                  go_at_call 117
                  refine HCON.out.mono ?_
                  rintro e w3 ⟨k3, n3, ao3, m3, c3, y3, L3, lg3, rfl, hb3, hr3, hs3, hw3, hok3⟩
                  have HR3 := Lib.hid hr3
                  have HS3 := Lib.hid hs3
                  have HW3 := Lib.hid hw3
                  have HOK3 := Lib.hid hok3
                  clear hr3 hs3 hw3 hok3 hHeld
                  refine hK.out _ _ ⟨(hb3.cell (p := ⟨gs, 0, none⟩) hlw hngr).trans c0, (hb3.cell (p := ⟨gs, 1, none⟩) hlw hngr).trans c1, (hb3.cell (p := ⟨gs, 2, none⟩) hlw hngr).trans c2, (hb3.cell (p := ⟨o, 2, none⟩) HLA.out.lt hoR).trans o2'⟩ (fun hHeld => ?_)
                  clear hK K
                  refine wpT_do (fun K hK => ?_)
                  go_simp
                  refine hK.out _ _ (by go_keep) (fun hHeld => ?_)
                  clear hK K
                  refine wpT_do (fun K hK => ?_)
                  refine step_outX rfl _ _ rfl HLA.out (by omega) rfl hb3 HR3.out 1 rfl ?_
                  intro g5 m5 cap5 w5 hL5 hk5 q5
                  obtain ⟨-, -, o5, f5, -⟩ := three q5
                  have hlw3 := Nat.lt_of_lt_of_le hlw hb3.size
                  obtain ⟨g0, g1, g2, -, -⟩ := three ((hk5 _ hlw3 hng).trans ((hb3.block _ hlw hngr).trans HGS.out))
                  have f5' := f5 2
                  have hs5 := HKEEP.out _ (w5.setCell ⟨o, 2, none⟩ (.slice (some ⟨g5, 0, none⟩) m5 cap5)) HS3.out (fun q hq => by
                    have h1 := HCL.out q hq
                    have h2 := HLA.out.lt
                    have h3 := hb3.size
                    rw [Below.heap_setCell _ _ _ _ (by show q ≠ o; omega)]
                    exact hk5 q (by omega) (fun e => by have := (HLA.out.made.block _ e).1; omega))
                  have hw5 := HW3.out.keep (w' := w5.setCell ⟨o, 2, none⟩ (.slice (some ⟨g5, 0, none⟩) m5 cap5)) (by
                    have h2 := HLA.out.lt
                    have h3 := hb3.size
                    have h4 := HLT.out
                    rw [Below.heap_setCell _ _ _ _ (by show wb ≠ o; omega)]
                    exact hk5 wb (by omega) (fun e => by have := (HLA.out.made.block _ e).1; omega))
                  have HL5 := Lib.hid hL5
                  have HS5 := Lib.hid hs5
                  have HW5 := Lib.hid hw5
                  clear hL5 f5 q5 hk5 hs5 hw5 hlw3
                  refine hK.out _ _ ⟨g0, g1, g2, o5⟩ (fun hHeld => ?_)
                  clear hK K
                  repeat (refine wpT_take (v := ?_) (by rfl) (fun w' hSw => ?_) ?_; rotate_left; (go_simp; with_reducible rfl); simp only [Act.put, List.setIfInBounds_toArray, List.set_cons_zero, List.set_cons_succ])
                  refine wpT_last (fun K hK => ?_)
                  go_simp
                  refine hK.out _ _ ?_
                  clear hK K
                  go_wp2_with fail
                  go_roundw
                  case rel => exact ⟨j + 1, _, ys ++ [y3], L3, lg3, by go_num, by omega, by simp [hyl], HL5.out, HS5.out, HW5.out, (HOK3.out.bnd (by omega)).1, (HOK3.out.bnd (by omega)).2, by rw [← HTK.out]; exact HOK.out.step HOK3.out⟩
                  case measure =>
                    have q : (intOf (.int .i64 ((j : Int) + 1))).toNat = j + 1 := by show ((j : Int) + 1).toNat = _; omega
                    have q2 : (intOf (.int .i64 (j : Int))).toNat = j := by show ((j : Int)).toNat = _; omega
                    rw [q, q2]; omega
              · obtain ⟨o0, o1, o2, of, -⟩ := three hL.box
                obtain ⟨z0, z1, z2, zf, -⟩ := three ((hL.bel.block (w.heap.size + 1) (by omega) (fun e => by injection e with e; have := HLT.out; omega)).trans HZ0.out)
                obtain ⟨ao5, m5, cap5, rfl⟩ := hL.shape
                have HL := Lib.hid hL
                have HS' := Lib.hid hs'
                have HW' := Lib.hid hw'
                have HB := Lib.hid hb
                clear hL hs' hw' hb hLz
                go_wp2_with fail
                refine bodyPost_ret (v := .agg #[.int .i64 k, .int .i64 x, .slice ao5 m5 cap5]) (by simp [results, Try.results117, go_sem, z0, z1, z2]) rfl (AnsK.fin HKEEP.out HCO.out HB.out (Nat.le_succ _) HLT.out HS'.out HW'.out
                  ((HL.out.term HK.out HX.out).keep (fun q hq => ⟨⟨by omega, hq.2⟩, by omega⟩) fun _ _ => rfl) ?_)
                have q := HOK.out
                rw [mpL_all _ _ _ _ _ hjl] at q
                rw [HMP.out]
                exact q.node
          · go_wp2_with fail
            have hsY : (wS.setCell ⟨wb, 0, none⟩ (.int .i64 (L1 - 1))).heap.size = wS.heap.size := hsa
            have hst0 : OutX (some wb) ((wS.setCell ⟨wb, 0, none⟩ (.int .i64 (L1 - 1))).alloc (.cells #[.int .i64 k, .int .i64 x, .slice none 0 0] 24)) wS.heap.size k x (.slice none 0 0) [] ((wS.setCell ⟨wb, 0, none⟩ (.int .i64 (L1 - 1))).alloc (.cells #[.int .i64 k, .int .i64 x, .slice none 0 0] 24)) := OutX.start (heap_new (wS.setCell ⟨wb, 0, none⟩ (.int .i64 (L1 - 1))) _ _ hsY.symm) (fun r e => by injection e with e; have := HLT.out; omega)
            have HST := Lib.hid hst0
            have hbl : Below (wS.setCell ⟨wb, 0, none⟩ (.int .i64 (L1 - 1))).heap.size (wS.setCell ⟨wb, 0, none⟩ (.int .i64 (L1 - 1))) ((wS.setCell ⟨wb, 0, none⟩ (.int .i64 (L1 - 1))).alloc (.cells #[.int .i64 k, .int .i64 x, .slice none 0 0] 24)) := alloc_bel _ _
            have HB0 := Lib.hid (HBa.out.trans (Bx.of (hbl.mono (by rw [hsY]; omega))))
            have HQ0 := Lib.hid ((hbl.block _ (by rw [hsY]; omega)).trans HQa.out)
            have HZ0 := Lib.hid ((hbl.block _ (by rw [hsY]; omega)).trans HZa.out)
            have HS0 := Lib.hid (HKEEP.out _ _ HSa.out fun q hq => hbl.block q (by have := HCO.out q hq; rw [hsY]; omega))
            have HW0 := Lib.hid (HWa.out.keep (hbl.block _ (by have := HLT.out; rw [hsY]; omega)))
            clear hst0 hbl hsY hsa qa0 qa1 qa2 ga1 gfa gfa1 hka g0 g1 g2 gf gf0 gf1 q0 q1 q2
            generalize (wS.setCell ⟨wb, 0, none⟩ (.int .i64 (L1 - 1))).alloc (.cells #[.int .i64 k, .int .i64 x, .slice none 0 0] 24) = w0 at HST HB0 HQ0 HZ0 HS0 HW0 ⊢
            generalize wS.heap.size = o at HST hsS ⊢
            have hok0 : OkL (L1 - 1) (decide (L1 - 1 < 0)) ((mpL G k l b 0).take 0) [] (L1 - 1) false := by
              have hd : decide (L1 - 1 < 0) = false := by simp; omega
              rw [hd, List.take_zero]
              exact OkL.start (by intro q; first | omega | cases q) ⟨by omega, by omega⟩
            have HOK0 := Lib.hid hok0
            clear hok0
            go_loopw [53] (fun i wr => ∃ (j : Nat) (vs : Value) (ys : List Tm) (L' : Int) (lg' : Bool), i = .int .i64 j ∧ j ≤ l.length ∧ ys.length = j ∧ OutX (some wb) w0 o k x vs ys wr ∧ St wr ∧ WBox wb (.func (.func F) #[] caps) L' lg' wr ∧ (-8193 ≤ L' ∧ L' ≤ 8192) ∧ (lg' = false → 0 ≤ L') ∧ OkL (L1 - 1) (decide (L1 - 1 < 0)) ((mpL G k l b 0).take j) ys L' lg') (fun i _ => l.length - (intOf i).toNat)
            case atStart => exact ⟨0, _, [], L1 - 1, false, rfl, Nat.zero_le _, rfl, HST.out, HS0.out, HW0.out, ⟨by omega, by omega⟩, (by intro q; first | omega | cases q), HOK0.out⟩
            case round =>
              obtain ⟨j, vs, ys, L', lg', rfl, hj, hyl, hL, hs', hw', hLb, hLz, hok⟩ := hrel
              have HOK := Lib.hid hok
              clear hok HST HOK0 HS0 HW0
              have hLo := hL.lt
              have hneB : some w.heap.size ≠ some wb := fun e => by injection e with e; have := HLT.out; omega
              have hb : Bx (some wb) w.heap.size w wr := HB0.out.trans (hL.bel.mono (by omega))
              by_cases hjl : j < l.length
              · obtain ⟨bq, off, k2, n2, ao2, m2, cap2, rfl, ⟨hP, hPr⟩, h0, h1, h2, hrd⟩ := HE.out j hjl
                have e0 := (hb.cell (p := ⟨bq, off + j * 3, none⟩) hP hPr).trans h0
                have e1 := (hb.cell (p := ⟨bq, off + j * 3 + 1, none⟩) hP hPr).trans h1
                have e2 := (hb.cell (p := ⟨bq, off + j * 3 + 2, none⟩) hP hPr).trans h2
                have hbw : bq < wr.heap.size := Nat.lt_of_lt_of_le hP hb.size
                obtain ⟨i0, i1, i2, -, -⟩ := three ((hL.bel.block _ (by omega) hneB).trans HQ0.out)
                have HL := Lib.hid hL
                have HB := Lib.hid hb
                have HS' := Lib.hid hs'
                have HW' := Lib.hid hw'
                have HLZ := Lib.hid hLz
                clear h0 h1 h2 hL hb hs' hw' hLz
                have hcase : ((j : Int) == 1) = false ∧ bn k j = 0 ∨ ((j : Int) == 1) = true ∧ (k != 5) = false ∧ bn k j = 0 ∨ ((j : Int) == 1) = true ∧ (k != 5) = true ∧ bn k j = 1 := by
                  unfold bn
                  by_cases q1 : j = 1
                  · by_cases q2 : k = 5
                    · right; left; exact ⟨by simp [q1], by simp [q2], by rw [if_neg (by omega)]⟩
                    · right; right; exact ⟨by simp [q1], by simp [q2], by rw [if_pos ⟨q1, q2⟩]⟩
                  · left; exact ⟨by simp; omega, by rw [if_neg (by omega)]⟩
                have hlc : (j : Int) < (l.length : Int) := by omega
                have hBw : w.heap.size < wr.heap.size := by omega
                have hnb : b ≤ 1048575 := by omega
                rcases hcase with ⟨q1, q2⟩ | ⟨q1, q2, q3⟩ | ⟨q1, q2, q3⟩
                · skip
                  have QQ := Lib.hid q2
                  clear q2
                  go_wp2_with fail
                  have hgs0 := heap_new wr (.cells #[.int .i64 k2, .int .i64 n2, .slice ao2 m2 cap2] 24) _ rfl
                  have hbel : Below wr.heap.size wr (wr.alloc (.cells #[.int .i64 k2, .int .i64 n2, .slice ao2 m2 cap2] 24)).drew := below_drewN ((Below.refl _ _).alloc (Nat.le_refl _) _) 1
                  have hlw : wr.heap.size < (wr.alloc (.cells #[.int .i64 k2, .int .i64 n2, .slice ao2 m2 cap2] 24)).drew.heap.size := by show _ < (wr.alloc _).heap.size; rw [World.size_alloc]; omega
                  obtain ⟨c0, c1, c2, -, -⟩ := three hgs0
                  generalize wr.alloc (.cells #[.int .i64 k2, .int .i64 n2, .slice ao2 m2 cap2] 24) = wa at hbel hgs0 hlw c0 c1 c2 ⊢
                  have hLA := HL.out.on (Bx.of hbel)
                  have hbA := HB.out.trans (Bx.of (hbel.mono HB.out.size))
                  have hsA := HKEEP.out _ wa.drew HS'.out (fun q hq => hbel.block q (by have := HCO.out q hq; have := HB.out.size; omega))
                  have hwA := HW'.out.keep (hbel.block _ (by have := HLT.out; have := HB.out.size; omega))
                  have hng : vs.ownBlock ≠ some wr.heap.size := fun e => by have := (HL.out.made.block _ e).2; omega
                  have hngr : some wr.heap.size ≠ some wb := fun e => by injection e with e; have := HLT.out; have := HB.out.size; omega
                  have hoR : some o ≠ some wb := fun e => by injection e with e; have := HLT.out; omega
                  have hcon := IH.out _ l[j] (b) L' lg' wa.drew (RdN.keep (P := (fun q => q < w.heap.size ∧ some q ≠ some wb)) (w' := wa.drew) (fun b hb' => ⟨Nat.lt_of_lt_of_le hb'.1 hbA.size, hb'.2⟩) (fun b hb' => hbA.block b hb'.1 hb'.2) d _ _ hrd) (HG.out j hjl) (by have := HN.out; omega) (by have := HN.out; omega)
                    (fun q hq => by have := HCO.out q hq; have := hbA.size; omega) hLb HLZ.out hwA hsA
                  obtain ⟨-, -, o2, -, -⟩ := three hLA.box
                  have o2' : wa.cell? ⟨o, 2, none⟩ = some vs := o2
                  have htk : (mpL G k l b 0).take j ++ [mp G l[j] (b)] = (mpL G k l b 0).take (j + 1) := by
                    rw [mpL_take _ _ _ _ _ hjl, QQ.out]
                    try (first | rfl | rw [Int.add_zero])
                  have HLA := Lib.hid hLA
                  have HCON := Lib.hid hcon
                  have HTK := Lib.hid htk
                  have HGS := Lib.hid (show wa.drew.heap[wr.heap.size]? = _ from hgs0)
                  have hwbr : wb < wa.drew.heap.size := by have := HLT.out; have := hbA.size; omega
                  have HCL := Lib.hid (fun q (hq : C q) => (show q < o by have := HCO.out q hq; omega))
                  generalize hgs : wr.heap.size = gs at c0 c1 c2 HGS hng hngr hlw ⊢
                  clear e0 e1 e2 i0 i1 i2 hLA hcon hgs0 o2 hbel hbA hgs hsA hwA htk
                  refine wp_region_order [(0, true), (1, true), (2, true), (3, true), (4, true), (5, false), (6, false), (7, false), (8, true), (9, false)] (fun w' => w'.cell? ⟨gs, 0, none⟩ = some (.int .i64 k2) ∧ w'.cell? ⟨gs, 1, none⟩ = some (.int .i64 n2) ∧ w'.cell? ⟨gs, 2, none⟩ = some (.slice ao2 m2 cap2) ∧ w'.cell? ⟨o, 2, none⟩ = some vs)
                    (by kernel_rfl) (by kernel_rfl) ⟨c0, c1, c2, o2'⟩ (fun hHeld => ?_)
                  simp only [pickT, List.getElem?_cons_zero, List.getElem?_cons_succ, Option.getD_some]
                  repeat (refine wpT_take (v := ?_) (by rfl) (fun w' hSw => ?_) ?_; rotate_left; (go_simp; with_reducible rfl); simp only [Act.put, List.setIfInBounds_toArray, List.set_cons_zero, List.set_cons_succ])
                  refine wpT_do (fun K hK => ?_)
                  go_simp
                  go_at_call 117
                  refine HCON.out.mono ?_
                  rintro e w3 ⟨k3, n3, ao3, m3, c3, y3, L3, lg3, rfl, hb3, hr3, hs3, hw3, hok3⟩
                  have HR3 := Lib.hid hr3
                  have HS3 := Lib.hid hs3
                  have HW3 := Lib.hid hw3
                  have HOK3 := Lib.hid hok3
                  clear hr3 hs3 hw3 hok3 hHeld
                  refine hK.out _ _ ⟨(hb3.cell (p := ⟨gs, 0, none⟩) hlw hngr).trans c0, (hb3.cell (p := ⟨gs, 1, none⟩) hlw hngr).trans c1, (hb3.cell (p := ⟨gs, 2, none⟩) hlw hngr).trans c2, (hb3.cell (p := ⟨o, 2, none⟩) HLA.out.lt hoR).trans o2'⟩ (fun hHeld => ?_)
                  clear hK K
                  refine wpT_do (fun K hK => ?_)
                  go_simp
                  refine hK.out _ _ (by go_keep) (fun hHeld => ?_)
                  clear hK K
                  refine wpT_do (fun K hK => ?_)
                  refine step_outX rfl _ _ rfl HLA.out (by omega) rfl hb3 HR3.out 1 rfl ?_
                  intro g5 m5 cap5 w5 hL5 hk5 q5
                  obtain ⟨-, -, o5, f5, -⟩ := three q5
                  have hlw3 := Nat.lt_of_lt_of_le hlw hb3.size
                  obtain ⟨g0, g1, g2, -, -⟩ := three ((hk5 _ hlw3 hng).trans ((hb3.block _ hlw hngr).trans HGS.out))
                  have f5' := f5 2
                  have hs5 := HKEEP.out _ (w5.setCell ⟨o, 2, none⟩ (.slice (some ⟨g5, 0, none⟩) m5 cap5)) HS3.out (fun q hq => by
                    have h1 := HCL.out q hq
                    have h2 := HLA.out.lt
                    have h3 := hb3.size
                    rw [Below.heap_setCell _ _ _ _ (by show q ≠ o; omega)]
                    exact hk5 q (by omega) (fun e => by have := (HLA.out.made.block _ e).1; omega))
                  have hw5 := HW3.out.keep (w' := w5.setCell ⟨o, 2, none⟩ (.slice (some ⟨g5, 0, none⟩) m5 cap5)) (by
                    have h2 := HLA.out.lt
                    have h3 := hb3.size
                    have h4 := HLT.out
                    rw [Below.heap_setCell _ _ _ _ (by show wb ≠ o; omega)]
                    exact hk5 wb (by omega) (fun e => by have := (HLA.out.made.block _ e).1; omega))
                  have HL5 := Lib.hid hL5
                  have HS5 := Lib.hid hs5
                  have HW5 := Lib.hid hw5
                  clear hL5 f5 q5 hk5 hs5 hw5 hlw3
                  refine hK.out _ _ ⟨g0, g1, g2, o5⟩ (fun hHeld => ?_)
                  clear hK K
                  repeat (refine wpT_take (v := ?_) (by rfl) (fun w' hSw => ?_) ?_; rotate_left; (go_simp; with_reducible rfl); simp only [Act.put, List.setIfInBounds_toArray, List.set_cons_zero, List.set_cons_succ])
                  refine wpT_last (fun K hK => ?_)
                  go_simp
                  refine hK.out _ _ ?_
                  clear hK K
                  go_wp2_with fail
                  go_roundw
                  case rel => exact ⟨j + 1, _, ys ++ [y3], L3, lg3, by go_num, by omega, by simp [hyl], HL5.out, HS5.out, HW5.out, (HOK3.out.bnd (by omega)).1, (HOK3.out.bnd (by omega)).2, by rw [← HTK.out]; exact HOK.out.step HOK3.out⟩
                  case measure =>
                    have q : (intOf (.int .i64 ((j : Int) + 1))).toNat = j + 1 := by show ((j : Int) + 1).toNat = _; omega
                    have q2 : (intOf (.int .i64 (j : Int))).toNat = j := by show ((j : Int)).toNat = _; omega
                    rw [q, q2]; omega
                · skip
                  have QQ := Lib.hid q3
                  clear q3
                  go_wp2_with fail
                  have hgs0 := heap_new wr (.cells #[.int .i64 k2, .int .i64 n2, .slice ao2 m2 cap2] 24) _ rfl
                  have hbel : Below wr.heap.size wr (wr.alloc (.cells #[.int .i64 k2, .int .i64 n2, .slice ao2 m2 cap2] 24)).drew := below_drewN ((Below.refl _ _).alloc (Nat.le_refl _) _) 1
                  have hlw : wr.heap.size < (wr.alloc (.cells #[.int .i64 k2, .int .i64 n2, .slice ao2 m2 cap2] 24)).drew.heap.size := by show _ < (wr.alloc _).heap.size; rw [World.size_alloc]; omega
                  obtain ⟨c0, c1, c2, -, -⟩ := three hgs0
                  generalize wr.alloc (.cells #[.int .i64 k2, .int .i64 n2, .slice ao2 m2 cap2] 24) = wa at hbel hgs0 hlw c0 c1 c2 ⊢
                  have hLA := HL.out.on (Bx.of hbel)
                  have hbA := HB.out.trans (Bx.of (hbel.mono HB.out.size))
                  have hsA := HKEEP.out _ wa.drew HS'.out (fun q hq => hbel.block q (by have := HCO.out q hq; have := HB.out.size; omega))
                  have hwA := HW'.out.keep (hbel.block _ (by have := HLT.out; have := HB.out.size; omega))
                  have hng : vs.ownBlock ≠ some wr.heap.size := fun e => by have := (HL.out.made.block _ e).2; omega
                  have hngr : some wr.heap.size ≠ some wb := fun e => by injection e with e; have := HLT.out; have := HB.out.size; omega
                  have hoR : some o ≠ some wb := fun e => by injection e with e; have := HLT.out; omega
                  have hcon := IH.out _ l[j] (b) L' lg' wa.drew (RdN.keep (P := (fun q => q < w.heap.size ∧ some q ≠ some wb)) (w' := wa.drew) (fun b hb' => ⟨Nat.lt_of_lt_of_le hb'.1 hbA.size, hb'.2⟩) (fun b hb' => hbA.block b hb'.1 hb'.2) d _ _ hrd) (HG.out j hjl) (by have := HN.out; omega) (by have := HN.out; omega)
                    (fun q hq => by have := HCO.out q hq; have := hbA.size; omega) hLb HLZ.out hwA hsA
                  obtain ⟨-, -, o2, -, -⟩ := three hLA.box
                  have o2' : wa.cell? ⟨o, 2, none⟩ = some vs := o2
                  have htk : (mpL G k l b 0).take j ++ [mp G l[j] (b)] = (mpL G k l b 0).take (j + 1) := by
                    rw [mpL_take _ _ _ _ _ hjl, QQ.out]
                    try (first | rfl | rw [Int.add_zero])
                  have HLA := Lib.hid hLA
                  have HCON := Lib.hid hcon
                  have HTK := Lib.hid htk
                  have HGS := Lib.hid (show wa.drew.heap[wr.heap.size]? = _ from hgs0)
                  have hwbr : wb < wa.drew.heap.size := by have := HLT.out; have := hbA.size; omega
                  have HCL := Lib.hid (fun q (hq : C q) => (show q < o by have := HCO.out q hq; omega))
                  generalize hgs : wr.heap.size = gs at c0 c1 c2 HGS hng hngr hlw ⊢
                  clear e0 e1 e2 i0 i1 i2 hLA hcon hgs0 o2 hbel hbA hgs hsA hwA htk
                  refine wp_region_order [(0, true), (1, true), (2, true), (3, true), (4, true), (5, false), (6, false), (7, false), (8, true), (9, false)] (fun w' => w'.cell? ⟨gs, 0, none⟩ = some (.int .i64 k2) ∧ w'.cell? ⟨gs, 1, none⟩ = some (.int .i64 n2) ∧ w'.cell? ⟨gs, 2, none⟩ = some (.slice ao2 m2 cap2) ∧ w'.cell? ⟨o, 2, none⟩ = some vs)
                    (by kernel_rfl) (by kernel_rfl) ⟨c0, c1, c2, o2'⟩ (fun hHeld => ?_)
                  simp only [pickT, List.getElem?_cons_zero, List.getElem?_cons_succ, Option.getD_some]
                  repeat (refine wpT_take (v := ?_) (by rfl) (fun w' hSw => ?_) ?_; rotate_left; (go_simp; with_reducible rfl); simp only [Act.put, List.setIfInBounds_toArray, List.set_cons_zero, List.set_cons_succ])
                  refine wpT_do (fun K hK => ?_)
                  go_simp
                  go_at_call 117
                  refine HCON.out.mono ?_
                  rintro e w3 ⟨k3, n3, ao3, m3, c3, y3, L3, lg3, rfl, hb3, hr3, hs3, hw3, hok3⟩
                  have HR3 := Lib.hid hr3
                  have HS3 := Lib.hid hs3
                  have HW3 := Lib.hid hw3
                  have HOK3 := Lib.hid hok3
                  clear hr3 hs3 hw3 hok3 hHeld
                  refine hK.out _ _ ⟨(hb3.cell (p := ⟨gs, 0, none⟩) hlw hngr).trans c0, (hb3.cell (p := ⟨gs, 1, none⟩) hlw hngr).trans c1, (hb3.cell (p := ⟨gs, 2, none⟩) hlw hngr).trans c2, (hb3.cell (p := ⟨o, 2, none⟩) HLA.out.lt hoR).trans o2'⟩ (fun hHeld => ?_)
                  clear hK K
                  refine wpT_do (fun K hK => ?_)
                  go_simp
                  refine hK.out _ _ (by go_keep) (fun hHeld => ?_)
                  clear hK K
                  refine wpT_do (fun K hK => ?_)
                  refine step_outX rfl _ _ rfl HLA.out (by omega) rfl hb3 HR3.out 1 rfl ?_
                  intro g5 m5 cap5 w5 hL5 hk5 q5
                  obtain ⟨-, -, o5, f5, -⟩ := three q5
                  have hlw3 := Nat.lt_of_lt_of_le hlw hb3.size
                  obtain ⟨g0, g1, g2, -, -⟩ := three ((hk5 _ hlw3 hng).trans ((hb3.block _ hlw hngr).trans HGS.out))
                  have f5' := f5 2
                  have hs5 := HKEEP.out _ (w5.setCell ⟨o, 2, none⟩ (.slice (some ⟨g5, 0, none⟩) m5 cap5)) HS3.out (fun q hq => by
                    have h1 := HCL.out q hq
                    have h2 := HLA.out.lt
                    have h3 := hb3.size
                    rw [Below.heap_setCell _ _ _ _ (by show q ≠ o; omega)]
                    exact hk5 q (by omega) (fun e => by have := (HLA.out.made.block _ e).1; omega))
                  have hw5 := HW3.out.keep (w' := w5.setCell ⟨o, 2, none⟩ (.slice (some ⟨g5, 0, none⟩) m5 cap5)) (by
                    have h2 := HLA.out.lt
                    have h3 := hb3.size
                    have h4 := HLT.out
                    rw [Below.heap_setCell _ _ _ _ (by show wb ≠ o; omega)]
                    exact hk5 wb (by omega) (fun e => by have := (HLA.out.made.block _ e).1; omega))
                  have HL5 := Lib.hid hL5
                  have HS5 := Lib.hid hs5
                  have HW5 := Lib.hid hw5
                  clear hL5 f5 q5 hk5 hs5 hw5 hlw3
                  refine hK.out _ _ ⟨g0, g1, g2, o5⟩ (fun hHeld => ?_)
                  clear hK K
                  repeat (refine wpT_take (v := ?_) (by rfl) (fun w' hSw => ?_) ?_; rotate_left; (go_simp; with_reducible rfl); simp only [Act.put, List.setIfInBounds_toArray, List.set_cons_zero, List.set_cons_succ])
                  refine wpT_last (fun K hK => ?_)
                  go_simp
                  refine hK.out _ _ ?_
                  clear hK K
                  go_wp2_with fail
                  go_roundw
                  case rel => exact ⟨j + 1, _, ys ++ [y3], L3, lg3, by go_num, by omega, by simp [hyl], HL5.out, HS5.out, HW5.out, (HOK3.out.bnd (by omega)).1, (HOK3.out.bnd (by omega)).2, by rw [← HTK.out]; exact HOK.out.step HOK3.out⟩
                  case measure =>
                    have q : (intOf (.int .i64 ((j : Int) + 1))).toNat = j + 1 := by show ((j : Int) + 1).toNat = _; omega
                    have q2 : (intOf (.int .i64 (j : Int))).toNat = j := by show ((j : Int)).toNat = _; omega
                    rw [q, q2]; omega
                · skip
                  have QQ := Lib.hid q3
                  clear q3
                  go_wp2_with fail
                  have hgs0 := heap_new wr (.cells #[.int .i64 k2, .int .i64 n2, .slice ao2 m2 cap2] 24) _ rfl
                  have hbel : Below wr.heap.size wr (wr.alloc (.cells #[.int .i64 k2, .int .i64 n2, .slice ao2 m2 cap2] 24)).drew := below_drewN ((Below.refl _ _).alloc (Nat.le_refl _) _) 1
                  have hlw : wr.heap.size < (wr.alloc (.cells #[.int .i64 k2, .int .i64 n2, .slice ao2 m2 cap2] 24)).drew.heap.size := by show _ < (wr.alloc _).heap.size; rw [World.size_alloc]; omega
                  obtain ⟨c0, c1, c2, -, -⟩ := three hgs0
                  generalize wr.alloc (.cells #[.int .i64 k2, .int .i64 n2, .slice ao2 m2 cap2] 24) = wa at hbel hgs0 hlw c0 c1 c2 ⊢
                  have hLA := HL.out.on (Bx.of hbel)
                  have hbA := HB.out.trans (Bx.of (hbel.mono HB.out.size))
                  have hsA := HKEEP.out _ wa.drew HS'.out (fun q hq => hbel.block q (by have := HCO.out q hq; have := HB.out.size; omega))
                  have hwA := HW'.out.keep (hbel.block _ (by have := HLT.out; have := HB.out.size; omega))
                  have hng : vs.ownBlock ≠ some wr.heap.size := fun e => by have := (HL.out.made.block _ e).2; omega
                  have hngr : some wr.heap.size ≠ some wb := fun e => by injection e with e; have := HLT.out; have := HB.out.size; omega
                  have hoR : some o ≠ some wb := fun e => by injection e with e; have := HLT.out; omega
                  have hcon := IH.out _ l[j] (b + 1) L' lg' wa.drew (RdN.keep (P := (fun q => q < w.heap.size ∧ some q ≠ some wb)) (w' := wa.drew) (fun b hb' => ⟨Nat.lt_of_lt_of_le hb'.1 hbA.size, hb'.2⟩) (fun b hb' => hbA.block b hb'.1 hb'.2) d _ _ hrd) (HG.out j hjl) (by have := HN.out; omega) (by have := HN.out; omega)
                    (fun q hq => by have := HCO.out q hq; have := hbA.size; omega) hLb HLZ.out hwA hsA
                  obtain ⟨-, -, o2, -, -⟩ := three hLA.box
                  have o2' : wa.cell? ⟨o, 2, none⟩ = some vs := o2
                  have htk : (mpL G k l b 0).take j ++ [mp G l[j] (b + 1)] = (mpL G k l b 0).take (j + 1) := by
                    rw [mpL_take _ _ _ _ _ hjl, QQ.out]
                    try (first | rfl | rw [Int.add_zero])
                  have HLA := Lib.hid hLA
                  have HCON := Lib.hid hcon
                  have HTK := Lib.hid htk
                  have HGS := Lib.hid (show wa.drew.heap[wr.heap.size]? = _ from hgs0)
                  have hwbr : wb < wa.drew.heap.size := by have := HLT.out; have := hbA.size; omega
                  have HCL := Lib.hid (fun q (hq : C q) => (show q < o by have := HCO.out q hq; omega))
                  generalize hgs : wr.heap.size = gs at c0 c1 c2 HGS hng hngr hlw ⊢
                  clear e0 e1 e2 i0 i1 i2 hLA hcon hgs0 o2 hbel hbA hgs hsA hwA htk
                  refine wp_region_order [(0, true), (1, true), (2, true), (3, true), (4, true), (5, false), (6, false), (7, false), (8, true), (9, false)] (fun w' => w'.cell? ⟨gs, 0, none⟩ = some (.int .i64 k2) ∧ w'.cell? ⟨gs, 1, none⟩ = some (.int .i64 n2) ∧ w'.cell? ⟨gs, 2, none⟩ = some (.slice ao2 m2 cap2) ∧ w'.cell? ⟨o, 2, none⟩ = some vs)
                    (by kernel_rfl) (by kernel_rfl) ⟨c0, c1, c2, o2'⟩ (fun hHeld => ?_)
                  simp only [pickT, List.getElem?_cons_zero, List.getElem?_cons_succ, Option.getD_some]
                  repeat (refine wpT_take (v := ?_) (by rfl) (fun w' hSw => ?_) ?_; rotate_left; (go_simp; with_reducible rfl); simp only [Act.put, List.setIfInBounds_toArray, List.set_cons_zero, List.set_cons_succ])
                  refine wpT_do (fun K hK => ?_)
                  go_simp
                  go_at_call 117
                  refine HCON.out.mono ?_
                  rintro e w3 ⟨k3, n3, ao3, m3, c3, y3, L3, lg3, rfl, hb3, hr3, hs3, hw3, hok3⟩
                  have HR3 := Lib.hid hr3
                  have HS3 := Lib.hid hs3
                  have HW3 := Lib.hid hw3
                  have HOK3 := Lib.hid hok3
                  clear hr3 hs3 hw3 hok3 hHeld
                  refine hK.out _ _ ⟨(hb3.cell (p := ⟨gs, 0, none⟩) hlw hngr).trans c0, (hb3.cell (p := ⟨gs, 1, none⟩) hlw hngr).trans c1, (hb3.cell (p := ⟨gs, 2, none⟩) hlw hngr).trans c2, (hb3.cell (p := ⟨o, 2, none⟩) HLA.out.lt hoR).trans o2'⟩ (fun hHeld => ?_)
                  clear hK K
                  refine wpT_do (fun K hK => ?_)
                  go_simp
                  refine hK.out _ _ (by go_keep) (fun hHeld => ?_)
                  clear hK K
                  refine wpT_do (fun K hK => ?_)
                  refine step_outX rfl _ _ rfl HLA.out (by omega) rfl hb3 HR3.out 1 rfl ?_
                  intro g5 m5 cap5 w5 hL5 hk5 q5
                  obtain ⟨-, -, o5, f5, -⟩ := three q5
                  have hlw3 := Nat.lt_of_lt_of_le hlw hb3.size
                  obtain ⟨g0, g1, g2, -, -⟩ := three ((hk5 _ hlw3 hng).trans ((hb3.block _ hlw hngr).trans HGS.out))
                  have f5' := f5 2
                  have hs5 := HKEEP.out _ (w5.setCell ⟨o, 2, none⟩ (.slice (some ⟨g5, 0, none⟩) m5 cap5)) HS3.out (fun q hq => by
                    have h1 := HCL.out q hq
                    have h2 := HLA.out.lt
                    have h3 := hb3.size
                    rw [Below.heap_setCell _ _ _ _ (by show q ≠ o; omega)]
                    exact hk5 q (by omega) (fun e => by have := (HLA.out.made.block _ e).1; omega))
                  have hw5 := HW3.out.keep (w' := w5.setCell ⟨o, 2, none⟩ (.slice (some ⟨g5, 0, none⟩) m5 cap5)) (by
                    have h2 := HLA.out.lt
                    have h3 := hb3.size
                    have h4 := HLT.out
                    rw [Below.heap_setCell _ _ _ _ (by show wb ≠ o; omega)]
                    exact hk5 wb (by omega) (fun e => by have := (HLA.out.made.block _ e).1; omega))
                  have HL5 := Lib.hid hL5
                  have HS5 := Lib.hid hs5
                  have HW5 := Lib.hid hw5
                  clear hL5 f5 q5 hk5 hs5 hw5 hlw3
                  refine hK.out _ _ ⟨g0, g1, g2, o5⟩ (fun hHeld => ?_)
                  clear hK K
                  repeat (refine wpT_take (v := ?_) (by rfl) (fun w' hSw => ?_) ?_; rotate_left; (go_simp; with_reducible rfl); simp only [Act.put, List.setIfInBounds_toArray, List.set_cons_zero, List.set_cons_succ])
                  refine wpT_last (fun K hK => ?_)
                  go_simp
                  refine hK.out _ _ ?_
                  clear hK K
                  go_wp2_with fail
                  go_roundw
                  case rel => exact ⟨j + 1, _, ys ++ [y3], L3, lg3, by go_num, by omega, by simp [hyl], HL5.out, HS5.out, HW5.out, (HOK3.out.bnd (by omega)).1, (HOK3.out.bnd (by omega)).2, by rw [← HTK.out]; exact HOK.out.step HOK3.out⟩
                  case measure =>
                    have q : (intOf (.int .i64 ((j : Int) + 1))).toNat = j + 1 := by show ((j : Int) + 1).toNat = _; omega
                    have q2 : (intOf (.int .i64 (j : Int))).toNat = j := by show ((j : Int)).toNat = _; omega
                    rw [q, q2]; omega
              · obtain ⟨o0, o1, o2, of, -⟩ := three hL.box
                obtain ⟨z0, z1, z2, zf, -⟩ := three ((hL.bel.block (w.heap.size + 1) (by omega) (fun e => by injection e with e; have := HLT.out; omega)).trans HZ0.out)
                obtain ⟨ao5, m5, cap5, rfl⟩ := hL.shape
                have HL := Lib.hid hL
                have HS' := Lib.hid hs'
                have HW' := Lib.hid hw'
                have HB := Lib.hid hb
                clear hL hs' hw' hb hLz
                go_wp2_with fail
                refine bodyPost_ret (v := .agg #[.int .i64 k, .int .i64 x, .slice ao5 m5 cap5]) (by simp [results, Try.results117, go_sem, z0, z1, z2]) rfl (AnsK.fin HKEEP.out HCO.out HB.out (Nat.le_succ _) HLT.out HS'.out HW'.out
                  ((HL.out.term HK.out HX.out).keep (fun q hq => ⟨⟨by omega, hq.2⟩, by omega⟩) fun _ _ => rfl) ?_)
                have q := HOK.out
                rw [mpL_all _ _ _ _ _ hjl] at q
                rw [HMP.out]
                exact q.node
      · obtain ⟨wA, hwA⟩ : ∃ wA, wA = (W.alloc (.cells #[.int .i64 0, .int .i64 0, .slice none 0 0] 24)).drew := ⟨_, rfl⟩
        have hbA : Below W.heap.size W wA := by rw [hwA]; exact below_drewN (alloc_bel W _) 1
        have hXA : wA.heap[W.heap.size]? = some (.cells #[.int .i64 0, .int .i64 0, .slice none 0 0] 24) := by rw [hwA]; exact heap_new W _ _ rfl
        have hsA : wA.heap.size = W.heap.size + 1 := by rw [hwA]; exact World.size_alloc _ _
        obtain ⟨g0, g1, g2, gf, gl⟩ := HWB.out.cells
        obtain ⟨q0, q1, q2, -, ql⟩ := three HQ.out
        have hSA := And.intro ((hbA.cell (p := ⟨wb, 2, none⟩) gl).trans g2) (And.intro ((hbA.cell (p := ⟨w.heap.size, 0, none⟩) ql).trans q0) (And.intro ((hbA.cell (p := ⟨w.heap.size, 1, none⟩) ql).trans q1) ((hbA.cell (p := ⟨w.heap.size, 2, none⟩) ql).trans q2)))
        have hcon := hcd wA hk1 hk8 hx0 hx1 hb0 hbb hL0 hL.2 (fun q hq => by have := HCO.out q hq; have := HSZ.out; omega) (HWB.out.keep (hbA.block _ gl)) (HKEEP.out _ wA HS.out fun q hq => hbA.block q (by have := HCO.out q hq; have := HSZ.out; omega))
        have HCON := Lib.hid hcon
        have HQA := Lib.hid ((hbA.block _ ql).trans HQ.out)
        have HZA := Lib.hid ((hbA.block _ (by have := HSZ.out; omega)).trans HZ.out)
        have HXA0 := Lib.hid hXA
        have HBA := Lib.hid hbA
        refine wpR_do (fun K hK => ?_)
        go_simp
        rw [← hwA]
        refine hK.out _ _ hSA (fun hHeld => ?_)
        clear hK K hHeld hcon hcd hSA g0 g1 g2 gf q0 q1 q2 hXA hbA hwA HWB HS HQ HZ
        refine wpR_rest ?_
        refine wpT_do (fun K hK => ?_)
        go_simp
        refine HCON.out.mono ?_
        rintro e w1 ⟨k1, n1, ao1, m1, c1, dn, L1, lg1, rfl, hb1, hs1, hw1, hd0, hd1⟩
        have hsW : w.heap.size + 2 ≤ w1.heap.size := by have := hb1.size; have := HSZ.out; omega
        have hne : ∀ q, w.heap.size ≤ q → some q ≠ some wb := fun q hq e => by injection e with e; have := HLT.out; omega
        have HBW1 := Lib.hid ((Bx.of (row := some wb) HBEL.out).trans (((Bx.of HBA.out).trans (hb1.mono (by omega))).mono (by have := HSZ.out; omega)))
        have HQ1 := Lib.hid ((hb1.block _ (by omega) (hne _ (Nat.le_refl _))).trans HQA.out)
        have HZ1 := Lib.hid ((hb1.block _ (by have := HSZ.out; omega) (hne _ (by omega))).trans HZA.out)
        have HXA := Lib.hid ((hb1.block _ (by omega) (hne _ (by have := HSZ.out; omega))).trans HXA0.out)
        have HS1 := Lib.hid hs1
        have HW1 := Lib.hid hw1
        have HD0 := Lib.hid hd0
        have HD1 : Hid (dn = true → ∃ x1 y, G k x b = some x1 ∧ Rd (fun q => w.heap.size + 2 ≤ q ∧ q < w1.heap.size ∧ q ≠ W.heap.size) w1 (.agg #[.int .i64 k1, .int .i64 n1, .slice ao1 m1 c1]) y ∧ OkS L false x1 y L1 lg1) := Lib.hid (fun e => by
          obtain ⟨x1, y, r1, r2, r3⟩ := hd1 e
          exact ⟨x1, y, r1, r2.keep (fun q hq => ⟨by have := hq.1; have := HSZ.out; omega, hq.2, by have := hq.1; omega⟩) fun _ _ => rfl, r3⟩)
        clear hb1 hs1 hw1 hd0 hd1 HCON HQA HZA HXA0
        obtain ⟨g0, g1, g2, gf, gl1⟩ := HW1.out.cells
        obtain ⟨q0, q1, q2, -, ql1⟩ := three HQ1.out
        refine hK.out _ _ ⟨g2, q0, q1, q2⟩ (fun hHeld => ?_)
        clear hK K hHeld g0 g1 g2 gf q0 q1 q2
        repeat (refine wpT_take (v := ?_) (by rfl) (fun w' hSw => ?_) ?_; rotate_left; (go_simp; with_reducible rfl); simp only [Act.put, List.setIfInBounds_toArray, List.set_cons_zero, List.set_cons_succ])
        have hXw : w.heap.size + 2 ≤ W.heap.size := by have := HSZ.out; omega
        obtain ⟨x0, x1, x2, xf, xl⟩ := three HXA.out
        have xf0 := xf 0
        have xf1 := xf 1
        have xf2 := xf 2
        have HXL := Lib.hid xl
        refine wpT_do (fun K hK => ?_)
        go_simp
        have hoff := set3_off w1 W.heap.size (.int .i64 k1) (.int .i64 n1) (.slice ao1 m1 c1)
        have hss := set3_size w1 W.heap.size (.int .i64 k1) (.int .i64 n1) (.slice ao1 m1 c1)
        have hblk := set3_blk (a := .int .i64 k1) (b := .int .i64 n1) (c := .slice ao1 m1 c1) HXA.out
        have HB3 := Lib.hid (((HBW1.out.setCell (p := ⟨W.heap.size, 0, none⟩) (.inl (by simp only []; omega)) (.int .i64 k1)).setCell (p := ⟨W.heap.size, 1, none⟩) (.inl (by simp only []; omega)) (.int .i64 n1)).setCell (p := ⟨W.heap.size, 2, none⟩) (.inl (by simp only []; omega)) (.slice ao1 m1 c1))
        generalize ((w1.setCell ⟨W.heap.size, 0, none⟩ (.int .i64 k1)).setCell ⟨W.heap.size, 1, none⟩ (.int .i64 n1)).setCell ⟨W.heap.size, 2, none⟩ (.slice ao1 m1 c1) = wS at hoff hss hblk HB3 ⊢
        have HX3 := Lib.hid hblk
        have HQ3 := Lib.hid ((hoff _ (by omega)).trans HQ1.out)
        have HZ3 := Lib.hid ((hoff _ (by omega)).trans HZ1.out)
        have HW3 := Lib.hid (HW1.out.keep (hoff _ (by have := HLT.out; omega)))
        have HS3 := Lib.hid (HKEEP.out _ wS HS1.out fun q hq => hoff q (by have := HCO.out q hq; omega))
        have HD3 : Hid (dn = true → ∃ x1 y, G k x b = some x1 ∧ Rd (fun q => w.heap.size + 2 ≤ q ∧ q < wS.heap.size) wS (.agg #[.int .i64 k1, .int .i64 n1, .slice ao1 m1 c1]) y ∧ OkS L false x1 y L1 lg1) := Lib.hid (fun e => by
          obtain ⟨x1, y, r1, r2, r3⟩ := HD1.out e
          exact ⟨x1, y, r1, r2.keep (fun q hq => ⟨hq.1, by omega⟩) fun q hq => hoff q hq.2.2, r3⟩)
        have hsS : w.heap.size + 2 ≤ wS.heap.size := by have := HXL.out; omega
        clear x0 x1 x2 xf xf0 xf1 xf2 xl hoff hss hblk HBW1 HXA HQ1 HZ1 HW1 HS1 HD1 HXL
        obtain ⟨g0, g1, g2, gf, gl3⟩ := HW3.out.cells
        obtain ⟨q0, q1, q2, -, ql3⟩ := three HQ3.out
        refine hK.out _ _ ⟨g2, q0, q1, q2⟩ (fun hHeld => ?_)
        clear hK K hHeld
        refine wpT_last (fun K hK => ?_)
        go_simp
        refine hK.out _ _ ?_
        clear hK K
        generalize W.heap.size = X at HX3 hXw ⊢
        cases dn with
        | true =>
          obtain ⟨x1, y, hG, hRy, hOk⟩ := HD3.out rfl
          have hmp : mp G (.node k x l) b = x1 := by simp only [mp, hG]
          have hOk2 : OkS L false (mp G (.node k x l) b) y L1 lg1 := by rw [hmp]; exact hOk
          have HOK := Lib.hid hOk2
          have HRY := Lib.hid hRy
          obtain ⟨z0, z1, z2, zf, zl⟩ := three HZ3.out
          obtain ⟨x0, x1, x2, xf, xl⟩ := three HX3.out
          clear hG hRy hOk hmp hOk2
          go_wp2_with fail
          exact bodyPost_ret (v := .agg #[.int .i64 k1, .int .i64 n1, .slice ao1 m1 c1]) (by simp [results, Try.results117, go_sem, z0, z1, z2]) rfl (AnsK.fin HKEEP.out HCO.out HB3.out (Nat.le_succ _) HLT.out HS3.out HW3.out (HRY.out.keep (fun q hq => ⟨⟨by omega, hq.2⟩, by omega⟩) fun _ _ => rfl) HOK.out)
        | false =>
          obtain ⟨hG, hL1, hlg1⟩ := HD0.out rfl
          subst hL1
          subst hlg1
          have hmp : mp G (.node k x l) b = .node k x (mpL G k l b 0) := by simp only [mp, hG]
          have HMP := Lib.hid hmp
          have gf0 := gf 0
          have gf1 := gf 1
          clear hG hmp HD0 HD3 HX3
          have hneB : w.heap.size ≠ wb := by have := HLT.out; omega
          have HWa := Lib.hid (HW3.out.set0 (L' := L1 - 1))
          have hka : ∀ q, q ≠ wb → (wS.setCell ⟨wb, 0, none⟩ (.int .i64 (L1 - 1))).heap[q]? = wS.heap[q]? := fun q hq => Below.heap_setCell _ _ _ _ hq
          have HBa := Lib.hid (HB3.out.setCell (p := ⟨wb, 0, none⟩) (.inr rfl) (.int .i64 (L1 - 1)))
          have HQa := Lib.hid ((hka _ hneB).trans HQ3.out)
          have HZa := Lib.hid ((hka (w.heap.size + 1) (by have := HLT.out; omega)).trans HZ3.out)
          have HSa := Lib.hid (HKEEP.out _ _ HS3.out fun q hq => hka q (HCLO.out.off q hq))
          have hsa : (wS.setCell ⟨wb, 0, none⟩ (.int .i64 (L1 - 1))).heap.size = wS.heap.size := by simp [World.setCell]
          obtain ⟨qa0, qa1, qa2, -, -⟩ := three HQa.out
          obtain ⟨-, ga1, -, gfa, -⟩ := HWa.out.cells
          have gfa1 := gfa 1
          by_cases hlt : L1 - 1 < 0
          · have HWb := Lib.hid (HWa.out.set1 (lg' := true))
            have hkb : ∀ q, q ≠ wb → ((wS.setCell ⟨wb, 0, none⟩ (.int .i64 (L1 - 1))).setCell ⟨wb, 1, none⟩ (.bool true)).heap[q]? = (wS.setCell ⟨wb, 0, none⟩ (.int .i64 (L1 - 1))).heap[q]? := fun q hq => Below.heap_setCell _ _ _ _ hq
            have HBb := Lib.hid (HBa.out.setCell (p := ⟨wb, 1, none⟩) (.inr rfl) (.bool true))
            have HQb := Lib.hid ((hkb _ hneB).trans HQa.out)
            have HZb := Lib.hid ((hkb (w.heap.size + 1) (by have := HLT.out; omega)).trans HZa.out)
            have HSb := Lib.hid (HKEEP.out _ _ HSa.out fun q hq => hkb q (HCLO.out.off q hq))
            have hsb : ((wS.setCell ⟨wb, 0, none⟩ (.int .i64 (L1 - 1))).setCell ⟨wb, 1, none⟩ (.bool true)).heap.size = wS.heap.size := by simp [World.setCell]
            obtain ⟨qb0, qb1, qb2, -, -⟩ := three HQb.out
            go_wp2_with fail
            have hsY : ((wS.setCell ⟨wb, 0, none⟩ (.int .i64 (L1 - 1))).setCell ⟨wb, 1, none⟩ (.bool true)).heap.size = wS.heap.size := hsb
            have hst0 : OutX (some wb) (((wS.setCell ⟨wb, 0, none⟩ (.int .i64 (L1 - 1))).setCell ⟨wb, 1, none⟩ (.bool true)).alloc (.cells #[.int .i64 k, .int .i64 x, .slice none 0 0] 24)) wS.heap.size k x (.slice none 0 0) [] (((wS.setCell ⟨wb, 0, none⟩ (.int .i64 (L1 - 1))).setCell ⟨wb, 1, none⟩ (.bool true)).alloc (.cells #[.int .i64 k, .int .i64 x, .slice none 0 0] 24)) := OutX.start (heap_new ((wS.setCell ⟨wb, 0, none⟩ (.int .i64 (L1 - 1))).setCell ⟨wb, 1, none⟩ (.bool true)) _ _ hsY.symm) (fun r e => by injection e with e; have := HLT.out; omega)
            have HST := Lib.hid hst0
            have hbl : Below ((wS.setCell ⟨wb, 0, none⟩ (.int .i64 (L1 - 1))).setCell ⟨wb, 1, none⟩ (.bool true)).heap.size ((wS.setCell ⟨wb, 0, none⟩ (.int .i64 (L1 - 1))).setCell ⟨wb, 1, none⟩ (.bool true)) (((wS.setCell ⟨wb, 0, none⟩ (.int .i64 (L1 - 1))).setCell ⟨wb, 1, none⟩ (.bool true)).alloc (.cells #[.int .i64 k, .int .i64 x, .slice none 0 0] 24)) := alloc_bel _ _
            have HB0 := Lib.hid (HBb.out.trans (Bx.of (hbl.mono (by rw [hsY]; omega))))
            have HQ0 := Lib.hid ((hbl.block _ (by rw [hsY]; omega)).trans HQb.out)
            have HZ0 := Lib.hid ((hbl.block _ (by rw [hsY]; omega)).trans HZb.out)
            have HS0 := Lib.hid (HKEEP.out _ _ HSb.out fun q hq => hbl.block q (by have := HCO.out q hq; rw [hsY]; omega))
            have HW0 := Lib.hid (HWb.out.keep (hbl.block _ (by have := HLT.out; rw [hsY]; omega)))
            clear hst0 hbl hsY hsa qa0 qa1 qa2 ga1 gfa gfa1 hka hsb qb0 qb1 qb2 hkb g0 g1 g2 gf gf0 gf1 q0 q1 q2
            generalize ((wS.setCell ⟨wb, 0, none⟩ (.int .i64 (L1 - 1))).setCell ⟨wb, 1, none⟩ (.bool true)).alloc (.cells #[.int .i64 k, .int .i64 x, .slice none 0 0] 24) = w0 at HST HB0 HQ0 HZ0 HS0 HW0 ⊢
            generalize wS.heap.size = o at HST hsS ⊢
            have hok0 : OkL (L1 - 1) (decide (L1 - 1 < 0)) ((mpL G k l b 0).take 0) [] (L1 - 1) true := by
              have hd : decide (L1 - 1 < 0) = true := by simp; omega
              rw [hd, List.take_zero]
              exact OkL.start (by intro q; first | omega | cases q) ⟨by omega, by omega⟩
            have HOK0 := Lib.hid hok0
            clear hok0
            go_loopw [53] (fun i wr => ∃ (j : Nat) (vs : Value) (ys : List Tm) (L' : Int) (lg' : Bool), i = .int .i64 j ∧ j ≤ l.length ∧ ys.length = j ∧ OutX (some wb) w0 o k x vs ys wr ∧ St wr ∧ WBox wb (.func (.func F) #[] caps) L' lg' wr ∧ (-8193 ≤ L' ∧ L' ≤ 8192) ∧ (lg' = false → 0 ≤ L') ∧ OkL (L1 - 1) (decide (L1 - 1 < 0)) ((mpL G k l b 0).take j) ys L' lg') (fun i _ => l.length - (intOf i).toNat)
            case atStart => exact ⟨0, _, [], L1 - 1, true, rfl, Nat.zero_le _, rfl, HST.out, HS0.out, HW0.out, ⟨by omega, by omega⟩, (by intro q; first | omega | cases q), HOK0.out⟩
            case round =>
              obtain ⟨j, vs, ys, L', lg', rfl, hj, hyl, hL, hs', hw', hLb, hLz, hok⟩ := hrel
              have HOK := Lib.hid hok
              clear hok HST HOK0 HS0 HW0
              have hLo := hL.lt
              have hneB : some w.heap.size ≠ some wb := fun e => by injection e with e; have := HLT.out; omega
              have hb : Bx (some wb) w.heap.size w wr := HB0.out.trans (hL.bel.mono (by omega))
              by_cases hjl : j < l.length
              · obtain ⟨bq, off, k2, n2, ao2, m2, cap2, rfl, ⟨hP, hPr⟩, h0, h1, h2, hrd⟩ := HE.out j hjl
                have e0 := (hb.cell (p := ⟨bq, off + j * 3, none⟩) hP hPr).trans h0
                have e1 := (hb.cell (p := ⟨bq, off + j * 3 + 1, none⟩) hP hPr).trans h1
                have e2 := (hb.cell (p := ⟨bq, off + j * 3 + 2, none⟩) hP hPr).trans h2
                have hbw : bq < wr.heap.size := Nat.lt_of_lt_of_le hP hb.size
                obtain ⟨i0, i1, i2, -, -⟩ := three ((hL.bel.block _ (by omega) hneB).trans HQ0.out)
                have HL := Lib.hid hL
                have HB := Lib.hid hb
                have HS' := Lib.hid hs'
                have HW' := Lib.hid hw'
                have HLZ := Lib.hid hLz
                clear h0 h1 h2 hL hb hs' hw' hLz
                have hcase : ((j : Int) == 1) = false ∧ bn k j = 0 ∨ ((j : Int) == 1) = true ∧ (k != 5) = false ∧ bn k j = 0 ∨ ((j : Int) == 1) = true ∧ (k != 5) = true ∧ bn k j = 1 := by
                  unfold bn
                  by_cases q1 : j = 1
                  · by_cases q2 : k = 5
                    · right; left; exact ⟨by simp [q1], by simp [q2], by rw [if_neg (by omega)]⟩
                    · right; right; exact ⟨by simp [q1], by simp [q2], by rw [if_pos ⟨q1, q2⟩]⟩
                  · left; exact ⟨by simp; omega, by rw [if_neg (by omega)]⟩
                have hlc : (j : Int) < (l.length : Int) := by omega
                have hBw : w.heap.size < wr.heap.size := by omega
                have hnb : b ≤ 1048575 := by omega
                rcases hcase with ⟨q1, q2⟩ | ⟨q1, q2, q3⟩ | ⟨q1, q2, q3⟩
                · skip
                  have QQ := Lib.hid q2
                  clear q2
                  go_wp2_with fail
                  have hgs0 := heap_new wr (.cells #[.int .i64 k2, .int .i64 n2, .slice ao2 m2 cap2] 24) _ rfl
                  have hbel : Below wr.heap.size wr (wr.alloc (.cells #[.int .i64 k2, .int .i64 n2, .slice ao2 m2 cap2] 24)).drew := below_drewN ((Below.refl _ _).alloc (Nat.le_refl _) _) 1
                  have hlw : wr.heap.size < (wr.alloc (.cells #[.int .i64 k2, .int .i64 n2, .slice ao2 m2 cap2] 24)).drew.heap.size := by show _ < (wr.alloc _).heap.size; rw [World.size_alloc]; omega
                  obtain ⟨c0, c1, c2, -, -⟩ := three hgs0
                  generalize wr.alloc (.cells #[.int .i64 k2, .int .i64 n2, .slice ao2 m2 cap2] 24) = wa at hbel hgs0 hlw c0 c1 c2 ⊢
                  have hLA := HL.out.on (Bx.of hbel)
                  have hbA := HB.out.trans (Bx.of (hbel.mono HB.out.size))
                  have hsA := HKEEP.out _ wa.drew HS'.out (fun q hq => hbel.block q (by have := HCO.out q hq; have := HB.out.size; omega))
                  have hwA := HW'.out.keep (hbel.block _ (by have := HLT.out; have := HB.out.size; omega))
                  have hng : vs.ownBlock ≠ some wr.heap.size := fun e => by have := (HL.out.made.block _ e).2; omega
                  have hngr : some wr.heap.size ≠ some wb := fun e => by injection e with e; have := HLT.out; have := HB.out.size; omega
                  have hoR : some o ≠ some wb := fun e => by injection e with e; have := HLT.out; omega
                  have hcon := IH.out _ l[j] (b) L' lg' wa.drew (RdN.keep (P := (fun q => q < w.heap.size ∧ some q ≠ some wb)) (w' := wa.drew) (fun b hb' => ⟨Nat.lt_of_lt_of_le hb'.1 hbA.size, hb'.2⟩) (fun b hb' => hbA.block b hb'.1 hb'.2) d _ _ hrd) (HG.out j hjl) (by have := HN.out; omega) (by have := HN.out; omega)
                    (fun q hq => by have := HCO.out q hq; have := hbA.size; omega) hLb HLZ.out hwA hsA
                  obtain ⟨-, -, o2, -, -⟩ := three hLA.box
                  have o2' : wa.cell? ⟨o, 2, none⟩ = some vs := o2
                  have htk : (mpL G k l b 0).take j ++ [mp G l[j] (b)] = (mpL G k l b 0).take (j + 1) := by
                    rw [mpL_take _ _ _ _ _ hjl, QQ.out]
                    try (first | rfl | rw [Int.add_zero])
                  have HLA := Lib.hid hLA
                  have HCON := Lib.hid hcon
                  have HTK := Lib.hid htk
                  have HGS := Lib.hid (show wa.drew.heap[wr.heap.size]? = _ from hgs0)
                  have hwbr : wb < wa.drew.heap.size := by have := HLT.out; have := hbA.size; omega
                  have HCL := Lib.hid (fun q (hq : C q) => (show q < o by have := HCO.out q hq; omega))
                  generalize hgs : wr.heap.size = gs at c0 c1 c2 HGS hng hngr hlw ⊢
                  clear e0 e1 e2 i0 i1 i2 hLA hcon hgs0 o2 hbel hbA hgs hsA hwA htk
                  refine wp_region_order [(0, true), (1, true), (2, true), (3, true), (4, true), (5, false), (6, false), (7, false), (8, true), (9, false)] (fun w' => w'.cell? ⟨gs, 0, none⟩ = some (.int .i64 k2) ∧ w'.cell? ⟨gs, 1, none⟩ = some (.int .i64 n2) ∧ w'.cell? ⟨gs, 2, none⟩ = some (.slice ao2 m2 cap2) ∧ w'.cell? ⟨o, 2, none⟩ = some vs)
                    (by kernel_rfl) (by kernel_rfl) ⟨c0, c1, c2, o2'⟩ (fun hHeld => ?_)
                  simp only [pickT, List.getElem?_cons_zero, List.getElem?_cons_succ, Option.getD_some]
                  repeat (refine wpT_take (v := ?_) (by rfl) (fun w' hSw => ?_) ?_; rotate_left; (go_simp; with_reducible rfl); simp only [Act.put, List.setIfInBounds_toArray, List.set_cons_zero, List.set_cons_succ])
                  refine wpT_do (fun K hK => ?_)
                  go_simp
                  go_at_call 117
                  refine HCON.out.mono ?_
                  rintro e w3 ⟨k3, n3, ao3, m3, c3, y3, L3, lg3, rfl, hb3, hr3, hs3, hw3, hok3⟩
                  have HR3 := Lib.hid hr3
                  have HS3 := Lib.hid hs3
                  have HW3 := Lib.hid hw3
                  have HOK3 := Lib.hid hok3
                  clear hr3 hs3 hw3 hok3 hHeld
                  refine hK.out _ _ ⟨(hb3.cell (p := ⟨gs, 0, none⟩) hlw hngr).trans c0, (hb3.cell (p := ⟨gs, 1, none⟩) hlw hngr).trans c1, (hb3.cell (p := ⟨gs, 2, none⟩) hlw hngr).trans c2, (hb3.cell (p := ⟨o, 2, none⟩) HLA.out.lt hoR).trans o2'⟩ (fun hHeld => ?_)
                  clear hK K
                  refine wpT_do (fun K hK => ?_)
                  go_simp
                  refine hK.out _ _ (by go_keep) (fun hHeld => ?_)
                  clear hK K
                  refine wpT_do (fun K hK => ?_)
                  refine step_outX rfl _ _ rfl HLA.out (by omega) rfl hb3 HR3.out 1 rfl ?_
                  intro g5 m5 cap5 w5 hL5 hk5 q5
                  obtain ⟨-, -, o5, f5, -⟩ := three q5
                  have hlw3 := Nat.lt_of_lt_of_le hlw hb3.size
                  obtain ⟨g0, g1, g2, -, -⟩ := three ((hk5 _ hlw3 hng).trans ((hb3.block _ hlw hngr).trans HGS.out))
                  have f5' := f5 2
                  have hs5 := HKEEP.out _ (w5.setCell ⟨o, 2, none⟩ (.slice (some ⟨g5, 0, none⟩) m5 cap5)) HS3.out (fun q hq => by
                    have h1 := HCL.out q hq
                    have h2 := HLA.out.lt
                    have h3 := hb3.size
                    rw [Below.heap_setCell _ _ _ _ (by show q ≠ o; omega)]
                    exact hk5 q (by omega) (fun e => by have := (HLA.out.made.block _ e).1; omega))
                  have hw5 := HW3.out.keep (w' := w5.setCell ⟨o, 2, none⟩ (.slice (some ⟨g5, 0, none⟩) m5 cap5)) (by
                    have h2 := HLA.out.lt
                    have h3 := hb3.size
                    have h4 := HLT.out
                    rw [Below.heap_setCell _ _ _ _ (by show wb ≠ o; omega)]
                    exact hk5 wb (by omega) (fun e => by have := (HLA.out.made.block _ e).1; omega))
                  have HL5 := Lib.hid hL5
                  have HS5 := Lib.hid hs5
                  have HW5 := Lib.hid hw5
                  clear hL5 f5 q5 hk5 hs5 hw5 hlw3
                  refine hK.out _ _ ⟨g0, g1, g2, o5⟩ (fun hHeld => ?_)
                  clear hK K
                  repeat (refine wpT_take (v := ?_) (by rfl) (fun w' hSw => ?_) ?_; rotate_left; (go_simp; with_reducible rfl); simp only [Act.put, List.setIfInBounds_toArray, List.set_cons_zero, List.set_cons_succ])
                  refine wpT_last (fun K hK => ?_)
                  go_simp
                  refine hK.out _ _ ?_
                  clear hK K
                  go_wp2_with fail
                  go_roundw
                  case rel => exact ⟨j + 1, _, ys ++ [y3], L3, lg3, by go_num, by omega, by simp [hyl], HL5.out, HS5.out, HW5.out, (HOK3.out.bnd (by omega)).1, (HOK3.out.bnd (by omega)).2, by rw [← HTK.out]; exact HOK.out.step HOK3.out⟩
                  case measure =>
                    have q : (intOf (.int .i64 ((j : Int) + 1))).toNat = j + 1 := by show ((j : Int) + 1).toNat = _; omega
                    have q2 : (intOf (.int .i64 (j : Int))).toNat = j := by show ((j : Int)).toNat = _; omega
                    rw [q, q2]; omega
                · skip
                  have QQ := Lib.hid q3
                  clear q3
                  go_wp2_with fail
                  have hgs0 := heap_new wr (.cells #[.int .i64 k2, .int .i64 n2, .slice ao2 m2 cap2] 24) _ rfl
                  have hbel : Below wr.heap.size wr (wr.alloc (.cells #[.int .i64 k2, .int .i64 n2, .slice ao2 m2 cap2] 24)).drew := below_drewN ((Below.refl _ _).alloc (Nat.le_refl _) _) 1
                  have hlw : wr.heap.size < (wr.alloc (.cells #[.int .i64 k2, .int .i64 n2, .slice ao2 m2 cap2] 24)).drew.heap.size := by show _ < (wr.alloc _).heap.size; rw [World.size_alloc]; omega
                  obtain ⟨c0, c1, c2, -, -⟩ := three hgs0
                  generalize wr.alloc (.cells #[.int .i64 k2, .int .i64 n2, .slice ao2 m2 cap2] 24) = wa at hbel hgs0 hlw c0 c1 c2 ⊢
                  have hLA := HL.out.on (Bx.of hbel)
                  have hbA := HB.out.trans (Bx.of (hbel.mono HB.out.size))
                  have hsA := HKEEP.out _ wa.drew HS'.out (fun q hq => hbel.block q (by have := HCO.out q hq; have := HB.out.size; omega))
                  have hwA := HW'.out.keep (hbel.block _ (by have := HLT.out; have := HB.out.size; omega))
                  have hng : vs.ownBlock ≠ some wr.heap.size := fun e => by have := (HL.out.made.block _ e).2; omega
                  have hngr : some wr.heap.size ≠ some wb := fun e => by injection e with e; have := HLT.out; have := HB.out.size; omega
                  have hoR : some o ≠ some wb := fun e => by injection e with e; have := HLT.out; omega
                  have hcon := IH.out _ l[j] (b) L' lg' wa.drew (RdN.keep (P := (fun q => q < w.heap.size ∧ some q ≠ some wb)) (w' := wa.drew) (fun b hb' => ⟨Nat.lt_of_lt_of_le hb'.1 hbA.size, hb'.2⟩) (fun b hb' => hbA.block b hb'.1 hb'.2) d _ _ hrd) (HG.out j hjl) (by have := HN.out; omega) (by have := HN.out; omega)
                    (fun q hq => by have := HCO.out q hq; have := hbA.size; omega) hLb HLZ.out hwA hsA
                  obtain ⟨-, -, o2, -, -⟩ := three hLA.box
                  have o2' : wa.cell? ⟨o, 2, none⟩ = some vs := o2
                  have htk : (mpL G k l b 0).take j ++ [mp G l[j] (b)] = (mpL G k l b 0).take (j + 1) := by
                    rw [mpL_take _ _ _ _ _ hjl, QQ.out]
                    try (first | rfl | rw [Int.add_zero])
                  have HLA := Lib.hid hLA
                  have HCON := Lib.hid hcon
                  have HTK := Lib.hid htk
                  have HGS := Lib.hid (show wa.drew.heap[wr.heap.size]? = _ from hgs0)
                  have hwbr : wb < wa.drew.heap.size := by have := HLT.out; have := hbA.size; omega
                  have HCL := Lib.hid (fun q (hq : C q) => (show q < o by have := HCO.out q hq; omega))
                  generalize hgs : wr.heap.size = gs at c0 c1 c2 HGS hng hngr hlw ⊢
                  clear e0 e1 e2 i0 i1 i2 hLA hcon hgs0 o2 hbel hbA hgs hsA hwA htk
                  refine wp_region_order [(0, true), (1, true), (2, true), (3, true), (4, true), (5, false), (6, false), (7, false), (8, true), (9, false)] (fun w' => w'.cell? ⟨gs, 0, none⟩ = some (.int .i64 k2) ∧ w'.cell? ⟨gs, 1, none⟩ = some (.int .i64 n2) ∧ w'.cell? ⟨gs, 2, none⟩ = some (.slice ao2 m2 cap2) ∧ w'.cell? ⟨o, 2, none⟩ = some vs)
                    (by kernel_rfl) (by kernel_rfl) ⟨c0, c1, c2, o2'⟩ (fun hHeld => ?_)
                  simp only [pickT, List.getElem?_cons_zero, List.getElem?_cons_succ, Option.getD_some]
                  repeat (refine wpT_take (v := ?_) (by rfl) (fun w' hSw => ?_) ?_; rotate_left; (go_simp; with_reducible rfl); simp only [Act.put, List.setIfInBounds_toArray, List.set_cons_zero, List.set_cons_succ])
                  refine wpT_do (fun K hK => ?_)
                  go_simp
                  go_at_call 117
                  refine HCON.out.mono ?_
                  rintro e w3 ⟨k3, n3, ao3, m3, c3, y3, L3, lg3, rfl, hb3, hr3, hs3, hw3, hok3⟩
                  have HR3 := Lib.hid hr3
                  have HS3 := Lib.hid hs3
                  have HW3 := Lib.hid hw3
                  have HOK3 := Lib.hid hok3
                  clear hr3 hs3 hw3 hok3 hHeld
                  refine hK.out _ _ ⟨(hb3.cell (p := ⟨gs, 0, none⟩) hlw hngr).trans c0, (hb3.cell (p := ⟨gs, 1, none⟩) hlw hngr).trans c1, (hb3.cell (p := ⟨gs, 2, none⟩) hlw hngr).trans c2, (hb3.cell (p := ⟨o, 2, none⟩) HLA.out.lt hoR).trans o2'⟩ (fun hHeld => ?_)
                  clear hK K
                  refine wpT_do (fun K hK => ?_)
                  go_simp
                  refine hK.out _ _ (by go_keep) (fun hHeld => ?_)
                  clear hK K
                  refine wpT_do (fun K hK => ?_)
                  refine step_outX rfl _ _ rfl HLA.out (by omega) rfl hb3 HR3.out 1 rfl ?_
                  intro g5 m5 cap5 w5 hL5 hk5 q5
                  obtain ⟨-, -, o5, f5, -⟩ := three q5
                  have hlw3 := Nat.lt_of_lt_of_le hlw hb3.size
                  obtain ⟨g0, g1, g2, -, -⟩ := three ((hk5 _ hlw3 hng).trans ((hb3.block _ hlw hngr).trans HGS.out))
                  have f5' := f5 2
                  have hs5 := HKEEP.out _ (w5.setCell ⟨o, 2, none⟩ (.slice (some ⟨g5, 0, none⟩) m5 cap5)) HS3.out (fun q hq => by
                    have h1 := HCL.out q hq
                    have h2 := HLA.out.lt
                    have h3 := hb3.size
                    rw [Below.heap_setCell _ _ _ _ (by show q ≠ o; omega)]
                    exact hk5 q (by omega) (fun e => by have := (HLA.out.made.block _ e).1; omega))
                  have hw5 := HW3.out.keep (w' := w5.setCell ⟨o, 2, none⟩ (.slice (some ⟨g5, 0, none⟩) m5 cap5)) (by
                    have h2 := HLA.out.lt
                    have h3 := hb3.size
                    have h4 := HLT.out
                    rw [Below.heap_setCell _ _ _ _ (by show wb ≠ o; omega)]
                    exact hk5 wb (by omega) (fun e => by have := (HLA.out.made.block _ e).1; omega))
                  have HL5 := Lib.hid hL5
                  have HS5 := Lib.hid hs5
                  have HW5 := Lib.hid hw5
                  clear hL5 f5 q5 hk5 hs5 hw5 hlw3
                  refine hK.out _ _ ⟨g0, g1, g2, o5⟩ (fun hHeld => ?_)
                  clear hK K
                  repeat (refine wpT_take (v := ?_) (by rfl) (fun w' hSw => ?_) ?_; rotate_left; (go_simp; with_reducible rfl); simp only [Act.put, List.setIfInBounds_toArray, List.set_cons_zero, List.set_cons_succ])
                  refine wpT_last (fun K hK => ?_)
                  go_simp
                  refine hK.out _ _ ?_
                  clear hK K
                  go_wp2_with fail
                  go_roundw
                  case rel => exact ⟨j + 1, _, ys ++ [y3], L3, lg3, by go_num, by omega, by simp [hyl], HL5.out, HS5.out, HW5.out, (HOK3.out.bnd (by omega)).1, (HOK3.out.bnd (by omega)).2, by rw [← HTK.out]; exact HOK.out.step HOK3.out⟩
                  case measure =>
                    have q : (intOf (.int .i64 ((j : Int) + 1))).toNat = j + 1 := by show ((j : Int) + 1).toNat = _; omega
                    have q2 : (intOf (.int .i64 (j : Int))).toNat = j := by show ((j : Int)).toNat = _; omega
                    rw [q, q2]; omega
                · skip
                  have QQ := Lib.hid q3
                  clear q3
                  go_wp2_with fail
                  have hgs0 := heap_new wr (.cells #[.int .i64 k2, .int .i64 n2, .slice ao2 m2 cap2] 24) _ rfl
                  have hbel : Below wr.heap.size wr (wr.alloc (.cells #[.int .i64 k2, .int .i64 n2, .slice ao2 m2 cap2] 24)).drew := below_drewN ((Below.refl _ _).alloc (Nat.le_refl _) _) 1
                  have hlw : wr.heap.size < (wr.alloc (.cells #[.int .i64 k2, .int .i64 n2, .slice ao2 m2 cap2] 24)).drew.heap.size := by show _ < (wr.alloc _).heap.size; rw [World.size_alloc]; omega
                  obtain ⟨c0, c1, c2, -, -⟩ := three hgs0
                  generalize wr.alloc (.cells #[.int .i64 k2, .int .i64 n2, .slice ao2 m2 cap2] 24) = wa at hbel hgs0 hlw c0 c1 c2 ⊢
                  have hLA := HL.out.on (Bx.of hbel)
                  have hbA := HB.out.trans (Bx.of (hbel.mono HB.out.size))
                  have hsA := HKEEP.out _ wa.drew HS'.out (fun q hq => hbel.block q (by have := HCO.out q hq; have := HB.out.size; omega))
                  have hwA := HW'.out.keep (hbel.block _ (by have := HLT.out; have := HB.out.size; omega))
                  have hng : vs.ownBlock ≠ some wr.heap.size := fun e => by have := (HL.out.made.block _ e).2; omega
                  have hngr : some wr.heap.size ≠ some wb := fun e => by injection e with e; have := HLT.out; have := HB.out.size; omega
                  have hoR : some o ≠ some wb := fun e => by injection e with e; have := HLT.out; omega
                  have hcon := IH.out _ l[j] (b + 1) L' lg' wa.drew (RdN.keep (P := (fun q => q < w.heap.size ∧ some q ≠ some wb)) (w' := wa.drew) (fun b hb' => ⟨Nat.lt_of_lt_of_le hb'.1 hbA.size, hb'.2⟩) (fun b hb' => hbA.block b hb'.1 hb'.2) d _ _ hrd) (HG.out j hjl) (by have := HN.out; omega) (by have := HN.out; omega)
                    (fun q hq => by have := HCO.out q hq; have := hbA.size; omega) hLb HLZ.out hwA hsA
                  obtain ⟨-, -, o2, -, -⟩ := three hLA.box
                  have o2' : wa.cell? ⟨o, 2, none⟩ = some vs := o2
                  have htk : (mpL G k l b 0).take j ++ [mp G l[j] (b + 1)] = (mpL G k l b 0).take (j + 1) := by
                    rw [mpL_take _ _ _ _ _ hjl, QQ.out]
                    try (first | rfl | rw [Int.add_zero])
                  have HLA := Lib.hid hLA
                  have HCON := Lib.hid hcon
                  have HTK := Lib.hid htk
                  have HGS := Lib.hid (show wa.drew.heap[wr.heap.size]? = _ from hgs0)
                  have hwbr : wb < wa.drew.heap.size := by have := HLT.out; have := hbA.size; omega
                  have HCL := Lib.hid (fun q (hq : C q) => (show q < o by have := HCO.out q hq; omega))
                  generalize hgs : wr.heap.size = gs at c0 c1 c2 HGS hng hngr hlw ⊢
                  clear e0 e1 e2 i0 i1 i2 hLA hcon hgs0 o2 hbel hbA hgs hsA hwA htk
                  refine wp_region_order [(0, true), (1, true), (2, true), (3, true), (4, true), (5, false), (6, false), (7, false), (8, true), (9, false)] (fun w' => w'.cell? ⟨gs, 0, none⟩ = some (.int .i64 k2) ∧ w'.cell? ⟨gs, 1, none⟩ = some (.int .i64 n2) ∧ w'.cell? ⟨gs, 2, none⟩ = some (.slice ao2 m2 cap2) ∧ w'.cell? ⟨o, 2, none⟩ = some vs)
                    (by kernel_rfl) (by kernel_rfl) ⟨c0, c1, c2, o2'⟩ (fun hHeld => ?_)
                  simp only [pickT, List.getElem?_cons_zero, List.getElem?_cons_succ, Option.getD_some]
                  repeat (refine wpT_take (v := ?_) (by rfl) (fun w' hSw => ?_) ?_; rotate_left; (go_simp; with_reducible rfl); simp only [Act.put, List.setIfInBounds_toArray, List.set_cons_zero, List.set_cons_succ])
                  refine wpT_do (fun K hK => ?_)
                  go_simp
                  go_at_call 117
                  refine HCON.out.mono ?_
                  rintro e w3 ⟨k3, n3, ao3, m3, c3, y3, L3, lg3, rfl, hb3, hr3, hs3, hw3, hok3⟩
                  have HR3 := Lib.hid hr3
                  have HS3 := Lib.hid hs3
                  have HW3 := Lib.hid hw3
                  have HOK3 := Lib.hid hok3
                  clear hr3 hs3 hw3 hok3 hHeld
                  refine hK.out _ _ ⟨(hb3.cell (p := ⟨gs, 0, none⟩) hlw hngr).trans c0, (hb3.cell (p := ⟨gs, 1, none⟩) hlw hngr).trans c1, (hb3.cell (p := ⟨gs, 2, none⟩) hlw hngr).trans c2, (hb3.cell (p := ⟨o, 2, none⟩) HLA.out.lt hoR).trans o2'⟩ (fun hHeld => ?_)
                  clear hK K
                  refine wpT_do (fun K hK => ?_)
                  go_simp
                  refine hK.out _ _ (by go_keep) (fun hHeld => ?_)
                  clear hK K
                  refine wpT_do (fun K hK => ?_)
                  refine step_outX rfl _ _ rfl HLA.out (by omega) rfl hb3 HR3.out 1 rfl ?_
                  intro g5 m5 cap5 w5 hL5 hk5 q5
                  obtain ⟨-, -, o5, f5, -⟩ := three q5
                  have hlw3 := Nat.lt_of_lt_of_le hlw hb3.size
                  obtain ⟨g0, g1, g2, -, -⟩ := three ((hk5 _ hlw3 hng).trans ((hb3.block _ hlw hngr).trans HGS.out))
                  have f5' := f5 2
                  have hs5 := HKEEP.out _ (w5.setCell ⟨o, 2, none⟩ (.slice (some ⟨g5, 0, none⟩) m5 cap5)) HS3.out (fun q hq => by
                    have h1 := HCL.out q hq
                    have h2 := HLA.out.lt
                    have h3 := hb3.size
                    rw [Below.heap_setCell _ _ _ _ (by show q ≠ o; omega)]
                    exact hk5 q (by omega) (fun e => by have := (HLA.out.made.block _ e).1; omega))
                  have hw5 := HW3.out.keep (w' := w5.setCell ⟨o, 2, none⟩ (.slice (some ⟨g5, 0, none⟩) m5 cap5)) (by
                    have h2 := HLA.out.lt
                    have h3 := hb3.size
                    have h4 := HLT.out
                    rw [Below.heap_setCell _ _ _ _ (by show wb ≠ o; omega)]
                    exact hk5 wb (by omega) (fun e => by have := (HLA.out.made.block _ e).1; omega))
                  have HL5 := Lib.hid hL5
                  have HS5 := Lib.hid hs5
                  have HW5 := Lib.hid hw5
                  clear hL5 f5 q5 hk5 hs5 hw5 hlw3
                  refine hK.out _ _ ⟨g0, g1, g2, o5⟩ (fun hHeld => ?_)
                  clear hK K
                  repeat (refine wpT_take (v := ?_) (by rfl) (fun w' hSw => ?_) ?_; rotate_left; (go_simp; with_reducible rfl); simp only [Act.put, List.setIfInBounds_toArray, List.set_cons_zero, List.set_cons_succ])
                  refine wpT_last (fun K hK => ?_)
                  go_simp
                  refine hK.out _ _ ?_
                  clear hK K
                  go_wp2_with fail
                  go_roundw
                  case rel => exact ⟨j + 1, _, ys ++ [y3], L3, lg3, by go_num, by omega, by simp [hyl], HL5.out, HS5.out, HW5.out, (HOK3.out.bnd (by omega)).1, (HOK3.out.bnd (by omega)).2, by rw [← HTK.out]; exact HOK.out.step HOK3.out⟩
                  case measure =>
                    have q : (intOf (.int .i64 ((j : Int) + 1))).toNat = j + 1 := by show ((j : Int) + 1).toNat = _; omega
                    have q2 : (intOf (.int .i64 (j : Int))).toNat = j := by show ((j : Int)).toNat = _; omega
                    rw [q, q2]; omega
              · obtain ⟨o0, o1, o2, of, -⟩ := three hL.box
                obtain ⟨z0, z1, z2, zf, -⟩ := three ((hL.bel.block (w.heap.size + 1) (by omega) (fun e => by injection e with e; have := HLT.out; omega)).trans HZ0.out)
                obtain ⟨ao5, m5, cap5, rfl⟩ := hL.shape
                have HL := Lib.hid hL
                have HS' := Lib.hid hs'
                have HW' := Lib.hid hw'
                have HB := Lib.hid hb
                clear hL hs' hw' hb hLz
                go_wp2_with fail
                refine bodyPost_ret (v := .agg #[.int .i64 k, .int .i64 x, .slice ao5 m5 cap5]) (by simp [results, Try.results117, go_sem, z0, z1, z2]) rfl (AnsK.fin HKEEP.out HCO.out HB.out (Nat.le_succ _) HLT.out HS'.out HW'.out
                  ((HL.out.term HK.out HX.out).keep (fun q hq => ⟨⟨by omega, hq.2⟩, by omega⟩) fun _ _ => rfl) ?_)
                have q := HOK.out
                rw [mpL_all _ _ _ _ _ hjl] at q
                rw [HMP.out]
                exact q.node
          · go_wp2_with fail
            have hsY : (wS.setCell ⟨wb, 0, none⟩ (.int .i64 (L1 - 1))).heap.size = wS.heap.size := hsa
            have hst0 : OutX (some wb) ((wS.setCell ⟨wb, 0, none⟩ (.int .i64 (L1 - 1))).alloc (.cells #[.int .i64 k, .int .i64 x, .slice none 0 0] 24)) wS.heap.size k x (.slice none 0 0) [] ((wS.setCell ⟨wb, 0, none⟩ (.int .i64 (L1 - 1))).alloc (.cells #[.int .i64 k, .int .i64 x, .slice none 0 0] 24)) := OutX.start (heap_new (wS.setCell ⟨wb, 0, none⟩ (.int .i64 (L1 - 1))) _ _ hsY.symm) (fun r e => by injection e with e; have := HLT.out; omega)
            have HST := Lib.hid hst0
            have hbl : Below (wS.setCell ⟨wb, 0, none⟩ (.int .i64 (L1 - 1))).heap.size (wS.setCell ⟨wb, 0, none⟩ (.int .i64 (L1 - 1))) ((wS.setCell ⟨wb, 0, none⟩ (.int .i64 (L1 - 1))).alloc (.cells #[.int .i64 k, .int .i64 x, .slice none 0 0] 24)) := alloc_bel _ _
            have HB0 := Lib.hid (HBa.out.trans (Bx.of (hbl.mono (by rw [hsY]; omega))))
            have HQ0 := Lib.hid ((hbl.block _ (by rw [hsY]; omega)).trans HQa.out)
            have HZ0 := Lib.hid ((hbl.block _ (by rw [hsY]; omega)).trans HZa.out)
            have HS0 := Lib.hid (HKEEP.out _ _ HSa.out fun q hq => hbl.block q (by have := HCO.out q hq; rw [hsY]; omega))
            have HW0 := Lib.hid (HWa.out.keep (hbl.block _ (by have := HLT.out; rw [hsY]; omega)))
            clear hst0 hbl hsY hsa qa0 qa1 qa2 ga1 gfa gfa1 hka g0 g1 g2 gf gf0 gf1 q0 q1 q2
            generalize (wS.setCell ⟨wb, 0, none⟩ (.int .i64 (L1 - 1))).alloc (.cells #[.int .i64 k, .int .i64 x, .slice none 0 0] 24) = w0 at HST HB0 HQ0 HZ0 HS0 HW0 ⊢
            generalize wS.heap.size = o at HST hsS ⊢
            have hok0 : OkL (L1 - 1) (decide (L1 - 1 < 0)) ((mpL G k l b 0).take 0) [] (L1 - 1) false := by
              have hd : decide (L1 - 1 < 0) = false := by simp; omega
              rw [hd, List.take_zero]
              exact OkL.start (by intro q; first | omega | cases q) ⟨by omega, by omega⟩
            have HOK0 := Lib.hid hok0
            clear hok0
            go_loopw [53] (fun i wr => ∃ (j : Nat) (vs : Value) (ys : List Tm) (L' : Int) (lg' : Bool), i = .int .i64 j ∧ j ≤ l.length ∧ ys.length = j ∧ OutX (some wb) w0 o k x vs ys wr ∧ St wr ∧ WBox wb (.func (.func F) #[] caps) L' lg' wr ∧ (-8193 ≤ L' ∧ L' ≤ 8192) ∧ (lg' = false → 0 ≤ L') ∧ OkL (L1 - 1) (decide (L1 - 1 < 0)) ((mpL G k l b 0).take j) ys L' lg') (fun i _ => l.length - (intOf i).toNat)
            case atStart => exact ⟨0, _, [], L1 - 1, false, rfl, Nat.zero_le _, rfl, HST.out, HS0.out, HW0.out, ⟨by omega, by omega⟩, (by intro q; first | omega | cases q), HOK0.out⟩
            case round =>
              obtain ⟨j, vs, ys, L', lg', rfl, hj, hyl, hL, hs', hw', hLb, hLz, hok⟩ := hrel
              have HOK := Lib.hid hok
              clear hok HST HOK0 HS0 HW0
              have hLo := hL.lt
              have hneB : some w.heap.size ≠ some wb := fun e => by injection e with e; have := HLT.out; omega
              have hb : Bx (some wb) w.heap.size w wr := HB0.out.trans (hL.bel.mono (by omega))
              by_cases hjl : j < l.length
              · obtain ⟨bq, off, k2, n2, ao2, m2, cap2, rfl, ⟨hP, hPr⟩, h0, h1, h2, hrd⟩ := HE.out j hjl
                have e0 := (hb.cell (p := ⟨bq, off + j * 3, none⟩) hP hPr).trans h0
                have e1 := (hb.cell (p := ⟨bq, off + j * 3 + 1, none⟩) hP hPr).trans h1
                have e2 := (hb.cell (p := ⟨bq, off + j * 3 + 2, none⟩) hP hPr).trans h2
                have hbw : bq < wr.heap.size := Nat.lt_of_lt_of_le hP hb.size
                obtain ⟨i0, i1, i2, -, -⟩ := three ((hL.bel.block _ (by omega) hneB).trans HQ0.out)
                have HL := Lib.hid hL
                have HB := Lib.hid hb
                have HS' := Lib.hid hs'
                have HW' := Lib.hid hw'
                have HLZ := Lib.hid hLz
                clear h0 h1 h2 hL hb hs' hw' hLz
                have hcase : ((j : Int) == 1) = false ∧ bn k j = 0 ∨ ((j : Int) == 1) = true ∧ (k != 5) = false ∧ bn k j = 0 ∨ ((j : Int) == 1) = true ∧ (k != 5) = true ∧ bn k j = 1 := by
                  unfold bn
                  by_cases q1 : j = 1
                  · by_cases q2 : k = 5
                    · right; left; exact ⟨by simp [q1], by simp [q2], by rw [if_neg (by omega)]⟩
                    · right; right; exact ⟨by simp [q1], by simp [q2], by rw [if_pos ⟨q1, q2⟩]⟩
                  · left; exact ⟨by simp; omega, by rw [if_neg (by omega)]⟩
                have hlc : (j : Int) < (l.length : Int) := by omega
                have hBw : w.heap.size < wr.heap.size := by omega
                have hnb : b ≤ 1048575 := by omega
                rcases hcase with ⟨q1, q2⟩ | ⟨q1, q2, q3⟩ | ⟨q1, q2, q3⟩
                · skip
                  have QQ := Lib.hid q2
                  clear q2
                  go_wp2_with fail
                  have hgs0 := heap_new wr (.cells #[.int .i64 k2, .int .i64 n2, .slice ao2 m2 cap2] 24) _ rfl
                  have hbel : Below wr.heap.size wr (wr.alloc (.cells #[.int .i64 k2, .int .i64 n2, .slice ao2 m2 cap2] 24)).drew := below_drewN ((Below.refl _ _).alloc (Nat.le_refl _) _) 1
                  have hlw : wr.heap.size < (wr.alloc (.cells #[.int .i64 k2, .int .i64 n2, .slice ao2 m2 cap2] 24)).drew.heap.size := by show _ < (wr.alloc _).heap.size; rw [World.size_alloc]; omega
                  obtain ⟨c0, c1, c2, -, -⟩ := three hgs0
                  generalize wr.alloc (.cells #[.int .i64 k2, .int .i64 n2, .slice ao2 m2 cap2] 24) = wa at hbel hgs0 hlw c0 c1 c2 ⊢
                  have hLA := HL.out.on (Bx.of hbel)
                  have hbA := HB.out.trans (Bx.of (hbel.mono HB.out.size))
                  have hsA := HKEEP.out _ wa.drew HS'.out (fun q hq => hbel.block q (by have := HCO.out q hq; have := HB.out.size; omega))
                  have hwA := HW'.out.keep (hbel.block _ (by have := HLT.out; have := HB.out.size; omega))
                  have hng : vs.ownBlock ≠ some wr.heap.size := fun e => by have := (HL.out.made.block _ e).2; omega
                  have hngr : some wr.heap.size ≠ some wb := fun e => by injection e with e; have := HLT.out; have := HB.out.size; omega
                  have hoR : some o ≠ some wb := fun e => by injection e with e; have := HLT.out; omega
                  have hcon := IH.out _ l[j] (b) L' lg' wa.drew (RdN.keep (P := (fun q => q < w.heap.size ∧ some q ≠ some wb)) (w' := wa.drew) (fun b hb' => ⟨Nat.lt_of_lt_of_le hb'.1 hbA.size, hb'.2⟩) (fun b hb' => hbA.block b hb'.1 hb'.2) d _ _ hrd) (HG.out j hjl) (by have := HN.out; omega) (by have := HN.out; omega)
                    (fun q hq => by have := HCO.out q hq; have := hbA.size; omega) hLb HLZ.out hwA hsA
                  obtain ⟨-, -, o2, -, -⟩ := three hLA.box
                  have o2' : wa.cell? ⟨o, 2, none⟩ = some vs := o2
                  have htk : (mpL G k l b 0).take j ++ [mp G l[j] (b)] = (mpL G k l b 0).take (j + 1) := by
                    rw [mpL_take _ _ _ _ _ hjl, QQ.out]
                    try (first | rfl | rw [Int.add_zero])
                  have HLA := Lib.hid hLA
                  have HCON := Lib.hid hcon
                  have HTK := Lib.hid htk
                  have HGS := Lib.hid (show wa.drew.heap[wr.heap.size]? = _ from hgs0)
                  have hwbr : wb < wa.drew.heap.size := by have := HLT.out; have := hbA.size; omega
                  have HCL := Lib.hid (fun q (hq : C q) => (show q < o by have := HCO.out q hq; omega))
                  generalize hgs : wr.heap.size = gs at c0 c1 c2 HGS hng hngr hlw ⊢
                  clear e0 e1 e2 i0 i1 i2 hLA hcon hgs0 o2 hbel hbA hgs hsA hwA htk
                  refine wp_region_order [(0, true), (1, true), (2, true), (3, true), (4, true), (5, false), (6, false), (7, false), (8, true), (9, false)] (fun w' => w'.cell? ⟨gs, 0, none⟩ = some (.int .i64 k2) ∧ w'.cell? ⟨gs, 1, none⟩ = some (.int .i64 n2) ∧ w'.cell? ⟨gs, 2, none⟩ = some (.slice ao2 m2 cap2) ∧ w'.cell? ⟨o, 2, none⟩ = some vs)
                    (by kernel_rfl) (by kernel_rfl) ⟨c0, c1, c2, o2'⟩ (fun hHeld => ?_)
                  simp only [pickT, List.getElem?_cons_zero, List.getElem?_cons_succ, Option.getD_some]
                  repeat (refine wpT_take (v := ?_) (by rfl) (fun w' hSw => ?_) ?_; rotate_left; (go_simp; with_reducible rfl); simp only [Act.put, List.setIfInBounds_toArray, List.set_cons_zero, List.set_cons_succ])
                  refine wpT_do (fun K hK => ?_)
                  go_simp
                  go_at_call 117
                  refine HCON.out.mono ?_
                  rintro e w3 ⟨k3, n3, ao3, m3, c3, y3, L3, lg3, rfl, hb3, hr3, hs3, hw3, hok3⟩
                  have HR3 := Lib.hid hr3
                  have HS3 := Lib.hid hs3
                  have HW3 := Lib.hid hw3
                  have HOK3 := Lib.hid hok3
                  clear hr3 hs3 hw3 hok3 hHeld
                  refine hK.out _ _ ⟨(hb3.cell (p := ⟨gs, 0, none⟩) hlw hngr).trans c0, (hb3.cell (p := ⟨gs, 1, none⟩) hlw hngr).trans c1, (hb3.cell (p := ⟨gs, 2, none⟩) hlw hngr).trans c2, (hb3.cell (p := ⟨o, 2, none⟩) HLA.out.lt hoR).trans o2'⟩ (fun hHeld => ?_)
                  clear hK K
                  refine wpT_do (fun K hK => ?_)
                  go_simp
                  refine hK.out _ _ (by go_keep) (fun hHeld => ?_)
                  clear hK K
                  refine wpT_do (fun K hK => ?_)
                  refine step_outX rfl _ _ rfl HLA.out (by omega) rfl hb3 HR3.out 1 rfl ?_
                  intro g5 m5 cap5 w5 hL5 hk5 q5
                  obtain ⟨-, -, o5, f5, -⟩ := three q5
                  have hlw3 := Nat.lt_of_lt_of_le hlw hb3.size
                  obtain ⟨g0, g1, g2, -, -⟩ := three ((hk5 _ hlw3 hng).trans ((hb3.block _ hlw hngr).trans HGS.out))
                  have f5' := f5 2
                  have hs5 := HKEEP.out _ (w5.setCell ⟨o, 2, none⟩ (.slice (some ⟨g5, 0, none⟩) m5 cap5)) HS3.out (fun q hq => by
                    have h1 := HCL.out q hq
                    have h2 := HLA.out.lt
                    have h3 := hb3.size
                    rw [Below.heap_setCell _ _ _ _ (by show q ≠ o; omega)]
                    exact hk5 q (by omega) (fun e => by have := (HLA.out.made.block _ e).1; omega))
                  have hw5 := HW3.out.keep (w' := w5.setCell ⟨o, 2, none⟩ (.slice (some ⟨g5, 0, none⟩) m5 cap5)) (by
                    have h2 := HLA.out.lt
                    have h3 := hb3.size
                    have h4 := HLT.out
                    rw [Below.heap_setCell _ _ _ _ (by show wb ≠ o; omega)]
                    exact hk5 wb (by omega) (fun e => by have := (HLA.out.made.block _ e).1; omega))
                  have HL5 := Lib.hid hL5
                  have HS5 := Lib.hid hs5
                  have HW5 := Lib.hid hw5
                  clear hL5 f5 q5 hk5 hs5 hw5 hlw3
                  refine hK.out _ _ ⟨g0, g1, g2, o5⟩ (fun hHeld => ?_)
                  clear hK K
                  repeat (refine wpT_take (v := ?_) (by rfl) (fun w' hSw => ?_) ?_; rotate_left; (go_simp; with_reducible rfl); simp only [Act.put, List.setIfInBounds_toArray, List.set_cons_zero, List.set_cons_succ])
                  refine wpT_last (fun K hK => ?_)
                  go_simp
                  refine hK.out _ _ ?_
                  clear hK K
                  go_wp2_with fail
                  go_roundw
                  case rel => exact ⟨j + 1, _, ys ++ [y3], L3, lg3, by go_num, by omega, by simp [hyl], HL5.out, HS5.out, HW5.out, (HOK3.out.bnd (by omega)).1, (HOK3.out.bnd (by omega)).2, by rw [← HTK.out]; exact HOK.out.step HOK3.out⟩
                  case measure =>
                    have q : (intOf (.int .i64 ((j : Int) + 1))).toNat = j + 1 := by show ((j : Int) + 1).toNat = _; omega
                    have q2 : (intOf (.int .i64 (j : Int))).toNat = j := by show ((j : Int)).toNat = _; omega
                    rw [q, q2]; omega
                · skip
                  have QQ := Lib.hid q3
                  clear q3
                  go_wp2_with fail
                  have hgs0 := heap_new wr (.cells #[.int .i64 k2, .int .i64 n2, .slice ao2 m2 cap2] 24) _ rfl
                  have hbel : Below wr.heap.size wr (wr.alloc (.cells #[.int .i64 k2, .int .i64 n2, .slice ao2 m2 cap2] 24)).drew := below_drewN ((Below.refl _ _).alloc (Nat.le_refl _) _) 1
                  have hlw : wr.heap.size < (wr.alloc (.cells #[.int .i64 k2, .int .i64 n2, .slice ao2 m2 cap2] 24)).drew.heap.size := by show _ < (wr.alloc _).heap.size; rw [World.size_alloc]; omega
                  obtain ⟨c0, c1, c2, -, -⟩ := three hgs0
                  generalize wr.alloc (.cells #[.int .i64 k2, .int .i64 n2, .slice ao2 m2 cap2] 24) = wa at hbel hgs0 hlw c0 c1 c2 ⊢
                  have hLA := HL.out.on (Bx.of hbel)
                  have hbA := HB.out.trans (Bx.of (hbel.mono HB.out.size))
                  have hsA := HKEEP.out _ wa.drew HS'.out (fun q hq => hbel.block q (by have := HCO.out q hq; have := HB.out.size; omega))
                  have hwA := HW'.out.keep (hbel.block _ (by have := HLT.out; have := HB.out.size; omega))
                  have hng : vs.ownBlock ≠ some wr.heap.size := fun e => by have := (HL.out.made.block _ e).2; omega
                  have hngr : some wr.heap.size ≠ some wb := fun e => by injection e with e; have := HLT.out; have := HB.out.size; omega
                  have hoR : some o ≠ some wb := fun e => by injection e with e; have := HLT.out; omega
                  have hcon := IH.out _ l[j] (b) L' lg' wa.drew (RdN.keep (P := (fun q => q < w.heap.size ∧ some q ≠ some wb)) (w' := wa.drew) (fun b hb' => ⟨Nat.lt_of_lt_of_le hb'.1 hbA.size, hb'.2⟩) (fun b hb' => hbA.block b hb'.1 hb'.2) d _ _ hrd) (HG.out j hjl) (by have := HN.out; omega) (by have := HN.out; omega)
                    (fun q hq => by have := HCO.out q hq; have := hbA.size; omega) hLb HLZ.out hwA hsA
                  obtain ⟨-, -, o2, -, -⟩ := three hLA.box
                  have o2' : wa.cell? ⟨o, 2, none⟩ = some vs := o2
                  have htk : (mpL G k l b 0).take j ++ [mp G l[j] (b)] = (mpL G k l b 0).take (j + 1) := by
                    rw [mpL_take _ _ _ _ _ hjl, QQ.out]
                    try (first | rfl | rw [Int.add_zero])
                  have HLA := Lib.hid hLA
                  have HCON := Lib.hid hcon
                  have HTK := Lib.hid htk
                  have HGS := Lib.hid (show wa.drew.heap[wr.heap.size]? = _ from hgs0)
                  have hwbr : wb < wa.drew.heap.size := by have := HLT.out; have := hbA.size; omega
                  have HCL := Lib.hid (fun q (hq : C q) => (show q < o by have := HCO.out q hq; omega))
                  generalize hgs : wr.heap.size = gs at c0 c1 c2 HGS hng hngr hlw ⊢
                  clear e0 e1 e2 i0 i1 i2 hLA hcon hgs0 o2 hbel hbA hgs hsA hwA htk
                  refine wp_region_order [(0, true), (1, true), (2, true), (3, true), (4, true), (5, false), (6, false), (7, false), (8, true), (9, false)] (fun w' => w'.cell? ⟨gs, 0, none⟩ = some (.int .i64 k2) ∧ w'.cell? ⟨gs, 1, none⟩ = some (.int .i64 n2) ∧ w'.cell? ⟨gs, 2, none⟩ = some (.slice ao2 m2 cap2) ∧ w'.cell? ⟨o, 2, none⟩ = some vs)
                    (by kernel_rfl) (by kernel_rfl) ⟨c0, c1, c2, o2'⟩ (fun hHeld => ?_)
                  simp only [pickT, List.getElem?_cons_zero, List.getElem?_cons_succ, Option.getD_some]
                  repeat (refine wpT_take (v := ?_) (by rfl) (fun w' hSw => ?_) ?_; rotate_left; (go_simp; with_reducible rfl); simp only [Act.put, List.setIfInBounds_toArray, List.set_cons_zero, List.set_cons_succ])
                  refine wpT_do (fun K hK => ?_)
                  go_simp
                  go_at_call 117
                  refine HCON.out.mono ?_
                  rintro e w3 ⟨k3, n3, ao3, m3, c3, y3, L3, lg3, rfl, hb3, hr3, hs3, hw3, hok3⟩
                  have HR3 := Lib.hid hr3
                  have HS3 := Lib.hid hs3
                  have HW3 := Lib.hid hw3
                  have HOK3 := Lib.hid hok3
                  clear hr3 hs3 hw3 hok3 hHeld
                  refine hK.out _ _ ⟨(hb3.cell (p := ⟨gs, 0, none⟩) hlw hngr).trans c0, (hb3.cell (p := ⟨gs, 1, none⟩) hlw hngr).trans c1, (hb3.cell (p := ⟨gs, 2, none⟩) hlw hngr).trans c2, (hb3.cell (p := ⟨o, 2, none⟩) HLA.out.lt hoR).trans o2'⟩ (fun hHeld => ?_)
                  clear hK K
                  refine wpT_do (fun K hK => ?_)
                  go_simp
                  refine hK.out _ _ (by go_keep) (fun hHeld => ?_)
                  clear hK K
                  refine wpT_do (fun K hK => ?_)
                  refine step_outX rfl _ _ rfl HLA.out (by omega) rfl hb3 HR3.out 1 rfl ?_
                  intro g5 m5 cap5 w5 hL5 hk5 q5
                  obtain ⟨-, -, o5, f5, -⟩ := three q5
                  have hlw3 := Nat.lt_of_lt_of_le hlw hb3.size
                  obtain ⟨g0, g1, g2, -, -⟩ := three ((hk5 _ hlw3 hng).trans ((hb3.block _ hlw hngr).trans HGS.out))
                  have f5' := f5 2
                  have hs5 := HKEEP.out _ (w5.setCell ⟨o, 2, none⟩ (.slice (some ⟨g5, 0, none⟩) m5 cap5)) HS3.out (fun q hq => by
                    have h1 := HCL.out q hq
                    have h2 := HLA.out.lt
                    have h3 := hb3.size
                    rw [Below.heap_setCell _ _ _ _ (by show q ≠ o; omega)]
                    exact hk5 q (by omega) (fun e => by have := (HLA.out.made.block _ e).1; omega))
                  have hw5 := HW3.out.keep (w' := w5.setCell ⟨o, 2, none⟩ (.slice (some ⟨g5, 0, none⟩) m5 cap5)) (by
                    have h2 := HLA.out.lt
                    have h3 := hb3.size
                    have h4 := HLT.out
                    rw [Below.heap_setCell _ _ _ _ (by show wb ≠ o; omega)]
                    exact hk5 wb (by omega) (fun e => by have := (HLA.out.made.block _ e).1; omega))
                  have HL5 := Lib.hid hL5
                  have HS5 := Lib.hid hs5
                  have HW5 := Lib.hid hw5
                  clear hL5 f5 q5 hk5 hs5 hw5 hlw3
                  refine hK.out _ _ ⟨g0, g1, g2, o5⟩ (fun hHeld => ?_)
                  clear hK K
                  repeat (refine wpT_take (v := ?_) (by rfl) (fun w' hSw => ?_) ?_; rotate_left; (go_simp; with_reducible rfl); simp only [Act.put, List.setIfInBounds_toArray, List.set_cons_zero, List.set_cons_succ])
                  refine wpT_last (fun K hK => ?_)
                  go_simp
                  refine hK.out _ _ ?_
                  clear hK K
                  go_wp2_with fail
                  go_roundw
                  case rel => exact ⟨j + 1, _, ys ++ [y3], L3, lg3, by go_num, by omega, by simp [hyl], HL5.out, HS5.out, HW5.out, (HOK3.out.bnd (by omega)).1, (HOK3.out.bnd (by omega)).2, by rw [← HTK.out]; exact HOK.out.step HOK3.out⟩
                  case measure =>
                    have q : (intOf (.int .i64 ((j : Int) + 1))).toNat = j + 1 := by show ((j : Int) + 1).toNat = _; omega
                    have q2 : (intOf (.int .i64 (j : Int))).toNat = j := by show ((j : Int)).toNat = _; omega
                    rw [q, q2]; omega
                · skip
                  have QQ := Lib.hid q3
                  clear q3
                  go_wp2_with fail
                  have hgs0 := heap_new wr (.cells #[.int .i64 k2, .int .i64 n2, .slice ao2 m2 cap2] 24) _ rfl
                  have hbel : Below wr.heap.size wr (wr.alloc (.cells #[.int .i64 k2, .int .i64 n2, .slice ao2 m2 cap2] 24)).drew := below_drewN ((Below.refl _ _).alloc (Nat.le_refl _) _) 1
                  have hlw : wr.heap.size < (wr.alloc (.cells #[.int .i64 k2, .int .i64 n2, .slice ao2 m2 cap2] 24)).drew.heap.size := by show _ < (wr.alloc _).heap.size; rw [World.size_alloc]; omega
                  obtain ⟨c0, c1, c2, -, -⟩ := three hgs0
                  generalize wr.alloc (.cells #[.int .i64 k2, .int .i64 n2, .slice ao2 m2 cap2] 24) = wa at hbel hgs0 hlw c0 c1 c2 ⊢
                  have hLA := HL.out.on (Bx.of hbel)
                  have hbA := HB.out.trans (Bx.of (hbel.mono HB.out.size))
                  have hsA := HKEEP.out _ wa.drew HS'.out (fun q hq => hbel.block q (by have := HCO.out q hq; have := HB.out.size; omega))
                  have hwA := HW'.out.keep (hbel.block _ (by have := HLT.out; have := HB.out.size; omega))
                  have hng : vs.ownBlock ≠ some wr.heap.size := fun e => by have := (HL.out.made.block _ e).2; omega
                  have hngr : some wr.heap.size ≠ some wb := fun e => by injection e with e; have := HLT.out; have := HB.out.size; omega
                  have hoR : some o ≠ some wb := fun e => by injection e with e; have := HLT.out; omega
                  have hcon := IH.out _ l[j] (b + 1) L' lg' wa.drew (RdN.keep (P := (fun q => q < w.heap.size ∧ some q ≠ some wb)) (w' := wa.drew) (fun b hb' => ⟨Nat.lt_of_lt_of_le hb'.1 hbA.size, hb'.2⟩) (fun b hb' => hbA.block b hb'.1 hb'.2) d _ _ hrd) (HG.out j hjl) (by have := HN.out; omega) (by have := HN.out; omega)
                    (fun q hq => by have := HCO.out q hq; have := hbA.size; omega) hLb HLZ.out hwA hsA
                  obtain ⟨-, -, o2, -, -⟩ := three hLA.box
                  have o2' : wa.cell? ⟨o, 2, none⟩ = some vs := o2
                  have htk : (mpL G k l b 0).take j ++ [mp G l[j] (b + 1)] = (mpL G k l b 0).take (j + 1) := by
                    rw [mpL_take _ _ _ _ _ hjl, QQ.out]
                    try (first | rfl | rw [Int.add_zero])
                  have HLA := Lib.hid hLA
                  have HCON := Lib.hid hcon
                  have HTK := Lib.hid htk
                  have HGS := Lib.hid (show wa.drew.heap[wr.heap.size]? = _ from hgs0)
                  have hwbr : wb < wa.drew.heap.size := by have := HLT.out; have := hbA.size; omega
                  have HCL := Lib.hid (fun q (hq : C q) => (show q < o by have := HCO.out q hq; omega))
                  generalize hgs : wr.heap.size = gs at c0 c1 c2 HGS hng hngr hlw ⊢
                  clear e0 e1 e2 i0 i1 i2 hLA hcon hgs0 o2 hbel hbA hgs hsA hwA htk
                  refine wp_region_order [(0, true), (1, true), (2, true), (3, true), (4, true), (5, false), (6, false), (7, false), (8, true), (9, false)] (fun w' => w'.cell? ⟨gs, 0, none⟩ = some (.int .i64 k2) ∧ w'.cell? ⟨gs, 1, none⟩ = some (.int .i64 n2) ∧ w'.cell? ⟨gs, 2, none⟩ = some (.slice ao2 m2 cap2) ∧ w'.cell? ⟨o, 2, none⟩ = some vs)
                    (by kernel_rfl) (by kernel_rfl) ⟨c0, c1, c2, o2'⟩ (fun hHeld => ?_)
                  simp only [pickT, List.getElem?_cons_zero, List.getElem?_cons_succ, Option.getD_some]
                  repeat (refine wpT_take (v := ?_) (by rfl) (fun w' hSw => ?_) ?_; rotate_left; (go_simp; with_reducible rfl); simp only [Act.put, List.setIfInBounds_toArray, List.set_cons_zero, List.set_cons_succ])
                  refine wpT_do (fun K hK => ?_)
                  go_simp
                  go_at_call 117
                  refine HCON.out.mono ?_
                  rintro e w3 ⟨k3, n3, ao3, m3, c3, y3, L3, lg3, rfl, hb3, hr3, hs3, hw3, hok3⟩
                  have HR3 := Lib.hid hr3
                  have HS3 := Lib.hid hs3
                  have HW3 := Lib.hid hw3
                  have HOK3 := Lib.hid hok3
                  clear hr3 hs3 hw3 hok3 hHeld
                  refine hK.out _ _ ⟨(hb3.cell (p := ⟨gs, 0, none⟩) hlw hngr).trans c0, (hb3.cell (p := ⟨gs, 1, none⟩) hlw hngr).trans c1, (hb3.cell (p := ⟨gs, 2, none⟩) hlw hngr).trans c2, (hb3.cell (p := ⟨o, 2, none⟩) HLA.out.lt hoR).trans o2'⟩ (fun hHeld => ?_)
                  clear hK K
                  refine wpT_do (fun K hK => ?_)
                  go_simp
                  refine hK.out _ _ (by go_keep) (fun hHeld => ?_)
                  clear hK K
                  refine wpT_do (fun K hK => ?_)
                  refine step_outX rfl _ _ rfl HLA.out (by omega) rfl hb3 HR3.out 1 rfl ?_
                  intro g5 m5 cap5 w5 hL5 hk5 q5
                  obtain ⟨-, -, o5, f5, -⟩ := three q5
                  have hlw3 := Nat.lt_of_lt_of_le hlw hb3.size
                  obtain ⟨g0, g1, g2, -, -⟩ := three ((hk5 _ hlw3 hng).trans ((hb3.block _ hlw hngr).trans HGS.out))
                  have f5' := f5 2
                  have hs5 := HKEEP.out _ (w5.setCell ⟨o, 2, none⟩ (.slice (some ⟨g5, 0, none⟩) m5 cap5)) HS3.out (fun q hq => by
                    have h1 := HCL.out q hq
                    have h2 := HLA.out.lt
                    have h3 := hb3.size
                    rw [Below.heap_setCell _ _ _ _ (by show q ≠ o; omega)]
                    exact hk5 q (by omega) (fun e => by have := (HLA.out.made.block _ e).1; omega))
                  have hw5 := HW3.out.keep (w' := w5.setCell ⟨o, 2, none⟩ (.slice (some ⟨g5, 0, none⟩) m5 cap5)) (by
                    have h2 := HLA.out.lt
                    have h3 := hb3.size
                    have h4 := HLT.out
                    rw [Below.heap_setCell _ _ _ _ (by show wb ≠ o; omega)]
                    exact hk5 wb (by omega) (fun e => by have := (HLA.out.made.block _ e).1; omega))
                  have HL5 := Lib.hid hL5
                  have HS5 := Lib.hid hs5
                  have HW5 := Lib.hid hw5
                  clear hL5 f5 q5 hk5 hs5 hw5 hlw3
                  refine hK.out _ _ ⟨g0, g1, g2, o5⟩ (fun hHeld => ?_)
                  clear hK K
                  repeat (refine wpT_take (v := ?_) (by rfl) (fun w' hSw => ?_) ?_; rotate_left; (go_simp; with_reducible rfl); simp only [Act.put, List.setIfInBounds_toArray, List.set_cons_zero, List.set_cons_succ])
                  refine wpT_last (fun K hK => ?_)
                  go_simp
                  refine hK.out _ _ ?_
                  clear hK K
                  go_wp2_with fail
                  go_roundw
                  case rel => exact ⟨j + 1, _, ys ++ [y3], L3, lg3, by go_num, by omega, by simp [hyl], HL5.out, HS5.out, HW5.out, (HOK3.out.bnd (by omega)).1, (HOK3.out.bnd (by omega)).2, by rw [← HTK.out]; exact HOK.out.step HOK3.out⟩
                  case measure =>
                    have q : (intOf (.int .i64 ((j : Int) + 1))).toNat = j + 1 := by show ((j : Int) + 1).toNat = _; omega
                    have q2 : (intOf (.int .i64 (j : Int))).toNat = j := by show ((j : Int)).toNat = _; omega
                    rw [q, q2]; omega
              · obtain ⟨o0, o1, o2, of, -⟩ := three hL.box
                obtain ⟨z0, z1, z2, zf, -⟩ := three ((hL.bel.block (w.heap.size + 1) (by omega) (fun e => by injection e with e; have := HLT.out; omega)).trans HZ0.out)
                obtain ⟨ao5, m5, cap5, rfl⟩ := hL.shape
                have HL := Lib.hid hL
                have HS' := Lib.hid hs'
                have HW' := Lib.hid hw'
                have HB := Lib.hid hb
                clear hL hs' hw' hb hLz
                go_wp2_with fail
                refine bodyPost_ret (v := .agg #[.int .i64 k, .int .i64 x, .slice ao5 m5 cap5]) (by simp [results, Try.results117, go_sem, z0, z1, z2]) rfl (AnsK.fin HKEEP.out HCO.out HB.out (Nat.le_succ _) HLT.out HS'.out HW'.out
                  ((HL.out.term HK.out HX.out).keep (fun q hq => ⟨⟨by omega, hq.2⟩, by omega⟩) fun _ _ => rfl) ?_)
                have q := HOK.out
                rw [mpL_all _ _ _ _ _ hjl] at q
                rw [HMP.out]
                exact q.node
end Go.Proofs.Ythjlfjaciigfiaa
