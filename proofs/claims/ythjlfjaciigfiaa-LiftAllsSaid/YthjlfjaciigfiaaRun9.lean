/-
  subst.run: a contract of the walk, for any function that makes a leaf function.
  The leaf functions of subst.Many and their maker: contracts.
  subst.Many, One: contracts of the walk.
  subst.One, Open: contracts of the walk.
-/
import Derived.Test.YthjlfjaciigfiaaWkw
import Derived.Laws.EntriesVeiled
import Derived.Test.YthjlfjaciigfiaaAround
namespace Go.Proofs.Ythjlfjaciigfiaa
open Go.RowKit
set_option linter.unusedVariables false
set_option linter.unusedSimpArgs false

/-- what is known of a function that makes a leaf function for a walker -/
structure Maker (M F : Nat) (mcaps : Array Value) (C0 : Nat → Prop) (St0 : World → Prop) (G : Int → Int → Int → Option Tm) : Prop where
  make : ∀ wb w, St0 w → (∀ q, C0 q → q < w.heap.size) → ¬ C0 wb → wb < w.heap.size →
    Calls Try.prog M (#[.pointer (some ⟨wb, 0, none⟩)] ++ mcaps) w fun e w' => ∃ caps C St, e = .returned (.func (.func F) #[] caps) ∧ Below w.heap.size w w' ∧ (∀ q, C q → q < w'.heap.size) ∧ St w' ∧ Leafn F caps wb C St G
  keep : ∀ w w', St0 w → (∀ k, C0 k → w'.heap[k]? = w.heap[k]?) → St0 w'
  enter : ∀ args w, (callFunc M args).run Try.prog w = .ok (.enter M args) w

theorem WBox.set2 {wb : Nat} {fv fv' : Value} {L : Int} {lg : Bool} {w : World} (h : WBox wb fv L lg w) : WBox wb fv' L lg (w.setCell ⟨wb, 2, none⟩ fv') := by
  unfold WBox at *; simp [World.setCell, Array.getElem?_modify, h]

set_option maxRecDepth 100000 in
set_option maxHeartbeats 4000000 in
theorem run_w {M F : Nat} {mcaps : Array Value} {C0 : Nat → Prop} {St0 : World → Prop} {G : Int → Int → Int → Option Tm} (hm : Maker M F mcaps C0 St0 G) (v : Value) (t : Tm) (w : World)
    (hr : Rd (· < w.heap.size) w v t) (hsh : Shp t = true) (hC : ∀ q, C0 q → q < w.heap.size) (hS : St0 w) :
    Calls Try.prog 86 #[v, .func (.func M) #[] mcaps] w (AnsTE w (subR G t).1 (subR G t).2) := by
  obtain ⟨ao, cap, rfl⟩ := hr.shape
  obtain ⟨rt, rc, hres⟩ : ∃ rt rc, subR G t = (rt, rc) := ⟨_, _, rfl⟩
  rw [hres]
  have RES := Lib.hid hres
  have HM := Lib.hid hm
  have HCO := Lib.hid hC
  have HS := Lib.hid hS
  have HR := Lib.hid hr
  have HSH := Lib.hid hsh
  have hen := hm.enter
  clear hres hm hC hS hr hsh
  go_enter Try.func86, Try.ntmps86
  go_wp2_with fail
  obtain ⟨W, hWd⟩ : ∃ W, W = ((w.alloc (.cells #[.int .i64 t.kind, .int .i64 t.num, .slice ao t.sub.length cap] 24)).alloc (.cells #[.int .i64 0, .int .i64 0, .slice none 0 0] 24)).alloc (.cells #[.int .i64 8192, .bool false, .nilFunc] 89) := ⟨_, rfl⟩
  rw [← hWd]
  have hbel : Below w.heap.size w W := by rw [hWd]; exact (((Below.refl _ _).alloc (Nat.le_refl _) _).alloc (by simp) _).alloc (by simp; omega) _
  have hsz : W.heap.size = w.heap.size + 3 := by rw [hWd]; simp
  have Q : W.heap[w.heap.size]? = some (.cells #[.int .i64 t.kind, .int .i64 t.num, .slice ao t.sub.length cap] 24) := by rw [hWd]; exact (Below.heap_alloc _ _ _ (by simp; omega)).trans ((Below.heap_alloc _ _ _ (by simp)).trans (heap_new _ _ _ rfl))
  have Z : W.heap[w.heap.size + 1]? = some (.cells #[.int .i64 0, .int .i64 0, .slice none 0 0] 24) := by rw [hWd]; exact (Below.heap_alloc _ _ _ (by simp)).trans (heap_new _ _ _ (by simp))
  have hWB : WBox (w.heap.size + 1 + 1) .nilFunc 8192 false W := by rw [hWd]; exact heap_new _ _ _ (by simp)
  have hcon := HM.out.make (w.heap.size + 1 + 1) W (HM.out.keep _ _ HS.out fun q hq => hbel.block q (HCO.out q hq)) (fun q hq => by have := HCO.out q hq; omega) (fun hq => by have := HCO.out _ hq; omega) (by omega)
  have HBEL := Lib.hid hbel
  have HSZ := Lib.hid hsz
  have HQ := Lib.hid Q
  have HZ := Lib.hid Z
  have HWB := Lib.hid hWB
  have HCON := Lib.hid hcon
  clear hbel hsz Q Z hWB hcon hWd
  refine HCON.out.mono ?_
  rintro e w1 ⟨caps, C, St, rfl, hb1, hC1, hs1, hlf⟩
  have HLF := Lib.hid hlf
  have HW1 := Lib.hid (HWB.out.keep (hb1.block _ HWB.out.cells.2.2.2.2))
  have HQ1 := Lib.hid ((hb1.block _ (by have := HSZ.out; omega)).trans HQ.out)
  have HZ1 := Lib.hid ((hb1.block _ (by have := HSZ.out; omega)).trans HZ.out)
  have HS1 := Lib.hid hs1
  have HC1 := Lib.hid hC1
  have HB1 := Lib.hid (HBEL.out.trans (hb1.mono HBEL.out.size))
  have hsz1 : w.heap.size + 3 ≤ w1.heap.size := by have := hb1.size; have := HSZ.out; omega
  clear hb1 hs1 hlf hC1 HWB HQ HZ HCON
  obtain ⟨g0, g1, g2, gf, gl⟩ := HW1.out.cells
  have gf2 := gf 2
  obtain ⟨W2, hW2d⟩ : ∃ W2, W2 = w1.setCell ⟨w.heap.size + 1 + 1, 2, none⟩ (.func (.func F) #[] caps) := ⟨_, rfl⟩
  have hk2 : ∀ q, q ≠ w.heap.size + 1 + 1 → W2.heap[q]? = w1.heap[q]? := fun q hq => by rw [hW2d]; exact Below.heap_setCell _ _ _ _ hq
  have hW2 : WBox (w.heap.size + 1 + 1) (.func (.func F) #[] caps) 8192 false W2 := by rw [hW2d]; exact HW1.out.set2
  have hs2 : W2.heap.size = w1.heap.size := by rw [hW2d]; simp [World.setCell]
  have HB2 := Lib.hid (show Below w.heap.size w W2 by rw [hW2d]; exact HB1.out.setCell (by simp only []; omega) _)
  have HQ2 := Lib.hid ((hk2 _ (by omega)).trans HQ1.out)
  have HZ2 := Lib.hid ((hk2 _ (by omega)).trans HZ1.out)
  have HS2 := Lib.hid (HLF.out.keep _ W2 HS1.out fun q hq => hk2 q (HLF.out.off q hq))
  have HT2 := Lib.hid (HR.out.keep (w' := W2) (P' := fun q => q < W2.heap.size ∧ some q ≠ some (w.heap.size + 1 + 1)) (fun q hq => ⟨by omega, fun e => by injection e with e; omega⟩) fun q hq => HB2.out.block q hq)
  have hsh := (Shp_iff t).mp HSH.out
  have hcon2 := wwalk_w HLF.out (dep t) _ t 0 8192 false W2 HT2.out.fit hsh.2.2 (by omega) (by omega) (fun q hq => by have := HC1.out q hq; omega) ⟨by omega, by omega⟩ (fun _ => by omega) hW2 HS2.out
  have HCON2 := Lib.hid hcon2
  have HW2 := Lib.hid hW2
  obtain ⟨q0, q1, q2, -, ql⟩ := three HQ2.out
  have hsz2 : w.heap.size + 3 ≤ W2.heap.size := by omega
  rw [hW2d] at q0 q1 q2 ql
  clear hk2 hW2 hcon2 hsh hs2 HW1 HQ1 HZ1 HB1
  go_wp2_with fail
  rw [← hW2d] at q0 q1 q2 ql ⊢
  clear g0 g1 g2 gf gf2 hW2d
  refine HCON2.out.mono ?_
  rintro e w3 ⟨k3, n3, ao3, m3, c3, y3, L3, lg3, rfl, hb3, hr3, hs3, hw3, hok3⟩
  obtain ⟨W4, hW4d⟩ : ∃ W4, W4 = w3.alloc (.cells #[.int .i64 k3, .int .i64 n3, .slice ao3 m3 c3] 24) := ⟨_, rfl⟩
  have hb4 : Below w3.heap.size w3 W4 := by rw [hW4d]; exact alloc_bel _ _
  have hne : ∀ q, q ≠ w.heap.size + 1 + 1 → some q ≠ some (w.heap.size + 1 + 1) := fun q h e => by injection e with e; exact h e
  have hB4 : Below w.heap.size w W4 := by
    refine ⟨hb4.os.trans (hb3.os.trans HB2.out.os), hb4.tape.trans (hb3.tape.trans HB2.out.tape), hb4.output.trans (hb3.output.trans HB2.out.output), by have := hb3.size; have := hb4.size; omega, fun q hq => ?_⟩
    exact (hb4.block _ (by have := hb3.size; omega)).trans ((hb3.block _ (by omega) (hne _ (by omega))).trans (HB2.out.block q hq))
  have HB4 := Lib.hid hB4
  have HW4 := Lib.hid (hw3.keep (hb4.block _ hw3.cells.2.2.2.2))
  have HZ4 := Lib.hid ((hb4.block _ (by have := hb3.size; omega)).trans ((hb3.block (w.heap.size + 1) (by omega) (hne _ (by omega))).trans HZ2.out))
  have HX4 := Lib.hid (show W4.heap[w3.heap.size]? = some (.cells #[.int .i64 k3, .int .i64 n3, .slice ao3 m3 c3] 24) by rw [hW4d]; exact heap_new _ _ _ rfl)
  have HR4 := Lib.hid (hr3.keep (P' := fun q => w.heap.size + 3 ≤ q ∧ q < W4.heap.size) (w' := W4) (fun q hq => ⟨by have := hq.1; omega, Nat.lt_of_lt_of_le hq.2 hb4.size⟩) fun q hq => hb4.block q hq.2)
  have HOK := Lib.hid hok3
  have hsz4 : w.heap.size + 3 ≤ W4.heap.size := by have := hb3.size; have := hb4.size; omega
  clear hb3 hr3 hs3 hw3 hok3 hb4 hne hB4 HQ2 HZ2 HW2 HS2 q0 q1 q2 ql
  obtain ⟨g0, g1, g2, gf, gl4⟩ := HW4.out.cells
  obtain ⟨z0, z1, z2, zf, zl⟩ := three HZ4.out
  obtain ⟨x0, x1, x2, xf, xl⟩ := three HX4.out
  have HSHP := Lib.hid (Shaped_r (HR4.out.keep (P' := (· < W4.heap.size)) (fun q hq => hq.2) fun _ _ => rfl))
  rw [hW4d] at g0 g1 g2 gf gl4 z0 z1 z2 zf zl x0 x1 x2 xf xl
  cases lg3 with
  | true =>
    have e : subR G t = (tm0, 2) := by
      unfold subR
      rw [if_neg fun h => ?_]
      rcases ((HOK.out.2 rfl).1) with q | q
      · cases q
      · have := (Shp_iff _).mp h; exact q ⟨this.2.2, by omega⟩
    rw [RES.out] at e
    injection e with e1 e2
    subst e1; subst e2
    go_wp2_with fail
    rw [← hW4d] at z0 z1 z2 ⊢
    exact bodyPost_ret (v := .tuple #[.agg #[.int .i64 0, .int .i64 0, .slice none 0 0], .int .i64 2]) (by simp [results, Try.results86, go_sem, z0, z1, z2]) rfl
      ⟨_, _, _, _, _, rfl, ((HB4.out.setCell (by simp only []; omega) _).setCell (by simp only []; omega) _).setCell (by simp only []; omega) _, Rd.zero _ _⟩
  | false =>
    have hy := (HOK.out.1 rfl).2.1
    subst hy
    obtain ⟨u, hu⟩ : ∃ u, u = Shp (mp G t 0) := ⟨_, rfl⟩
    have hsp := HSHP.out
    rw [← hu] at hsp
    have HSP := Lib.hid hsp
    have HU := Lib.hid hu
    clear hsp hu HSHP
    go_wp2_with fail
    rw [← hW4d] at z0 z1 z2 ⊢
    clear g0 g1 g2 gf z0 z1 z2 zf x0 x1 x2 xf gl4 zl xl hW4d
    refine HSP.out.mono ?_
    rintro e w5 ⟨rfl, hb5⟩
    have HB5 := Lib.hid (HB4.out.trans (hb5.mono (by omega)))
    have HR5 := Lib.hid (HR4.out.keep (w' := w5) (P' := fun q => w.heap.size + 3 ≤ q ∧ q < w5.heap.size) (fun q hq => ⟨hq.1, Nat.lt_of_lt_of_le hq.2 hb5.size⟩) fun q hq => hb5.block q hq.2)
    obtain ⟨z0, z1, z2, zf, zl⟩ := three ((hb5.block _ (by omega)).trans HZ4.out)
    obtain ⟨x0, x1, x2, xf, xl⟩ := three ((hb5.block _ (blt HX4.out)).trans HX4.out)
    clear hb5
    cases u with
    | true =>
      have e : subR G t = (mp G t 0, 0) := by unfold subR; rw [if_pos HU.out.symm]
      rw [RES.out] at e
      injection e with e1 e2
      subst e1; subst e2
      go_wp2_with fail
      refine bodyPost_ret (v := .tuple #[.agg #[.int .i64 k3, .int .i64 n3, .slice ao3 m3 c3], .int .i64 0]) (by simp [results, Try.results86, go_sem, z0, z1, z2]) rfl
        ⟨_, _, _, _, _, rfl, ((HB5.out.setCell (by simp only []; omega) _).setCell (by simp only []; omega) _).setCell (by simp only []; omega) _, ?_⟩
      refine HR5.out.keep (fun q hq => ⟨by omega, by simp only [World.setCell, Array.size_modify]; exact hq.2⟩) fun q hq => set3_off _ _ _ _ _ q (by omega)
    | false =>
      have e : subR G t = (tm0, 2) := by unfold subR; rw [if_neg (by rw [← HU.out]; simp)]
      rw [RES.out] at e
      injection e with e1 e2
      subst e1; subst e2
      go_wp2_with fail
      exact bodyPost_ret (v := .tuple #[.agg #[.int .i64 0, .int .i64 0, .slice none 0 0], .int .i64 2]) (by simp [results, Try.results86, go_sem, z0, z1, z2]) rfl
        ⟨_, _, _, _, _, rfl, ((HB5.out.setCell (by simp only []; omega) _).setCell (by simp only []; omega) _).setCell (by simp only []; omega) _, Rd.zero _ _⟩
end Go.Proofs.Ythjlfjaciigfiaa
namespace Go.Proofs.Ythjlfjaciigfiaa
open Go.RowKit
set_option linter.unusedVariables false
set_option linter.unusedSimpArgs false

/-- an answer of a leaf function, laid into the result's variable, block r -/
theorem AnsLf.fin {wb r : Nat} {fv : Value} {C : Nat → Prop} {St : World → Prop} {L L' : Int} {lg' : Bool} {g : Option Tm} {w w4 : World} {k n : Int} {ao : Option Addr} {m c : Nat} {dn : Bool} {v0 v1 v2 : Value}
    (hkeep : ∀ w w', St w → (∀ k, C k → w'.heap[k]? = w.heap[k]?) → St w') (hC : ∀ q, C q → q < w.heap.size) (hB : Bx (some wb) w.heap.size w w4) (hr : w.heap.size ≤ r) (hwb : wb < w.heap.size) (hS : St w4) (hW : WBox wb fv L' lg' w4)
    (h0 : dn = false → g = none ∧ L' = L ∧ lg' = false) (h1 : dn = true → ∃ x y, g = some x ∧ Rd (fun q => Fr w w4 q ∧ q ≠ r) w4 (.agg #[.int .i64 k, .int .i64 n, .slice ao m c]) y ∧ OkS L false x y L' lg') :
    AnsLf wb fv St L g w (.returned (.tuple #[.agg #[.int .i64 k, .int .i64 n, .slice ao m c], .bool dn])) (((w4.setCell ⟨r, 0, none⟩ v0).setCell ⟨r, 1, none⟩ v1).setCell ⟨r, 2, none⟩ v2) := by
  have hoff := set3_off w4 r v0 v1 v2
  have hsz := set3_size w4 r v0 v1 v2
  refine ⟨k, n, ao, m, c, dn, L', lg', rfl, ?_, hkeep _ _ hS fun q hq => hoff q (by have := hC q hq; omega), hW.keep (hoff _ (by omega)), h0, fun e => ?_⟩
  · exact ((hB.setCell (.inl (by simpa using hr)) _).setCell (.inl (by simpa using hr)) _).setCell (.inl (by simpa using hr)) _
  · obtain ⟨x, y, r1, r2, r3⟩ := h1 e
    exact ⟨x, y, r1, r2.keep (fun q hq => ⟨hq.1.1, by rw [hsz]; exact hq.1.2⟩) fun q hq => hoff q hq.2, r3⟩
theorem OkS.leaf {L : Int} {x : Tm} (hL : 0 ≤ L) (hL2 : L ≤ 8192) : OkS L false x x L false := ⟨fun _ => ⟨rfl, rfl, hL, Int.le_refl _, by omega⟩, fun e => (by cases e)⟩

/-- what a walk reads of an element of a slice of terms -/
theorem Ts.elem {P : Nat → Prop} {w : World} {v : Value} {l : List Tm} (h : Ts P w v l) : ∃ ao cap, v = .slice ao l.length cap ∧ l.length ≤ cap ∧ cap ≤ maxLen ∧ ∀ i (hi : i < l.length), ∃ b off k2 n2 ao2 m2 cap2, ao = some ⟨b, off, none⟩ ∧ P b ∧
    w.cell? ⟨b, off + i * 3, none⟩ = some (.int .i64 k2) ∧ w.cell? ⟨b, off + i * 3 + 1, none⟩ = some (.int .i64 n2) ∧ w.cell? ⟨b, off + i * 3 + 2, none⟩ = some (.slice ao2 m2 cap2) ∧ Rd P w (.agg #[.int .i64 k2, .int .i64 n2, .slice ao2 m2 cap2]) l[i] := by
  obtain ⟨ao, cap, hv, h1, h2, he⟩ := h
  refine ⟨ao, cap, hv, h1, h2, fun i hi => ?_⟩
  obtain ⟨b, off, c0, c1, c2, q1, q2, q3, q4, q5, q6⟩ := he i hi
  obtain ⟨ao2, cap2, e⟩ := q6.shape
  injection e with e; injection e with e
  injection e with e0 e; injection e with e1 e; injection e with e2 e
  subst e0; subst e1; subst e2
  exact ⟨b, off, _, _, _, _, _, q1, q2, q3, q4, q5, q6⟩

def StMy (lb pb wb : Nat) (lv : Value) (l : List Tm) (PL : Nat → Prop) (w : World) : Prop :=
  w.heap[lb]? = some (.cells #[lv] 22) ∧ w.heap[pb]? = some (.cells #[.pointer (some ⟨wb, 0, none⟩)] 71) ∧ Ts PL w lv l

set_option maxRecDepth 100000 in
set_option maxHeartbeats 4000000 in
theorem leaf_my {lb pb wb : Nat} {lv : Value} {l : List Tm} {PL : Nat → Prop} (hlb : lb ≠ wb) (hpb : pb ≠ wb) (hPL : ∀ q, PL q → q ≠ wb) (hl : l.all Shp = true) (hlen : l.length ≤ 1000000) :
    Leafn 88 #[.pointer (some ⟨lb, 0, none⟩), .pointer (some ⟨pb, 0, none⟩)] wb (fun q => q = lb ∨ q = pb ∨ PL q) (StMy lb pb wb lv l PL) (Fmy l) := by
  have hkeep : ∀ w w', StMy lb pb wb lv l PL w → (∀ k, (k = lb ∨ k = pb ∨ PL k) → w'.heap[k]? = w.heap[k]?) → StMy lb pb wb lv l PL w' := fun w w' ⟨h1, h2, h3⟩ hk =>
    ⟨(hk _ (.inl rfl)).trans h1, (hk _ (.inr (.inl rfl))).trans h2, h3.keep (fun _ h => h) fun q hq => hk q (.inr (.inr hq))⟩
  have hoff : ∀ q, (q = lb ∨ q = pb ∨ PL q) → q ≠ wb := fun q hq => by
    rcases hq with rfl | rfl | hq
    · exact hlb
    · exact hpb
    · exact hPL q hq
  refine ⟨fun k n ao m c b L w hk1 hk8 hn0 hn1 hb0 hb1 hL0 hL1 hC hWB hS => ?_, hkeep, hoff, fun args w => by kernel_rfl, leafy_my l⟩
  show Calls Try.prog 88 #[.agg #[.int .i64 k, .int .i64 n, .slice ao m c], .int .i64 b, .pointer (some ⟨lb, 0, none⟩), .pointer (some ⟨pb, 0, none⟩)] w (AnsLf wb (.func (.func 88) #[] #[.pointer (some ⟨lb, 0, none⟩), .pointer (some ⟨pb, 0, none⟩)]) (StMy lb pb wb lv l PL) L (Fmy l k n b) w)
  obtain ⟨W, hWd⟩ : ∃ W, W = ((w.alloc (.cells #[.int .i64 k, .int .i64 n, .slice ao m c] 24)).alloc (.cells #[.int .i64 0, .int .i64 0, .slice none 0 0] 24)) := ⟨_, rfl⟩
  have hbel : Below w.heap.size w W := by rw [hWd]; exact ((Below.refl _ _).alloc (Nat.le_refl _) _).alloc (by simp) _
  have hsz : W.heap.size = w.heap.size + 2 := by rw [hWd]; simp
  have Q : W.heap[w.heap.size]? = some (.cells #[.int .i64 k, .int .i64 n, .slice ao m c] 24) := by rw [hWd]; exact (Below.heap_alloc _ _ _ (by simp)).trans (heap_new _ _ _ rfl)
  have Z : W.heap[w.heap.size + 1]? = some (.cells #[.int .i64 0, .int .i64 0, .slice none 0 0] 24) := by rw [hWd]; exact heap_new _ _ _ (by simp)
  have hwbl := hWB.cells.2.2.2.2
  have HLT := Lib.hid hwbl
  have HWB := Lib.hid (hWB.keep (hbel.block _ hwbl))
  have HS := Lib.hid (hkeep _ _ hS fun q hq => hbel.block q (hC q hq))
  have HCO := Lib.hid hC
  have HOFF := Lib.hid hoff
  have HKEEP := Lib.hid hkeep
  have HBEL := Lib.hid hbel
  have HSZ := Lib.hid hsz
  have HQ := Lib.hid Q
  have HZ := Lib.hid Z
  have HWD := Lib.hid hWd
  clear hkeep hoff hbel hsz Q Z hwbl hWd hC hWB hS
  go_enter Try.func88, Try.ntmps88
  go_wp2_with fail
  rw [← HWD.out]
  refine (loose_w k n ao m c b _ ⟨hn0, hn1⟩ ⟨hb0, hb1⟩).mono ?_
  rintro e w1 ⟨rfl, hbl⟩
  have HW1 := Lib.hid (HWB.out.keep (hbl.block _ HWB.out.cells.2.2.2.2))
  have HQ1 := Lib.hid ((hbl.block _ (by have := HSZ.out; omega)).trans HQ.out)
  have HZ1 := Lib.hid ((hbl.block _ (by have := HSZ.out; omega)).trans HZ.out)
  have HS1 := Lib.hid (HKEEP.out _ w1 HS.out fun q hq => hbl.block q (by have := HCO.out q hq; have := HSZ.out; omega))
  have HB1 := Lib.hid (HBEL.out.trans (hbl.mono HBEL.out.size))
  have hsz1 : w.heap.size + 2 ≤ w1.heap.size := by have := hbl.size; have := HSZ.out; omega
  clear hbl HWB HQ HZ HS
  obtain ⟨z0, z1, z2, zf, zl⟩ := three HZ1.out
  obtain ⟨q0, q1, q2, qf, ql⟩ := three HQ1.out
  by_cases hloose : k = 1 ∧ b ≤ n
  · obtain ⟨rfl, hbn⟩ := hloose
    have el : looseV 1 n b = n - b := by simp [looseV, hbn]
    rw [el]
    clear el
    obtain ⟨s1, s2, s3⟩ := HS1.out
    obtain ⟨al, cl, rfl, hlc, hcm, hel⟩ := s3.elem
    obtain ⟨l0, lf, -⟩ := one1 s1
    obtain ⟨p0, pf, -⟩ := one1 s2
    have HEL := Lib.hid hel
    have HS3 := Lib.hid s3
    clear s1 s2 s3 hel
    have hlen0 : (0 : Int) ≤ (l.length : Int) := Int.natCast_nonneg _
    by_cases hin : n - b < l.length
    · obtain ⟨i, hi⟩ : ∃ i : Nat, n - b = i := ⟨(n - b).toNat, by omega⟩
      have hil : i < l.length := by omega
      obtain ⟨be, off, k2, n2, ao2, m2, cap2, rfl, hPb, h0, h1, h2, hrd⟩ := HEL.out i hil
      rw [hi]
      go_wp2_with fail
      have hPbw : be ≠ wb := HOFF.out _ (.inr (.inr hPb))
      have hPbs : be < w.heap.size := HCO.out _ (.inr (.inr hPb))
      have hlbs : lb < w.heap.size := HCO.out _ (.inl rfl)
      have hpbs : pb < w.heap.size := HCO.out _ (.inr (.inl rfl))
      have hsh : Shp l[i] = true := by simpa using List.all_eq_true.mp hl l[i] (List.getElem_mem hil)
      have hcon := raised_w (wb := wb) (fv := .func (.func 88) #[] #[.pointer (some ⟨lb, 0, none⟩), .pointer (some ⟨pb, 0, none⟩)]) HKEEP.out HOFF.out _ l[i] b L w1.drew (fun q hq => by have := HCO.out q hq; show q < w1.heap.size; omega)
        (hrd.keep (w' := w1.drew) (P' := fun q => q < w1.drew.heap.size ∧ q ≠ wb) (fun q hq => ⟨by have := HCO.out q (.inr (.inr hq)); show q < w1.heap.size; omega, HOFF.out q (.inr (.inr hq))⟩) fun _ _ => rfl) hsh ⟨hb0, by omega⟩ ⟨hL0, hL1⟩ HW1.out (HKEEP.out _ w1.drew HS1.out fun _ _ => rfl)
      have HCON := Lib.hid hcon
      have hic : (i : Int) < (l.length : Int) := by omega
      have hi0 : (0 : Int) ≤ (i : Int) := Int.natCast_nonneg _
      clear hcon hrd
      refine wp_region_order [(0, true), (1, true), (2, true), (3, true), (4, true), (5, true), (6, false), (7, false), (8, false)]
        (fun w' => w'.cell? ⟨pb, 0, none⟩ = some (.pointer (some ⟨wb, 0, none⟩)) ∧ w'.cell? ⟨lb, 0, none⟩ = some (.slice (some ⟨be, off, none⟩) l.length cl) ∧ (w'.cell? ⟨be, off + i * 3, none⟩ = some (.int .i64 k2) ∧ w'.cell? ⟨be, off + i * 3 + 1, none⟩ = some (.int .i64 n2) ∧ w'.cell? ⟨be, off + i * 3 + 2, none⟩ = some (.slice ao2 m2 cap2)))
        (by kernel_rfl) (by kernel_rfl) ⟨p0, l0, h0, h1, h2⟩ (fun hHeld => ?_)
      simp only [pickT, List.getElem?_cons_zero, List.getElem?_cons_succ, Option.getD_some]
      repeat (refine wpT_take (v := ?_) (by rfl) (fun w' hSw => ?_) ?_; rotate_left; (go_simp; with_reducible rfl); simp only [Act.put, List.setIfInBounds_toArray, List.set_cons_zero, List.set_cons_succ])
      refine wpT_do (fun K hK => ?_)
      go_simp
      go_at_call 90
      refine HCON.out.mono ?_
      rintro e w3 ⟨k3, n3, ao3, m3, c3, y3, L3, lg3, rfl, hb3, hr3, hs3, hw3, hok3⟩
      replace hb3 : Bx (some wb) w1.heap.size w1 w3 := (Bx.of (below_drewN (Below.refl _ _) 1)).trans hb3
      have hne : ∀ q, q ≠ wb → some q ≠ some wb := fun q h e => by injection e with e; exact h e
      have S3 := And.intro ((hb3.cell (p := ⟨pb, 0, none⟩) (by show pb < _; omega) (hne _ hpb)).trans p0) (And.intro ((hb3.cell (p := ⟨lb, 0, none⟩) (by show lb < _; omega) (hne _ hlb)).trans l0) (And.intro ((hb3.cell (p := ⟨be, off + i * 3, none⟩) (by show be < _; omega) (hne _ hPbw)).trans h0) (And.intro ((hb3.cell (p := ⟨be, off + i * 3 + 1, none⟩) (by show be < _; omega) (hne _ hPbw)).trans h1) ((hb3.cell (p := ⟨be, off + i * 3 + 2, none⟩) (by show be < _; omega) (hne _ hPbw)).trans h2))))
      have HZ3 := Lib.hid ((hb3.block _ zl (hne _ (by have := HLT.out; omega))).trans HZ1.out)
      have HB3 := Lib.hid ((Bx.of (row := some wb) HB1.out).trans (hb3.mono (by omega)))
      have hsz3 : w.heap.size + 2 ≤ w3.heap.size := by have := hb3.size; omega
      have HR3 := Lib.hid (hr3.keep (P' := fun q => w.heap.size + 2 ≤ q ∧ q < w3.heap.size) (fun q hq => ⟨by have : w1.heap.size ≤ q := hq.1; omega, hq.2⟩) fun _ _ => rfl)
      have HS3' := Lib.hid hs3
      have HW3 := Lib.hid hw3
      have HOK3 := Lib.hid hok3
      refine hK.out _ _ S3 (fun hHeld => ?_)
      clear hK K hHeld hb3 hr3 hs3 hw3 hok3 z0 z1 z2 zf q0 q1 q2 qf l0 lf p0 pf h0 h1 h2
      obtain ⟨z0, z1, z2, zf, zl3⟩ := three HZ3.out
      have zf0 := zf 0
      have zf1 := zf 1
      have zf2 := zf 2
      obtain ⟨p0, l0, h0, h1, h2⟩ := S3
      have hfin := AnsLf.fin (v0 := .int .i64 k3) (v1 := .int .i64 n3) (v2 := .slice ao3 m3 c3) (dn := true) (g := Fmy l 1 n b) HKEEP.out HCO.out HB3.out (Nat.le_succ w.heap.size) HLT.out HS3'.out HW3.out (fun e => by cases e) (fun _ => ⟨raise l[i] b, y3, by
        unfold Fmy
        rw [if_pos ⟨rfl, hbn⟩]
        have e : (n - b).toNat = i := by omega
        simp only [e, hil, ↓reduceDIte], HR3.out.keep (fun q hq => ⟨⟨by omega, hq.2⟩, by omega⟩) fun _ _ => rfl, HOK3.out⟩)
      have HFIN := Lib.hid hfin
      have hX := set3_blk (a := .int .i64 k3) (b := .int .i64 n3) (c := .slice ao3 m3 c3) HZ3.out
      have hoff3 := set3_off w3 (w.heap.size + 1) (.int .i64 k3) (.int .i64 n3) (.slice ao3 m3 c3)
      have S4 := And.intro ((cell_keep (a := ⟨pb, 0, none⟩) (hoff3 _ (by show pb ≠ _; omega))).trans p0) (And.intro ((cell_keep (a := ⟨lb, 0, none⟩) (hoff3 _ (by show lb ≠ _; omega))).trans l0) (And.intro ((cell_keep (a := ⟨be, off + i * 3, none⟩) (hoff3 _ (by show be ≠ _; omega))).trans h0) (And.intro ((cell_keep (a := ⟨be, off + i * 3 + 1, none⟩) (hoff3 _ (by show be ≠ _; omega))).trans h1) ((cell_keep (a := ⟨be, off + i * 3 + 2, none⟩) (hoff3 _ (by show be ≠ _; omega))).trans h2))))
      refine wpT_do (fun K hK => ?_)
      go_simp
      clear hfin z0 z1 z2 zf zf0 zf1 zf2 p0 l0 h0 h1 h2 hoff3
      generalize ((w3.setCell ⟨w.heap.size + 1, 0, none⟩ (.int .i64 k3)).setCell ⟨w.heap.size + 1, 1, none⟩ (.int .i64 n3)).setCell ⟨w.heap.size + 1, 2, none⟩ (.slice ao3 m3 c3) = w4 at HFIN hX S4 ⊢
      refine hK.out _ _ S4 (fun hHeld => ?_)
      clear hK K hHeld
      obtain ⟨z0, z1, z2, zf, -⟩ := three hX
      refine wpT_last (fun K hK => ?_)
      go_simp
      refine hK.out _ _ ?_
      clear hK K
      go_wp2_with fail
      exact bodyPost_ret (v := .tuple #[.agg #[.int .i64 k3, .int .i64 n3, .slice ao3 m3 c3], .bool true]) (by simp [results, Try.results88, go_sem, z0, z1, z2]) rfl HFIN.out
    · go_wp2_with fail
      refine (Var_w _ _).mono ?_
      rintro e w2 ⟨rfl, hb2⟩
      have HW2 := Lib.hid (HW1.out.keep (hb2.block _ HW1.out.cells.2.2.2.2))
      have HS2 := Lib.hid (HKEEP.out _ w2 HS1.out fun q hq => hb2.block q (by have := HCO.out q hq; omega))
      have HB2 := Lib.hid (Bx.of (row := some wb) (HB1.out.trans (hb2.mono (by omega))))
      have HZ2 := (hb2.block _ zl).trans HZ1.out
      clear hb2 z0 z1 z2 zf zl q0 q1 q2 qf ql l0 lf p0 pf
      obtain ⟨z0, z1, z2, zf, zl⟩ := three HZ2
      go_wp2_with fail
      refine bodyPost_ret (v := .tuple #[.agg #[.int .i64 1, .int .i64 (n - l.length), .slice none 0 0], .bool true]) (by simp [results, Try.results88, go_sem, z0, z1, z2]) rfl (AnsLf.fin HKEEP.out HCO.out HB2.out (Nat.le_succ _) HLT.out HS2.out HW2.out (fun e => by cases e) (fun _ => ⟨.node 1 (n - l.length) [], _, ?_, Rd.leaf _ _ _ _ _ _ (Nat.zero_le _) (by omega) (by omega), OkS.leaf hL0 hL1⟩))
      unfold Fmy
      rw [if_pos ⟨rfl, hbn⟩, dif_neg (by omega)]
  · have el : looseV k n b = -1 := by simp [looseV, hloose]
    rw [el]
    go_wp2_with fail
    refine bodyPost_ret (v := .tuple #[.agg #[.int .i64 0, .int .i64 0, .slice none 0 0], .bool false]) (by simp [results, Try.results88, go_sem, z0, z1, z2]) rfl (AnsLf.fin HKEEP.out HCO.out (Bx.of HB1.out) (Nat.le_succ _) HLT.out HS1.out HW1.out (fun _ => ⟨?_, rfl, rfl⟩) (fun e => by cases e))
    unfold Fmy
    rw [if_neg hloose]
end Go.Proofs.Ythjlfjaciigfiaa
namespace Go.Proofs.Ythjlfjaciigfiaa
open Go.RowKit
set_option linter.unusedVariables false
set_option linter.unusedSimpArgs false

theorem Ts.at0 {P : Nat → Prop} {w : World} {v : Value} {l : List Tm} (h : Ts P w v l) : ∃ al cl, v = .slice al l.length cl := by
  obtain ⟨ao, cap, hv, -⟩ := h; exact ⟨ao, cap, hv⟩

set_option maxRecDepth 100000 in
set_option maxHeartbeats 4000000 in
theorem maker_my {lb : Nat} {lv : Value} {l : List Tm} {PL : Nat → Prop} (hl : l.all Shp = true) (hlen : l.length ≤ 1000000) :
    Maker 87 88 #[.pointer (some ⟨lb, 0, none⟩)] (fun q => q = lb ∨ PL q) (fun w => w.heap[lb]? = some (.cells #[lv] 22) ∧ Ts PL w lv l) (Fmy l) := by
  refine ⟨fun wb w ⟨h1, h2⟩ hC hwb hlt => ?_, fun w w' ⟨h1, h2⟩ hk => ⟨(hk _ (.inl rfl)).trans h1, h2.keep (fun _ h => h) fun q hq => hk q (.inr hq)⟩, fun args w => by kernel_rfl⟩
  show Calls Try.prog 87 #[.pointer (some ⟨wb, 0, none⟩), .pointer (some ⟨lb, 0, none⟩)] w _
  have hcon := leaf_my (lb := lb) (pb := w.heap.size) (wb := wb) (lv := lv) (l := l) (PL := PL) (fun e => hwb (.inl e.symm)) (by omega) (fun q hq e => hwb (.inr (e ▸ hq))) hl hlen
  have HCON := Lib.hid hcon
  have H1 := Lib.hid h1
  have H2 := Lib.hid h2
  have HC := Lib.hid hC
  clear hcon h1 h2 hC
  go_enter Try.func87, Try.ntmps87
  go_wp2_with fail
  go_ret
  have hb := alloc_bel w (.cells #[.pointer (some ⟨wb, 0, none⟩)] 71)
  refine ⟨_, _, _, rfl, hb, fun q hq => ?_, ⟨(hb.block _ (blt H1.out)).trans H1.out, heap_new _ _ _ rfl, H2.out.keep (fun _ h => h) fun q hq => hb.block q (HC.out q (.inr hq))⟩, HCON.out⟩
  rw [World.size_alloc]
  rcases hq with rfl | rfl | hq
  · have := HC.out _ (.inl rfl); omega
  · omega
  · have := HC.out _ (.inr hq); omega

set_option maxRecDepth 100000 in
set_option maxHeartbeats 4000000 in
theorem Many9_w (vl v : Value) (l : List Tm) (t : Tm) (w : World) (hlen : l.length ≤ 1000000) (hl : Ts (· < w.heap.size) w vl l) (hr : Rd (· < w.heap.size) w v t) :
    Calls Try.prog 50 #[v, vl] w (AnsTE w (manyR t l).1 (manyR t l).2) := by
  obtain ⟨rt, rc, hres⟩ : ∃ rt rc, manyR t l = (rt, rc) := ⟨_, _, rfl⟩
  rw [hres]
  have RES := Lib.hid hres
  have HL := Lib.hid hl
  obtain ⟨aol, capl, rfl, hlm, -, he⟩ := hl.elem
  have HE := Lib.hid he
  clear hres he hl
  obtain ⟨ao, cap, rfl⟩ := hr.shape
  obtain ⟨W, hW⟩ : ∃ W, W = ((w.alloc (.cells #[.int .i64 t.kind, .int .i64 t.num, .slice ao t.sub.length cap] 24)).alloc (.cells #[.slice aol l.length capl] 22)).alloc (.cells #[.int .i64 0, .int .i64 0, .slice none 0 0] 24) := ⟨_, rfl⟩
  have hb0 : Below w.heap.size w W := by rw [hW]; exact ((((Below.refl _ _).alloc (Nat.le_refl _) _).alloc (by simp only [World.size_alloc]; omega) _).alloc (by simp only [World.size_alloc]; omega) _)
  have hsW : W.heap.size = w.heap.size + 3 := by rw [hW]; simp only [World.size_alloc]
  have Q : W.heap[w.heap.size]? = some (.cells #[.int .i64 t.kind, .int .i64 t.num, .slice ao t.sub.length cap] 24) := by rw [hW]; exact (Below.heap_alloc _ _ _ (by simp only [World.size_alloc]; omega)).trans ((Below.heap_alloc _ _ _ (by simp only [World.size_alloc]; omega)).trans (heap_new _ _ _ rfl))
  have LB : W.heap[w.heap.size + 1]? = some (.cells #[.slice aol l.length capl] 22) := by rw [hW]; exact (Below.heap_alloc _ _ _ (by simp only [World.size_alloc]; omega)).trans (heap_new _ _ _ (by simp only [World.size_alloc]))
  have Z : W.heap[w.heap.size + 1 + 1]? = some (.cells #[.int .i64 0, .int .i64 0, .slice none 0 0] 24) := by rw [hW]; exact heap_new _ _ _ (by simp only [World.size_alloc])
  replace Q := Lib.hid Q
  replace LB := Lib.hid LB
  replace Z := Lib.hid Z
  have T := Lib.hid (hr.on hb0)
  have FB0 := Lib.hid hb0
  have SW := Lib.hid hsW
  have HW := Lib.hid hW
  clear hb0 hsW hW hr
  obtain ⟨y, hy⟩ : ∃ y, y = Shp t := ⟨_, rfl⟩
  have HY := Lib.hid hy
  have hs := Shaped_r T.out
  rw [← hy] at hs
  have HS := Lib.hid hs
  clear hs hy
  go_enter Try.func50, Try.ntmps50
  go_wp2_with fail
  rw [← HW.out]
  refine HS.out.mono ?_
  rintro e w1 ⟨rfl, hb⟩
  have HF1 := Lib.hid (FB0.out.trans (hb.mono FB0.out.size))
  have Q1 := Lib.hid ((hb.block _ (blt Q.out)).trans Q.out)
  have LB1 := Lib.hid ((hb.block _ (blt LB.out)).trans LB.out)
  have Z1 := Lib.hid ((hb.block _ (blt Z.out)).trans Z.out)
  have T1 := Lib.hid (T.out.on hb)
  have hsz1 : w.heap.size + 3 ≤ w1.heap.size := by have := hb.size; have := SW.out; omega
  clear hb HS
  obtain ⟨z0, z1, z2, zf, -⟩ := three Z1.out
  obtain ⟨b0, bf, -⟩ := one1 LB1.out
  cases y with
  | false =>
    have e : manyR t l = (tm0, 5) := by unfold manyR; rw [if_neg (by rw [← HY.out]; simp)]
    rw [RES.out] at e
    injection e with e1 e2
    subst e1; subst e2
    go_wp2_with fail
    exact bodyPost_ret (v := .tuple #[.agg #[.int .i64 0, .int .i64 0, .slice none 0 0], .int .i64 5]) (by simp [results, Try.results50, go_sem, z0, z1, z2]) rfl ⟨_, _, _, _, _, rfl, (((HF1.out.setCell (by simp only []; omega) _).setCell (by simp only []; omega) _).setCell (by simp only []; omega) _), Rd.zero _ _⟩
  | true =>
    go_wp2_with fail
    clear z0 z1 z2 zf b0 bf
    have HST := Lib.hid (Below.refl w1.heap.size w1)
    go_loopw [14] (fun i wr => ∃ j : Nat, i = .int .i64 j ∧ j ≤ l.length ∧ (l.drop j).all Shp = l.all Shp ∧ Below w1.heap.size w1 wr) (fun i _ => l.length - (intOf i).toNat)
    case atStart => exact ⟨0, rfl, Nat.zero_le _, rfl, HST.out⟩
    case round =>
      obtain ⟨j, rfl, hj, hall, hb⟩ := hrel
      have HALL := Lib.hid hall
      have HBr := Lib.hid hb
      have hszr : w.heap.size + 3 ≤ wr.heap.size := by have := hb.size; omega
      have hbw := HF1.out.trans (hb.mono HF1.out.size)
      have Zr := Lib.hid ((hb.block _ (blt Z1.out)).trans Z1.out)
      clear hall HST
      by_cases hjl : j < l.length
      · obtain ⟨b, off, k2, n2, ao2, m2, cap2, rfl, hP, h0, h1, h2, hrd⟩ := HE.out j hjl
        have e0 := (hbw.cell (p := ⟨b, off + j * 3, none⟩) hP).trans h0
        have e1 := (hbw.cell (p := ⟨b, off + j * 3 + 1, none⟩) hP).trans h1
        have e2 := (hbw.cell (p := ⟨b, off + j * 3 + 2, none⟩) hP).trans h2
        have hbl : b < wr.heap.size := Nat.lt_of_lt_of_le hP hbw.size
        have HBW := Lib.hid hbw
        clear h0 h1 h2 hb hbw
        go_wp2_with fail
        have hba := alloc_bel wr (.cells #[.int .i64 k2, .int .i64 n2, .slice ao2 m2 cap2] 24)
        have hbwa := HBW.out.trans (hba.mono HBW.out.size)
        obtain ⟨y, hy⟩ : ∃ y, y = Shp l[j] := ⟨_, rfl⟩
        have hs := Shaped_r (hrd.keep (P' := (· < (wr.alloc (.cells #[.int .i64 k2, .int .i64 n2, .slice ao2 m2 cap2] 24)).heap.size)) (w' := wr.alloc (.cells #[.int .i64 k2, .int .i64 n2, .slice ao2 m2 cap2] 24)) (fun b hb' => Nat.lt_of_lt_of_le hb' hbwa.size) (fun b hb' => hbwa.block b hb'))
        rw [← hy] at hs
        have q := HALL.out
        rw [all_drop l j hjl, ← hy] at q
        have HQ := Lib.hid q
        refine hs.mono ?_
        rintro e w3 ⟨rfl, hb3⟩
        have hbb := HBr.out.trans ((hba.trans (hb3.mono hba.size)).mono HBr.out.size)
        have HB3 := Lib.hid hbb
        have HF3 := Lib.hid (HF1.out.trans (hbb.mono (by omega)))
        obtain ⟨z0, z1, z2, zf, -⟩ := three ((hbb.block _ (blt Z1.out)).trans Z1.out)
        clear hs q hy hrd e0 e1 e2 hb3 hba hbwa hbb
        cases y
        · have e : manyR t l = (tm0, 5) := by unfold manyR; rw [if_neg (by rw [← HQ.out]; simp)]
          rw [RES.out] at e
          injection e with e1 e2
          subst e1; subst e2
          go_wp2_with fail
          exact bodyPost_ret (v := .tuple #[.agg #[.int .i64 0, .int .i64 0, .slice none 0 0], .int .i64 5]) (by simp [results, Try.results50, go_sem, z0, z1, z2]) rfl ⟨_, _, _, _, _, rfl, (((HF3.out.setCell (by simp only []; omega) _).setCell (by simp only []; omega) _).setCell (by simp only []; omega) _), Rd.zero _ _⟩
        · go_wp2_with fail
          go_roundw
          case rel => exact ⟨j + 1, by go_num, by omega, by have := HQ.out; rwa [Bool.true_and] at this, HB3.out⟩
          case measure =>
            have q : (intOf (.int .i64 ((j : Int) + 1))).toNat = j + 1 := by show ((j : Int) + 1).toNat = _; omega
            have q2 : (intOf (.int .i64 (j : Int))).toNat = j := by show ((j : Int)).toNat = _; omega
            rw [q, q2]; omega
      · have hallT : l.all Shp = true := by
          have q := HALL.out
          rw [List.drop_of_length_le (by omega)] at q
          exact q.symm
        have e : manyR t l = subR (Fmy l) t := by unfold manyR; rw [if_pos ⟨HY.out.symm, hallT⟩]
        rw [RES.out] at e
        have E := Lib.hid e.symm
        obtain ⟨q0, q1, q2, qf, -⟩ := three ((hb.block _ (blt Q1.out)).trans Q1.out)
        have hcon := run_w (maker_my (lb := w.heap.size + 1) (lv := .slice aol l.length capl) (l := l) (PL := (· < w.heap.size)) hallT hlen) _ t wr (T1.out.on hb) HY.out.symm
          (fun q hq => by rcases hq with rfl | hq <;> omega) ⟨(hb.block _ (blt LB1.out)).trans LB1.out, HL.out.keep (fun _ h => h) fun q hq => hbw.block q hq⟩
        rw [e.symm] at hcon
        have HCON := Lib.hid hcon
        have HBW := Lib.hid hbw
        clear hallT e hcon hb hbw
        go_wp2_with fail
        refine HCON.out.mono ?_
        rintro e w4 ⟨k4, n4, ao4, m4, c4, rfl, hb4, hr4⟩
        have HB4 := Lib.hid (HBW.out.trans (hb4.mono HBW.out.size))
        obtain ⟨z0, z1, z2, zf, -⟩ := three ((hb4.block _ (blt Zr.out)).trans Zr.out)
        have HR4 := Lib.hid (hr4.laid (w := w) (r := w.heap.size + 1 + 1) (a := .int .i64 k4) (b := .int .i64 n4) (c := .slice ao4 m4 c4) HBW.out.size (by omega))
        clear hb4 hr4 q0 q1 q2 qf
        go_wp2_with fail
        exact bodyPost_ret (v := .tuple #[.agg #[.int .i64 k4, .int .i64 n4, .slice ao4 m4 c4], .int .i64 rc]) (by simp [results, Try.results50, go_sem, z0, z1, z2]) rfl ⟨_, _, _, _, _, rfl, (((HB4.out.setCell (by simp only []; omega) _).setCell (by simp only []; omega) _).setCell (by simp only []; omega) _), HR4.out⟩
end Go.Proofs.Ythjlfjaciigfiaa
namespace Go.Proofs.Ythjlfjaciigfiaa
open Go.RowKit
set_option linter.unusedVariables false
set_option linter.unusedSimpArgs false

theorem one_ts {w : World} {g : Nat} {k n : Int} {ao : Option Addr} {m c : Nat} {t : Tm} (hg : w.heap[g]? = some (.cells #[.int .i64 k, .int .i64 n, .slice ao m c] 24)) (hr : Rd (· < w.heap.size) w (.agg #[.int .i64 k, .int .i64 n, .slice ao m c]) t) :
    Ts (· < w.heap.size) w (.slice (some ⟨g, 0, none⟩) 1 1) [t] := by
  obtain ⟨q0, q1, q2, -, ql⟩ := three hg
  refine ⟨_, 1, rfl, Nat.le_refl _, by unfold maxLen; omega, fun i hi => ?_⟩
  obtain rfl : i = 0 := by simpa using hi
  exact ⟨g, 0, _, _, _, rfl, ql, by simpa using q0, by simpa using q1, by simpa using q2, hr⟩

set_option maxRecDepth 100000 in
set_option maxHeartbeats 4000000 in
theorem One_w (va v : Value) (a t : Tm) (w : World) (ha : Rd (· < w.heap.size) w va a) (hr : Rd (· < w.heap.size) w v t) :
    Calls Try.prog 53 #[v, va] w (AnsTE w (manyR t [a]).1 (manyR t [a]).2) := by
  obtain ⟨rt, rc, hres⟩ : ∃ rt rc, manyR t [a] = (rt, rc) := ⟨_, _, rfl⟩
  rw [hres]
  obtain ⟨ao, cap, rfl⟩ := hr.shape
  obtain ⟨aa, ca, rfl⟩ := ha.shape
  obtain ⟨W, hW⟩ : ∃ W, W = (((w.alloc (.cells #[.int .i64 t.kind, .int .i64 t.num, .slice ao t.sub.length cap] 24)).alloc (.cells #[.int .i64 a.kind, .int .i64 a.num, .slice aa a.sub.length ca] 24)).alloc (.cells #[.int .i64 0, .int .i64 0, .slice none 0 0] 24)).alloc (.cells #[.int .i64 a.kind, .int .i64 a.num, .slice aa a.sub.length ca] 24) := ⟨_, rfl⟩
  have hb0 : Below w.heap.size w W := by rw [hW]; exact ((((Below.refl _ _).alloc (Nat.le_refl _) _).alloc (by simp only [World.size_alloc]; omega) _).alloc (by simp only [World.size_alloc]; omega) _).alloc (by simp only [World.size_alloc]; omega) _
  have hsW : W.heap.size = w.heap.size + 4 := by rw [hW]; simp only [World.size_alloc]
  have Z : W.heap[w.heap.size + 1 + 1]? = some (.cells #[.int .i64 0, .int .i64 0, .slice none 0 0] 24) := by rw [hW]; exact (Below.heap_alloc _ _ _ (by simp only [World.size_alloc]; omega)).trans (heap_new _ _ _ (by simp only [World.size_alloc]))
  have L : W.heap[w.heap.size + 1 + 1 + 1]? = some (.cells #[.int .i64 a.kind, .int .i64 a.num, .slice aa a.sub.length ca] 24) := by rw [hW]; exact heap_new _ _ _ (by simp only [World.size_alloc])
  have hcon := Many9_w _ _ [a] t W (by simp) (one_ts L (ha.on hb0)) (hr.on hb0)
  rw [hres] at hcon
  have HCON := Lib.hid hcon
  have HB0 := Lib.hid hb0
  have HZ := Lib.hid Z
  have HW := Lib.hid hW
  have HSW := Lib.hid hsW
  clear hcon hb0 Z L hW hsW hr ha
  go_enter Try.func53, Try.ntmps53
  go_wp2_with fail
  rw [← HW.out]
  refine HCON.out.mono ?_
  rintro e w4 ⟨k4, n4, ao4, m4, c4, rfl, hb4, hr4⟩
  have HB4 := Lib.hid (HB0.out.trans (hb4.mono HB0.out.size))
  obtain ⟨z0, z1, z2, zf, -⟩ := three ((hb4.block _ (blt HZ.out)).trans HZ.out)
  have HR4 := Lib.hid (hr4.laid (w := w) (r := w.heap.size + 1 + 1) (a := .int .i64 k4) (b := .int .i64 n4) (c := .slice ao4 m4 c4) HB0.out.size (by have := HSW.out; omega))
  clear hb4 hr4
  go_wp2_with fail
  exact bodyPost_ret (v := .tuple #[.agg #[.int .i64 k4, .int .i64 n4, .slice ao4 m4 c4], .int .i64 rc]) (by simp [results, Try.results53, go_sem, z0, z1, z2]) rfl ⟨_, _, _, _, _, rfl, (((HB4.out.setCell (by simp only []; omega) _).setCell (by simp only []; omega) _).setCell (by simp only []; omega) _), HR4.out⟩
end Go.Proofs.Ythjlfjaciigfiaa
