/-
  ref09.raised, done: contracts of the walk.
  ref09.done: a contract of the walk.
  ref09.subs: a contract of the walk. How a slice of terms with flags reads.
-/
import Derived.Test.YthjlfjaciigfiaaWkr1
import Derived.Test.YthjlfjaciigfiaaMove
import Derived.Test.YthjlfjaciigfiaaSplit
import Derived.Test.YthjlfjaciigfiaaRefSize
namespace Go.Proofs.Ythjlfjaciigfiaa
open Go.RowKit
set_option linter.unusedVariables false
set_option linter.unusedSimpArgs false

/-- a term and a flag in new memory are answered -/
def AnsG (w : World) (Q : Tm → Bool → Prop) (e : Ending) (w' : World) : Prop :=
  ∃ k n ao m c lg y, e = .returned (.agg #[.int .i64 k, .int .i64 n, .slice ao m c, .bool lg]) ∧ Below w.heap.size w w' ∧ Rd (Fr w w') w' (.agg #[.int .i64 k, .int .i64 n, .slice ao m c]) y ∧ Q y lg
/-- x should come, y came; the flag: it is too great -/
def OkG (x y : Tm) (lg : Bool) : Prop := (lg = false → y = x) ∧ (lg = true → ¬ (gd x = true ∧ nsz x ≤ 8192))

theorem raise_shp {a : Tm} {b : Int} (hs : Shp a = true) : Shp (raise a b) = gd (raise a b) := by
  obtain ⟨h1, h2, h3⟩ := (Shp_iff a).mp hs
  obtain ⟨q1, q2⟩ := mv_size b a h3 0
  unfold raise
  cases h : gd (mp (Fmv b) a 0)
  · rw [Bool.eq_false_iff, Ne, Shp_iff]; rw [h]; simp
  · rw [Shp_iff, q1, q2]; exact ⟨h1, h2, h⟩

theorem four {w : World} {B : Nat} {a b c d : Value} {z : TypeId} (h : w.heap[B]? = some (.cells #[a, b, c, d] z)) :
    w.cell? ⟨B, 0, none⟩ = some a ∧ w.cell? ⟨B, 1, none⟩ = some b ∧ w.cell? ⟨B, 2, none⟩ = some c ∧ w.cell? ⟨B, 3, none⟩ = some d ∧ (∀ j, w.frozen? ⟨B, j, none⟩ = false) ∧ B < w.heap.size := by
  refine ⟨?_, ?_, ?_, ?_, fun j => ?_, (Array.getElem?_eq_some_iff.1 h).1⟩ <;> first | (unfold World.cell?; rw [h]; rfl) | (unfold World.frozen?; rw [h]; simp)
theorem set4_off (w : World) (r : Nat) (a b c d : Value) : ∀ q, q ≠ r → ((((w.setCell ⟨r, 0, none⟩ a).setCell ⟨r, 1, none⟩ b).setCell ⟨r, 2, none⟩ c).setCell ⟨r, 3, none⟩ d).heap[q]? = w.heap[q]? := fun q hq => by
  rw [Below.heap_setCell _ _ _ _ (by exact hq), Below.heap_setCell _ _ _ _ (by exact hq), Below.heap_setCell _ _ _ _ (by exact hq), Below.heap_setCell _ _ _ _ (by exact hq)]

set_option maxRecDepth 100000 in
set_option maxHeartbeats 4000000 in
theorem refRaised_w (va : Value) (a : Tm) (by' : Int) (w : World) (hr : Rd (· < w.heap.size) w va a) (hs : Shp a = true) (hb : 0 ≤ by' ∧ by' ≤ 1048576) :
    Calls Try.prog 120 #[va, .int .i64 by'] w (AnsG w (OkG (raise a by'))) := by
  obtain ⟨ao, cap, rfl⟩ := hr.shape
  obtain ⟨W, hWd⟩ : ∃ W, W = ((w.alloc (.cells #[.int .i64 a.kind, .int .i64 a.num, .slice ao a.sub.length cap] 24)).alloc (.cells #[.int .i64 0, .int .i64 0, .slice none 0 0, .bool false] 78)) := ⟨_, rfl⟩
  have hbel : Below w.heap.size w W := by rw [hWd]; exact ((Below.refl _ _).alloc (Nat.le_refl _) _).alloc (by simp) _
  have hsz : W.heap.size = w.heap.size + 2 := by rw [hWd]; simp
  have hsh := (Shp_iff a).mp hs
  have hT := hr.on hbel
  have hcon := Move_w by' ⟨by omega, by omega⟩ (dep a) _ a 0 W hT.fit hsh.2.2 (by omega) (by omega)
  have Z : W.heap[w.heap.size + 1]? = some (.cells #[.int .i64 0, .int .i64 0, .slice none 0 0, .bool false] 78) := by rw [hWd]; exact heap_new _ _ _ (by simp)
  have HCON := Lib.hid hcon
  have HWD := Lib.hid hWd
  have HBEL := Lib.hid hbel
  have HSZ := Lib.hid hsz
  have HZ := Lib.hid Z
  have HSH := Lib.hid hs
  clear hcon hWd hbel hsz Z hs hT hsh hr
  go_enter Try.func120, Try.ntmps120
  go_wp2_with fail
  rw [← HWD.out]
  refine HCON.out.mono ?_
  rintro e w1 ⟨k1, n1, ao1, m1, c1, rfl, hb1, hr1⟩
  obtain ⟨hb2, B2, R2, hl2⟩ := boxed hb1 hr1
  have hb2' := alloc_bel w1 (.cells #[.int .i64 k1, .int .i64 n1, .slice ao1 m1 c1] 24)
  have HR2 := Lib.hid (hr1.keep (P' := fun q => w.heap.size + 2 ≤ q ∧ q < (w1.alloc (.cells #[.int .i64 k1, .int .i64 n1, .slice ao1 m1 c1] 24)).heap.size) (fun q hq => ⟨by have := hq.1; have := HSZ.out; omega, Nat.lt_of_lt_of_le hq.2 hb2'.size⟩) fun q hq => hb2'.block q hq.2)
  have HRR := Lib.hid R2
  have HB2 := Lib.hid (HBEL.out.trans (hb2.mono HBEL.out.size))
  have HX2 := Lib.hid B2
  have HZ2 := Lib.hid ((hb2.block _ (by have := HSZ.out; omega)).trans HZ.out)
  have hsz2 : w.heap.size + 2 ≤ w1.heap.size := by have := HSZ.out; omega
  clear hb1 hr1 hb2 B2 R2 hb2'
  obtain ⟨x0, x1, x2, xf, xl⟩ := three HX2.out
  go_wp2_with fail
  have HS := Lib.hid (refShaped_r (show Rd (· < (w1.alloc (.cells #[.int .i64 k1, .int .i64 n1, .slice ao1 m1 c1] 24)).drew.heap.size) (w1.alloc (.cells #[.int .i64 k1, .int .i64 n1, .slice ao1 m1 c1] 24)).drew (.agg #[.int .i64 k1, .int .i64 n1, .slice ao1 m1 c1]) _ from HRR.out.keep (w' := (w1.alloc (.cells #[.int .i64 k1, .int .i64 n1, .slice ao1 m1 c1] 24)).drew) (fun _ h => h) fun _ _ => rfl))
  refine wp_region_order [(0, true), (1, true), (2, false), (3, true), (4, true), (5, false)]
    (fun w' => w'.cell? ⟨w1.heap.size, 0, none⟩ = some (.int .i64 k1) ∧ w'.cell? ⟨w1.heap.size, 1, none⟩ = some (.int .i64 n1) ∧ w'.cell? ⟨w1.heap.size, 2, none⟩ = some (.slice ao1 m1 c1))
    (by kernel_rfl) (by kernel_rfl) ⟨x0, x1, x2⟩ (fun hHeld => ?_)
  simp only [pickT, List.getElem?_cons_zero, List.getElem?_cons_succ, Option.getD_some]
  repeat (refine wpT_take (v := ?_) (by rfl) (fun w' hSw => ?_) ?_; rotate_left; (go_simp; with_reducible rfl); simp only [Act.put, List.setIfInBounds_toArray, List.set_cons_zero, List.set_cons_succ])
  refine wpT_do (fun K hK => ?_)
  go_simp
  go_at_call 28
  refine HS.out.mono ?_
  rintro e w3 ⟨rfl, hb3⟩
  replace hb3 : Below (w1.alloc (.cells #[.int .i64 k1, .int .i64 n1, .slice ao1 m1 c1] 24)).heap.size (w1.alloc (.cells #[.int .i64 k1, .int .i64 n1, .slice ao1 m1 c1] 24)) w3 := (below_drewN (Below.refl _ _) 1).trans hb3
  have HB3 := Lib.hid (HB2.out.trans (hb3.mono HB2.out.size))
  have HZ3 := Lib.hid ((hb3.block _ (blt HZ2.out)).trans HZ2.out)
  have HR3 := Lib.hid (HR2.out.keep (w' := w3) (P' := fun q => w.heap.size + 2 ≤ q ∧ q < w3.heap.size) (fun q hq => ⟨hq.1, Nat.lt_of_lt_of_le hq.2 hb3.size⟩) fun q hq => hb3.block q hq.2)
  obtain ⟨y0, y1, y2, yf, yl⟩ := three ((hb3.block _ xl).trans HX2.out)
  refine hK.out _ _ ⟨y0, y1, y2⟩ (fun hHeld => ?_)
  clear hK K hHeld hb3 y0 y1 y2 yf yl x0 x1 x2 xf xl
  repeat (refine wpT_take (v := ?_) (by rfl) (fun w' hSw => ?_) ?_; rotate_left; (go_simp; with_reducible rfl); simp only [Act.put, List.setIfInBounds_toArray, List.set_cons_zero, List.set_cons_succ])
  obtain ⟨z0, z1, z2, z3, zf, zl⟩ := four HZ3.out
  have zf0 := zf 0
  have zf1 := zf 1
  have zf2 := zf 2
  have zf3 := zf 3
  refine wpT_last (fun K hK => ?_)
  go_simp
  refine hK.out _ _ ?_
  clear hK K
  go_wp2_with fail
  refine bodyPost_ret (v := .agg #[.int .i64 k1, .int .i64 n1, .slice ao1 m1 c1, .bool (!Shp (mp (Fmv by') a 0))]) (by simp [results, Try.results120, go_sem, z0, z1, z2, z3]) rfl
    ⟨_, _, _, _, _, _, _, rfl, ((((HB3.out.setCell (by simp only []; omega) _).setCell (by simp only []; omega) _).setCell (by simp only []; omega) _).setCell (by simp only []; omega) _), HR3.out.keep (fun q hq => ⟨by omega, by simp only [World.setCell, Array.size_modify]; exact hq.2⟩) fun q hq => set4_off _ _ _ _ _ _ q (by omega), fun _ => rfl, fun e => ?_⟩
  have := raise_shp (a := a) (b := by') HSH.out
  unfold raise at this
  unfold raise
  rw [this] at e
  intro h
  rw [h.1] at e
  cases e
end Go.Proofs.Ythjlfjaciigfiaa
namespace Go.Proofs.Ythjlfjaciigfiaa
open Go.RowKit
set_option linter.unusedVariables false
set_option linter.unusedSimpArgs false

def doneR (y : Tm) (lg : Bool) : Tm × Int := if lg = false ∧ Shp y = true then (y, 0) else (tm0, 2)
/-- a term (in blocks P) and an error are answered -/
def AnsPE (P : Nat → Prop) (w : World) (t : Tm) (c : Int) (e : Ending) (w' : World) : Prop :=
  ∃ k n ao m cp, e = .returned (.tuple #[.agg #[.int .i64 k, .int .i64 n, .slice ao m cp], .int .i64 c]) ∧ Below w.heap.size w w' ∧ Rd P w' (.agg #[.int .i64 k, .int .i64 n, .slice ao m cp]) t

set_option maxRecDepth 100000 in
set_option maxHeartbeats 4000000 in
theorem done_w (P : Nat → Prop) (k n : Int) (ao : Option Addr) (m c : Nat) (lg : Bool) (y : Tm) (w : World) (hP : ∀ q, P q → q < w.heap.size) (hr : Rd P w (.agg #[.int .i64 k, .int .i64 n, .slice ao m c]) y) :
    Calls Try.prog 92 #[.agg #[.int .i64 k, .int .i64 n, .slice ao m c, .bool lg]] w (AnsPE P w (doneR y lg).1 (doneR y lg).2) := by
  obtain ⟨rt, rc, hres⟩ : ∃ rt rc, doneR y lg = (rt, rc) := ⟨_, _, rfl⟩
  rw [hres]
  obtain ⟨W, hWd⟩ : ∃ W, W = ((w.alloc (.cells #[.int .i64 k, .int .i64 n, .slice ao m c, .bool lg] 78)).alloc (.cells #[.int .i64 0, .int .i64 0, .slice none 0 0] 24)) := ⟨_, rfl⟩
  have hbel : Below w.heap.size w W := by rw [hWd]; exact ((Below.refl _ _).alloc (Nat.le_refl _) _).alloc (by simp) _
  have hsz : W.heap.size = w.heap.size + 2 := by rw [hWd]; simp
  have Q : W.heap[w.heap.size]? = some (.cells #[.int .i64 k, .int .i64 n, .slice ao m c, .bool lg] 78) := by rw [hWd]; exact (Below.heap_alloc _ _ _ (by simp)).trans (heap_new _ _ _ rfl)
  have Z : W.heap[w.heap.size + 1]? = some (.cells #[.int .i64 0, .int .i64 0, .slice none 0 0] 24) := by rw [hWd]; exact heap_new _ _ _ (by simp)
  have HT := Lib.hid (hr.keep (w' := W) (P' := (· < W.heap.size)) (fun q hq => by have := hP q hq; omega) fun q hq => hbel.block q (hP q hq))
  have HR := Lib.hid hr
  have HP := Lib.hid hP
  have HWD := Lib.hid hWd
  have HBEL := Lib.hid hbel
  have HSZ := Lib.hid hsz
  have HQ := Lib.hid Q
  have HZ := Lib.hid Z
  have RES := Lib.hid hres
  clear hWd hbel hsz Q Z hr hP hres
  obtain ⟨q0, q1, q2, q3, qf, ql⟩ := four HQ.out
  obtain ⟨z0, z1, z2, zf, zl⟩ := three HZ.out
  rw [HWD.out] at q0 q1 q2 q3 qf ql z0 z1 z2 zf zl
  cases lg with
  | true =>
    have e : doneR y true = (tm0, 2) := by unfold doneR; rw [if_neg (by simp)]
    rw [RES.out] at e
    injection e with e1 e2
    subst e1; subst e2
    go_enter Try.func92, Try.ntmps92
    go_wp2_with fail
    rw [← HWD.out] at z0 z1 z2 ⊢
    exact bodyPost_ret (v := .tuple #[.agg #[.int .i64 0, .int .i64 0, .slice none 0 0], .int .i64 2]) (by simp [results, Try.results92, go_sem, z0, z1, z2]) rfl
      ⟨_, _, _, _, _, rfl, HBEL.out, Rd.zero _ _⟩
  | false =>
    obtain ⟨u, hu⟩ : ∃ u, u = Shp y := ⟨_, rfl⟩
    have hs := refShaped_r HT.out
    rw [← hu] at hs
    have HS := Lib.hid hs
    have HU := Lib.hid hu
    clear hs hu
    go_enter Try.func92, Try.ntmps92
    go_wp2_with fail
    rw [← HWD.out] at q0 q1 q2 q3 qf ql z0 z1 z2 zf zl ⊢
    refine HS.out.mono ?_
    rintro e w1 ⟨rfl, hb1⟩
    have HB1 := Lib.hid (HBEL.out.trans (hb1.mono HBEL.out.size))
    have HR1 := Lib.hid (HR.out.keep (w' := w1) (fun _ h => h) fun q hq => HB1.out.block q (HP.out q hq))
    have HQ1 := Lib.hid ((hb1.block _ ql).trans HQ.out)
    have HZ1 := Lib.hid ((hb1.block _ zl).trans HZ.out)
    clear hb1 q0 q1 q2 q3 qf z0 z1 z2 zf
    obtain ⟨q0, q1, q2, q3, qf, -⟩ := four HQ1.out
    obtain ⟨z0, z1, z2, zf, -⟩ := three HZ1.out
    cases u with
    | true =>
      have e : doneR y false = (y, 0) := by unfold doneR; rw [if_pos ⟨rfl, HU.out.symm⟩]
      rw [RES.out] at e
      injection e with e1 e2
      subst e1; subst e2
      go_wp2_with fail
      exact bodyPost_ret (v := .tuple #[.agg #[.int .i64 k, .int .i64 n, .slice ao m c], .int .i64 0]) (by simp [results, Try.results92, go_sem, z0, z1, z2]) rfl
        ⟨_, _, _, _, _, rfl, (((HB1.out.setCell (by simp only []; omega) _).setCell (by simp only []; omega) _).setCell (by simp only []; omega) _), HR1.out.keep (fun _ h => h) fun q hq => set3_off _ _ _ _ _ q (by have := HP.out q hq; omega)⟩
    | false =>
      have e : doneR y false = (tm0, 2) := by unfold doneR; rw [if_neg (by rw [← HU.out]; simp)]
      rw [RES.out] at e
      injection e with e1 e2
      subst e1; subst e2
      go_wp2_with fail
      exact bodyPost_ret (v := .tuple #[.agg #[.int .i64 0, .int .i64 0, .slice none 0 0], .int .i64 2]) (by simp [results, Try.results92, go_sem, z0, z1, z2]) rfl
        ⟨_, _, _, _, _, rfl, (((HB1.out.setCell (by simp only []; omega) _).setCell (by simp only []; omega) _).setCell (by simp only []; omega) _), Rd.zero _ _⟩
end Go.Proofs.Ythjlfjaciigfiaa
namespace Go.Proofs.Ythjlfjaciigfiaa
open Go.RowKit
set_option linter.unusedVariables false
set_option linter.unusedSimpArgs false

/-- a slice of terms with flags, each four cells -/
def SubG (P : Nat → Prop) (w : World) (v : Value) (l : List (Tm × Bool)) : Prop :=
  ∃ ao cap, v = .slice ao l.length cap ∧ l.length ≤ cap ∧ cap ≤ maxLen ∧ ∀ i (h : i < l.length), ∃ b off k n ao2 m c, ao = some ⟨b, off, none⟩ ∧ P b ∧ w.cell? ⟨b, off + i * 4, none⟩ = some (.int .i64 k) ∧ w.cell? ⟨b, off + i * 4 + 1, none⟩ = some (.int .i64 n) ∧
    w.cell? ⟨b, off + i * 4 + 2, none⟩ = some (.slice ao2 m c) ∧ w.cell? ⟨b, off + i * 4 + 3, none⟩ = some (.bool l[i].2) ∧ Rd P w (.agg #[.int .i64 k, .int .i64 n, .slice ao2 m c]) l[i].1
/-- a term (in blocks P, or new) and a flag are answered -/
def AnsGP (P : Nat → Prop) (w : World) (Q : Tm → Bool → Prop) (e : Ending) (w' : World) : Prop :=
  ∃ k n ao m c lg y, e = .returned (.agg #[.int .i64 k, .int .i64 n, .slice ao m c, .bool lg]) ∧ Below w.heap.size w w' ∧ Rd (fun q => P q ∨ Fr w w' q) w' (.agg #[.int .i64 k, .int .i64 n, .slice ao m c]) y ∧ Q y lg
/-- block o is a term with a flag in the making; the subs read in P -/
structure OutG (P : Nat → Prop) (w0 : World) (o : Nat) (k n : Int) (vs : Value) (lg : Bool) (l : List Tm) (wr : World) : Prop where
  box : wr.heap[o]? = some (.cells #[.int .i64 k, .int .i64 n, vs, .bool lg] 78)
  made : MadeG 3 24 RdC P (o + 1) wr vs l
  bel : Below o w0 wr
theorem set4_2 {w : World} {r : Nat} {z0 z1 z2 z3 c : Value} {t : TypeId} (h : w.heap[r]? = some (.cells #[z0, z1, z2, z3] t)) : (w.setCell ⟨r, 2, none⟩ c).heap[r]? = some (.cells #[z0, z1, c, z3] t) := by
  simp [World.setCell, Array.getElem?_modify, h]
theorem set4_3 {w : World} {r : Nat} {z0 z1 z2 z3 c : Value} {t : TypeId} (h : w.heap[r]? = some (.cells #[z0, z1, z2, z3] t)) : (w.setCell ⟨r, 3, none⟩ c).heap[r]? = some (.cells #[z0, z1, z2, c] t) := by
  simp [World.setCell, Array.getElem?_modify, h]
theorem MadeG.setB {F : Nat → Prop} {base B j : Nat} {w : World} {v a : Value} {l : List Tm} (h : MadeG 3 24 RdC F base w v l) (hB : B < base) (hF : ¬ F B) : MadeG 3 24 RdC F base (w.setCell ⟨B, j, none⟩ a) v l := by
  refine h.keep keepsC_rd (some B) ⟨rfl, rfl, rfl, by simp [World.setCell], fun k hk hne => ?_⟩ (.inr fun e => by have := (h.block B e).1; omega) (fun b e _ => by injection e with e; subst e; exact hF)
  exact Below.heap_setCell _ _ _ _ (fun e => hne (by rw [e]))

/-- is there a flag? -/
def anyF (gs : List (Tm × Bool)) : Bool := gs.any Prod.snd
theorem anyF_take (gs : List (Tm × Bool)) (j : Nat) (hj : j < gs.length) : anyF (gs.take (j + 1)) = (anyF (gs.take j) || gs[j].2) := by
  unfold anyF
  rw [List.take_succ_eq_append_getElem hj]
  simp only [List.any_append, List.any_cons, List.any_nil, Bool.or_false]
theorem okg_node {k n : Int} {xs : List Tm} {gs : List (Tm × Bool)} (hx : xs.length = gs.length) (hok : ∀ i (h : i < gs.length), OkG (xs[i]'(by omega)) gs[i].1 gs[i].2) (c : Bool) (hc : anyF gs = false → c = decide (8192 < nsz (.node k n (gs.map Prod.fst)))) (y : Tm)
    (hy : (anyF gs || c) = false → y = .node k n (gs.map Prod.fst)) : OkG (.node k n xs) y (anyF gs || c) := by
  have hall : anyF gs = false → gs.map Prod.fst = xs := fun ha => by
    apply List.ext_getElem (by simp [hx])
    intro i h1 h2
    have hi : i < gs.length := by simpa using h1
    have hf : gs[i].2 = false := by
      unfold anyF at ha
      rw [List.any_eq_false] at ha
      simpa using ha gs[i] (List.getElem_mem hi)
    have := (hok i hi).1 hf
    simp [this]
  refine ⟨fun e => ?_, fun e => ?_⟩
  · rw [hy e, hall (by simp only [Bool.or_eq_false_iff] at e; exact e.1)]
  · intro hg
    by_cases ha : anyF gs = true
    · unfold anyF at ha
      rw [List.any_eq_true] at ha
      obtain ⟨g, hm, hf⟩ := ha
      obtain ⟨i, hi, rfl⟩ := List.getElem_of_mem hm
      have h2 := (hok i hi).2 hf
      refine h2 ⟨gd_sub hg.1 i (by omega), ?_⟩
      have := nszL_get xs i (by omega)
      have h3 := hg.2
      simp only [nsz] at h3
      omega
    · have ha' : anyF gs = false := by simpa using ha
      rw [ha', Bool.false_or, hc ha', hall ha'] at e
      have := of_decide_eq_true e
      omega

set_option maxRecDepth 100000 in
set_option maxHeartbeats 4000000 in
theorem subs_w (P : Nat → Prop) (k n : Int) (ao : Option Addr) (m c : Nat) (lv : Value) (gs : List (Tm × Bool)) (xs : List Tm) (w : World) (hP : ∀ q, P q → q < w.heap.size) (hl : SubG P w lv gs) (hx : xs.length = gs.length) (hlen : gs.length ≤ 100000)
    (hok : ∀ i (h : i < gs.length), OkG (xs[i]'(by omega)) gs[i].1 gs[i].2) (hk : -9223372036854775808 ≤ k ∧ k ≤ 9223372036854775807) (hn : -9223372036854775808 ≤ n ∧ n ≤ 9223372036854775807) :
    Calls Try.prog 121 #[.agg #[.int .i64 k, .int .i64 n, .slice ao m c], lv] w (AnsGP P w (OkG (.node k n xs))) := by
  obtain ⟨al, cl, rfl, hlc, hlm, he⟩ := hl
  obtain ⟨W, hWd⟩ : ∃ W, W = (((w.alloc (.cells #[.int .i64 k, .int .i64 n, .slice ao m c] 24)).alloc (.cells #[.int .i64 0, .int .i64 0, .slice none 0 0, .bool false] 78)).alloc (.cells #[.int .i64 k, .int .i64 n, .slice none 0 0, .bool false] 78)) := ⟨_, rfl⟩
  have hbel : Below w.heap.size w W := by rw [hWd]; exact (((Below.refl _ _).alloc (Nat.le_refl _) _).alloc (by simp) _).alloc (by simp; omega) _
  have hsz : W.heap.size = w.heap.size + 3 := by rw [hWd]; simp
  have Z : W.heap[w.heap.size + 1]? = some (.cells #[.int .i64 0, .int .i64 0, .slice none 0 0, .bool false] 78) := by rw [hWd]; exact (Below.heap_alloc _ _ _ (by simp)).trans (heap_new _ _ _ (by simp))
  have O : W.heap[w.heap.size + 1 + 1]? = some (.cells #[.int .i64 k, .int .i64 n, .slice none 0 0, .bool false] 78) := by rw [hWd]; exact heap_new _ _ _ (by simp)
  have hst : OutG P W (w.heap.size + 1 + 1) k n (.slice none 0 0) false [] W := ⟨O, MadeG.nil _ _ _ _ _ _, Below.refl _ _⟩
  have HST := Lib.hid hst
  have HE := Lib.hid he
  have HP := Lib.hid hP
  have HWD := Lib.hid hWd
  have HBEL := Lib.hid hbel
  have HSZ := Lib.hid hsz
  have HZ := Lib.hid Z
  have HOK := Lib.hid hok
  have HK := Lib.hid hk
  have HN := Lib.hid hn
  clear hWd hbel hsz Z O hst he hP hok hk hn
  go_enter Try.func121, Try.ntmps121
  go_wp2_with fail
  rw [← HWD.out]
  go_loopw [6] (fun i wr => ∃ (j : Nat) (vs : Value), i = .int .i64 j ∧ j ≤ gs.length ∧ OutG P W (w.heap.size + 1 + 1) k n vs (anyF (gs.take j)) ((gs.map Prod.fst).take j) wr) (fun i _ => gs.length - (intOf i).toNat)
  case atStart => exact ⟨0, _, rfl, Nat.zero_le _, HST.out⟩
  case round =>
    obtain ⟨j, vs, rfl, hj, hL⟩ := hrel
    obtain ⟨o0, o1, o2, o3, of, ol⟩ := four hL.box
    have hbw := HBEL.out.trans (hL.bel.mono (by omega))
    have hZr := (hL.bel.block _ (by omega)).trans HZ.out
    have HZR := Lib.hid hZr
    have HL := Lib.hid hL
    have HBW := Lib.hid hbw
    have hszr : w.heap.size + 3 ≤ wr.heap.size := by omega
    clear hL hbw hZr HST
    by_cases hjl : j < gs.length
    · obtain ⟨b, off, k2, n2, ao2, m2, c2, rfl, hPb, h0, h1, h2, h3, hrd⟩ := HE.out j hjl
      have hPbl := HP.out b hPb
      have e0 := (HBW.out.cell (p := ⟨b, off + j * 4, none⟩) hPbl).trans h0
      have e1 := (HBW.out.cell (p := ⟨b, off + j * 4 + 1, none⟩) hPbl).trans h1
      have e2 := (HBW.out.cell (p := ⟨b, off + j * 4 + 2, none⟩) hPbl).trans h2
      have e3 := (HBW.out.cell (p := ⟨b, off + j * 4 + 3, none⟩) hPbl).trans h3
      clear h0 h1 h2 h3
      have hji : (j : Int) < (gs.length : Int) := by omega
      have hj0 : (0 : Int) ≤ (j : Int) := Int.natCast_nonneg _
      go_wp2_with fail
      have hown : ∀ q, q ≤ w.heap.size + 1 + 1 → vs.ownBlock ≠ some q := fun q hq e => by have := (HL.out.made.block _ e).1; omega
      have hMd : MadeG 3 24 RdC P (w.heap.size + 1 + 1 + 1) wr.drew vs ((gs.map Prod.fst).take j) := HL.out.made.below keepsC_rd (below_drewN (Below.refl _ _) 1)
      obtain ⟨a5, c5, w5, hr5, hM5, hk5, hb5⟩ := run_old (x := gs[j].1) 22 hMd (by simp; omega) (by show _ ≤ wr.heap.size; omega) (hrd.keep (w' := wr.drew) (P' := fun q => vs.ownBlock ≠ some q ∧ q < wr.drew.heap.size ∧ P q) (fun q hq => ⟨hown q (by have := HP.out q hq; omega), (by have := HP.out q hq; show q < wr.heap.size; omega), hq⟩) fun q hq => HBW.out.block q (HP.out q hq))
      generalize ((gs.map Prod.fst).take j).length + 1 = Ln at hr5 hM5
      have HR5 := Lib.hid hr5
      have HM5 := Lib.hid hM5
      have HB5 := Lib.hid hb5
      have hko := hk5 (w.heap.size + 1 + 1) (by show _ < wr.heap.size; omega) (hown _ (Nat.le_refl _))
      have hkb := hk5 b (by show _ < wr.heap.size; omega) (hown _ (by omega))
      have hO5 := hko.trans (show wr.drew.heap[w.heap.size + 1 + 1]? = _ from HL.out.box)
      obtain ⟨p0, p1, p2, p3, pf, pl⟩ := four hO5
      have f0 := (cell_keep (a := ⟨b, off + j * 4, none⟩) hkb).trans e0
      have f1 := (cell_keep (a := ⟨b, off + j * 4 + 1, none⟩) hkb).trans e1
      have f2 := (cell_keep (a := ⟨b, off + j * 4 + 2, none⟩) hkb).trans e2
      have f3 := (cell_keep (a := ⟨b, off + j * 4 + 3, none⟩) hkb).trans e3
      have HO5 := Lib.hid hO5
      clear hMd hr5 hM5 hb5 hk5 hko hkb hO5 hown hrd
      refine wp_region_order [(0, true), (1, true), (2, true), (3, true), (4, true), (5, true), (6, true), (7, true), (8, false), (9, false), (10, true), (11, true), (12, false)]
        (fun w' => w'.cell? ⟨w.heap.size + 1 + 1, 2, none⟩ = some vs ∧ (w'.cell? ⟨b, off + j * 4, none⟩ = some (.int .i64 k2) ∧ w'.cell? ⟨b, off + j * 4 + 1, none⟩ = some (.int .i64 n2) ∧ w'.cell? ⟨b, off + j * 4 + 2, none⟩ = some (.slice ao2 m2 c2)))
        (by kernel_rfl) (by kernel_rfl) ⟨o2, e0, e1, e2⟩ (fun hHeld => ?_)
      simp only [pickT, List.getElem?_cons_zero, List.getElem?_cons_succ, Option.getD_some]
      repeat (refine wpT_take (v := ?_) (by rfl) (fun w' hSw => ?_) ?_; rotate_left; (go_simp; with_reducible rfl); simp only [Act.put, List.setIfInBounds_toArray, List.set_cons_zero, List.set_cons_succ])
      have hal := alloc_bel wr.drew (.cells #[.int .i64 k2, .int .i64 n2, .slice ao2 m2 c2] 24)
      refine wpT_do (fun K hK => ?_)
      go_simp
      refine hK.out _ _ ⟨(hal.cell (p := ⟨w.heap.size + 1 + 1, 2, none⟩) ol).trans o2, (hal.cell (p := ⟨b, off + j * 4, none⟩) (by show b < wr.heap.size; omega)).trans e0, (hal.cell (p := ⟨b, off + j * 4 + 1, none⟩) (by show b < wr.heap.size; omega)).trans e1, (hal.cell (p := ⟨b, off + j * 4 + 2, none⟩) (by show b < wr.heap.size; omega)).trans e2⟩ (fun hHeld => ?_)
      clear hK K hal
      refine wpT_do (fun K hK => ?_)
      refine step_run_append rfl _ _ _ rfl _ _ _ rfl rfl HR5.out ?_
      refine hK.out _ _ ⟨p2, f0, f1, f2⟩ (fun hHeld => ?_)
      clear hK K
      repeat (refine wpT_take (v := ?_) (by rfl) (fun w' hSw => ?_) ?_; rotate_left; (go_simp; with_reducible rfl); simp only [Act.put, List.setIfInBounds_toArray, List.set_cons_zero, List.set_cons_succ])
      have pf2 := pf 2
      refine wpT_last (fun K hK => ?_)
      go_simp
      refine hK.out _ _ ?_
      clear hK K hHeld o0 o1 o2 o3 of ol e0 e1 e2 e3
      have hl5 : ((gs.map Prod.fst).take j ++ [gs[j].1]) = (gs.map Prod.fst).take (j + 1) := by
        rw [List.take_succ_eq_append_getElem (by simpa using hjl), List.getElem_map]
      have hW6 := set4_2 (c := (.slice a5 Ln c5)) HO5.out
      have hk6 : ∀ q, q ≠ w.heap.size + 1 + 1 → (w5.setCell ⟨w.heap.size + 1 + 1, 2, none⟩ (.slice a5 Ln c5)).heap[q]? = w5.heap[q]? := fun q hq => Below.heap_setCell _ _ _ _ hq
      have hM6 : MadeG 3 24 RdC P (w.heap.size + 1 + 1 + 1) (w5.setCell ⟨w.heap.size + 1 + 1, 2, none⟩ (.slice a5 Ln c5)) (.slice a5 Ln c5) ((gs.map Prod.fst).take (j + 1)) := by
        rw [← hl5]; exact HM5.out.setB (by omega) (fun h => by have := HP.out _ h; omega)
      have hB6 : Below (w.heap.size + 1 + 1) W (w5.setCell ⟨w.heap.size + 1 + 1, 2, none⟩ (.slice a5 Ln c5)) := ((HL.out.bel.trans ((below_drewN (Below.refl _ _) 1).trans (HB5.out.mono (by omega)))).setCell (by simp only []; omega) _)
      have f36 := (cell_keep (a := ⟨b, off + j * 4 + 3, none⟩) (hk6 b (by omega))).trans f3
      generalize w5.setCell ⟨w.heap.size + 1 + 1, 2, none⟩ (.slice a5 Ln c5) = w6 at hW6 hM6 hB6 f36 ⊢
      have HW6 := Lib.hid hW6
      have HM6 := Lib.hid hM6
      have HB6 := Lib.hid hB6
      have hA := anyF_take gs j hjl
      have HA := Lib.hid hA
      clear hl5 hk6 hM6 hB6 f0 f1 f2 f3 p0 p1 p2 p3 pf pf2 pl HM5 HB5 HO5 HR5 hA
      obtain ⟨p0, p1, p2, p3, pf, pl⟩ := four HW6.out
      have pf3 := pf 3
      clear hW6
      cases hA1 : anyF (gs.take j)
      all_goals (
        rw [hA1] at p3
        cases hA2 : gs[j].2
        all_goals (
          rw [hA2] at f36
          go_wp2_with fail
          go_roundw
          case rel =>
            refine ⟨j + 1, (.slice a5 Ln c5), by go_num, by omega, ?_⟩
            rw [HA.out, hA1, hA2]
            exact ⟨set4_3 HW6.out, HM6.out.setB (by omega) (fun h => by have := HP.out _ h; omega), HB6.out.setCell (by simp only []; omega) _⟩
          case measure =>
            have q : (intOf (.int .i64 ((j : Int) + 1))).toNat = j + 1 := by show ((j : Int) + 1).toNat = _; omega
            have q2 : (intOf (.int .i64 (j : Int))).toNat = j := by show ((j : Int)).toNat = _; omega
            rw [q, q2]; omega))
    · have hta : gs.take j = gs := List.take_of_length_le (by omega)
      have htm : (gs.map Prod.fst).take j = gs.map Prod.fst := List.take_of_length_le (by simp; omega)
      rw [hta] at o3 HL
      rw [htm] at HL
      have of3 := of 3
      have hsub := HL.out.made.terms (fun q => (P q ∨ w.heap.size + 1 + 1 < q) ∧ q < wr.heap.size) (fun g h1 h2 => ⟨.inl h2, h1⟩) (fun g h1 h2 => ⟨.inr (by omega), h2⟩)
      have hnode := Rd.node hsub HK.out HN.out
      have HND := Lib.hid hnode
      obtain ⟨a5, m5, c5, rfl⟩ : ∃ a5 m5 c5, vs = .slice a5 m5 c5 := by obtain ⟨ao, cap, hv, -⟩ := hsub; exact ⟨_, _, _, hv⟩
      clear hsub hnode hta htm
      cases hA : anyF gs
      · rw [hA] at o3 HL
        go_wp2_with fail
        refine (refSize_r (HND.out.keep (P' := (· < wr.heap.size)) (fun q hq => hq.2) fun _ _ => rfl)).mono ?_
        rintro e w6 ⟨rfl, hb6⟩
        have HO6 := Lib.hid ((hb6.block _ ol).trans HL.out.box)
        have HB6 := Lib.hid (HBW.out.trans (hb6.mono HBW.out.size))
        have HZ6 := Lib.hid ((hb6.block _ (blt HZR.out)).trans HZR.out)
        have HN6 := Lib.hid (HND.out.keep (w' := w6) (P' := fun q => (P q ∨ w.heap.size + 1 + 1 < q) ∧ q < w6.heap.size) (fun q hq => ⟨hq.1, Nat.lt_of_lt_of_le hq.2 hb6.size⟩) fun q hq => hb6.block q hq.2)
        have hsz6 : w.heap.size + 3 ≤ w6.heap.size := by have := hb6.size; omega
        clear hb6 o0 o1 o2 o3 of of3 ol
        obtain ⟨o0, o1, o2, o3, of, ol⟩ := four HO6.out
        have of3 := of 3
        by_cases hbig : 8192 < nsz (.node k n (gs.map Prod.fst))
        · have e1 : (min (nsz (.node k n (gs.map Prod.fst))) 8193 : Nat) = 8193 := by omega
          rw [e1]
          have HO7 := Lib.hid (set4_3 (c := .bool true) HO6.out)
          have hk7 : ∀ q, q ≠ w.heap.size + 1 + 1 → (w6.setCell ⟨w.heap.size + 1 + 1, 3, none⟩ (.bool true)).heap[q]? = w6.heap[q]? := fun q hq => Below.heap_setCell _ _ _ _ hq
          have HB7 := Lib.hid (HB6.out.setCell (p := ⟨w.heap.size + 1 + 1, 3, none⟩) (by simp only []; omega) (.bool true))
          have HZ7 := Lib.hid ((hk7 _ (by omega)).trans HZ6.out)
          go_wp2_with fail
          refine (Leaf_w _ _ _).mono ?_
          rintro e w8 ⟨rfl, hb8⟩
          obtain ⟨z0, z1, z2, z3, zf, zl⟩ := four ((hb8.block _ (blt HZ7.out)).trans HZ7.out)
          have HB8 := Lib.hid (HB7.out.trans (hb8.mono HB7.out.size))
          clear hb8
          go_wp2_with fail
          refine bodyPost_ret (v := .agg #[.int .i64 2, .int .i64 0, .slice none 0 0, .bool true]) (by simp [results, Try.results121, go_sem, z0, z1, z2, z3]) rfl
            ⟨_, _, _, _, _, _, _, rfl, ((((HB8.out.setCell (by simp only []; omega) _).setCell (by simp only []; omega) _).setCell (by simp only []; omega) _).setCell (by simp only []; omega) _), Rd.leaf _ _ _ _ _ _ (Nat.zero_le _) (by omega) (by omega), ?_⟩
          have := okg_node (n := n) (k := k) hx HOK.out true (fun _ => by simp [hbig]) (.node 2 0 []) (fun e => by rw [hA] at e; cases e)
          rw [hA] at this
          exact this
        · have hle : ((min (nsz (.node k n (gs.map Prod.fst))) 8193 : Nat) : Int) ≤ 8192 := by omega
          generalize (min (nsz (.node k n (gs.map Prod.fst))) 8193 : Nat) = M at hle ⊢
          have hdb : decide ((8192 : Int) < (M : Int)) = false := by simp; omega
          have HO7 := Lib.hid (set4_3 (c := .bool false) HO6.out)
          have hk7 : ∀ q, q ≠ w.heap.size + 1 + 1 → (w6.setCell ⟨w.heap.size + 1 + 1, 3, none⟩ (.bool false)).heap[q]? = w6.heap[q]? := fun q hq => Below.heap_setCell _ _ _ _ hq
          have HB7 := Lib.hid (HB6.out.setCell (p := ⟨w.heap.size + 1 + 1, 3, none⟩) (by simp only []; omega) (.bool false))
          have HZ7 := Lib.hid ((hk7 _ (by omega)).trans HZ6.out)
          have hq7 : ∀ q, (P q ∨ w.heap.size + 1 + 1 < q) → q ≠ w.heap.size + 1 ∧ q ≠ w.heap.size + 1 + 1 := fun q hq => by
            rcases hq with h | h
            · have := HP.out q h; omega
            · omega
          have HN7 := Lib.hid (HN6.out.keep (w' := w6.setCell ⟨w.heap.size + 1 + 1, 3, none⟩ (.bool false)) (P' := fun q => (P q ∨ w.heap.size + 1 + 1 < q) ∧ q < w6.heap.size ∧ q ≠ w.heap.size + 1) (fun q hq => ⟨hq.1, hq.2, (hq7 q hq.1).1⟩) fun q hq => hk7 q (hq7 q hq.1).2)
          clear hq7
          obtain ⟨z0, z1, z2, z3, zf, zl⟩ := four HZ7.out
          obtain ⟨y0, y1, y2, y3, yf, yl⟩ := four HO7.out
          go_wp2_with fail
          refine bodyPost_ret (v := .agg #[.int .i64 k, .int .i64 n, .slice a5 m5 c5, .bool false]) (by simp [results, Try.results121, go_sem, z0, z1, z2, z3]) rfl
            ⟨_, _, _, _, _, _, _, rfl, ((((HB7.out.setCell (by simp only []; omega) _).setCell (by simp only []; omega) _).setCell (by simp only []; omega) _).setCell (by simp only []; omega) _), HN7.out.keep (fun q hq => ?_) (fun q hq => set4_off _ _ _ _ _ _ q hq.2.2), ?_⟩
          · rcases hq.1 with h | h
            · exact .inl h
            · exact .inr ⟨by omega, by simp only [World.setCell, Array.size_modify]; exact hq.2.1⟩
          · have := okg_node (n := n) (k := k) hx HOK.out false (fun _ => by simp [hbig]) (.node k n (gs.map Prod.fst)) (fun _ => rfl)
            rw [hA] at this
            exact this
      · rw [hA] at o3 HL
        have HO7 := Lib.hid (set4_3 (c := .bool true) HL.out.box)
        have hk7 : ∀ q, q ≠ w.heap.size + 1 + 1 → (wr.setCell ⟨w.heap.size + 1 + 1, 3, none⟩ (.bool true)).heap[q]? = wr.heap[q]? := fun q hq => Below.heap_setCell _ _ _ _ hq
        have HB7 := Lib.hid (HBW.out.setCell (p := ⟨w.heap.size + 1 + 1, 3, none⟩) (by simp only []; omega) (.bool true))
        have HZ7 := Lib.hid ((hk7 _ (by omega)).trans HZR.out)
        go_wp2_with fail
        refine (Leaf_w _ _ _).mono ?_
        rintro e w8 ⟨rfl, hb8⟩
        obtain ⟨z0, z1, z2, z3, zf, zl⟩ := four ((hb8.block _ (blt HZ7.out)).trans HZ7.out)
        have HB8 := Lib.hid (HB7.out.trans (hb8.mono HB7.out.size))
        clear hb8
        go_wp2_with fail
        refine bodyPost_ret (v := .agg #[.int .i64 2, .int .i64 0, .slice none 0 0, .bool true]) (by simp [results, Try.results121, go_sem, z0, z1, z2, z3]) rfl
          ⟨_, _, _, _, _, _, _, rfl, ((((HB8.out.setCell (by simp only []; omega) _).setCell (by simp only []; omega) _).setCell (by simp only []; omega) _).setCell (by simp only []; omega) _), Rd.leaf _ _ _ _ _ _ (Nat.zero_le _) (by omega) (by omega), ?_⟩
        have := okg_node (n := n) (k := k) hx HOK.out true (fun e => by rw [hA] at e; cases e) (.node 2 0 []) (fun e => by rw [hA] at e; cases e)
        rw [hA] at this
        exact this
end Go.Proofs.Ythjlfjaciigfiaa
