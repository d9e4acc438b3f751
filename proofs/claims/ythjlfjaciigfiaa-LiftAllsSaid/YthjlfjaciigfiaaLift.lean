/-
  lift.Lift, Up, ref08.Lift: contracts of the walk.
-/
import Derived.Test.YthjlfjaciigfiaaWalk
import Derived.Test.YthjlfjaciigfiaaMove
namespace Go.Proofs.Ythjlfjaciigfiaa
open Go.RowKit
set_option linter.unusedVariables false
set_option linter.unusedSimpArgs false

def tm0 : Tm := .node 0 0 []
/-- a term, lifted; or why not -/
def liftR (t : Tm) (k n : Int) : Tm × Int :=
  if Shp t = true ∧ fit k = true ∧ fit n = true then (if Shp (mp (Fmv k) t n) = true then (mp (Fmv k) t n, 0) else (tm0, 2)) else (tm0, 5)

def fLift (k n m : Int) : Int := if m < n then m else m + k
theorem mp_congr {F G : Int → Int → Int → Option Tm} {c : Int} (h : ∀ k n b, 0 ≤ b → F k n b = G k n (c + b)) (t : Tm) : ∀ b, 0 ≤ b → mp F t b = mp G t (c + b) := by
  refine Tm.ind (C := fun t => ∀ b, 0 ≤ b → mp F t b = mp G t (c + b)) (fun k n l ih => ?_) t
  intro b hb
  have aux : ∀ (l' : List Tm), (∀ t, t ∈ l' → t ∈ l) → ∀ i, mpL F k l' b i = mpL G k l' (c + b) i := by
    intro l'
    induction l' with
    | nil => intro _ i; rfl
    | cons x l' ih2 =>
      intro hs i
      simp only [mpL]
      rw [ih x (hs x (by simp)) _ (by have := bn_le k i; omega), ih2 (fun t ht => hs t (by simp [ht])), Int.add_assoc]
  simp only [mp]
  rw [← h k n b hb, aux l (fun _ h => h) 0]
theorem mp_lift (k n : Int) (hn : 0 ≤ n) (t : Tm) : mp (Fwk (fLift k n)) t 0 = mp (Fmv k) t n := by
  have := mp_congr (F := Fwk (fLift k n)) (G := Fmv k) (c := n) (fun k' x b hb => by
    unfold Fwk Fmv fLift
    by_cases h1 : k' = 1
    · simp only [h1, ↓reduceIte]
      by_cases h2 : b ≤ x
      · by_cases h3 : x - b < n
        · simp only [h2, h3, ↓reduceIte, show x < n + b by omega]; congr 2; omega
        · simp only [h2, h3, ↓reduceIte, show ¬ (x < n + b) by omega]; congr 2; omega
      · simp only [h2, ↓reduceIte, show x < n + b by omega]
    · simp only [h1, ↓reduceIte]) t 0 (by omega)
  rwa [Int.add_zero] at this

def CloAns (row : Option Nat) (St : Bool → World → Prop) (w : World) (x : Int) (s : Bool) (e : Ending) (w' : World) : Prop := e = .returned (.int .i64 x) ∧ Bx row w.heap.size w w' ∧ St s w'
theorem lift1_w (bn' bk : Nat) (k n : Int) (hk : fit k = true) (hn : fit n = true) :
    Clo 74 #[.pointer (some ⟨bn', 0, none⟩), .pointer (some ⟨bk, 0, none⟩)] none (fun b => b = bn' ∨ b = bk) (fun s w => s = true ∧ w.cell? ⟨bn', 0, none⟩ = some (.int .i64 n) ∧ w.cell? ⟨bk, 0, none⟩ = some (.int .i64 k)) (fLift k n) (fun _ => true) := by
  rw [fit_iff] at hk hn
  refine ⟨fun s m w hm0 hm1 ⟨hs, h1, h2⟩ => ?_, fun s w w' ⟨hs, h1, h2⟩ hk => ⟨hs, (cell_keep (hk _ (.inl rfl))).trans h1, (cell_keep (hk _ (.inr rfl))).trans h2⟩, fun args w => by kernel_rfl, fun m hm0 hm1 => by unfold fLift; split <;> omega⟩
  subst hs
  show Calls Try.prog 74 #[.int .i64 m, .pointer (some ⟨bn', 0, none⟩), .pointer (some ⟨bk, 0, none⟩)] w (CloAns none (fun s w => s = true ∧ w.cell? ⟨bn', 0, none⟩ = some (.int .i64 n) ∧ w.cell? ⟨bk, 0, none⟩ = some (.int .i64 k)) w (fLift k n m) true)
  by_cases hlt : m < n
  · have e : fLift k n m = m := by simp [fLift, hlt]
    rw [e]; clear e
    have H1 := Lib.hid h1
    have H2 := Lib.hid h2
    go_enter Try.func74, Try.ntmps74
    go_wp2_with fail
    go_ret
    exact ⟨rfl, Bx.refl _ _ _, rfl, H1.out, H2.out⟩
  · have e : fLift k n m = m + k := by simp [fLift, hlt]
    rw [e]; clear e
    have H1 := Lib.hid h1
    have H2 := Lib.hid h2
    go_enter Try.func74, Try.ntmps74
    go_wp2_with fail
    go_ret
    exact ⟨rfl, Bx.refl _ _ _, rfl, H1.out, H2.out⟩

theorem one1 {w : World} {B : Nat} {a : Value} {z : TypeId} (h : w.heap[B]? = some (.cells #[a] z)) : w.cell? ⟨B, 0, none⟩ = some a ∧ w.frozen? ⟨B, 0, none⟩ = false ∧ B < w.heap.size := by
  refine ⟨?_, ?_, (Array.getElem?_eq_some_iff.1 h).1⟩
  · unfold World.cell?; rw [h]; rfl
  · unfold World.frozen?; rw [h]; simp

/-- the answers of functions that give a term and an error: the zero term and a number -/
theorem Rd.zero (P : Nat → Prop) (w : World) : Rd P w (.agg #[.int .i64 0, .int .i64 0, .slice none 0 0]) tm0 := Rd.leaf P w 0 0 none 0 (Nat.zero_le _) (by omega) (by omega)

set_option maxRecDepth 100000 in
set_option maxHeartbeats 4000000 in
theorem Lift_w (d : Nat) (v : Value) (t : Tm) (k n : Int) (w : World) (hr : RdN (· < w.heap.size) w d v t) :
    Calls Try.prog 23 #[v, .int .i64 k, .int .i64 n] w (AnsTE w (liftR t k n).1 (liftR t k n).2) := by
  obtain ⟨rt, rc, hres⟩ : ∃ rt rc, liftR t k n = (rt, rc) := ⟨_, _, rfl⟩
  rw [hres]
  have RES := Lib.hid hres
  clear hres
  have hf := hr.fit
  have hr0 := hr
  obtain ⟨ao, cap, hv, -, -⟩ := hr.shape
  clear hr
  subst hv
  have H := Lib.hid hr0
  have HF := Lib.hid hf
  clear hr0 hf
  obtain ⟨W, hW⟩ : ∃ W, W = (((w.alloc (.cells #[.int .i64 t.kind, .int .i64 t.num, .slice ao t.sub.length cap] 24)).alloc (.cells #[.int .i64 k] 3)).alloc (.cells #[.int .i64 n] 3)).alloc (.cells #[.int .i64 0, .int .i64 0, .slice none 0 0] 24) := ⟨_, rfl⟩
  have hb0 : Below w.heap.size w W := by rw [hW]; exact ((((Below.refl _ _).alloc (Nat.le_refl _) _).alloc (by simp) _).alloc (by simp; omega) _).alloc (by simp; omega) _
  have hsW : W.heap.size = w.heap.size + 4 := by rw [hW]; simp
  have b0 : W.heap[w.heap.size]? = some (.cells #[.int .i64 t.kind, .int .i64 t.num, .slice ao t.sub.length cap] 24) := by
    rw [hW]; exact (Below.heap_alloc _ _ _ (by simp; omega)).trans ((Below.heap_alloc _ _ _ (by simp; omega)).trans ((Below.heap_alloc _ _ _ (by simp)).trans (heap_new _ _ _ rfl)))
  have b1 : W.heap[w.heap.size + 1]? = some (.cells #[.int .i64 k] 3) := by
    rw [hW]; exact (Below.heap_alloc _ _ _ (by simp)).trans ((Below.heap_alloc _ _ _ (by simp)).trans (heap_new _ _ _ (by simp)))
  have b2 : W.heap[w.heap.size + 1 + 1]? = some (.cells #[.int .i64 n] 3) := by
    rw [hW]; exact (Below.heap_alloc _ _ _ (by simp)).trans (heap_new _ _ _ (by simp))
  have b3 : W.heap[w.heap.size + 1 + 1 + 1]? = some (.cells #[.int .i64 0, .int .i64 0, .slice none 0 0] 24) := by
    rw [hW]; exact heap_new _ _ _ (by simp)
  have hcon := Shaped_w d _ t W (RdN.on H.out hb0)
  have HB0 := Lib.hid hb0
  have HSW := Lib.hid hsW
  have B0 := Lib.hid b0
  have B1 := Lib.hid b1
  have B2 := Lib.hid b2
  have B3 := Lib.hid b3
  obtain ⟨y, hy⟩ : ∃ y, y = Shp t := ⟨_, rfl⟩
  rw [← hy] at hcon
  have HY := Lib.hid hy
  have HCON := Lib.hid hcon
  have HW := Lib.hid hW
  clear hb0 hsW b0 b1 b2 b3 hcon hy hW
  cases y
  · have e : liftR t k n = (tm0, 5) := by unfold liftR; rw [← HY.out]; simp
    rw [RES.out] at e
    injection e with e1 e2
    subst e1; subst e2
    go_enter Try.func23, Try.ntmps23
    go_wp2_with fail
    rw [← HW.out]
    refine HCON.out.mono ?_
    rintro e w1 ⟨rfl, hb⟩
    have hsW := HSW.out
    obtain ⟨z0, z1, z2, zf, hz⟩ := three ((hb.block _ (by omega)).trans B3.out)
    have hb1 := HB0.out.trans (hb.mono HB0.out.size)
    have HB1 := Lib.hid hb1
    clear hb hb1 hsW
    go_wp2_with fail
    exact bodyPost_ret (v := .tuple #[.agg #[.int .i64 0, .int .i64 0, .slice none 0 0], .int .i64 5]) (by simp [results, Try.results23, go_sem, z0, z1, z2]) rfl
      ⟨_, _, _, _, _, rfl, ((HB1.out.setCell (by simp; omega) _).setCell (by simp; omega) _).setCell (by simp; omega) _, Rd.zero _ _⟩
  · by_cases hfk : fit k = true
    · by_cases hfn : fit n = true
      · have hgd := ((Shp_iff t).mp HY.out.symm).2.2
        have hdp := ((Shp_iff t).mp HY.out.symm).2.1
        have hk := (fit_iff k).mp hfk
        have hn := (fit_iff n).mp hfn
        have hmp := mp_lift k n hn.1 t
        obtain ⟨y2, hy2⟩ : ∃ y2, y2 = Shp (mp (Fmv k) t n) := ⟨_, rfl⟩
        have e : liftR t k n = if y2 = true then (mp (Fmv k) t n, 0) else (tm0, 2) := by unfold liftR; rw [if_pos ⟨HY.out.symm, hfk, hfn⟩, hy2]
        have H72k := fits72_w k
        have H72n := fits72_w n
        rw [hfk] at H72k
        rw [hfn] at H72n
        have HMP := Lib.hid hmp
        have HY2 := Lib.hid hy2
        have HG := Lib.hid hgd
        have HD := Lib.hid hdp
        have HFK := Lib.hid hfk
        have HFN := Lib.hid hfn
        have HK := Lib.hid hk
        have HN := Lib.hid hn
        have F1 := Lib.hid H72k
        have F2 := Lib.hid H72n
        have E := Lib.hid e
        clear hgd hdp hk hn hmp hy2 e H72k H72n hfk hfn
        have hmf : ∀ (fn : Fn) (first cap : Array Value) (w : World), (Instr.makeFunc fn first cap).run Try.prog w = .ok (.func fn first cap) w := fun _ _ _ _ => rfl
        go_enter Try.func23, Try.ntmps23
        go_wp2_with fail
        rw [← HW.out]
        refine HCON.out.mono ?_
        rintro e w1 ⟨rfl, hb⟩
        have hsW := HSW.out
        obtain ⟨v0, v1, v2, -, -⟩ := three ((hb.block _ (by omega)).trans B0.out)
        obtain ⟨k0, -, -⟩ := one1 ((hb.block _ (by omega)).trans B1.out)
        obtain ⟨n0, -, -⟩ := one1 ((hb.block _ (by omega)).trans B2.out)
        have hb1 := HB0.out.trans (hb.mono HB0.out.size)
        have HBW := Lib.hid hb
        have HB1 := Lib.hid hb1
        clear hb hb1 hsW
        go_wp2_with fail
        refine (F1.out _).mono ?_
        rintro e w' ⟨rfl, rfl⟩
        go_wp2_with fail
        refine (F2.out _).mono ?_
        rintro e w' ⟨rfl, rfl⟩
        go_wp2_with fail
        have hsW := HSW.out
        have hsw1 := HBW.out.size
        have hclo := lift1_w (w.heap.size + 1 + 1) (w.heap.size + 1) k n HFK.out HFN.out
        have hwk := walk_w hclo (dep t) _ t 0 true w1 (RdN.keep (P := (· < w.heap.size)) (w' := w1) (fun b hb' => ⟨by omega, by simp⟩) (fun b hb' => HB1.out.block b hb') _ _ _ HF.out) HG.out (by omega) (by have := HD.out; omega) (fun q hq => by rcases hq with rfl | rfl <;> omega) (fun r hr => by cases hr) ⟨rfl, n0, k0⟩
        rw [HMP.out] at hwk
        refine hwk.mono ?_
        rintro e w2 ⟨k3, n3, ao3, m3, c3, rfl, hb2, hr2, -⟩
        have hb2 := hb2.below
        obtain ⟨z0, z1, z2, zf, hz⟩ := three ((hb2.block _ (by omega)).trans ((HBW.out.block _ (by omega)).trans B3.out))
        have hb3 := HB1.out.trans (hb2.mono HB1.out.size)
        have HR2 := Lib.hid hr2
        have HB3 := Lib.hid hb3
        have HS2 := Lib.hid hb2.size
        have HZ := Lib.hid hz
        have HSW1 := Lib.hid hsw1
        clear hb2 hr2 hb3 hwk hclo hsw1 hsW hz
        go_wp2_with fail
        have hbA : Below w2.heap.size w2 (w2.alloc (.cells #[.int .i64 k3, .int .i64 n3, .slice ao3 m3 c3] 24)) := (Below.refl _ _).alloc (Nat.le_refl _) _
        have hrA : Rd (· < (w2.alloc (.cells #[.int .i64 k3, .int .i64 n3, .slice ao3 m3 c3] 24)).heap.size) (w2.alloc (.cells #[.int .i64 k3, .int .i64 n3, .slice ao3 m3 c3] 24)) (.agg #[.int .i64 k3, .int .i64 n3, .slice ao3 m3 c3]) (mp (Fmv k) t n) :=
          HR2.out.keep (fun b hb => Nat.lt_of_lt_of_le hb.2 hbA.size) fun b hb => hbA.block b hb.2
        obtain ⟨d3, hrA⟩ := hrA
        have hc3 := Shaped_w d3 _ _ _ hrA
        rw [← HY2.out] at hc3
        refine hc3.mono ?_
        rintro e w3 ⟨rfl, hb4⟩
        have hlt2 : w2.heap.size < (w2.alloc (.cells #[.int .i64 k3, .int .i64 n3, .slice ao3 m3 c3] 24)).heap.size := by rw [World.size_alloc]; omega
        obtain ⟨o0, o1, o2, -, -⟩ := three ((hb4.block _ hlt2).trans (heap_new w2 _ _ rfl))
        have hk24 : ∀ b, b < w2.heap.size → w3.heap[b]? = w2.heap[b]? := fun b hb => (hb4.block b (by omega)).trans (hbA.block b hb)
        have hz := HZ.out
        have hsz3 : w2.heap.size ≤ w3.heap.size := Nat.le_trans hbA.size hb4.size
        have z0' := (cell_keep (a := ⟨w.heap.size + 1 + 1 + 1, 0, none⟩) (hk24 _ hz)).trans z0
        have z1' := (cell_keep (a := ⟨w.heap.size + 1 + 1 + 1, 1, none⟩) (hk24 _ hz)).trans z1
        have z2' := (cell_keep (a := ⟨w.heap.size + 1 + 1 + 1, 2, none⟩) (hk24 _ hz)).trans z2
        have zf' : ∀ j, w3.frozen? ⟨w.heap.size + 1 + 1 + 1, j, none⟩ = false := fun j => (World.frozen?_of_block (hk24 _ hz)).trans (zf j)
        have hb5 : Below w.heap.size w w3 := HB3.out.trans ((hbA.mono (by have := HB3.out.size; omega)).trans (hb4.mono (by have := HB3.out.size; omega)))
        have hr5 : ∀ a b c, Rd (Fr w (((w3.setCell ⟨w.heap.size + 1 + 1 + 1, 0, none⟩ a).setCell ⟨w.heap.size + 1 + 1 + 1, 1, none⟩ b).setCell ⟨w.heap.size + 1 + 1 + 1, 2, none⟩ c)) (((w3.setCell ⟨w.heap.size + 1 + 1 + 1, 0, none⟩ a).setCell ⟨w.heap.size + 1 + 1 + 1, 1, none⟩ b).setCell ⟨w.heap.size + 1 + 1 + 1, 2, none⟩ c) (.agg #[.int .i64 k3, .int .i64 n3, .slice ao3 m3 c3]) (mp (Fmv k) t n) := fun a b c =>
          HR2.out.keep (fun q hq => ⟨by have := HB1.out.size; have := hq.1; omega, by have := hq.2; simp [World.setCell]; omega⟩) fun q hq => by
            have h1 := HSW1.out
            have h2 := HSW.out
            have h3 := hq.1
            rw [Below.heap_setCell _ _ _ _ (by show q ≠ w.heap.size + 1 + 1 + 1; omega), Below.heap_setCell _ _ _ _ (by show q ≠ w.heap.size + 1 + 1 + 1; omega), Below.heap_setCell _ _ _ _ (by show q ≠ w.heap.size + 1 + 1 + 1; omega)]
            exact hk24 q hq.2
        have HR5 := Lib.hid hr5
        have HB5 := Lib.hid hb5
        clear hr5 hb5 hk24 hb4 hc3 hbA hrA z0 z1 z2 zf hz hsz3 hlt2
        cases y2
        · have e1 : (rt, rc) = (tm0, 2) := by rw [← RES.out, E.out]; rfl
          injection e1 with e1 e2
          subst e1; subst e2
          go_wp2_with fail
          exact bodyPost_ret (v := .tuple #[.agg #[.int .i64 0, .int .i64 0, .slice none 0 0], .int .i64 2]) (by simp [results, Try.results23, go_sem, z0', z1', z2']) rfl
            ⟨_, _, _, _, _, rfl, ((HB5.out.setCell (by simp; omega) _).setCell (by simp; omega) _).setCell (by simp; omega) _, Rd.zero _ _⟩
        · have e1 : (rt, rc) = (mp (Fmv k) t n, 0) := by rw [← RES.out, E.out]; rfl
          injection e1 with e1 e2
          subst e1; subst e2
          go_wp2_with fail
          exact bodyPost_ret (v := .tuple #[.agg #[.int .i64 k3, .int .i64 n3, .slice ao3 m3 c3], .int .i64 0]) (by simp [results, Try.results23, go_sem, z0', z1', z2']) rfl
            ⟨_, _, _, _, _, rfl, ((HB5.out.setCell (by simp; omega) _).setCell (by simp; omega) _).setCell (by simp; omega) _, HR5.out _ _ _⟩
      · have e : liftR t k n = (tm0, 5) := by unfold liftR; simp [hfn]
        rw [RES.out] at e
        injection e with e1 e2
        subst e1; subst e2
        have H72k := fits72_w k
        have H72n := fits72_w n
        rw [hfk] at H72k
        rw [Bool.eq_false_iff.mpr hfn] at H72n
        have F1 := Lib.hid H72k
        have F2 := Lib.hid H72n
        clear H72k H72n hfk hfn
        go_enter Try.func23, Try.ntmps23
        go_wp2_with fail
        rw [← HW.out]
        refine HCON.out.mono ?_
        rintro e w1 ⟨rfl, hb⟩
        have hsW := HSW.out
        obtain ⟨k0, -, -⟩ := one1 ((hb.block _ (by omega)).trans B1.out)
        obtain ⟨n0, -, -⟩ := one1 ((hb.block _ (by omega)).trans B2.out)
        obtain ⟨z0, z1, z2, zf, hz⟩ := three ((hb.block _ (by omega)).trans B3.out)
        have hb1 := HB0.out.trans (hb.mono HB0.out.size)
        have HB1 := Lib.hid hb1
        clear hb hb1 hsW
        go_wp2_with fail
        refine (F1.out _).mono ?_
        rintro e w' ⟨rfl, rfl⟩
        go_wp2_with fail
        refine (F2.out _).mono ?_
        rintro e w' ⟨rfl, rfl⟩
        go_wp2_with fail
        exact bodyPost_ret (v := .tuple #[.agg #[.int .i64 0, .int .i64 0, .slice none 0 0], .int .i64 5]) (by simp [results, Try.results23, go_sem, z0, z1, z2]) rfl
          ⟨_, _, _, _, _, rfl, ((HB1.out.setCell (by simp; omega) _).setCell (by simp; omega) _).setCell (by simp; omega) _, Rd.zero _ _⟩
    · have e : liftR t k n = (tm0, 5) := by unfold liftR; simp [hfk]
      rw [RES.out] at e
      injection e with e1 e2
      subst e1; subst e2
      have H72k := fits72_w k
      rw [Bool.eq_false_iff.mpr hfk] at H72k
      have F1 := Lib.hid H72k
      clear H72k hfk
      go_enter Try.func23, Try.ntmps23
      go_wp2_with fail
      rw [← HW.out]
      refine HCON.out.mono ?_
      rintro e w1 ⟨rfl, hb⟩
      have hsW := HSW.out
      obtain ⟨k0, -, -⟩ := one1 ((hb.block _ (by omega)).trans B1.out)
      obtain ⟨z0, z1, z2, zf, hz⟩ := three ((hb.block _ (by omega)).trans B3.out)
      have hb1 := HB0.out.trans (hb.mono HB0.out.size)
      have HB1 := Lib.hid hb1
      clear hb hb1 hsW
      go_wp2_with fail
      refine (F1.out _).mono ?_
      rintro e w' ⟨rfl, rfl⟩
      go_wp2_with fail
      exact bodyPost_ret (v := .tuple #[.agg #[.int .i64 0, .int .i64 0, .slice none 0 0], .int .i64 5]) (by simp [results, Try.results23, go_sem, z0, z1, z2]) rfl
        ⟨_, _, _, _, _, rfl, ((HB1.out.setCell (by simp; omega) _).setCell (by simp; omega) _).setCell (by simp; omega) _, Rd.zero _ _⟩
set_option maxRecDepth 100000 in
set_option maxHeartbeats 4000000 in
theorem refLift_w (d : Nat) (v : Value) (t : Tm) (k n : Int) (w : World) (hr : RdN (· < w.heap.size) w d v t) :
    Calls Try.prog 24 #[v, .int .i64 k, .int .i64 n] w (AnsTE w (liftR t k n).1 (liftR t k n).2) := by
  obtain ⟨rt, rc, hres⟩ : ∃ rt rc, liftR t k n = (rt, rc) := ⟨_, _, rfl⟩
  rw [hres]
  have RES := Lib.hid hres
  clear hres
  have hf := hr.fit
  have hr0 := hr
  obtain ⟨ao, cap, hv, -, -⟩ := hr.shape
  clear hr
  subst hv
  have H := Lib.hid hr0
  have HF := Lib.hid hf
  clear hr0 hf
  obtain ⟨W, hW⟩ : ∃ W, W = (w.alloc (.cells #[.int .i64 t.kind, .int .i64 t.num, .slice ao t.sub.length cap] 24)).alloc (.cells #[.int .i64 0, .int .i64 0, .slice none 0 0] 24) := ⟨_, rfl⟩
  have hb0 : Below w.heap.size w W := by rw [hW]; exact ((Below.refl _ _).alloc (Nat.le_refl _) _).alloc (by simp) _
  have hsW : W.heap.size = w.heap.size + 2 := by rw [hW]; simp
  have b0 : W.heap[w.heap.size]? = some (.cells #[.int .i64 t.kind, .int .i64 t.num, .slice ao t.sub.length cap] 24) := by
    rw [hW]; exact (Below.heap_alloc _ _ _ (by simp)).trans (heap_new _ _ _ rfl)
  have b3 : W.heap[w.heap.size + 1]? = some (.cells #[.int .i64 0, .int .i64 0, .slice none 0 0] 24) := by
    rw [hW]; exact heap_new _ _ _ (by simp)
  have hcon := refShaped_w d _ t W (RdN.on H.out hb0)
  have HB0 := Lib.hid hb0
  have HSW := Lib.hid hsW
  have B0 := Lib.hid b0
  have B3 := Lib.hid b3
  obtain ⟨y, hy⟩ : ∃ y, y = Shp t := ⟨_, rfl⟩
  rw [← hy] at hcon
  have HY := Lib.hid hy
  have HCON := Lib.hid hcon
  have HW := Lib.hid hW
  clear hb0 hsW b0 b3 hcon hy hW
  cases y
  · have e : liftR t k n = (tm0, 5) := by unfold liftR; rw [← HY.out]; simp
    rw [RES.out] at e
    injection e with e1 e2
    subst e1; subst e2
    go_enter Try.func24, Try.ntmps24
    go_wp2_with fail
    rw [← HW.out]
    refine HCON.out.mono ?_
    rintro e w1 ⟨rfl, hb⟩
    have hsW := HSW.out
    obtain ⟨z0, z1, z2, zf, hz⟩ := three ((hb.block _ (by omega)).trans B3.out)
    have hb1 := HB0.out.trans (hb.mono HB0.out.size)
    have HB1 := Lib.hid hb1
    clear hb hb1 hsW
    go_wp2_with fail
    exact bodyPost_ret (v := .tuple #[.agg #[.int .i64 0, .int .i64 0, .slice none 0 0], .int .i64 5]) (by simp [results, Try.results24, go_sem, z0, z1, z2]) rfl
      ⟨_, _, _, _, _, rfl, ((HB1.out.setCell (by simp) _).setCell (by simp) _).setCell (by simp) _, Rd.zero _ _⟩
  · by_cases hfk : fit k = true
    · by_cases hfn : fit n = true
      · have hgd := ((Shp_iff t).mp HY.out.symm).2.2
        have hdp := ((Shp_iff t).mp HY.out.symm).2.1
        have hk := (fit_iff k).mp hfk
        have hn := (fit_iff n).mp hfn
        obtain ⟨y2, hy2⟩ : ∃ y2, y2 = Shp (mp (Fmv k) t n) := ⟨_, rfl⟩
        have e : liftR t k n = if y2 = true then (mp (Fmv k) t n, 0) else (tm0, 2) := by unfold liftR; rw [if_pos ⟨HY.out.symm, hfk, hfn⟩, hy2]
        have H72k := fits75_w k
        have H72n := fits75_w n
        rw [hfk] at H72k
        rw [hfn] at H72n
        have HY2 := Lib.hid hy2
        have HG := Lib.hid hgd
        have HD := Lib.hid hdp
        have HFK := Lib.hid hfk
        have HFN := Lib.hid hfn
        have HK := Lib.hid hk
        have HN := Lib.hid hn
        have F1 := Lib.hid H72k
        have F2 := Lib.hid H72n
        have E := Lib.hid e
        clear hgd hdp hk hn hy2 e H72k H72n hfk hfn
        have hmf : ∀ (fn : Fn) (first cap : Array Value) (w : World), (Instr.makeFunc fn first cap).run Try.prog w = .ok (.func fn first cap) w := fun _ _ _ _ => rfl
        go_enter Try.func24, Try.ntmps24
        go_wp2_with fail
        rw [← HW.out]
        refine HCON.out.mono ?_
        rintro e w1 ⟨rfl, hb⟩
        have hsW := HSW.out
        obtain ⟨v0, v1, v2, -, -⟩ := three ((hb.block _ (by omega)).trans B0.out)
        have hb1 := HB0.out.trans (hb.mono HB0.out.size)
        have HBW := Lib.hid hb
        have HB1 := Lib.hid hb1
        clear hb hb1 hsW
        go_wp2_with fail
        refine (F1.out _).mono ?_
        rintro e w' ⟨rfl, rfl⟩
        go_wp2_with fail
        refine (F2.out _).mono ?_
        rintro e w' ⟨rfl, rfl⟩
        go_wp2_with fail
        have hsW := HSW.out
        have hsw1 := HBW.out.size
        have hwk := Move_w k (by have := HK.out; omega) (dep t) _ t n w1 (RdN.keep (P := (· < w.heap.size)) (w' := w1) (fun b hb' => by omega) (fun b hb' => HB1.out.block b hb') _ _ _ HF.out) HG.out HN.out.1 (by have := HD.out; have := HN.out; omega)
        refine hwk.mono ?_
        rintro e w2 ⟨k3, n3, ao3, m3, c3, rfl, hb2, hr2⟩
        obtain ⟨z0, z1, z2, zf, hz⟩ := three ((hb2.block _ (by omega)).trans ((HBW.out.block _ (by omega)).trans B3.out))
        have hb3 := HB1.out.trans (hb2.mono HB1.out.size)
        have HR2 := Lib.hid hr2
        have HB3 := Lib.hid hb3
        have HS2 := Lib.hid hb2.size
        have HZ := Lib.hid hz
        have HSW1 := Lib.hid hsw1
        clear hb2 hr2 hb3 hwk hsw1 hsW hz
        go_wp2_with fail
        have hbA : Below w2.heap.size w2 (w2.alloc (.cells #[.int .i64 k3, .int .i64 n3, .slice ao3 m3 c3] 24)) := (Below.refl _ _).alloc (Nat.le_refl _) _
        have hrA : Rd (· < (w2.alloc (.cells #[.int .i64 k3, .int .i64 n3, .slice ao3 m3 c3] 24)).heap.size) (w2.alloc (.cells #[.int .i64 k3, .int .i64 n3, .slice ao3 m3 c3] 24)) (.agg #[.int .i64 k3, .int .i64 n3, .slice ao3 m3 c3]) (mp (Fmv k) t n) :=
          HR2.out.keep (fun b hb => Nat.lt_of_lt_of_le hb.2 hbA.size) fun b hb => hbA.block b hb.2
        obtain ⟨d3, hrA⟩ := hrA
        have hc3 := refShaped_w d3 _ _ _ hrA
        rw [← HY2.out] at hc3
        refine hc3.mono ?_
        rintro e w3 ⟨rfl, hb4⟩
        have hlt2 : w2.heap.size < (w2.alloc (.cells #[.int .i64 k3, .int .i64 n3, .slice ao3 m3 c3] 24)).heap.size := by rw [World.size_alloc]; omega
        obtain ⟨o0, o1, o2, -, -⟩ := three ((hb4.block _ hlt2).trans (heap_new w2 _ _ rfl))
        have hk24 : ∀ b, b < w2.heap.size → w3.heap[b]? = w2.heap[b]? := fun b hb => (hb4.block b (by omega)).trans (hbA.block b hb)
        have hz := HZ.out
        have hsz3 : w2.heap.size ≤ w3.heap.size := Nat.le_trans hbA.size hb4.size
        have z0' := (cell_keep (a := ⟨w.heap.size + 1, 0, none⟩) (hk24 _ hz)).trans z0
        have z1' := (cell_keep (a := ⟨w.heap.size + 1, 1, none⟩) (hk24 _ hz)).trans z1
        have z2' := (cell_keep (a := ⟨w.heap.size + 1, 2, none⟩) (hk24 _ hz)).trans z2
        have zf' : ∀ j, w3.frozen? ⟨w.heap.size + 1, j, none⟩ = false := fun j => (World.frozen?_of_block (hk24 _ hz)).trans (zf j)
        have hb5 : Below w.heap.size w w3 := HB3.out.trans ((hbA.mono (by have := HB3.out.size; omega)).trans (hb4.mono (by have := HB3.out.size; omega)))
        have hr5 : ∀ a b c, Rd (Fr w (((w3.setCell ⟨w.heap.size + 1, 0, none⟩ a).setCell ⟨w.heap.size + 1, 1, none⟩ b).setCell ⟨w.heap.size + 1, 2, none⟩ c)) (((w3.setCell ⟨w.heap.size + 1, 0, none⟩ a).setCell ⟨w.heap.size + 1, 1, none⟩ b).setCell ⟨w.heap.size + 1, 2, none⟩ c) (.agg #[.int .i64 k3, .int .i64 n3, .slice ao3 m3 c3]) (mp (Fmv k) t n) := fun a b c =>
          HR2.out.keep (fun q hq => ⟨by have := HB1.out.size; have := hq.1; omega, by have := hq.2; simp [World.setCell]; omega⟩) fun q hq => by
            have h1 := HSW1.out
            have h2 := HSW.out
            have h3 := hq.1
            rw [Below.heap_setCell _ _ _ _ (by show q ≠ w.heap.size + 1; omega), Below.heap_setCell _ _ _ _ (by show q ≠ w.heap.size + 1; omega), Below.heap_setCell _ _ _ _ (by show q ≠ w.heap.size + 1; omega)]
            exact hk24 q hq.2
        have HR5 := Lib.hid hr5
        have HB5 := Lib.hid hb5
        clear hr5 hb5 hk24 hb4 hc3 hbA hrA z0 z1 z2 zf hz hsz3 hlt2
        cases y2
        · have e1 : (rt, rc) = (tm0, 2) := by rw [← RES.out, E.out]; rfl
          injection e1 with e1 e2
          subst e1; subst e2
          go_wp2_with fail
          exact bodyPost_ret (v := .tuple #[.agg #[.int .i64 0, .int .i64 0, .slice none 0 0], .int .i64 2]) (by simp [results, Try.results24, go_sem, z0', z1', z2']) rfl
            ⟨_, _, _, _, _, rfl, ((HB5.out.setCell (by simp) _).setCell (by simp) _).setCell (by simp) _, Rd.zero _ _⟩
        · have e1 : (rt, rc) = (mp (Fmv k) t n, 0) := by rw [← RES.out, E.out]; rfl
          injection e1 with e1 e2
          subst e1; subst e2
          go_wp2_with fail
          exact bodyPost_ret (v := .tuple #[.agg #[.int .i64 k3, .int .i64 n3, .slice ao3 m3 c3], .int .i64 0]) (by simp [results, Try.results24, go_sem, z0', z1', z2']) rfl
            ⟨_, _, _, _, _, rfl, ((HB5.out.setCell (by simp) _).setCell (by simp) _).setCell (by simp) _, HR5.out _ _ _⟩
      · have e : liftR t k n = (tm0, 5) := by unfold liftR; simp [hfn]
        rw [RES.out] at e
        injection e with e1 e2
        subst e1; subst e2
        have H72k := fits75_w k
        have H72n := fits75_w n
        rw [hfk] at H72k
        rw [Bool.eq_false_iff.mpr hfn] at H72n
        have F1 := Lib.hid H72k
        have F2 := Lib.hid H72n
        clear H72k H72n hfk hfn
        go_enter Try.func24, Try.ntmps24
        go_wp2_with fail
        rw [← HW.out]
        refine HCON.out.mono ?_
        rintro e w1 ⟨rfl, hb⟩
        have hsW := HSW.out
        obtain ⟨z0, z1, z2, zf, hz⟩ := three ((hb.block _ (by omega)).trans B3.out)
        have hb1 := HB0.out.trans (hb.mono HB0.out.size)
        have HB1 := Lib.hid hb1
        clear hb hb1 hsW
        go_wp2_with fail
        refine (F1.out _).mono ?_
        rintro e w' ⟨rfl, rfl⟩
        go_wp2_with fail
        refine (F2.out _).mono ?_
        rintro e w' ⟨rfl, rfl⟩
        go_wp2_with fail
        exact bodyPost_ret (v := .tuple #[.agg #[.int .i64 0, .int .i64 0, .slice none 0 0], .int .i64 5]) (by simp [results, Try.results24, go_sem, z0, z1, z2]) rfl
          ⟨_, _, _, _, _, rfl, ((HB1.out.setCell (by simp) _).setCell (by simp) _).setCell (by simp) _, Rd.zero _ _⟩
    · have e : liftR t k n = (tm0, 5) := by unfold liftR; simp [hfk]
      rw [RES.out] at e
      injection e with e1 e2
      subst e1; subst e2
      have H72k := fits75_w k
      rw [Bool.eq_false_iff.mpr hfk] at H72k
      have F1 := Lib.hid H72k
      clear H72k hfk
      go_enter Try.func24, Try.ntmps24
      go_wp2_with fail
      rw [← HW.out]
      refine HCON.out.mono ?_
      rintro e w1 ⟨rfl, hb⟩
      have hsW := HSW.out
      obtain ⟨z0, z1, z2, zf, hz⟩ := three ((hb.block _ (by omega)).trans B3.out)
      have hb1 := HB0.out.trans (hb.mono HB0.out.size)
      have HB1 := Lib.hid hb1
      clear hb hb1 hsW
      go_wp2_with fail
      refine (F1.out _).mono ?_
      rintro e w' ⟨rfl, rfl⟩
      go_wp2_with fail
      exact bodyPost_ret (v := .tuple #[.agg #[.int .i64 0, .int .i64 0, .slice none 0 0], .int .i64 5]) (by simp [results, Try.results24, go_sem, z0, z1, z2]) rfl
        ⟨_, _, _, _, _, rfl, ((HB1.out.setCell (by simp) _).setCell (by simp) _).setCell (by simp) _, Rd.zero _ _⟩
end Go.Proofs.Ythjlfjaciigfiaa
