/-
  size.Ends, Bad, Check; slices.IndexFunc, ContainsFunc at them: contracts.
-/
import Derived.Test.YtfcmkhjimgpppaaIns
import Derived.Test.YtfcmkhjimgpppaaLawN
namespace Go.Proofs.Ytfcmkhjimgpppaa
open Go.RowKit Go.Maps
set_option linter.unusedVariables false
set_option linter.unusedSimpArgs false

/-- is a matrix bad: idempotent, and does not fall -/
def badB (m : Mx) : Bool := decide (prod m m = m) && !fallsB m m.length
/-- the place of the first bad one -/
def badAt (l : List Mx) : Option Nat := l.findIdx? badB
/-- a function that tells the bad ones -/
structure OfB (F : Nat) : Prop where
  call : ∀ v m w, MatR (· < w.heap.size) w v m → right m = true → Calls Try.prog F (#[v] ++ #[]) w fun e w' => e = .returned (.bool (badB m)) ∧ Below w.heap.size w w'
  enter : ∀ args w, (callFunc F args).run Try.prog w = .ok (.enter F args) w

theorem bad49 (v : Value) (m : Mx) (w : World) (h : MatR (· < w.heap.size) w v m) (hr : right m = true) : Calls Try.prog 49 #[v] w fun e w' => e = .returned (.bool (badB m)) ∧ Below w.heap.size w w' := by
  have ki := Idem_w v m w h hr
  have H := Lib.hid h
  have HR := Lib.hid hr
  obtain ⟨a, c, hv⟩ := h.shape
  subst hv
  obtain ⟨y, hy⟩ : ∃ y, y = badB m := ⟨_, rfl⟩
  rw [← hy]
  unfold badB at hy
  obtain ⟨x, hx⟩ : ∃ x, x = decide (prod m m = m) := ⟨_, rfl⟩
  rw [← hx] at ki hy
  have KI := Lib.hid ki
  have HY := Lib.hid hy
  clear ki h hr hy hx
  cases x
  · go_enter Try.func49, Try.ntmps49
    go_wp2_with fail
    refine KI.out.mono ?_
    rintro e w1 ⟨rfl, hb⟩
    go_wp2_with fail
    go_ret
    exact ⟨by rw [HY.out]; rfl, hb⟩
  · go_enter Try.func49, Try.ntmps49
    go_wp2_with fail
    refine KI.out.mono ?_
    rintro e w1 ⟨rfl, hb⟩
    have kf := Falls_w _ m w1 (MatR.on H.out hb) HR.out
    obtain ⟨f, hf⟩ : ∃ f, f = fallsB m m.length := ⟨_, rfl⟩
    rw [← hf] at kf
    have KF := Lib.hid kf
    have HB := Lib.hid hb
    have HY2 := Lib.hid (show y = !f by rw [HY.out, hf]; rfl)
    clear kf hb hf
    go_wp2_with fail
    refine KF.out.mono ?_
    rintro e w' ⟨rfl, rfl⟩
    go_wp2_with fail
    go_ret
    exact ⟨by rw [HY2.out]; rfl, HB.out⟩
theorem bad51 (v : Value) (m : Mx) (w : World) (h : MatR (· < w.heap.size) w v m) (hr : right m = true) : Calls Try.prog 51 #[v] w fun e w' => e = .returned (.bool (badB m)) ∧ Below w.heap.size w w' := by
  have ki := Idem_w v m w h hr
  have H := Lib.hid h
  have HR := Lib.hid hr
  obtain ⟨a, c, hv⟩ := h.shape
  subst hv
  obtain ⟨y, hy⟩ : ∃ y, y = badB m := ⟨_, rfl⟩
  rw [← hy]
  unfold badB at hy
  obtain ⟨x, hx⟩ : ∃ x, x = decide (prod m m = m) := ⟨_, rfl⟩
  rw [← hx] at ki hy
  have KI := Lib.hid ki
  have HY := Lib.hid hy
  clear ki h hr hy hx
  cases x
  · go_enter Try.func51, Try.ntmps51
    go_wp2_with fail
    refine KI.out.mono ?_
    rintro e w1 ⟨rfl, hb⟩
    go_wp2_with fail
    go_ret
    exact ⟨by rw [HY.out]; rfl, hb⟩
  · go_enter Try.func51, Try.ntmps51
    go_wp2_with fail
    refine KI.out.mono ?_
    rintro e w1 ⟨rfl, hb⟩
    have kf := Falls_w _ m w1 (MatR.on H.out hb) HR.out
    obtain ⟨f, hf⟩ : ∃ f, f = fallsB m m.length := ⟨_, rfl⟩
    rw [← hf] at kf
    have KF := Lib.hid kf
    have HB := Lib.hid hb
    have HY2 := Lib.hid (show y = !f by rw [HY.out, hf]; rfl)
    clear kf hb hf
    go_wp2_with fail
    refine KF.out.mono ?_
    rintro e w' ⟨rfl, rfl⟩
    go_wp2_with fail
    go_ret
    exact ⟨by rw [HY2.out]; rfl, HB.out⟩
theorem ofB49 : OfB 49 := ⟨fun v m w h hr => bad49 v m w h hr, fun args w => by kernel_rfl⟩
theorem ofB51 : OfB 51 := ⟨fun v m w h hr => bad51 v m w h hr, fun args w => by kernel_rfl⟩

def idx (l : List Mx) : Int := match badAt l with | some i => (i : Int) | none => -1
theorem badAt_some {l : List Mx} {k : Nat} (hk : k < l.length) (hb : badB (l.getD k []) = true) (hall : ∀ k', k' < k → badB (l.getD k' []) = false) : badAt l = some k := by
  unfold badAt
  rw [List.findIdx?_eq_some_iff_getElem]
  refine ⟨hk, ?_, fun j hj => ?_⟩
  · rw [List.getD_eq_getElem?_getD, List.getElem?_eq_getElem hk] at hb; exact hb
  · have := hall j hj
    rw [List.getD_eq_getElem?_getD, List.getElem?_eq_getElem (by omega)] at this
    simpa using this
theorem badAt_none {l : List Mx} (hall : ∀ k', k' < l.length → badB (l.getD k' []) = false) : badAt l = none := by
  unfold badAt
  rw [List.findIdx?_eq_none_iff]
  intro x hx
  obtain ⟨i, hi, rfl⟩ := mem_getD hx
  exact hall i hi
theorem badAt_lt {l : List Mx} {k : Nat} (h : badAt l = some k) : k < l.length := by
  unfold badAt at h
  exact (List.findIdx?_eq_some_iff_getElem.1 h).1
set_option maxRecDepth 100000 in
set_option maxHeartbeats 2000000 in
theorem IndexFunc_w {F : Nat} (hF : OfB F) (va : Value) (l : List Mx) (w : World) (h : MatsR (· < w.heap.size) w va l) (hr : ∀ m ∈ l, right m = true) :
    Calls Try.prog 50 #[va, .func (.func F) #[] #[]] w fun e w' => e = .returned (.int .i64 (idx l)) ∧ Below w.heap.size w w' := by
  obtain ⟨ao, cap, rfl, hlm, he⟩ := h.get
  have HE := Lib.hid he
  have HF := Lib.hid hF
  have hen := hF.enter
  have HR := Lib.hid hr
  have HST := Lib.hid (Below.refl w.heap.size w)
  clear h he hF hr
  obtain ⟨y, hy⟩ : ∃ y, y = idx l := ⟨_, rfl⟩
  rw [← hy]
  have HY := Lib.hid hy
  clear hy
  go_enter Try.func50, Try.ntmps50
  go_wp2_with fail
  go_loopw [8] (fun i wr => ∃ k : Nat, i = .int .i64 k ∧ k ≤ l.length ∧ Below w.heap.size w wr ∧ ∀ k', k' < k → badB (l.getD k' []) = false) (fun i _ => l.length - (intOf i).toNat)
  case atStart => exact ⟨0, rfl, Nat.zero_le _, HST.out, fun _ h => absurd h (Nat.not_lt_zero _)⟩
  case round =>
    obtain ⟨k, rfl, hk, hB, hall⟩ := hrel
    obtain ⟨w1, rfl⟩ : ∃ x : World, x = wr := ⟨_, rfl⟩
    have HALL := Lib.hid hall
    have HB := Lib.hid hB
    clear hall hB HST
    by_cases hlt : k < l.length
    · obtain ⟨b, off, a1, c1, rfl, hb, hc, hm⟩ := HE.out k hlt
      have e1 := (HB.out.cell (p := ⟨b, off + k, none⟩) hb).trans hc
      have kc := HF.out.call _ _ w1 (hm.keep (w' := w1) (P' := (· < w1.heap.size)) (fun q hq => Nat.lt_of_lt_of_le hq HB.out.size) fun q hq => HB.out.block q hq) (HR.out _ (getD_mem hlt))
      obtain ⟨m, hm'⟩ : ∃ m, m = l.getD k [] := ⟨_, rfl⟩
      rw [← hm'] at kc e1
      obtain ⟨ml, hml⟩ : ∃ n, n = m.length := ⟨_, rfl⟩
      obtain ⟨x, hx⟩ : ∃ x, x = badB m := ⟨_, rfl⟩
      rw [← hml] at e1 kc
      rw [← hx] at kc
      have HM := Lib.hid hm'
      have HX := Lib.hid hx
      have KC := Lib.hid kc
      clear hm' hx kc hm hc hml
      cases x
      · go_wp2_with fail
        refine KC.out.mono ?_
        rintro e w2 ⟨rfl, hb2⟩
        go_wp2_with fail
        go_roundw
        case rel => exact ⟨k + 1, by go_num, by omega, HB.out.trans (hb2.mono HB.out.size), fun k' h' => by
          by_cases hkk : k' = k
          · subst hkk; rw [← HM.out, ← HX.out]
          · exact HALL.out k' (by omega)⟩
        case measure => simp [intOf]; omega
      · go_wp2_with fail
        refine KC.out.mono ?_
        rintro e w2 ⟨rfl, hb2⟩
        go_wp2_with fail
        go_ret
        refine ⟨?_, HB.out.trans (hb2.mono HB.out.size)⟩
        have : y = (k : Int) := by
          rw [HY.out]; unfold idx
          rw [badAt_some hlt (by rw [← HM.out, ← HX.out]) HALL.out]
        rw [this]; rfl
    · have hkl : k = l.length := by omega
      go_wp2_with fail
      go_ret
      refine ⟨?_, HB.out⟩
      have : y = -1 := by
        rw [HY.out]; unfold idx
        rw [badAt_none fun k' h' => HALL.out k' (by omega)]
      rw [this]; rfl
theorem ContainsFunc_w {F : Nat} (hF : OfB F) (va : Value) (l : List Mx) (w : World) (h : MatsR (· < w.heap.size) w va l) (hr : ∀ m ∈ l, right m = true) :
    Calls Try.prog 48 #[va, .func (.func F) #[] #[]] w fun e w' => e = .returned (.bool (decide (0 ≤ idx l))) ∧ Below w.heap.size w w' := by
  have ki := IndexFunc_w hF va l w h hr
  obtain ⟨ao, cap, rfl⟩ : ∃ ao cap, va = .slice ao l.length cap := by obtain ⟨ao, cap, hv, -⟩ := h.get; exact ⟨ao, cap, hv⟩
  obtain ⟨y, hy⟩ : ∃ y, y = idx l := ⟨_, rfl⟩
  rw [← hy] at ki ⊢
  have KI := Lib.hid ki
  clear ki h hr hF hy
  go_enter Try.func48, Try.ntmps48
  go_wp2_with fail
  refine KI.out.mono ?_
  rintro e w2 ⟨rfl, hb2⟩
  go_wp2_with fail
  go_ret
  exact ⟨rfl, hb2⟩

/-- what Ends tells -/
def endsR (l : List Mx) : Bool × Int := if rightsB l then (match closure l with | none => (false, 2) | some r => ((badAt r).isNone, 0)) else (false, 5)
theorem idx_neg {l : List Mx} : decide (0 ≤ idx l) = (badAt l).isSome := by
  unfold idx
  cases badAt l with
  | none => rfl
  | some i => simp
theorem Ends_w (va : Value) (l : List Mx) (w : World) (h : MatsR (· < w.heap.size) w va l) (hl : l.length ≤ 256) :
    Calls Try.prog 35 #[va] w fun e w' => e = .returned (.tuple #[.bool (endsR l).1, .int .i64 (endsR l).2]) ∧ Below w.heap.size w w' := by
  have kn := Closure_no va l w h
  have kc := Closure_w va l w h
  obtain ⟨x, y, hxy⟩ : ∃ x y, endsR l = (x, y) := ⟨_, _, rfl⟩
  rw [hxy]
  unfold endsR at hxy
  obtain ⟨ao, cap, rfl⟩ : ∃ ao cap, va = .slice ao l.length cap := by obtain ⟨ao, cap, hv, -⟩ := h.get; exact ⟨ao, cap, hv⟩
  clear h
  cases hrb : rightsB l
  · rw [hrb] at hxy
    simp only [Bool.false_eq_true, ↓reduceIte, Prod.mk.injEq] at hxy
    obtain ⟨rfl, rfl⟩ := hxy
    have KN := Lib.hid (kn hrb)
    clear kn kc hrb
    go_enter Try.func35, Try.ntmps35
    go_wp2_with fail
    refine KN.out.mono ?_
    rintro e w2 ⟨rfl, rfl⟩
    go_wp2_with fail
    go_ret2
    exact ⟨rfl, Below.refl _ _⟩
  · rw [hrb] at hxy
    simp only [↓reduceIte] at hxy
    have kc := kc hrb hl
    cases ho : closure l with
    | none =>
      rw [ho] at hxy kc
      simp only [Prod.mk.injEq] at hxy
      obtain ⟨rfl, rfl⟩ := hxy
      have KC := Lib.hid kc
      clear kn kc hrb ho
      go_enter Try.func35, Try.ntmps35
      go_wp2_with fail
      refine KC.out.mono ?_
      rintro e w2 ⟨hb2, rfl⟩
      go_wp2_with fail
      go_ret2
      exact ⟨rfl, hb2⟩
    | some r =>
      rw [ho] at hxy kc
      simp only [Prod.mk.injEq] at hxy
      obtain ⟨hx, rfl⟩ := hxy
      have hok := closure_ok ho hl (rightsB_sqs hrb)
      have KC := Lib.hid kc
      have HOK := Lib.hid hok
      have HX := Lib.hid hx
      clear kn kc hrb ho hok hx
      go_enter Try.func35, Try.ntmps35
      go_wp2_with fail
      refine KC.out.mono ?_
      rintro e w2 ⟨hb2, v, rfl, hr⟩
      have kf := ContainsFunc_w ofB49 v r w2 hr fun m hm => (HOK.out.1 m hm).1
      rw [idx_neg] at kf
      obtain ⟨s, hs⟩ : ∃ s, s = (badAt r).isSome := ⟨_, rfl⟩
      rw [← hs] at kf
      have hxs : x = !s := by rw [hs, ← HX.out]; cases badAt r <;> rfl
      have KF := Lib.hid kf
      have HB2 := Lib.hid hb2
      have HXS := Lib.hid hxs
      obtain ⟨ar, cr, rfl⟩ : ∃ ao cap, v = .slice ao r.length cap := by obtain ⟨ao, cap, hv, -⟩ := hr.get; exact ⟨ao, cap, hv⟩
      clear kf hb2 hr hs hxs
      go_wp2_with fail
      refine KF.out.mono ?_
      rintro e w3 ⟨rfl, hb3⟩
      go_wp2_with fail
      go_ret2
      exact ⟨by rw [HXS.out]; rfl, HB2.out.trans (hb3.mono HB2.out.size)⟩
theorem Check_w (va : Value) (l : List Mx) (w : World) (h : MatsR (· < w.heap.size) w va l) (hl : l.length ≤ 256) :
    Calls Try.prog 36 #[va] w fun e w' => e = .returned (.int .i64 (if (endsR l).2 = 0 ∧ (endsR l).1 = false then 14 else (endsR l).2)) ∧ Below w.heap.size w w' := by
  have ke := Ends_w va l w h hl
  obtain ⟨x, y, hxy⟩ : ∃ x y, endsR l = (x, y) := ⟨_, _, rfl⟩
  rw [hxy] at ke ⊢
  simp only at ke ⊢
  have hy : y = 0 ∨ y = 2 ∨ y = 5 := by
    unfold endsR at hxy
    split at hxy
    · split at hxy <;> (injection hxy with _ hxy; omega)
    · injection hxy with _ hxy; omega
  obtain ⟨ao, cap, rfl⟩ : ∃ ao cap, va = .slice ao l.length cap := by obtain ⟨ao, cap, hv, -⟩ := h.get; exact ⟨ao, cap, hv⟩
  have KE := Lib.hid ke
  clear ke h hxy
  rcases hy with rfl | rfl | rfl
  · cases x
    · go_enter Try.func36, Try.ntmps36
      go_wp2_with fail
      refine KE.out.mono ?_
      rintro e w2 ⟨rfl, hb⟩
      go_wp2_with fail
      go_ret
      exact ⟨rfl, hb⟩
    · go_enter Try.func36, Try.ntmps36
      go_wp2_with fail
      refine KE.out.mono ?_
      rintro e w2 ⟨rfl, hb⟩
      go_wp2_with fail
      go_ret
      exact ⟨rfl, hb⟩
  · go_enter Try.func36, Try.ntmps36
    go_wp2_with fail
    refine KE.out.mono ?_
    rintro e w2 ⟨rfl, hb⟩
    go_wp2_with fail
    go_ret
    exact ⟨rfl, hb⟩
  · go_enter Try.func36, Try.ntmps36
    go_wp2_with fail
    refine KE.out.mono ?_
    rintro e w2 ⟨rfl, hb⟩
    go_wp2_with fail
    go_ret
    exact ⟨rfl, hb⟩
end Go.Proofs.Ytfcmkhjimgpppaa
