/-
  LiftAlls: the walk: it returns true and writes nothing that was there. No condition but that the argument reads as terms (which take no more memory than there is).
-/
import Derived.Test.YthjlfjaciigfiaaSpoil
import Derived.Test.YthjlfjaciigfiaaLists
import Derived.Test.YthjlfjaciigfiaaSames
namespace Go.Proofs.Ythjlfjaciigfiaa
open Go.RowKit
set_option linter.unusedVariables false
set_option linter.unusedSimpArgs false

/-- a tree appended to a list of the call's own -/
theorem run_tree {base : Nat} {W w3 : World} {v : Value} {L : List (Tm × Nat × Nat)} {k n : Int} {ao : Option Addr} {m c : Nat} {x : Tm} (ty : TypeId) (h : MadeG 3 24 TrC (base ≤ ·) base W v L) (hb : Below W.heap.size W w3) (hlen : L.length + 1 ≤ 1000000)
    (hbase : base ≤ W.heap.size) (hx : TrN w3 (dep x) (Fr W w3) (.agg #[.int .i64 k, .int .i64 n, .slice ao m c]) x) :
    ∃ ao2 c2 w', (Builtin.append_ #[22, 22] ty #[v, .slice (some ⟨w3.heap.size, 0, none⟩) 1 1]).run Try.prog (w3.alloc (.cells #[.int .i64 k, .int .i64 n, .slice ao m c] 24)) = .ok (.slice ao2 (L.length + 1) c2) w' ∧
      MadeG 3 24 TrC (base ≤ ·) base w' (.slice ao2 (L.length + 1) c2) (L ++ [(x, W.heap.size, w3.heap.size)]) ∧ Below base w3 w' := by
  obtain ⟨i24, hi24, hy1, hy2, hy3⟩ := info_parts info24
  obtain ⟨css, q1, q2, q3⟩ := h
  obtain ⟨g, cap, w', hr, h2, h3, h4, -⟩ := run_append_lies (P := Try.prog) (w3.alloc (.cells #[.int .i64 k, .int .i64 n, .slice ao m c] 24)) 22 ty base 24 i24 _ 3 40 Try.underlying22 hi24 hy1 hy2 hy3 rfl (by omega) v L.length css.flatten
    ((q1.kept (grown_of_below hb) (by cases v.ownBlock <;> simp)).alloc _) ⟨w3.heap.size, 0, none⟩ 1 1 [.int .i64 k, .int .i64 n, .slice ao m c] rfl (World.news_of_block (cs := #[.int .i64 k, .int .i64 n, .slice ao m c]) (t := 24) (fr := (0, 0)) (heap_alloc_new w3 _)) (one3 k n ao m c) (by omega) (by unfold maxLen; omega) (by omega) (by rw [World.size_alloc]; have := hb.size; omega) _ rfl
  have ha : AppG base 24 3 (w3.alloc (.cells #[.int .i64 k, .int .i64 n, .slice ao m c] 24)) w' v (.slice (some ⟨g, 0, none⟩) (L.length + 1) cap) (L.length + 1) (css.flatten ++ [.int .i64 k, .int .i64 n, .slice ao m c]) := AppG.of_lies rfl h2 h3 h4
  refine ⟨_, cap, w', hr, MadeG.app_tr q1 q2 q3 (fun b hb' => by show base ≤ b; omega) hb hx ha, ?_⟩
  have hal : Below base w3 (w3.alloc (.cells #[.int .i64 k, .int .i64 n, .slice ao m c] 24)) := (Below.refl _ _).alloc (by have := hb.size; omega) _
  exact hal.trans (ha.below (by rw [World.size_alloc]; have := hb.size; omega) fun q hq => (q1.lt _ hq).1)
theorem MadeG.tr_terms {F : Nat → Prop} {base : Nat} {w : World} {v : Value} {L : List (Tm × Nat × Nat)} (h : MadeG 3 24 TrC F base w v L) : Ts (· < w.heap.size) w v (L.map (·.1)) := by
  obtain ⟨ao, cap, hv, h1, h2, h3⟩ := h.cells (by omega)
  refine ⟨ao, cap, by rw [List.length_map]; exact hv, by rw [List.length_map]; exact h1, h2, fun i hi => ?_⟩
  obtain ⟨g, cs, r1, r2, r3, r4, r5, r6, k, n, ao2, m, c, rfl, r7⟩ := h3 i (by rw [List.length_map] at hi; exact hi)
  have e0 := r6 0 _ rfl
  have e1 := r6 1 _ rfl
  have e2 := r6 2 _ rfl
  refine ⟨g, 0, _, _, _, r1, r4, by rw [Nat.zero_add]; exact e0, by rw [Nat.zero_add]; exact e1, by rw [Nat.zero_add]; exact e2, ?_⟩
  rw [List.getElem_map]
  exact ⟨_, RdN.keep (fun b hb => hb.1.2.1) (fun _ _ => rfl) _ _ _ r7.rd⟩

set_option maxRecDepth 100000 in
set_option maxHeartbeats 300000 in
theorem liftAlls_walk (v : Value) (l : List Tm) (k n : Int) (w : World) (h : Ts (· < w.heap.size) w v l) (hth : thinL l = true) :
    Calls Try.prog 5 #[v, .int .i64 k, .int .i64 n] w fun e w' => e = .returned (.bool true) ∧ Below w.heap.size w w' := by
  obtain ⟨aol, capl, rfl, hlc, hlc2, he⟩ := h.elem
  have HE := Lib.hid he
  have HTH := Lib.hid (fun i (hi : i < l.length) => thinL_get hth i hi)
  clear h he hth
  by_cases h50 : 50 < l.length
  · go_enter Try.func5, Try.ntmps5
    go_wp2_with fail
    refine (awake27_w _).mono ?_
    rintro e w9 ⟨rfl, hb9⟩
    go_wp2_with fail
    go_ret
    exact ⟨rfl, hb9⟩
  have h50b : decide ((50 : Int) < (l.length : Int)) = false := by simp; omega
  obtain ⟨res, cd0, hres⟩ : ∃ a c, allR (fun t => liftR t k n) l = (a, c) := ⟨_, _, rfl⟩
  have HRES := Lib.hid hres
  have hl50 : l.length ≤ 50 := by omega
  have HMD0 := Lib.hid (show Lst w.heap.size (w.alloc (.cells #[] 24)) (.slice (some ⟨w.heap.size, 0, none⟩) 0 0) [] from MadeG.empty _ _ _ _ _ w (Nat.le_refl _))
  have HB0 := Lib.hid (alloc_bel w (.cells #[] 24))
  clear hres
  go_enter Try.func5, Try.ntmps5
  go_wp2_with fail
  go_loopw [7, 8, 9] (fun vs cv iv wr => ∃ (j : Nat) (cd : Int) (ws : List Tm), iv = .int .i64 j ∧ cv = .int .i64 cd ∧ j ≤ l.length ∧ ws.length = j ∧ Lst w.heap.size wr vs ws ∧ Below w.heap.size w wr ∧ (cd = 0 → ws = (l.take j).map (fun t => ((fun t => liftR t k n) t).1) ∧ firstErr (fun t => liftR t k n) (l.drop j) = firstErr (fun t => liftR t k n) l) ∧ (cd ≠ 0 → firstErr (fun t => liftR t k n) l = cd)) (fun _ _ iv _ => l.length - (intOf iv).toNat)
  case atStart => exact ⟨0, 0, [], rfl, rfl, Nat.zero_le _, rfl, HMD0.out, HB0.out, fun _ => ⟨rfl, rfl⟩, fun h => absurd rfl h⟩
  case round =>
    obtain ⟨j, cd, ws, rfl, rfl, hj, hwl, hL, hb, hz, hnz⟩ := hrel
    obtain ⟨w1, rfl⟩ : ∃ x : World, x = wr := ⟨_, rfl⟩
    have HL := Lib.hid hL
    have HB := Lib.hid hb
    have HZ := Lib.hid hz
    have HWL := Lib.hid hwl
    have HNZ := Lib.hid hnz
    obtain ⟨ao0, c0, rfl⟩ := hL.shape
    clear hL hb hz hnz HMD0 HB0 hwl
    by_cases hgo : j < l.length ∧ cd = 0
    · obtain ⟨hjl, rfl⟩ := hgo
      obtain ⟨b, off, k2, n2, ao2, m2, cap2, rfl, hP, h0, h1, h2, hrd⟩ := HE.out j hjl
      have e0 := (HB.out.cell (p := ⟨b, off + j * 3, none⟩) hP).trans h0
      have e1 := (HB.out.cell (p := ⟨b, off + j * 3 + 1, none⟩) hP).trans h1
      have e2 := (HB.out.cell (p := ⟨b, off + j * 3 + 2, none⟩) hP).trans h2
      have hbw : b < w1.heap.size := Nat.lt_of_lt_of_le hP HB.out.size
      have hji : (j : Int) < (l.length : Int) := by omega
      have hj0 : (0 : Int) ≤ (j : Int) := Int.natCast_nonneg _
      obtain ⟨x, c, hx⟩ : ∃ x c, (fun t => liftR t k n) l[j] = (x, c) := ⟨_, _, rfl⟩
      have HX := Lib.hid hx
      have hcon := refLift_q (t := l[j]) HX.out (hrd.keep (P' := (· < w1.heap.size)) (w' := w1) (fun q hq => Nat.lt_of_lt_of_le hq HB.out.size) fun q hq => HB.out.block q hq)
      have HCON := Lib.hid hcon
      have hsw : w.heap.size ≤ w1.heap.size := HB.out.size
      have HD := Lib.hid (firstErr_drop (fun t => liftR t k n) l j hjl)
      have HMT := Lib.hid (map_take (fun t => liftR t k n) l j hjl)
      clear h0 h1 h2 hcon hrd hx
      go_wp2_with fail
      refine HCON.out.mono ?_
      rintro e w3 ⟨k3, n3, ao3, m3, c3, rfl, hb3, hr3⟩
      obtain ⟨hb4, B4, -, hl4⟩ := boxed hb3 hr3
      have hal := alloc_bel w3 (.cells #[.int .i64 k3, .int .i64 n3, .slice ao3 m3 c3] 24)
      have hown := HL.out.block
      have hrx := Rd.keep (P' := fun q => w.heap.size ≤ q ∧ q < (w3.alloc (.cells #[.int .i64 k3, .int .i64 n3, .slice ao3 m3 c3] 24)).heap.size ∧ (Value.slice ao0 ws.length c0).ownBlock ≠ some q) (w' := w3.alloc (.cells #[.int .i64 k3, .int .i64 n3, .slice ao3 m3 c3] 24)) hr3 (fun q hq => ⟨by have h1 := hq.1; omega, Nat.lt_of_lt_of_le hq.2 hal.size, fun e => by have := (hown q e).2; have := hq.1; omega⟩) fun q hq => hal.block q hq.2
      obtain ⟨a6, c6, w6, hr6, hL6, hk6, hb6⟩ := run_one 22 HL.out hb4 (by have := HWL.out; omega) hsw hrx
      obtain ⟨q0, q1, q2, -, -⟩ := three B4
      generalize hLn : ws.length + 1 = Ln at hr6 hL6
      simp only [World.size_alloc] at hr6
      have HR6 := Lib.hid hr6
      have HL6 := Lib.hid hL6
      have HLN := Lib.hid hLn
      have HB6 := Lib.hid (HB.out.trans ((hb4.mono hsw).trans hb6))
      clear hb3 hr3 hb4 hrx hr6 hL6 hk6 hb6 hal hown B4 e0 e1 e2 hLn
      go_wp2_with (at_builtin; refine wpList_run_append rfl _ _ _ rfl _ _ _ rfl rfl HR6.out ?_)
      clear q0 q1 q2
      go_wp2_with fail
      go_roundw
      case rel =>
        refine ⟨j + 1, c, ws ++ [x], by go_num, rfl, by omega, by rw [List.length_append, List.length_singleton, HWL.out], HL6.out, HB6.out, fun hc => ?_, fun hc => ?_⟩
        · subst hc
          obtain ⟨h1, h2⟩ := HZ.out (by trivial)
          have h3 := HD.out
          rw [HX.out] at h3
          simp only [↓reduceIte] at h3
          exact ⟨by rw [HMT.out, HX.out, h1], by rw [← h3, h2]⟩
        · obtain ⟨h1, h2⟩ := HZ.out (by trivial)
          have h3 := HD.out
          rw [HX.out] at h3
          simp only [hc, ↓reduceIte] at h3
          rw [← h2, h3]
      case measure =>
        have q : (intOf (.int .i64 ((j : Int) + 1))).toNat = j + 1 := by show ((j : Int) + 1).toNat = _; omega
        have q2 : (intOf (.int .i64 (j : Int))).toNat = j := by show ((j : Int)).toNat = _; omega
        rw [q, q2]; omega
    · have hce : cd = cd0 := by
        have hr := HRES.out
        unfold allR at hr
        by_cases hc : cd = 0
        · subst hc
          obtain ⟨h1, h2⟩ := HZ.out (by trivial)
          rw [List.drop_of_length_le (by omega)] at h2
          have h3 : firstErr (fun t => liftR t k n) l = 0 := h2.symm
          rw [if_pos h3] at hr
          injection hr with _ hr
        · have h3 := HNZ.out hc
          rw [if_neg (by rw [h3]; exact hc)] at hr
          injection hr with _ hr
          rw [← hr, h3]
      have hws : cd0 = 0 → ws = res := fun hc => by
        rw [hc] at hce
        obtain ⟨h1, h2⟩ := HZ.out hce
        have hjl : ¬ j < l.length := fun h => hgo ⟨h, hce⟩
        rw [List.take_of_length_le (by omega)] at h1
        have hr := HRES.out
        unfold allR at hr
        rw [List.drop_of_length_le (by omega)] at h2
        rw [if_pos (show firstErr (fun t => liftR t k n) l = 0 from h2.symm)] at hr
        injection hr with hr _
        rw [h1, hr]
      have hrn : cd0 ≠ 0 → res = [] := fun hc => by
        have hr := HRES.out
        unfold allR at hr
        by_cases h3 : firstErr (fun t => liftR t k n) l = 0
        · rw [if_pos h3] at hr; injection hr with _ hr; exact absurd hr.symm hc
        · rw [if_neg h3] at hr; injection hr with hr _; exact hr.symm
      have HWS := Lib.hid hws
      have HRN := Lib.hid hrn
      have hgob : (decide ((j : Int) < (l.length : Int)) && (cd == 0)) = false := by
        by_cases h : (j : Int) < (l.length : Int)
        · have : cd ≠ 0 := fun hc => hgo ⟨by omega, hc⟩
          simp [this]
        · simp [h]
      have hcase : (¬ j < l.length) ∨ (j < l.length ∧ cd ≠ 0) := by
        by_cases h : j < l.length
        · exact .inr ⟨h, fun hc => hgo ⟨h, hc⟩⟩
        · exact .inl h
      clear hws hrn hgob hgo
      subst hce
      have HMT0 := Lib.hid (show MadeG 3 24 TrC (w1.heap.size ≤ ·) w1.heap.size (w1.alloc (.cells #[] 24)) (.slice (some ⟨w1.heap.size, 0, none⟩) 0 0) [] from MadeG.empty _ _ _ _ _ w1 (Nat.le_refl _))
      have HB1 := Lib.hid (alloc_bel w1 (.cells #[] 24))
      have HSZ1 := Lib.hid HB.out.size
      have rest : True := trivial
      rcases hcase with hjl | ⟨hjl, hcz⟩
      all_goals
        try (have hczb : (cd == 0) = false := by simp [hcz])
        try clear hcz
        go_wp2_with fail
        clear rest
        try clear hjl
        try clear hczb
        go_loopw [12, 13] (fun vs iv wr => ∃ (j : Nat) (L : List (Tm × Nat × Nat)), iv = .int .i64 j ∧ j ≤ l.length ∧ L.map (·.1) = l.take j ∧ MadeG 3 24 TrC (w1.heap.size ≤ ·) w1.heap.size wr vs L ∧ Below w1.heap.size w1 wr ∧ Rise L wr.heap.size) (fun _ iv _ => l.length - (intOf iv).toNat)
        case atStart => exact ⟨0, [], rfl, Nat.zero_le _, rfl, HMT0.out, HB1.out, Rise.nil _⟩
        case round =>
          obtain ⟨i, L, rfl, hi, hLt, hM, hb, hris⟩ := hrel
          obtain ⟨w2, rfl⟩ : ∃ x : World, x = wr := ⟨_, rfl⟩
          have HM := Lib.hid hM
          have HB2 := Lib.hid hb
          have HRISE := Lib.hid hris
          have HLT := Lib.hid hLt
          have hLl : L.length = i := by have := congrArg List.length hLt; rw [List.length_map, List.length_take] at this; omega
          have HLL := Lib.hid hLl
          obtain ⟨ao12, c12, hv12, -⟩ := hM.cells (by omega)
          subst hv12
          have hbw : Below w.heap.size w w2 := HB.out.trans (hb.mono HB.out.size)
          have HBW := Lib.hid hbw
          clear hM hb hris hLt hbw HMT0 HB1 hLl
          by_cases hil : i < l.length
          · obtain ⟨b, off, k2, n2, ao2, m2, cap2, rfl, hP, h0, h1, h2, hrd⟩ := HE.out i hil
            have e0 := (HBW.out.cell (p := ⟨b, off + i * 3, none⟩) hP).trans h0
            have e1 := (HBW.out.cell (p := ⟨b, off + i * 3 + 1, none⟩) hP).trans h1
            have e2 := (HBW.out.cell (p := ⟨b, off + i * 3 + 2, none⟩) hP).trans h2
            have hbw : b < w2.heap.size := Nat.lt_of_lt_of_le hP HBW.out.size
            have hji : (i : Int) < (l.length : Int) := by omega
            have hj0 : (0 : Int) ≤ (i : Int) := Int.natCast_nonneg _
            have hcon := Copied_w _ _ l[i] w2 ((hrd.keep (P' := (· < w2.heap.size)) (w' := w2) (fun q hq => Nat.lt_of_lt_of_le hq HBW.out.size) fun q hq => HBW.out.block q hq).fit) (HTH.out i hil)
            have HCON := Lib.hid hcon
            clear h0 h1 h2 hcon hrd
            go_wp2_with fail
            refine HCON.out.mono ?_
            rintro e w3 ⟨k3, n3, ao3, m3, c3, rfl, hb3, hr3⟩
            obtain ⟨a6, c6, w6, hr6, hM6, hb6⟩ := run_tree 22 HM.out hb3 (by have := HLL.out; omega) (by exact HB2.out.size) hr3
            have hsz36 := hb3.size
            have hri6 : Rise (L ++ [(l[i], w2.heap.size, w3.heap.size)]) w6.heap.size := (HRISE.out.snoc l[i] (Nat.le_refl _) hsz36 hsz36).mono hb6.size
            generalize hLn : L.length + 1 = Ln at hr6 hM6
            have HR6 := Lib.hid hr6
            have HM6 := Lib.hid hM6
            have HRI6 := Lib.hid hri6
            have HB6 := Lib.hid (HB2.out.trans ((hb3.mono HB2.out.size).trans hb6))
            clear hb3 hr3 hr6 hM6 hb6 hri6 e0 e1 e2 hLn hsz36
            go_wp2_with (at_builtin; refine wpList_run_append rfl _ _ _ rfl _ _ _ rfl rfl HR6.out ?_)
            go_wp2_with fail
            go_roundw
            case rel => exact ⟨i + 1, _, by go_num, by omega, by rw [List.map_append, HLT.out, List.take_succ_eq_append_getElem hil]; rfl, HM6.out, HB6.out, HRI6.out⟩
            case measure =>
              have q : (intOf (.int .i64 ((i : Int) + 1))).toNat = i + 1 := by show ((i : Int) + 1).toNat = _; omega
              have q2 : (intOf (.int .i64 (i : Int))).toNat = i := by show ((i : Int)).toNat = _; omega
              rw [q, q2]; omega
          · have hmap : L.map (·.1) = l := by rw [HLT.out, List.take_of_length_le (by omega)]
            have hka := LiftAll_w _ (L.map (·.1)) k n w2 HM.out.tr_terms (by rw [hmap]; omega)
            rw [hmap, HRES.out] at hka
            have HKA := Lib.hid hka
            have hii : i = l.length := by omega
            clear hka hmap
            go_wp2_with fail
            refine HKA.out.mono ?_
            rintro e w3 ⟨a14, m14, c14, rfl, hb3, hr3⟩
            have hr30 := hr3
            obtain ⟨a14', c14', hv, -⟩ := hr30
            injection hv with hv1 hv2 hv3
            subst hv1; subst hv2; subst hv3
            have hsz3 : w2.heap.size ≤ w3.heap.size := hb3.size
            have HSZ3 := Lib.hid hsz3
            have HB3 := Lib.hid (HBW.out.trans (hb3.mono HBW.out.size))
            have HOUT := Lib.hid hr3
            obtain ⟨ao12', c12', hv12, -, -, hcell⟩ := (HM.out.below keepsC_tr hb3).cells (by omega)
            injection hv12 with hv1 _ hv3
            subst hv1; subst hv3
            have HCELL := Lib.hid hcell
            have HWT := Lib.hid (Ts.keep (P' := fun b => w.heap.size ≤ b ∧ b < w1.heap.size) (w' := w3) HL.out.terms (fun q hq => hq) fun q hq => (hb3.block q (Nat.lt_of_lt_of_le hq.2 HB2.out.size)).trans (HB2.out.block q hq.2))
            have hw1z : w.heap.size ≤ w1.heap.size := HSZ1.out
            have hLm : L.length ≤ 50 := by have := HLL.out; omega
            clear hb3 hr3 hcell hsz3 hii hil HKA HM
            go_wp2_with fail
            have HS0 := Lib.hid (OnlyP.refl (fun b => w1.heap.size ≤ b ∧ b < w2.heap.size) w3)
            go_loopw [16] (fun i wr => ∃ j : Nat, i = .int .i64 j ∧ j ≤ L.length ∧ OnlyP (fun b => w1.heap.size ≤ b ∧ b < w2.heap.size) w3 wr ∧ (∀ g, (Value.slice ao12 L.length c12).ownBlock = some g → wr.heap[g]? = w3.heap[g]?) ∧ (∀ j' (hj : j' < L.length), j ≤ j' → ∀ b, (Value.slice ao12 L.length c12).ownBlock ≠ some b → L[j'].2.1 ≤ b → b < L[j'].2.2 → wr.heap[b]? = w3.heap[b]?)) (fun i _ => L.length - (intOf i).toNat)
            case atStart => exact ⟨0, rfl, Nat.zero_le _, HS0.out, fun _ _ => rfl, fun _ _ _ _ _ _ _ => rfl⟩
            case round =>
              obtain ⟨j, rfl, hj, honly, hrow, hint⟩ := hrel
              obtain ⟨w4, rfl⟩ : ∃ x : World, x = wr := ⟨_, rfl⟩
              have HON := Lib.hid honly
              have HRW := Lib.hid hrow
              have HIN := Lib.hid hint
              clear honly hrow hint HS0
              by_cases hjl : j < L.length
              · obtain ⟨g, cs, hg1, hg2, hg3, hg4, hg5, hg6, k2, n2, ao2, m2, cap2, rfl, htr⟩ := HCELL.out j hjl
                subst hg1
                have hk0 := HRW.out g hg2
                have e0 := (cell_keep (a := ⟨g, j * 3 + 0, none⟩) hk0).trans (hg6 0 _ rfl)
                have e1 := (cell_keep (a := ⟨g, j * 3 + 1, none⟩) hk0).trans (hg6 1 _ rfl)
                have e2 := (cell_keep (a := ⟨g, j * 3 + 2, none⟩) hk0).trans (hg6 2 _ rfl)
                rw [Nat.add_zero] at e0
                have hgw : g < w4.heap.size := Nat.lt_of_lt_of_le hg4 HON.out.size
                have hsz4 := HON.out.size
                have hris := HRISE.out.2 _ (List.getElem_mem hjl)
                have hcon := Spoil_w _ (fun b => ((Value.slice (some ⟨g, 0, none⟩) L.length c12).ownBlock ≠ some b ∧ b < w3.heap.size ∧ w1.heap.size ≤ b) ∧ L[j].2.1 ≤ b ∧ b < L[j].2.2) _ L[j].1 w4 (fun b hb => Nat.lt_of_lt_of_le hb.1.2.1 hsz4)
                  (htr.keep _ (fun b hb => hb) fun b hb => HIN.out j hjl (Nat.le_refl _) b hb.1.1 hb.2.1 hb.2.2)
                have HCON := Lib.hid hcon
                have HRI := Lib.hid hris
                have hji : (j : Int) < (L.length : Int) := by omega
                clear hg6 htr hcon hris hk0
                go_wp2_with fail
                refine HCON.out.mono ?_
                rintro e w5 ⟨rfl, ho5⟩
                have HO5 := Lib.hid ho5
                clear ho5 e0 e1 e2 HCON
                go_wp2_with fail
                go_roundw
                case rel =>
                  refine ⟨j + 1, by go_num, by omega, HON.out.trans HO5.out (fun b hb hq => ⟨hq.1.2.2, Nat.lt_of_lt_of_le hq.2.2 HRI.out⟩), fun g' hg' => ?_, fun j' hj' hjj b hb1 hb2 hb3 => ?_⟩
                  · have : g' = g := by rw [hg2] at hg'; injection hg' with h; exact h.symm
                    subst this
                    exact (HO5.out.block g' hgw (fun h => h.1.1 hg2)).trans (HRW.out g' hg2)
                  · have h1 := HRISE.out.get (show j < j' by omega) hj'
                    have h2 := HRISE.out.2 _ (List.getElem_mem hj')
                    exact (HO5.out.block b (by have := HSZ3.out; omega) (fun h => by have := h.2.2; omega)).trans (HIN.out j' hj' (by omega) b hb1 hb2 hb3)
                case measure =>
                  have q : (intOf (.int .i64 ((j : Int) + 1))).toNat = j + 1 := by show ((j : Int) + 1).toNat = _; omega
                  have q2 : (intOf (.int .i64 (j : Int))).toNat = j := by show ((j : Int)).toNat = _; omega
                  rw [q, q2]; omega
              · have hjj : j = L.length := by omega
                have hb4 : Below w.heap.size w w4 := HB3.out.trans (HON.out.below (fun b hb => Nat.le_trans HSZ1.out hb.1) (by have := HB3.out.size; omega))
                have HB4 := Lib.hid hb4
                clear hb4
                by_cases hcd : cd = 0
                · subst hcd
                  have hwt := Ts.keep (P' := (· < w4.heap.size)) (w' := w4) HWT.out (fun q hq => by have := HON.out.size; have := HSZ3.out; have := HB2.out.size; omega) fun q hq => HON.out.block q (by have := HSZ3.out; have := HB2.out.size; omega) (fun h => by have := h.1; omega)
                  have hot := Ts.keep (P' := (· < w4.heap.size)) (w' := w4) HOUT.out (fun q hq => by have := HON.out.size; have := hq.2; omega) fun q hq => HON.out.block q hq.2 (fun h => by have := hq.1; have := h.2; omega)
                  have hws := HWS.out rfl
                  subst hws
                  have hsa := SameAll_w _ _ _ _ w4 hot hwt
                  rw [(eqTs_iff _ _).mpr rfl] at hsa
                  have HSA := Lib.hid hsa
                  clear hwt hot hsa
                  go_wp2_with fail
                  refine HSA.out.mono ?_
                  rintro e w5 ⟨rfl, hb5⟩
                  have HB5 := Lib.hid (HB4.out.trans (hb5.mono HB4.out.size))
                  go_wp2_with fail
                  refine (awake27_w _).mono ?_
                  rintro e w9 ⟨rfl, hb9⟩
                  go_wp2_with fail
                  go_ret
                  exact ⟨rfl, (HB5.out).trans (hb9.mono (HB5.out).size)⟩
                · have hcb : (cd != 0) = true := by simp [hcd]
                  have hcb2 : (cd == cd) = true := by simp
                  have hrn := HRN.out hcd
                  subst hrn
                  clear hcd
                  go_wp2_with fail
                  refine (awake27_w _).mono ?_
                  rintro e w9 ⟨rfl, hb9⟩
                  go_wp2_with fail
                  go_ret
                  exact ⟨rfl, (HB4.out).trans (hb9.mono (HB4.out).size)⟩
theorem liftAlls_walk2 (v : Value) (l : List Tm) (k n : Int) (w : World) (h : Ts (· < w.heap.size) w v l ∧ thinL l = true) (wk : (Lit.int .i64 k).wf = true) (wn : (Lit.int .i64 n).wf = true) :
    Calls Try.prog 5 #[v, .int .i64 k, .int .i64 n] w fun e w' => e = .returned (.bool true) ∧ Below w.heap.size w w' := liftAlls_walk v l k n w h.1 h.2
end Go.Proofs.Ythjlfjaciigfiaa
