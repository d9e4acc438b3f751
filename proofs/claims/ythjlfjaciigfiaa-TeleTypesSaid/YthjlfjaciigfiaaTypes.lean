/-
  tele.Types, each: contracts of the walk.
-/
import Derived.Test.YthjlfjaciigfiaaRefTurn
import Derived.Test.YthjlfjaciigfiaaLists
import Derived.Laws.EntriesVeiled
namespace Go.Proofs.Ythjlfjaciigfiaa
open Go.RowKit
set_option linter.unusedVariables false
set_option linter.unusedSimpArgs false

theorem Ts.take {P : Nat → Prop} {w : World} {ao : Option Addr} {n cap : Nat} {l : List Tm} (h : Ts P w (.slice ao n cap) l) (i : Nat) (hi : i ≤ l.length) : Ts P w (.slice ao i cap) (l.take i) := by
  obtain ⟨ao2, cap2, hv, h1, h2, h3⟩ := h
  injection hv with e1 e2 e3
  subst e1; subst e3
  have hl : (l.take i).length = i := by simp; omega
  refine ⟨ao, cap, by rw [hl], by omega, h2, fun p hp => ?_⟩
  obtain ⟨b, off, c0, c1, c2, q1, q2, q3, q4, q5, q6⟩ := h3 p (by omega)
  exact ⟨b, off, c0, c1, c2, q1, q2, q3, q4, q5, by rw [List.getElem_take]; exact q6⟩
set_option maxRecDepth 100000 in
set_option maxHeartbeats 4000000 in
theorem Types1_w (i : Nat) (v : Value) (t : Tm) (ab : Nat) (vl : Value) (l : List Tm) (w : World) (hr : Rd (· < w.heap.size) w v t) (hA : w.heap[ab]? = some (.cells #[vl] 22)) (hl : Ts (· < w.heap.size) w vl l) (hlen : l.length ≤ 1000000) (hi : i ≤ l.length) :
    Calls Try.prog 109 #[.int .i64 i, v, .pointer (some ⟨ab, 0, none⟩)] w (AnsTE w (manyR t (l.take i).reverse).1 (manyR t (l.take i).reverse).2) := by
  obtain ⟨rt, rc, hres⟩ : ∃ rt rc, manyR t (l.take i).reverse = (rt, rc) := ⟨_, _, rfl⟩
  rw [hres]
  obtain ⟨ao, cap, rfl⟩ := hr.shape
  obtain ⟨W, hW⟩ : ∃ W, W = (w.alloc (.cells #[.int .i64 t.kind, .int .i64 t.num, .slice ao t.sub.length cap] 24)).alloc (.cells #[.int .i64 0, .int .i64 0, .slice none 0 0] 24) := ⟨_, rfl⟩
  have hb0 : Below w.heap.size w W := by rw [hW]; exact (((Below.refl _ _).alloc (Nat.le_refl _) _).alloc (by simp only [World.size_alloc]; omega) _)
  have hsW : W.heap.size = w.heap.size + 2 := by rw [hW]; simp only [World.size_alloc]
  have Q : W.heap[w.heap.size]? = some (.cells #[.int .i64 t.kind, .int .i64 t.num, .slice ao t.sub.length cap] 24) := by rw [hW]; exact (Below.heap_alloc _ _ _ (by simp only [World.size_alloc]; omega)).trans (heap_new _ _ _ rfl)
  have Z : W.heap[w.heap.size + 1]? = some (.cells #[.int .i64 0, .int .i64 0, .slice none 0 0] 24) := by rw [hW]; exact heap_new _ _ _ (by simp only [World.size_alloc])
  have HQ := Lib.hid Q
  have HZ := Lib.hid Z
  have T := Lib.hid (hr.on hb0)
  have FB0 := Lib.hid hb0
  have SW := Lib.hid hsW
  have HW := Lib.hid hW
  have RES := Lib.hid hres
  have A := Lib.hid ((hb0.block _ (blt hA)).trans hA)
  have HLN := Lib.hid hlen
  have hi0 : (0 : Int) ≤ (i : Int) := Int.natCast_nonneg _
  obtain ⟨aol, capl, rfl, hcl, hcl2, -⟩ := hl.elem
  have TL := Lib.hid ((hl.take i hi).on FB0.out)
  have hic : i ≤ capl := by omega
  have hic2 : (i : Int) ≤ (capl : Int) := by omega
  obtain ⟨b0, bf, bl⟩ := one1 A.out
  obtain ⟨q0, q1, q2, -, ql⟩ := three Q
  rw [hW] at q0 q1 q2 ql b0 bl
  clear hb0 hsW hW hr Q Z hres hl
  go_enter Try.func109, Try.ntmps109
  go_wp2_with fail
  rw [← HW.out] at q0 q1 q2 ql b0 bl ⊢
  refine wp_region_order [(0, true), (1, true), (2, true), (3, true), (4, false), (5, true), (6, true), (7, false), (8, false)]
    (fun w' => w'.cell? ⟨w.heap.size, 0, none⟩ = some (.int .i64 t.kind) ∧ w'.cell? ⟨w.heap.size, 1, none⟩ = some (.int .i64 t.num) ∧ w'.cell? ⟨w.heap.size, 2, none⟩ = some (.slice ao t.sub.length cap) ∧ w'.cell? ⟨ab, 0, none⟩ = some (.slice aol l.length capl))
    (by kernel_rfl) (by kernel_rfl) ⟨q0, q1, q2, b0⟩ (fun hHeld => ?_)
  simp only [pickT, List.getElem?_cons_zero, List.getElem?_cons_succ, Option.getD_some]
  repeat (refine wpT_take (v := ?_) (by rfl) (fun w' hSw => ?_) ?_; rotate_left; (go_simp; with_reducible rfl); simp only [Act.put, List.setIfInBounds_toArray, List.set_cons_zero, List.set_cons_succ])
  have hcon := Fill_q RES.out (by rw [List.length_take]; have := HLN.out; omega) (TL.out.on (below_drewN (Below.refl _ _) 1)) (T.out.on (below_drewN (Below.refl _ _) 1))
  have HCON := Lib.hid hcon
  clear hcon
  refine wpT_do (fun K hK => ?_)
  go_simp
  go_at_call 66
  refine HCON.out.mono ?_
  rintro e w2 ⟨k2, n2, ao2, m2, c2, rfl, hb2, hr2⟩
  replace hb2 : Below W.heap.size W w2 := (below_drewN (Below.refl _ _) 1).trans hb2
  have HB2 := Lib.hid (FB0.out.trans (hb2.mono FB0.out.size))
  have hsz1 : w.heap.size + 2 ≤ W.heap.size := by have := SW.out; omega
  have HA2 := Lib.hid ((hb2.block _ (blt A.out)).trans A.out)
  have HQ2 := Lib.hid ((hb2.block _ (blt HQ.out)).trans HQ.out)
  have HZ2 := Lib.hid ((hb2.block _ (blt HZ.out)).trans HZ.out)
  have HR2 := Lib.hid (hr2.keep (P' := fun q => w.heap.size + 1 < q ∧ q < w2.heap.size) (fun q hq => ⟨by have h6 : W.heap.size ≤ q := hq.1; omega, hq.2⟩) fun _ _ => rfl)
  clear hb2 hr2 q0 q1 q2 ql b0 bf bl
  obtain ⟨q0, q1, q2, -, ql⟩ := three HQ2.out
  obtain ⟨b0, bf, bl⟩ := one1 HA2.out
  refine hK.out _ _ ⟨q0, q1, q2, b0⟩ (fun hHeld => ?_)
  clear hK K hHeld
  repeat (refine wpT_take (v := ?_) (by rfl) (fun w' hSw => ?_) ?_; rotate_left; (go_simp; with_reducible rfl); simp only [Act.put, List.setIfInBounds_toArray, List.set_cons_zero, List.set_cons_succ])
  obtain ⟨z0, z1, z2, zf, zl⟩ := three HZ2.out
  have zf0 := zf 0
  have zf1 := zf 1
  have zf2 := zf 2
  have hoff := set3_off w2 (w.heap.size + 1) (.int .i64 k2) (.int .i64 n2) (.slice ao2 m2 c2)
  have HX := Lib.hid (set3_blk (a := .int .i64 k2) (b := .int .i64 n2) (c := .slice ao2 m2 c2) HZ2.out)
  have HB3 := Lib.hid ((((HB2.out.setCell (p := ⟨w.heap.size + 1, 0, none⟩) (by simp only []; omega) (.int .i64 k2)).setCell (p := ⟨w.heap.size + 1, 1, none⟩) (by simp only []; omega) (.int .i64 n2)).setCell (p := ⟨w.heap.size + 1, 2, none⟩) (by simp only []; omega) (.slice ao2 m2 c2)))
  have HR3 := Lib.hid (HR2.out.keep (w' := ((w2.setCell ⟨w.heap.size + 1, 0, none⟩ (.int .i64 k2)).setCell ⟨w.heap.size + 1, 1, none⟩ (.int .i64 n2)).setCell ⟨w.heap.size + 1, 2, none⟩ (.slice ao2 m2 c2))
    (P' := fun q => w.heap.size + 1 < q ∧ q < (((w2.setCell ⟨w.heap.size + 1, 0, none⟩ (.int .i64 k2)).setCell ⟨w.heap.size + 1, 1, none⟩ (.int .i64 n2)).setCell ⟨w.heap.size + 1, 2, none⟩ (.slice ao2 m2 c2)).heap.size) (fun q hq => ⟨hq.1, by rw [set3_size]; exact hq.2⟩) fun q hq => hoff q (by omega))
  have HQ3 := Lib.hid ((hoff _ (by omega)).trans HQ2.out)
  have HA3 := Lib.hid ((hoff _ (by have := blt hA; omega)).trans HA2.out)
  refine wpT_do (fun K hK => ?_)
  go_simp
  clear z0 z1 z2 zf zf0 zf1 zf2 zl hoff q0 q1 q2 ql b0 bf bl
  generalize ((w2.setCell ⟨w.heap.size + 1, 0, none⟩ (.int .i64 k2)).setCell ⟨w.heap.size + 1, 1, none⟩ (.int .i64 n2)).setCell ⟨w.heap.size + 1, 2, none⟩ (.slice ao2 m2 c2) = w3 at HX HB3 HR3 HQ3 HA3 ⊢
  obtain ⟨q0, q1, q2, -, ql⟩ := three HQ3.out
  obtain ⟨b0, bf, bl⟩ := one1 HA3.out
  refine hK.out _ _ ⟨q0, q1, q2, b0⟩ (fun hHeld => ?_)
  clear hK K hHeld
  obtain ⟨z0, z1, z2, zf, zl⟩ := three HX.out
  refine wpT_last (fun K hK => ?_)
  go_simp
  refine hK.out _ _ ?_
  clear hK K
  go_wp2_with fail
  exact bodyPost_ret (v := .tuple #[.agg #[.int .i64 k2, .int .i64 n2, .slice ao2 m2 c2], .int .i64 rc]) (by simp [results, Try.results109, go_sem, z0, z1, z2]) rfl ⟨_, _, _, _, _, rfl, HB3.out, HR3.out.keep (fun q hq => ⟨by omega, hq.2⟩) fun _ _ => rfl⟩
/-- the first error of a function of places and terms -/
def firstI (f : Nat → Tm → Tm × Int) : Nat → List Tm → Int
  | _, [] => 0
  | i, t :: ts => if (f i t).2 = 0 then firstI f (i + 1) ts else (f i t).2
def allI (f : Nat → Tm → Tm × Int) (ts : List Tm) : List Tm × Int := if firstI f 0 ts = 0 then (ts.mapIdx fun i t => (f i t).1, 0) else ([], firstI f 0 ts)
theorem firstI_drop (f : Nat → Tm → Tm × Int) (ts : List Tm) (j : Nat) (hj : j < ts.length) : firstI f j (ts.drop j) = if (f j ts[j]).2 = 0 then firstI f (j + 1) (ts.drop (j + 1)) else (f j ts[j]).2 := by
  rw [List.drop_eq_getElem_cons hj, firstI]
theorem mapI_take (f : Nat → Tm → Tm × Int) (ts : List Tm) (j : Nat) (hj : j < ts.length) : (ts.take (j + 1)).mapIdx (fun i t => (f i t).1) = (ts.take j).mapIdx (fun i t => (f i t).1) ++ [(f j ts[j]).1] := by
  rw [List.take_succ_eq_append_getElem hj, List.mapIdx_append]
  simp [Nat.min_eq_left (Nat.le_of_lt hj)]
set_option maxRecDepth 100000 in
set_option maxHeartbeats 4000000 in
theorem each_w (F : Nat) (caps : Array Value) (f : Nat → Tm → Tm × Int) (vts : Value) (ts : List Tm) (w : World) (hts : Ts (· < w.heap.size) w vts ts) (hlen : ts.length ≤ 1000000) (hen : ∀ args w, (callFunc F args).run Try.prog w = .ok (.enter F args) w)
    (hcl : ∀ (i : Nat) (hi : i < ts.length) (w' : World) (v : Value), Below w.heap.size w w' → Rd (· < w'.heap.size) w' v ts[i] → Calls Try.prog F (#[.int .i64 i, v] ++ caps) w' (AnsTE w' (f i ts[i]).1 (f i ts[i]).2)) :
    Calls Try.prog 108 #[vts, .func (.func F) #[] caps] w (AnsTsE w (allI f ts).1 (allI f ts).2) := by
  obtain ⟨rl, rc, hres⟩ : ∃ rl rc, allI f ts = (rl, rc) := ⟨_, _, rfl⟩
  rw [hres]
  have RES := Lib.hid hres
  obtain ⟨aol, capl, rfl, hlm, hlm2, he⟩ := hts.elem
  have HE := Lib.hid he
  have HCL := Lib.hid hcl
  clear hres he hts hcl
  go_enter Try.func108, Try.ntmps108
  go_wp2_with fail
  go_loopw [6, 13] (fun vs iv wr => ∃ j : Nat, iv = .int .i64 j ∧ j ≤ ts.length ∧ firstI f j (ts.drop j) = firstI f 0 ts ∧ Lst w.heap.size wr vs ((ts.take j).mapIdx fun i t => (f i t).1) ∧ Below w.heap.size w wr) (fun _ iv _ => ts.length - (intOf iv).toNat)
  case atStart => exact ⟨0, by go_num, Nat.zero_le _, rfl, Lst.nil _ _, Below.refl _ _⟩
  case round =>
    obtain ⟨j, rfl, hj, herr, hL, hb⟩ := hrel
    have HERR := Lib.hid herr
    have HB := Lib.hid hb
    have HL := Lib.hid hL
    obtain ⟨ao0, c0, hsh⟩ := hL.shape
    have HSH := Lib.hid hsh
    clear herr hL hsh
    by_cases hjl : j < ts.length
    · obtain ⟨b, off, k2, n2, ao2, m2, cap2, rfl, hP, h0, h1, h2, hrd⟩ := HE.out j hjl
      have e0 := (hb.cell (p := ⟨b, off + j * 3, none⟩) hP).trans h0
      have e1 := (hb.cell (p := ⟨b, off + j * 3 + 1, none⟩) hP).trans h1
      have e2 := (hb.cell (p := ⟨b, off + j * 3 + 2, none⟩) hP).trans h2
      have hbw : b < wr.heap.size := Nat.lt_of_lt_of_le hP hb.size
      have hji : (j : Int) < (ts.length : Int) := by omega
      have hj0 : (0 : Int) ≤ (j : Int) := Int.natCast_nonneg _
      have ha1 := alloc_bel wr (.cells #[.int .i64 k2, .int .i64 n2, .slice ao2 m2 cap2] 24)
      have hb1 := hb.trans (ha1.mono hb.size)
      obtain ⟨x, c, hx⟩ : ∃ x c, f j ts[j] = (x, c) := ⟨_, _, rfl⟩
      have HX := Lib.hid hx
      have hcon := HCL.out j hjl _ (.agg #[.int .i64 k2, .int .i64 n2, .slice ao2 m2 cap2]) hb1 (hrd.keep (P' := (· < (wr.alloc (.cells #[.int .i64 k2, .int .i64 n2, .slice ao2 m2 cap2] 24)).heap.size)) (w' := (wr.alloc (.cells #[.int .i64 k2, .int .i64 n2, .slice ao2 m2 cap2] 24))) (fun q hq => Nat.lt_of_lt_of_le hq hb1.size) fun q hq => hb1.block q hq)
      rw [hx] at hcon
      have HCON := Lib.hid hcon
      have HA1 := Lib.hid ha1
      have hsw : w.heap.size ≤ wr.heap.size := hb.size
      have HD := Lib.hid (firstI_drop f ts j hjl)
      have HMT := Lib.hid (mapI_take f ts j hjl)
      clear h0 h1 h2 hb hb1 hcon ha1 hrd hx
      go_wp2_with fail
      refine HCON.out.mono ?_
      rintro e w3 ⟨k3, n3, ao3, m3, c3, rfl, hb3, hr3⟩
      obtain ⟨hb4, B4, -, hl4⟩ := boxed hb3 hr3
      have hal := alloc_bel w3 (.cells #[.int .i64 k3, .int .i64 n3, .slice ao3 m3 c3] 24)
      have hb5 : Below wr.heap.size wr (w3.alloc (.cells #[.int .i64 k3, .int .i64 n3, .slice ao3 m3 c3] 24)) := HA1.out.trans (hb4.mono HA1.out.size)
      have HB5 := Lib.hid hb5
      have hown := HL.out.block
      have hrx := Rd.keep (P' := fun q => w.heap.size ≤ q ∧ q < (w3.alloc (.cells #[.int .i64 k3, .int .i64 n3, .slice ao3 m3 c3] 24)).heap.size ∧ u6.ownBlock ≠ some q) (w' := w3.alloc (.cells #[.int .i64 k3, .int .i64 n3, .slice ao3 m3 c3] 24)) hr3 (fun q hq => ⟨by have h1 := hq.1; have h2 := HA1.out.size; omega, Nat.lt_of_lt_of_le hq.2 hal.size, fun e => by have h1 := (hown q e).2; have h2 := hq.1; have h3 := HA1.out.size; rw [World.size_alloc] at h2; omega⟩) (fun q hq => hal.block q hq.2)
      have HBX := Lib.hid B4
      by_cases hc : c = 0
      · subst hc
        obtain ⟨a6, c6, w6, hr6, hL6, hk6, hb6⟩ := run_one 22 HL.out hb5 (by simp; omega) hsw hrx
        obtain ⟨q0, q1, q2, -, -⟩ := three B4
        generalize ((ts.take j).mapIdx fun i t => (f i t).1).length + 1 = Ln at hr6 hL6
        simp only [World.size_alloc] at hr6
        have HR6 := Lib.hid hr6
        have HL6 := Lib.hid hL6
        have HB6 := Lib.hid (HB.out.trans ((hb5.mono hsw).trans hb6))
        clear hb3 hr3 hb4 hb5 hrx hr6 hL6 hk6 hb6 hal hown B4 e0 e1 e2
        go_wp2_with (at_builtin; refine wpList_run_append rfl _ _ _ rfl _ _ _ rfl rfl HR6.out ?_)
        clear q0 q1 q2
        go_wp2_with fail
        go_roundw
        case rel =>
          refine ⟨j + 1, by go_num, by omega, ?_, ?_, HB6.out⟩
          · have h1 := HD.out
            rw [HX.out] at h1
            simp only [↓reduceIte] at h1
            rw [← h1, HERR.out]
          · rw [HMT.out, HX.out]; exact HL6.out
        case measure =>
          have q : (intOf (.int .i64 ((j : Int) + 1))).toNat = j + 1 := by show ((j : Int) + 1).toNat = _; omega
          have q2 : (intOf (.int .i64 (j : Int))).toNat = j := by show ((j : Int)).toNat = _; omega
          rw [q, q2]; omega
      · have hq : (c != 0) = true := by simp [hc]
        have he := HD.out
        rw [HX.out] at he
        simp only [hc, ↓reduceIte] at he
        rw [HERR.out] at he
        have e : allI f ts = ([], c) := by unfold allI; rw [he, if_neg hc]
        rw [RES.out] at e
        injection e with er1 er2
        subst er1; subst er2
        have HB7 := Lib.hid (HB.out.trans (hb5.mono hsw))
        clear hb3 hr3 hb4 hb5 hrx hal hown B4 e0 e1 e2 he hc
        go_wp2_with fail
        go_ret2
        exact ⟨_, _, _, rfl, HB7.out, SubR.nil _ _ _ _ _ (Nat.zero_le _)⟩
    · have hd : ts.drop j = [] := List.drop_of_length_le (by omega)
      have ht : ts.take j = ts := List.take_of_length_le (by omega)
      have he := HERR.out
      rw [hd] at he
      have he0 : firstI f 0 ts = 0 := he.symm
      have e : allI f ts = (ts.mapIdx fun i t => (f i t).1, 0) := by unfold allI; rw [if_pos he0]
      rw [RES.out] at e
      injection e with er1 er2
      subst er1; subst er2
      have hsh := HSH.out
      rw [ht] at HL hsh
      simp only [List.length_mapIdx] at hsh
      subst hsh
      have HTS := Lib.hid HL.out.terms
      clear hb
      go_wp2_with fail
      go_ret2
      exact ⟨_, _, _, rfl, HB.out, HTS.out⟩
/-- a term's answer with the arguments ahead of it -/
def fillI (l : List Tm) (i : Nat) (t : Tm) : Tm × Int := manyR t (l.take i).reverse
def typesR (ts l : List Tm) : List Tm × Int := if ts.length = l.length then allI (fillI l) ts else ([], 5)
set_option maxRecDepth 100000 in
set_option maxHeartbeats 4000000 in
theorem Types_w (vts : Value) (ts : List Tm) (vl : Value) (l : List Tm) (w : World) (hts : Ts (· < w.heap.size) w vts ts) (hl : Ts (· < w.heap.size) w vl l) (hlt : ts.length ≤ 1000000) (hll : l.length ≤ 1000000) :
    Calls Try.prog 69 #[vts, vl] w (AnsTsE w (typesR ts l).1 (typesR ts l).2) := by
  have hb0 := alloc_bel w (.cells #[vl] 22)
  have hA := heap_new w (.cells #[vl] 22) _ rfl
  have TS := Lib.hid (hts.on hb0)
  have TL := Lib.hid (hl.on hb0)
  have FB := Lib.hid hb0
  have A := Lib.hid hA
  obtain ⟨aot, capt, rfl⟩ := hts.at0
  obtain ⟨aol, capl, rfl⟩ := hl.at0
  clear hb0 hA hts hl
  by_cases he : ts.length = l.length
  · have hen : ∀ args w, (callFunc 109 args).run Try.prog w = .ok (.enter 109 args) w := fun args w => by kernel_rfl
    have hcon := each_w 109 #[.pointer (some ⟨w.heap.size, 0, none⟩)] (fillI l) _ ts _ TS.out hlt hen (fun i hi w' v hb hr => by
      have := Types1_w i v ts[i] w.heap.size _ l w' hr ((hb.block _ (blt A.out)).trans A.out) (TL.out.on hb) hll (by omega)
      exact this)
    have e : typesR ts l = allI (fillI l) ts := by unfold typesR; rw [if_pos he]
    rw [e]
    obtain ⟨ra, rc, hres⟩ : ∃ ra rc, allI (fillI l) ts = (ra, rc) := ⟨_, _, rfl⟩
    rw [hres] at hcon ⊢
    have HCON := Lib.hid hcon
    have hnn : ((ts.length : Int) != (l.length : Int)) = false := by simp [he]
    have HE := Lib.hid he
    clear hcon hres e he
    go_enter Try.func69, Try.ntmps69
    go_wp2_with fail
    refine HCON.out.mono ?_
    rintro e w1 ⟨a1, m1, c1, rfl, hb, hto⟩
    have HB := Lib.hid (FB.out.trans (hb.mono FB.out.size))
    have HTO := Lib.hid (hto.keep (P' := Fr w w1) (w' := w1) (fun q hq => ⟨Nat.le_trans FB.out.size hq.1, hq.2⟩) fun _ _ => rfl)
    clear hb hto
    go_wp2_with fail
    go_ret2
    exact ⟨_, _, _, rfl, HB.out, HTO.out⟩
  · have e : typesR ts l = ([], 5) := by unfold typesR; rw [if_neg he]
    rw [e]
    have hnn : ((ts.length : Int) != (l.length : Int)) = true := by simp; omega
    have HE := Lib.hid he
    clear e he
    go_enter Try.func69, Try.ntmps69
    go_wp2_with fail
    go_ret2
    exact ⟨_, _, _, rfl, FB.out, SubR.nil _ _ _ _ _ (Nat.zero_le _)⟩
theorem Types_q {w : World} {vts vl : Value} {ts l rl : List Tm} {c : Int} (hq : typesR ts l = (rl, c)) (hlt : ts.length ≤ 1000000) (hll : l.length ≤ 1000000) (hts : Ts (· < w.heap.size) w vts ts) (hl : Ts (· < w.heap.size) w vl l) : Calls Try.prog 69 #[vts, vl] w (AnsTsE w rl c) := by
  have := Types_w vts ts vl l w hts hl hlt hll; rwa [hq] at this
end Go.Proofs.Ythjlfjaciigfiaa
