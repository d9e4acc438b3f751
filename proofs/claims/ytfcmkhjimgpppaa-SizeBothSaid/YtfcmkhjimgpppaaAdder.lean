/-
  (*closer).add: a contract: a matrix is put behind those that are there, if it is not among them; are there not too many? Its conditions: the matrix is right and of their size, they are no more than 256.
-/
import Derived.Test.YtfcmkhjimgpppaaCloser
import Derived.Test.YtfcmkhjimgpppaaOrd
namespace Go.Proofs.Ytfcmkhjimgpppaa
open Go.RowKit Go.Maps
set_option linter.unusedVariables false
set_option linter.unusedSimpArgs false

theorem law9 : Keyed Try.prog 9 := string_keyed Try.underlying9
theorem zero3 (w : World) : (zeroValue 3).run Try.prog w = .ok (.int .i64 0) w := by kernel_rfl
theorem txt_size {m : Mx} (h : right m = true) : (strOfNums (txt m m.length)).size ≤ maxLen := by
  obtain ⟨h1, h2, -⟩ := right_sq h
  have := txt_le m m.length h1 h2 m.length (Nat.le_refl _)
  rw [strOfNums_size]
  unfold maxLen
  omega
theorem turned_grown {w w' : World} {b : Nat} (h : w.mapTurned w' b) : w.grownBy w' (some b) := h.grown

/-- the map written -/
theorem Clo.put {base cb mb n : Nat} {w W : World} {v : Value} {l : List Mx} (h : Clo base cb mb n w v l) (hg : w.grownBy W (some mb)) :
    W.heap[cb]? = some (.cells #[v, .map (some mb)] 60) ∧ Made base W 22 (MatX cb mb) v l ∧ Below base w W := by
  refine ⟨(hg.block cb (two h.box).2.2.2 (fun e => h.lb.2.2 (by injection e))).trans h.box, ?_, ?_⟩
  · exact h.made.grown (keeps_matX _ _) hg h.ne.2 fun P w u x hx => MatR.keep hx (fun b hb => ⟨⟨hb.1, hb.2.2⟩, hb.2⟩) fun _ _ => rfl
  · exact ⟨hg.os, hg.tape, hg.output, hg.size, fun k hk => hg.block k (by have := (two h.box).2.2.2; have := h.lb; omega) (fun e => by injection e with e; have := h.lb; omega)⟩

theorem App.of_lies {base : Nat} {e : TypeId} {sz : Nat} {w w' : World} {v : Value} {n g cap H m : Nat} {xs : List Value} (hH : w.heap.size = H) (h1 : w'.ownsRow base e sz (.slice (some ⟨g, 0, none⟩) m cap) n xs) (h2 : w.grownBy w' v.ownBlock) (h3 : v.ownBlock = some g ∨ g = H) :
    App base e sz w w' v (.slice (some ⟨g, 0, none⟩) m cap) n xs := by
  refine ⟨h1, h2, ?_⟩
  rcases h3 with h3 | h3
  · exact .inl (by rw [h3]; rfl)
  · exact .inr ⟨g, rfl, by omega⟩

/-- 'append(l, x)' of one value behind its buildSlice, as a step of a region that draws -/
theorem step_app1 {P : Program} {ops : Array Oper} {o : Oper} {a : Act} {K : Act → World → Prop} {Q : Exit → Act → World → Prop} {E : Prop} {w3 : World} (hgd : o.guard = none) (s x : Operand) (t : TypeId)
    (ho : o.op = .call { callee := .builtin .append, args := #[s, x], argTypes := #[t, t] })
    (base : Nat) (e : TypeId) (i : TypeInfo) (z : Value) (bytes : Nat) (ht : P.underlying t = some (.slice e)) (hi : P.info? e = some i) (hz : i.zero = some z)
    (hsize : i.size = 1) (hby : i.bytes = bytes) (hzs : z.cells.size = 1)
    (v : Value) (n : Nat) (xs : List Value) (hs : a.eval s = v) (hown : w3.ownsRow base e 1 v n xs) (hbase : base ≤ w3.heap.size)
    (c : Nat) (u : Value) (hx : a.eval x = .slice (some ⟨w3.heap.size, 0, none⟩) 1 c) (h1 : u.oneCell' = true)
    (h63 : n + 1 ≤ maxLen) (hbytes : (n + 1) * bytes ≤ 140737488355328)
    (h : ∀ g cap w5, App base e 1 (w3.alloc (.cells #[u] e)) w5 v (.slice (some ⟨g, 0, none⟩) (n + 1) cap) (n + 1) (xs ++ [u]) → K (a.put o.dst (.slice (some ⟨g, 0, none⟩) (n + 1) cap)) w5) :
    if Region.wanted o (yielded ops a.tmps) = true then Oper.wp P o a (w3.alloc (.cells #[u] e)) K Q else E := by
  refine step_append_lies _ hgd s x t ho base e i z 1 bytes ht hi hz hsize hby hzs (by omega) v n xs hs (hown.alloc _)
    ⟨w3.heap.size, 0, none⟩ 1 c [u] hx rfl (cell_one_new _ _ _) (by intro q hq; simp at hq; subst hq; exact h1) (by omega) h63 hbytes (by rw [World.size_alloc]; omega) _ rfl ?_
  intro g cap w5 h1 h2 h3 h4
  exact h _ _ _ (App.of_lies rfl h1 h2 h3)

set_option maxRecDepth 100000 in
set_option maxHeartbeats 4000000 in
theorem add_w {base cb mb n : Nat} {v : Value} {l : List Mx} (vm : Value) (m : Mx) (w : World) (h : Clo base cb mb n w v l) (hm : MatR (· < w.heap.size) w vm m) (hr : right m = true ∧ m.length = n) (hl : l.length ≤ 256) :
    Calls Try.prog 45 #[.pointer (some ⟨cb, 0, none⟩), vm] w fun e w' => e = .returned (.bool (decide ((addM l m).length ≤ 256))) ∧ (∃ v', Clo base cb mb n w' v' (addM l m)) ∧ Below base w w' := by
  have kt := Text_w vm m w hm hr.1
  have hkey := Go.WideMaps.keyOf_string_mk Try.underlying9 (txt_size hr.1)
  rw [key_str] at hkey
  obtain ⟨s, hs⟩ : ∃ s, s = strOfNums (txt m m.length) := ⟨_, rfl⟩
  rw [← hs] at kt hkey
  have hbs : base ≤ w.heap.size := by have := (two h.box).2.2.2; have := h.lb; omega
  have KT := Lib.hid kt
  have HKEY := Lib.hid hkey
  have H := Lib.hid h
  have HM := Lib.hid hm
  have HR := Lib.hid hr
  have HL := Lib.hid hl
  obtain ⟨ao, cap, hv⟩ := h.shape
  subst hv
  obtain ⟨am, cm, hvm⟩ := hm.shape
  subst hvm
  clear kt hkey hs h hm hr hl
  obtain ⟨i22, hi22, hy1, hy2, hy3⟩ := info_parts (show (Try.prog.info? 22).map (fun i => (i.zero, i.size, i.bytes)) = some (some (.slice none 0 0), 1, 24) by kernel_rfl)
  go_enter Try.func45, Try.ntmps45
  go_wp2_with fail
  refine KT.out.mono ?_
  rintro e w1 ⟨rfl, hb⟩
  have hC := H.out.on hb
  obtain ⟨c0, c1, cf, cl⟩ := two hC.box
  have hbel : Below base w w1 := hb.mono hbs
  have hm1 := (HM.out.cells (map_cells H.out.map)).keep (w' := w1) (P' := fun g => g < w1.heap.size ∧ g ≠ mb) (fun b hb' => ⟨Nat.lt_of_lt_of_le hb'.1 hb.size, hb'.2⟩) (fun b hb' => hb.block b hb'.1)
  obtain ⟨c, hrun, hat, -⟩ := hC.map.lookup_int law9 Try.underlying58 Try.underlying3 (zero3 _) HKEY.out
  rw [atKey_keys l m _ hC.sq HR.out] at hat
  by_cases hml : m ∈ l
  · rw [if_pos hml] at hat
    obtain rfl : c = 1 := by unfold one1 at hat; injection hat with hat; injection hat with _ hat; exact hat.symm
    have HC := Lib.hid hC
    have HML := Lib.hid hml
    have HB := Lib.hid hbel
    clear hat hC hml hbel hb
    go_wp2_with fail
    go_ret
    refine ⟨?_, ⟨_, by rw [addM_in HML.out]; exact HC.out⟩, HB.out⟩
    rw [addM_in HML.out, decide_eq_true HL.out]; rfl
  · rw [if_neg hml] at hat
    obtain rfl : c = 0 := by injection hat with hat; injection hat with _ hat; exact hat.symm
    have hmap := hC.map
    have HC := Lib.hid hC
    have HML := Lib.hid hml
    have HB := Lib.hid hbel
    have HM1 := Lib.hid hm1
    clear hat hC hml hbel hb hm1
    go_wp2_with (first
      | (at_mapUpdate; refine wpList_mapUpdate_in _ rfl _ _ _ 58 rfl 9 3 law9 Try.underlying58 _ mb l.length _ rfl hmap (by have := HL.out; unfold maxLen; omega) _ _ _ rfl rfl HKEY.out _ [] (plainElem_int Try.underlying3 (a := 1) (by decide)) ?_; intro w2 hown2 hturn2)
      | fail)
    have hg2 := hturn2.grown
    obtain ⟨hbox2, hmd2, hbw2⟩ := HC.out.put hg2
    have hs2 := hg2.size
    have hlb := HC.out.lb
    have hne := HC.out.ne
    obtain ⟨d0, d1, df, dl⟩ := two hbox2
    have ml := hown2.lt
    have hm2 : MatR (· < w2.drew.heap.size) w2.drew (.slice am m.length cm) m := HM1.out.keep (fun b hb' => Nat.lt_of_lt_of_le hb'.1 hs2) fun b hb' => hg2.block b hb'.1 (fun e => hb'.2 (by injection e))
    have HM2 := Lib.hid hm2
    have HMD := Lib.hid hmd2
    have HBW := Lib.hid hbw2
    have HBOX := Lib.hid hbox2
    have HOWN := Lib.hid hown2
    have HSQ := Lib.hid HC.out.sq
    have HLB := Lib.hid hlb
    have HNE := Lib.hid hne
    clear c0 c1 cf cl hrun hmap hturn2 hg2 hmd2 hbw2 hbox2 hown2 hm2 d1 HC HM1 HM hs2 hlb hne
    refine wp_region_order [(0, true), (1, true), (2, true), (3, true), (4, true), (5, true), (6, false), (7, false), (8, false), (9, true), (10, true), (11, false)] (fun w' => w'.cell? ⟨cb, 0, none⟩ = some (.slice ao l.length cap)) (by kernel_rfl) (by kernel_rfl) d0 (fun hHeld => ?_)
    simp only [pickT, List.getElem?_cons_zero, List.getElem?_cons_succ, Option.getD_some]
    repeat (refine wpT_take (v := ?_) (by rfl) (fun w' hSw => ?_) ?_; rotate_left; (go_simp; with_reducible rfl); simp only [Act.put, List.setIfInBounds_toArray, List.set_cons_zero, List.set_cons_succ])
    refine wpT_do (fun K hK => ?_)
    go_simp
    go_at_call 53
    refine (copied_w _ m w2.drew HM2.out HR.out.1).mono ?_
    rintro e w3 ⟨v3, rfl, hr3, hb3⟩
    obtain ⟨a3, m3, rfl⟩ := hr3.shape
    have e0 := (hb3.cell (p := ⟨cb, 0, none⟩) dl).trans d0
    have HR3 := Lib.hid hr3
    have HB3 := Lib.hid hb3
    clear hr3 hb3 hHeld HM2
    refine hK.out _ _ e0 (fun hHeld => ?_)
    clear hK K
    refine wpT_do (fun K hK => ?_)
    go_simp
    refine hK.out _ _ (by go_keep) (fun hHeld => ?_)
    clear hK K hHeld
    obtain ⟨vals, hvo, hvr⟩ := (show Made base w2.drew 22 (MatX cb mb) (.slice ao l.length cap) l from HMD.out).below (keeps_matX _ _) HB3.out
    have HVO := Lib.hid hvo
    have HVR := Lib.hid hvr
    have hs3 := HB3.out.size
    have hs3' : w2.heap.size ≤ w3.heap.size := hs3
    have hbw3 := HBW.out.size
    clear hvo hvr
    refine wpT_do (fun K hK => ?_)
    refine step_app1 rfl _ _ 39 rfl base 22 i22 _ 24 Try.underlying39 hi22 hy1 hy2 hy3 rfl (.slice ao l.length cap) l.length vals rfl HVO.out (by have := HLB.out; omega) 1 (.slice a3 m.length m3) rfl rfl (by have := HL.out; unfold maxLen; omega) (by have := HL.out; omega) ?_
    intro g cap5 w5 happ
    have hown0 : ∀ k, (Value.slice ao l.length cap).ownBlock = some k → base ≤ k ∧ k < w2.heap.size := HMD.out.block
    have hmade : Made base w5 22 (MatX cb mb) (.slice (some ⟨g, 0, none⟩) (l.length + 1) cap5) (l ++ [m]) := by
      refine Made.app (keeps_matX _ _) (fun i hi => ?_) (by have := HVO.out.1; omega) happ rfl ?_
      · obtain ⟨u, q1, q2, q3⟩ := HVR.out i hi
        exact ⟨u, q1, q2, keeps_matX _ _ _ _ _ _ _ _ q3 (fun b hb => ⟨hb.1, by rw [World.size_alloc]; have := hb.2; omega⟩) fun b hb => Below.heap_alloc _ _ _ hb.2⟩
      · refine MatR.keep HR3.out (fun b hb => ?_) fun b hb => Below.heap_alloc _ _ _ hb.2
        have h1 : w2.heap.size ≤ b := hb.1
        have h2 := hb.2
        refine ⟨⟨fun e => ?_, ?_⟩, ?_, ?_⟩
        · have := (hown0 b e).2; omega
        · rw [World.size_alloc]; omega
        · omega
        · omega
    have hcb : cb < (w3.alloc (.cells #[.slice a3 m.length m3] 22)).heap.size := by rw [World.size_alloc]; omega
    have hmb : mb < (w3.alloc (.cells #[.slice a3 m.length m3] 22)).heap.size := by rw [World.size_alloc]; omega
    have k0 := happ.other hcb HNE.out.1
    have k1 := happ.other hmb HNE.out.2
    have ec : w5.heap[cb]? = some (.cells #[.slice ao l.length cap, .map (some mb)] 60) := by
      rw [k0.1, Below.heap_alloc _ _ _ (by omega), HB3.out.block cb (by show cb < w2.heap.size; omega)]; exact HBOX.out
    have em : w5.heap[mb]? = w2.heap[mb]? := by
      rw [k1.1, Below.heap_alloc _ _ _ (by omega), HB3.out.block mb (by show mb < w2.heap.size; omega)]; rfl
    have hlb := HLB.out
    have hbA : base ≤ w3.heap.size := by omega
    have hb5 : Below base w w5 := (((HB.out.trans (HBW.out.trans (below_drewN (Below.refl base w2) 1))).trans (HB3.out.mono (by show base ≤ w2.heap.size; omega))).alloc hbA (.cells #[.slice a3 m.length m3] 22)).trans (happ.below (by rw [World.size_alloc]; omega) fun k hk => (hown0 k hk).1)
    obtain ⟨f0, f1, ff, fl⟩ := two ec
    have HEC := Lib.hid ec
    have HEM := Lib.hid em
    have HMADE := Lib.hid hmade
    have HB5 := Lib.hid hb5
    have HN0 := Lib.hid k0.2
    have HN1 := Lib.hid k1.2
    have ff0 := ff 0
    clear happ hmade hown0 hcb hmb k0 k1 ec em hb5 ff f1 e0 d0 df
    refine hK.out _ _ f0 (fun hHeld => ?_)
    clear hK K
    repeat (refine wpT_take (v := ?_) (by rfl) (fun w' hSw => ?_) ?_; rotate_left; (go_simp; with_reducible rfl); simp only [Act.put, List.setIfInBounds_toArray, List.set_cons_zero, List.set_cons_succ])
    refine wpT_last (fun K hK => ?_)
    go_simp
    refine hK.out _ _ ?_
    clear hK K hHeld
    have hbox6 : (w5.setCell ⟨cb, 0, none⟩ (.slice (some ⟨g, 0, none⟩) (l.length + 1) cap5)).heap[cb]? = some (.cells #[.slice (some ⟨g, 0, none⟩) (l.length + 1) cap5, .map (some mb)] 60) := by
      simp [World.setCell, Array.getElem?_modify, HEC.out]
    obtain ⟨q0, q1, -, -⟩ := two hbox6
    have HBOX6 := Lib.hid hbox6
    clear hbox6 f0 ff0
    go_wp2_with fail
    go_ret
    refine ⟨?_, ⟨.slice (some ⟨g, 0, none⟩) (l.length + 1) cap5, ?_⟩, HB5.out.setCell (by show base ≤ cb; omega) _⟩
    · rw [addM_out HML.out]
      have : decide ((l.length : Int) + 1 ≤ 256) = decide ((l ++ [m]).length ≤ 256) := by rw [decide_eq_decide]; simp; omega
      rw [← this]; rfl
    · rw [addM_out HML.out]
      refine ⟨hlb, HBOX6.out, ?_, ?_, ⟨HN0.out, HN1.out⟩, ?_⟩
      · obtain ⟨es, clock, q, r⟩ := HOWN.out
        rw [keysOf_snoc, List.length_append]
        refine ⟨es, clock, ?_, r⟩
        rw [Below.heap_setCell _ _ _ _ (by show mb ≠ cb; omega), HEM.out]; exact q
      · refine HMADE.out.grown (keeps_matX _ _) (b := cb) ⟨rfl, rfl, rfl, by simp [World.setCell], fun k _ hk => Below.heap_setCell _ _ _ _ (by show k ≠ cb; intro e; exact hk (by rw [e]))⟩ HN0.out fun P w u x hx => MatR.keep hx (fun b hb => ⟨⟨hb.1, hb.2.1⟩, hb.2⟩) fun _ _ => rfl
      · have := HSQ.out.add HR.out
        rwa [addM_out HML.out] at this
end Go.Proofs.Ytfcmkhjimgpppaa
