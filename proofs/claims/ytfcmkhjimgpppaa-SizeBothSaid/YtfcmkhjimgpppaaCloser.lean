/-
  The closer in memory; matrix.copied: a contract. Plain, but for copied.
-/
import Derived.Test.YtfcmkhjimgpppaaKeys
import Derived.Test.YtfcmkhjimgpppaaLawQ
import Derived.Deep.AppendLies
namespace Go.Proofs.Ytfcmkhjimgpppaa
open Go.RowKit Go.Maps
set_option linter.unusedVariables false
set_option linter.unusedSimpArgs false

/-- rows in blocks from B on -/
def RowB (B : Nat) (P : Nat → Prop) (w : World) (u : Value) (x : List Int) : Prop := RowR (fun g => P g ∧ B ≤ g) w u x
theorem keeps_rowB (B : Nat) : Keeps (RowB B) := fun _ _ _ _ _ _ h h1 h2 => RowR.keep h (fun b hb => ⟨h1 b hb.1, hb.2⟩) fun b hb => h2 b hb.1
/-- matrices that do not lie in two blocks -/
def MatX (cb mb : Nat) (P : Nat → Prop) (w : World) (u : Value) (m : Mx) : Prop := MatR (fun g => P g ∧ g ≠ cb ∧ g ≠ mb) w u m
theorem keeps_matX (cb mb : Nat) : Keeps (MatX cb mb) := fun _ _ _ _ _ _ h h1 h2 => MatR.keep h (fun b hb => ⟨h1 b hb.1, hb.2⟩) fun b hb => h2 b hb.1

/-- a slice in the making is carried on where another block is written -/
theorem Made.grown {α : Type} {base : Nat} {w W : World} {e : TypeId} {R : (Nat → Prop) → World → Value → α → Prop} {v : Value} {l : List α} (hR : Keeps R) (h : Made base w e R v l) {b : Nat} (hb : w.grownBy W (some b)) (hv : v.ownBlock ≠ some b)
    (hX : ∀ P w u x, R P w u x → R (fun g => P g ∧ g ≠ b) w u x) : Made base W e R v l := by
  obtain ⟨vals, h1, h2⟩ := h
  refine ⟨vals, h1.kept hb (.inr hv), fun i hi => ?_⟩
  obtain ⟨u, hu, h1c, hr⟩ := h2 i hi
  exact ⟨u, hu, h1c, hR _ _ _ _ _ _ (hX _ _ _ _ hr) (fun b hb' => ⟨hb'.1.1, Nat.lt_of_lt_of_le hb'.1.2 hb.size⟩) fun b' hb' => hb.block b' hb'.1.2 (fun e => hb'.2 (by injection e))⟩

theorem Made.readB {α : Type} {base : Nat} {w : World} {e : TypeId} {R : (Nat → Prop) → World → Value → α → Prop} {v : Value} {l : List α} (hR : Keeps R) (h : Made base w e R v l) : SlR (fun g => base ≤ g ∧ g < w.heap.size) (CellR w (R (· < w.heap.size) w)) v l := by
  obtain ⟨vals, h1, h2⟩ := h
  refine SlR.own h1 rfl (fun g _ hb hg => ⟨hb, hg⟩) fun i hi a u hu hc => ?_
  obtain ⟨u', hu', -, hr⟩ := h2 i hi
  rw [hu] at hu'
  injection hu' with hu'
  subst hu'
  exact ⟨u, hc, hR _ _ _ _ _ _ hr (fun b hb => hb.2) fun _ _ => rfl⟩

/-- what is read lies in blocks of cells -/
theorem MatR.cells {P : Nat → Prop} {w : World} {v : Value} {m : Mx} (h : MatR P w v m) {b : Nat} (hb : ∀ o, w.cell? ⟨b, o, none⟩ = none) : MatR (fun g => P g ∧ g ≠ b) w v m := by
  obtain ⟨ao, cap, hv, hl, hc, he⟩ := h
  refine ⟨ao, cap, hv, hl, hc, fun i hi => ?_⟩
  obtain ⟨b1, o1, h1, h2, u, hu, ao2, cap2, hv2, hl2, hc2, he2⟩ := he i hi
  refine ⟨b1, o1, h1, ⟨h2, fun e => ?_⟩, u, hu, ao2, cap2, hv2, hl2, hc2, fun j hj => ?_⟩
  · subst e; rw [hb] at hu; cases hu
  · obtain ⟨b2, o2, q1, q2, q3⟩ := he2 j hj
    refine ⟨b2, o2, q1, ⟨q2, fun e => ?_⟩, q3⟩
    subst e; unfold IntR at q3; rw [hb] at q3; cases q3
theorem map_cells {w : World} {P : Program} {k : TypeId} {R : Value → Option (DataW Unit × List MemPlace)} {b n : Nat} {D : DataW Unit} (h : w.ownsMap P k R b n D) (o : Nat) : w.cell? ⟨b, o, none⟩ = none := by
  obtain ⟨es, clock, hb, -⟩ := h
  simp [World.cell?, hb]

/-- the closer: its list and its map -/
structure Clo (base cb mb n : Nat) (w : World) (v : Value) (l : List Mx) : Prop where
  lb : base ≤ cb ∧ base ≤ mb ∧ cb ≠ mb
  box : w.heap[cb]? = some (.cells #[v, .map (some mb)] 60)
  map : w.ownsMap Try.prog 9 (plainElem Try.prog 3) mb l.length (keysOf l)
  made : Made base w 22 (MatX cb mb) v l
  ne : v.ownBlock ≠ some cb ∧ v.ownBlock ≠ some mb
  sq : Sqs n l
theorem two {w : World} {B : Nat} {a b : Value} {z : TypeId} (h : w.heap[B]? = some (.cells #[a, b] z)) :
    w.cell? ⟨B, 0, none⟩ = some a ∧ w.cell? ⟨B, 1, none⟩ = some b ∧ (∀ j, w.frozen? ⟨B, j, none⟩ = false) ∧ B < w.heap.size := by
  refine ⟨?_, ?_, fun j => ?_, (Array.getElem?_eq_some_iff.1 h).1⟩ <;> first | (unfold World.cell?; rw [h]; rfl) | (unfold World.frozen?; rw [h]; simp)
theorem Clo.on {base cb mb n : Nat} {w W : World} {v : Value} {l : List Mx} (h : Clo base cb mb n w v l) (hb : Below w.heap.size w W) : Clo base cb mb n W v l :=
  ⟨h.lb, (hb.block _ (two h.box).2.2.2).trans h.box, by
    obtain ⟨es, clock, q, r⟩ := h.map
    exact ⟨es, clock, (hb.block _ h.map.lt).trans q, r⟩, h.made.below (keeps_matX _ _) hb, h.ne, h.sq⟩
theorem Clo.shape {base cb mb n : Nat} {w : World} {v : Value} {l : List Mx} (h : Clo base cb mb n w v l) : ∃ ao cap, v = .slice ao l.length cap := by
  obtain ⟨ao, cap, hv, -⟩ := h.made.read (keeps_matX _ _)
  exact ⟨ao, cap, hv⟩
/-- an element -/
theorem Clo.get {base cb mb n : Nat} {w : World} {v : Value} {l : List Mx} (h : Clo base cb mb n w v l) : ∃ ao cap, v = .slice ao l.length cap ∧ l.length ≤ 9223372036854775807 ∧
    ∀ i (hi : i < l.length), ∃ b off u, ao = some ⟨b, off, none⟩ ∧ b < w.heap.size ∧ w.cell? ⟨b, off + i, none⟩ = some u ∧ MatR (· < w.heap.size) w u (l.getD i []) ∧ right (l.getD i []) = true ∧ (l.getD i []).length = n := by
  obtain ⟨ao, cap, hv, hlc, hcm, he⟩ := h.made.read (keeps_matX _ _)
  refine ⟨ao, cap, hv, by unfold maxLen at hcm; omega, fun i hi => ?_⟩
  obtain ⟨b, off, h1, h2, u, hu, hr⟩ := he i hi
  refine ⟨b, off, u, h1, h2, hu, ?_, h.sq _ (getD_mem hi)⟩
  rw [List.getD_eq_getElem?_getD, List.getElem?_eq_getElem hi]
  exact MatR.keep hr (fun b hb => hb.1) fun _ _ => rfl
theorem Clo.mats {base cb mb n : Nat} {w : World} {v : Value} {l : List Mx} (h : Clo base cb mb n w v l) : MatsR (· < w.heap.size) w v l := by
  have := h.made.read (keeps_matX _ _)
  exact SlR.mono this (fun b hb => hb) fun a x ha _ hx => by
    obtain ⟨u, h1, h2⟩ := hx
    exact ⟨u, h1, MatR.keep h2 (fun b hb => hb.1) fun _ _ => rfl⟩

/-- a matrix in new memory -/
def NewMat (w : World) (m : Mx) (e : Ending) (w' : World) : Prop := ∃ v, e = .returned v ∧ MatR (fun g => w.heap.size ≤ g ∧ g < w'.heap.size) w' v m ∧ Below w.heap.size w w'
theorem copied_nil (ao : Option Addr) (cap : Nat) (w : World) : Calls Try.prog 53 #[.slice ao 0 cap] w (NewMat w []) := by
  go_enter Try.func53, Try.ntmps53
  go_wp2_with fail
  refine wp_loop_rounds 1 ?_
  rw [rounds_succ]
  go_wp2_with fail
  go_ret
  exact ⟨_, rfl, SlR.nil _ _, Below.refl _ _⟩

theorem take_getD {α : Type} (l : List α) (d : α) (k : Nat) (h : k < l.length) : l.take (k + 1) = l.take k ++ [l.getD k d] := by
  rw [List.take_succ_eq_append_getElem h, List.getD_eq_getElem?_getD, List.getElem?_eq_getElem h]; rfl
set_option maxHeartbeats 2000000 in
theorem copied_sq (va : Value) (m : Mx) (n b off cap : Nat) (B O C : Nat → Nat) (w : World) (h24 : n ≤ 24) (hl : m.length = n) (hs : SqR w va m n b off cap B O C) (hlen : ∀ i, i < n → (m.getD i []).length = n) (h0 : n ≠ 0) :
    Calls Try.prog 53 #[va] w (NewMat w m) := by
  have hav := hs.val
  subst hav
  have hbw : b < w.heap.size := lt_of_cell (hs.row 0 (by omega))
  have hBw : ∀ i, i < n → B i < w.heap.size := fun i hi => lt_of_cell (hs.cell i 0 hi (by omega))
  have hkeep : ∀ w', Below w.heap.size w w' → SqR w' (.slice (some ⟨b, off, none⟩) n cap) m n b off cap B O C := fun w' hbl => hs.keep (fun _ => hbl.block _ hbw) fun i hi => hbl.block _ (hBw i hi)
  have HK := Lib.hid hkeep
  have HLEN := Lib.hid hlen
  have HML := Lib.hid hl
  clear hkeep hs hlen hl
  obtain ⟨i29, hi29, hy1, hy2, hy3⟩ := info_parts info29
  obtain ⟨i3, hi3, hx1, hx2, hx3⟩ := info_parts info3
  go_enter Try.func53, Try.ntmps53
  go_wp2_with fail
  go_loopw [3, 8] (fun v i wr => ∃ k : Nat, i = .int .i64 k ∧ k ≤ n ∧ Made w.heap.size wr 29 (RowB w.heap.size) v (m.take k) ∧ Below w.heap.size w wr) (fun _ i _ => n - (intOf i).toNat)
  case atStart => exact ⟨0, rfl, Nat.zero_le _, Made.nil _ _ _ _, Below.refl _ _⟩
  case round =>
    obtain ⟨k, rfl, hk, hrows, hbel⟩ := hrel
    obtain ⟨w2, rfl⟩ : ∃ w2 : World, w2 = wr := ⟨_, rfl⟩
    by_cases hlt : k < n
    · have c1 := (HK.out w2 hbel).row k hlt
      have hS := Lib.hid (HK.out w2 hbel)
      obtain ⟨A, hA⟩ : ∃ A, A = B k := ⟨_, rfl⟩
      obtain ⟨OA, hOA⟩ : ∃ A, A = O k := ⟨_, rfl⟩
      obtain ⟨CA, hCA⟩ : ∃ A, A = C k := ⟨_, rfl⟩
      rw [← hA, ← hOA, ← hCA] at c1
      obtain ⟨r, hr⟩ : ∃ r, r = m.getD k [] := ⟨_, rfl⟩
      have hrl : r.length = n := by rw [hr]; exact HLEN.out k hlt
      have hcs : ∀ j u, (r.map (Value.int .i64))[j]? = some u → w2.cell? ((⟨A, OA, none⟩ : Addr).add j) = some u := by
        intro j u hu
        have hj : j < n := by have := (List.getElem?_eq_some_iff.1 hu).1; simpa [hrl] using this
        rw [Addr.add_lit, hA, hOA, hS.out.cell k j hlt hj, ← hu, List.getElem?_map]
        unfold G
        rw [← hr, List.getElem?_eq_getElem (by omega), List.getD_eq_getElem?_getD, List.getElem?_eq_getElem (by omega)]
        rfl
      have hAw : A < w2.heap.size := by rw [hA]; exact Nat.lt_of_lt_of_le (hBw k hlt) hbel.size
      have hs1 := hbel.size
      have hblk := hrows.block
      have HCS := Lib.hid hcs
      have HR := Lib.hid hr
      have HRL := Lib.hid hrl
      have HROWS := Lib.hid hrows
      have HBLK := Lib.hid hblk
      have HBEL := Lib.hid hbel
      clear hA hOA hCA hcs hr hrl hS hrows hblk hbel
      go_wp2_with (at_builtin; refine wpList_app rfl _ _ 29 rfl w.heap.size 3 i3 (.int .i64 0) 1 8 Try.underlying29 hi3 hx1 hx2 hx3 rfl (by decide) (.slice (some ⟨w2.heap.size, 0, none⟩) 0 0) 0 [] rfl ?a0 ⟨A, OA, none⟩ n CA (r.map (Value.int .i64)) rfl ?a1 ?a2 ?a3 ?a4 ?a5 ?a6 ?_)
      case a0 => exact ⟨rfl, .inr ⟨w2.heap.size, 0, #[], rfl, hs1, by show (w2.heap.push _)[w2.heap.size]? = _; simp, Nat.le_refl _, Nat.zero_le _, rfl, rfl⟩⟩
      case a1 => rw [List.length_map, HRL.out, Nat.mul_one]
      case a2 => exact fun j u hu => (cell_keep (a := (⟨A, OA, none⟩ : Addr).add j) (Below.heap_alloc _ _ _ (by rw [Addr.add_lit]; exact hAw))).trans (HCS.out j u hu)
      case a3 => intro u hu; obtain ⟨x, -, rfl⟩ := List.mem_map.1 hu; rfl
      case a4 => unfold maxLen; omega
      case a5 => omega
      case a6 => simp only [World.size_alloc]; omega
      intro v' w3 happ
      have hb3 : Below w2.heap.size w2 w3 := ((Below.refl w2.heap.size w2).alloc (Nat.le_refl _) (.cells #[] 3)).trans (happ.below (B := w2.heap.size) (by simp only [World.size_alloc]; omega) (fun q hq => by have hq : some w2.heap.size = some q := hq; injection hq with hq; omega))
      have hrow : RowR (fun g => w2.heap.size ≤ g ∧ g < w3.heap.size) w3 v' r := by
        have ho := happ.own
        rw [← HRL.out] at ho
        refine SlR.own ho rfl (fun g hg _ hlt => ⟨?_, hlt⟩) fun i hi a u hu hc => ?_
        · rcases happ.blk with h1 | ⟨g', h1, h2⟩
          · rw [h1] at hg; have hg : some w2.heap.size = some g := hg; injection hg with hg; omega
          · rw [h1] at hg; injection hg with hg; subst hg; simp only [World.size_alloc] at h2; omega
        · unfold IntR
          rw [hc, ← hu, List.getElem?_map, List.getElem?_eq_getElem hi]; rfl
      have hrow2 := hrow
      obtain ⟨ao', cap', hv', -⟩ := hrow2
      subst hv'
      have hs3 := hb3.size
      have hMd : Made w.heap.size (w3.alloc (.cells #[.slice ao' r.length cap'] 29)) 29 (RowB w.heap.size) u3 (m.take k) := HROWS.out.below (keeps_rowB _) (hb3.alloc hs3 _)
      have hbelW : Below w.heap.size w (w3.alloc (.cells #[.slice ao' r.length cap'] 29)) := (HBEL.out.trans (hb3.mono hs1)).alloc (by omega) _
      have hrowW : RowB w.heap.size (fun b => u3.ownBlock ≠ some b ∧ b < (w3.alloc (.cells #[.slice ao' r.length cap'] 29)).heap.size) (w3.alloc (.cells #[.slice ao' r.length cap'] 29)) (.slice ao' r.length cap') r :=
        RowR.keep hrow (fun q hq => ⟨⟨fun e => by have := (HBLK.out _ e).2; omega, by simp only [World.size_alloc]; omega⟩, by omega⟩) fun q hq => Below.heap_alloc _ _ _ hq.2
      obtain ⟨vals, hvo, hvr⟩ := hMd
      have hvl : vals.length = (m.take k).length := by have := hvo.1; omega
      have hk2 : (m.take k).length = k := by rw [List.length_take, HML.out]; omega
      have HVR := Lib.hid hvr
      have HVL := Lib.hid hvl
      have HK2 := Lib.hid hk2
      have HROWW := Lib.hid hrowW
      have HBELW := Lib.hid hbelW
      rw [hk2] at hvo
      clear hvr hvl hk2 hrowW hbelW happ hrow hb3 HCS HROWS HBEL c1
      go_wp2_with (at_builtin; refine wpList_app rfl _ _ 22 rfl w.heap.size 29 i29 (.slice none 0 0) 1 24 Try.underlying22 hi29 hy1 hy2 hy3 rfl (by decide) u3 k vals rfl hvo ⟨w3.heap.size, 0, none⟩ 1 1 [.slice ao' r.length cap'] rfl rfl ?c1 ?c2 ?c3 ?c4 ?c5 ?_)
      case c1 => exact cell_one_new _ _ _
      case c2 => intro u hu; simp at hu; subst hu; rfl
      case c3 => unfold maxLen; omega
      case c4 => omega
      case c5 => simp only [World.size_alloc]; omega
      intro v' w4 happ
      have hM : Made w.heap.size w4 29 (RowB w.heap.size) v' (m.take (k + 1)) := by
        rw [take_getD m [] k (by rw [HML.out]; exact hlt), ← HR.out]
        exact Made.app (keeps_rowB _) HVR.out HVL.out (by rw [HK2.out]; exact happ) rfl HROWW.out
      have hB4 := HBELW.out.trans (happ.below HBELW.out.size (fun q hq => (HBLK.out q hq).1))
      clear happ HVR HVL HROWW HBELW hvo
      go_wp2_with fail
      go_roundw
      case rel => exact ⟨k + 1, by go_num, by omega, hM, hB4⟩
      case measure => simp [intOf]; omega
    · have hkn : k = n := by omega
      subst hkn
      go_wp2_with fail
      go_ret
      refine ⟨_, rfl, ?_, hbel⟩
      have := hrows.readB (keeps_rowB _)
      rw [List.take_of_length_le (by rw [HML.out]; exact Nat.le_refl _)] at this
      exact SlR.mono this (fun b hb => hb) fun a x ha _ hx => by
        obtain ⟨u, h1, h2⟩ := hx
        exact ⟨u, h1, RowR.keep h2 (fun b hb => ⟨hb.2, hb.1⟩) fun _ _ => rfl⟩
theorem copied_w {P : Nat → Prop} (va : Value) (m : Mx) (w : World) (h : MatR P w va m) (hr : right m = true) : Calls Try.prog 53 #[va] w (NewMat w m) := by
  obtain ⟨r1, r2, r3⟩ := right_sq hr
  by_cases h0 : m.length = 0
  · obtain ⟨ao, ca, rfl⟩ := h.shape
    obtain rfl : m = [] := List.eq_nil_of_length_eq_zero h0
    exact copied_nil _ _ _
  · obtain ⟨ba, oa, ca, A1, A2, A3, hA, -, -⟩ := h.sq rfl h0 r2
    exact copied_sq va m m.length ba oa ca A1 A2 A3 w r1 rfl hA r2 h0
end Go.Proofs.Ytfcmkhjimgpppaa
