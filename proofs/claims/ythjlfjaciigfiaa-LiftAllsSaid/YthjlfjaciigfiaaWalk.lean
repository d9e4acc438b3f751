/-
  lift.walk: a contract of the walk, for any closure that has one.
-/
import Derived.Test.YthjlfjaciigfiaaOutX
namespace Go.Proofs.Ythjlfjaciigfiaa
open Go.RowKit
set_option linter.unusedVariables false
set_option linter.unusedSimpArgs false

/-- what is known of a closure from numbers to numbers: it may write block row; its state is kept where the blocks C are -/
structure Clo (F : Nat) (caps : Array Value) (row : Option Nat) (C : Nat → Prop) (St : Bool → World → Prop) (f : Int → Int) (g : Int → Bool) : Prop where
  call : ∀ s m w, 0 ≤ m → m ≤ 1048576 → St s w → Calls Try.prog F (#[.int .i64 m] ++ caps) w fun e w' => e = .returned (.int .i64 (f m)) ∧ Bx row w.heap.size w w' ∧ St (s && g m) w'
  keep : ∀ s w w', St s w → (∀ k, C k → w'.heap[k]? = w.heap[k]?) → St s w'
  enter : ∀ args w, (callFunc F args).run Try.prog w = .ok (.enter F args) w
  bnd : ∀ m, 0 ≤ m → m ≤ 1048576 → -1099511627776 ≤ f m ∧ f m ≤ 1099511627776

/-- loose variables from the binders on are what a function makes of them -/
def Fwk (f : Int → Int) (k n b : Int) : Option Tm := if k = 1 then some (if b ≤ n then .node 1 (f (n - b) + b) [] else .node 1 n []) else none
mutual
/-- has each loose variable a property? -/
def okW (g : Int → Bool) : Tm → Int → Bool
  | .node k n l, b => if k = 1 then (if b ≤ n then g (n - b) else true) else okWL g k l b 0
def okWL (g : Int → Bool) (k : Int) : List Tm → Int → Nat → Bool
  | [], _, _ => true
  | t :: l, b, i => okW g t (b + bn k i) && okWL g k l b (i + 1)
end

def AnsX (row : Option Nat) (St : Bool → World → Prop) (w : World) (t : Tm) (s : Bool) (e : Ending) (w' : World) : Prop :=
  ∃ k n ao m c, e = .returned (.agg #[.int .i64 k, .int .i64 n, .slice ao m c]) ∧ Bx row w.heap.size w w' ∧ Rd (Fr w w') w' (.agg #[.int .i64 k, .int .i64 n, .slice ao m c]) t ∧ St s w'

set_option maxRecDepth 100000 in
set_option maxHeartbeats 4000000 in
theorem walk_leaf {F : Nat} {caps : Array Value} {row : Option Nat} {C : Nat → Prop} {St : Bool → World → Prop} {f : Int → Int} {g : Int → Bool} (hc : Clo F caps row C St f g)
    (x b : Int) (ao : Option Addr) (cap : Nat) (s : Bool) (w : World) (hx0 : 0 ≤ x) (hx1 : x ≤ 1048576) (hb0 : 0 ≤ b) (hb1 : b ≤ 1099511627776) (hC : ∀ k, C k → k < w.heap.size) (hR : ∀ r, row = some r → r < w.heap.size) (hs : St s w) :
    Calls Try.prog 73 #[.agg #[.int .i64 1, .int .i64 x, .slice ao 0 cap], .int .i64 b, .func (.func F) #[] caps] w (AnsX row St w (mp (Fwk f) (.node 1 x []) b) (s && okW g (.node 1 x []) b)) := by
  have HCLO := Lib.hid hc
  have hen := hc.enter
  have HC := Lib.hid hC
  have HR := Lib.hid hR
  have HS := Lib.hid hs
  clear hc hC hR hs
  by_cases hlt : b ≤ x
  · have e : mp (Fwk f) (.node 1 x []) b = .node 1 (f (x - b) + b) [] := by simp [mp, Fwk, hlt]
    have e2 : okW g (.node 1 x []) b = g (x - b) := by simp [okW, hlt]
    rw [e, e2]; clear e e2
    go_enter Try.func73, Try.ntmps73
    go_wp2_with fail
    have hw1 : ∀ k, k < w.heap.size → ((w.alloc (.cells #[.int .i64 1, .int .i64 x, .slice ao 0 cap] 24)).alloc (.cells #[.int .i64 0, .int .i64 0, .slice none 0 0] 24)).heap[k]? = w.heap[k]? := fun k hk =>
      (Below.heap_alloc _ _ _ (by simp; omega)).trans (Below.heap_alloc _ _ _ hk)
    have hq := heap_new (w.alloc (.cells #[.int .i64 1, .int .i64 x, .slice ao 0 cap] 24)) (.cells #[.int .i64 0, .int .i64 0, .slice none 0 0] 24) (w.heap.size + 1) (by simp)
    have hsz : ((w.alloc (.cells #[.int .i64 1, .int .i64 x, .slice ao 0 cap] 24)).alloc (.cells #[.int .i64 0, .int .i64 0, .slice none 0 0] 24)).heap.size = w.heap.size + 2 := by simp
    refine (HCLO.out.call s (x - b) _ (by omega) (by omega) (HCLO.out.keep _ _ _ HS.out fun k hk => hw1 k (HC.out k hk))).mono ?_
    rintro e w1 ⟨rfl, hb, hs1⟩
    have hne1 : some (w.heap.size + 1) ≠ row := fun e => by have := HR.out _ e.symm; omega
    have q1 := (hb.block _ (by omega) hne1).trans hq
    have hbw : Bx row w.heap.size w w1 := (Bx.of (((Below.refl _ _).alloc (Nat.le_refl _) _).alloc (by simp) _)).trans (hb.mono (by omega))
    have hfb := HCLO.out.bnd (x - b) (by omega) (by omega)
    have hsw1 : w.heap.size + 2 ≤ w1.heap.size := by have := hb.size; omega
    have HS1 := Lib.hid hs1
    have HB := Lib.hid hbw
    have Q1 := Lib.hid q1
    clear hb hbw hs1 hne1 hq hw1 hsz q1
    go_wp2_with fail
    refine (Var_w _ _).mono ?_
    rintro e w2 ⟨rfl, hb2⟩
    have q2 := (hb2.block _ (by omega)).trans Q1.out
    obtain ⟨z0, z1, z2, zf, hz⟩ := three q2
    have hs2 := HCLO.out.keep _ _ w2 HS1.out (fun k hk => hb2.block k (by have := HC.out k hk; omega))
    have hb3 := HB.out.trans (Bx.of (hb2.mono (by omega)))
    have HS2 := Lib.hid hs2
    have HB3 := Lib.hid hb3
    clear hb2 hb3 hs2 q2
    go_wp2_with fail
    refine bodyPost_ret (v := .agg #[.int .i64 1, .int .i64 (f (x - b) + b), .slice none 0 0]) (by simp [results, Try.results73, go_sem, z0, z1, z2]) rfl ⟨_, _, _, _, _, rfl, ((HB3.out.setCell (.inl (by simp)) _).setCell (.inl (by simp)) _).setCell (.inl (by simp)) _, Rd.leaf _ _ _ _ _ _ (Nat.zero_le _) (by omega) (by omega), ?_⟩
    refine HCLO.out.keep _ _ _ HS2.out fun k hk => ?_
    have := HC.out k hk
    rw [Below.heap_setCell _ _ _ _ (by show k ≠ w.heap.size + 1; omega), Below.heap_setCell _ _ _ _ (by show k ≠ w.heap.size + 1; omega), Below.heap_setCell _ _ _ _ (by show k ≠ w.heap.size + 1; omega)]
  · have e : mp (Fwk f) (.node 1 x []) b = .node 1 x [] := by simp [mp, Fwk, hlt]
    have e2 : okW g (.node 1 x []) b = true := by simp [okW, hlt]
    rw [e, e2, Bool.and_true]; clear e e2
    have hw1 : ∀ k, k < w.heap.size → ((w.alloc (.cells #[.int .i64 1, .int .i64 x, .slice ao 0 cap] 24)).alloc (.cells #[.int .i64 0, .int .i64 0, .slice none 0 0] 24)).heap[k]? = w.heap[k]? := fun k hk =>
      (Below.heap_alloc _ _ _ (by simp; omega)).trans (Below.heap_alloc _ _ _ hk)
    have hq := heap_new (w.alloc (.cells #[.int .i64 1, .int .i64 x, .slice ao 0 cap] 24)) (.cells #[.int .i64 0, .int .i64 0, .slice none 0 0] 24) (w.heap.size + 1) (by simp)
    have hsz : ((w.alloc (.cells #[.int .i64 1, .int .i64 x, .slice ao 0 cap] 24)).alloc (.cells #[.int .i64 0, .int .i64 0, .slice none 0 0] 24)).heap.size = w.heap.size + 2 := by simp
    have HW1 := Lib.hid hw1
    have HQ := Lib.hid hq
    have HSZ := Lib.hid hsz
    clear hw1 hq hsz
    go_enter Try.func73, Try.ntmps73
    go_wp2_with fail
    refine (Var_w _ _).mono ?_
    rintro e w2 ⟨rfl, hb2⟩
    have hsz := HSZ.out
    have q2 := (hb2.block _ (by omega)).trans HQ.out
    obtain ⟨z0, z1, z2, zf, hz⟩ := three q2
    have hs2 := HCLO.out.keep _ _ w2 HS.out (fun k hk => (hb2.block k (by have := HC.out k hk; omega)).trans (HW1.out k (HC.out k hk)))
    have hb3 : Bx row w.heap.size w w2 := (Bx.of (((Below.refl _ _).alloc (Nat.le_refl _) _).alloc (by simp) _)).trans (Bx.of (hb2.mono (by omega)))
    have HS2 := Lib.hid hs2
    have HB3 := Lib.hid hb3
    clear hb2 hb3 hs2 q2 hsz
    go_wp2_with fail
    refine bodyPost_ret (v := .agg #[.int .i64 1, .int .i64 x, .slice none 0 0]) (by simp [results, Try.results73, go_sem, z0, z1, z2]) rfl ⟨_, _, _, _, _, rfl, ((HB3.out.setCell (.inl (by simp)) _).setCell (.inl (by simp)) _).setCell (.inl (by simp)) _, Rd.leaf _ _ _ _ _ _ (Nat.zero_le _) (by omega) (by omega), ?_⟩
    refine HCLO.out.keep _ _ _ HS2.out fun k hk => ?_
    have := HC.out k hk
    rw [Below.heap_setCell _ _ _ _ (by show k ≠ w.heap.size + 1; omega), Below.heap_setCell _ _ _ _ (by show k ≠ w.heap.size + 1; omega), Below.heap_setCell _ _ _ _ (by show k ≠ w.heap.size + 1; omega)]

theorem okWL_drop (g : Int → Bool) (k b : Int) (l : List Tm) (j : Nat) (hj : j < l.length) (i : Nat) : okWL g k (l.drop j) b i = (okW g l[j] (b + bn k i) && okWL g k (l.drop (j + 1)) b (i + 1)) := by
  rw [List.drop_eq_getElem_cons hj]; rfl

set_option maxRecDepth 100000 in
set_option maxHeartbeats 8000000 in
theorem walk_w {F : Nat} {caps : Array Value} {row : Option Nat} {C : Nat → Prop} {St : Bool → World → Prop} {f : Int → Int} {g : Int → Bool} (hc : Clo F caps row C St f g) :
    ∀ (d : Nat) (v : Value) (t : Tm) (n : Int) (s : Bool) (w : World), RdN (fun q => q < w.heap.size ∧ some q ≠ row) w d v t → gd t = true → 0 ≤ n → n + d ≤ 1099511627776 → (∀ k, C k → k < w.heap.size) → (∀ r, row = some r → r < w.heap.size) → St s w →
    Calls Try.prog 73 #[v, .int .i64 n, .func (.func F) #[] caps] w (AnsX row St w (mp (Fwk f) t n) (s && okW g t n)) := by
  have HCLO := Lib.hid hc
  clear hc
  intro d
  induction d with
  | zero => intro v t n s w hr; exact absurd hr (fun h => h)
  | succ d ih =>
    rintro v ⟨k, x, l⟩ n s w hr hg hn0 hn1 hC hR hs
    have hll := gd_len hg
    have hgs := gd_sub hg
    obtain ⟨hk1, hk8, hx0, hx1⟩ := gd_num hg
    have hgv : k = 1 → l = [] := fun e => by subst e; exact gd_var hg
    obtain ⟨ao, cap, rfl, hlm, hk, hx, he⟩ := hr.open
    clear hr
    by_cases h1 : k = 1
    · subst h1
      have hl0 := hgv rfl
      subst hl0
      exact walk_leaf HCLO.out x n ao cap s w hx0 hx1 hn0 (by omega) hC hR hs
    have IH := Lib.hid ih
    have HE := Lib.hid he
    have HG := Lib.hid hgs
    have HK := Lib.hid hk
    have HX := Lib.hid hx
    have HC := Lib.hid hC
    have HR := Lib.hid hR
    have HS := Lib.hid hs
    have HN := Lib.hid (And.intro hn0 hn1)
    clear ih he hk hx hgs hg hgv hC hR hs
    have h1b : (k == 1) = false := by simp [h1]
    have e : mp (Fwk f) (.node k x l) n = .node k x (mpL (Fwk f) k l n 0) := by simp [mp, Fwk, h1]
    have e2 : okW g (.node k x l) n = okWL g k l n 0 := by simp [okW, h1]
    rw [e, e2]; clear e e2
    go_enter Try.func73, Try.ntmps73
    go_wp2_with fail
    have hw0 : (((w.alloc (.cells #[.int .i64 k, .int .i64 x, .slice ao l.length cap] 24)).alloc (.cells #[.int .i64 0, .int .i64 0, .slice none 0 0] 24)).alloc (.cells #[.int .i64 k, .int .i64 x, .slice none 0 0] 24)).heap[w.heap.size + 1]? = some (.cells #[.int .i64 0, .int .i64 0, .slice none 0 0] 24) :=
      (Below.heap_alloc _ _ _ (by simp)).trans (heap_new _ _ _ (by simp))
    have hwB : (((w.alloc (.cells #[.int .i64 k, .int .i64 x, .slice ao l.length cap] 24)).alloc (.cells #[.int .i64 0, .int .i64 0, .slice none 0 0] 24)).alloc (.cells #[.int .i64 k, .int .i64 x, .slice none 0 0] 24)).heap[w.heap.size]? = some (.cells #[.int .i64 k, .int .i64 x, .slice ao l.length cap] 24) :=
      (Below.heap_alloc _ _ _ (by simp; omega)).trans ((Below.heap_alloc _ _ _ (by simp)).trans (heap_new _ _ _ rfl))
    have hst : OutX row _ (w.heap.size + 1 + 1) k x (.slice none 0 0) [] _ := OutX.start (heap_new (((w.alloc (.cells #[.int .i64 k, .int .i64 x, .slice ao l.length cap] 24)).alloc (.cells #[.int .i64 0, .int .i64 0, .slice none 0 0] 24))) (.cells #[.int .i64 k, .int .i64 x, .slice none 0 0] 24) _ (by simp)) (fun r e => by have := HR.out r e; omega)
    have hbw0 : Below w.heap.size w (((w.alloc (.cells #[.int .i64 k, .int .i64 x, .slice ao l.length cap] 24)).alloc (.cells #[.int .i64 0, .int .i64 0, .slice none 0 0] 24)).alloc (.cells #[.int .i64 k, .int .i64 x, .slice none 0 0] 24)) := (((Below.refl _ _).alloc (Nat.le_refl _) _).alloc (by simp) _).alloc (by simp; omega) _
    generalize ((w.alloc (.cells #[.int .i64 k, .int .i64 x, .slice ao l.length cap] 24)).alloc (.cells #[.int .i64 0, .int .i64 0, .slice none 0 0] 24)).alloc (.cells #[.int .i64 k, .int .i64 x, .slice none 0 0] 24) = w0 at hw0 hwB hst hbw0 ⊢
    have hs0 := HCLO.out.keep _ _ w0 HS.out (fun q hq => hbw0.block q (HC.out q hq))
    have HW0 := Lib.hid hw0
    have HWB := Lib.hid hwB
    have HBW := Lib.hid hbw0
    clear hw0 hwB hbw0
    go_loopw [38] (fun i wr => ∃ (j : Nat) (vs : Value) (s' : Bool), i = .int .i64 j ∧ j ≤ l.length ∧ OutX row w0 (w.heap.size + 1 + 1) k x vs ((mpL (Fwk f) k l n 0).take j) wr ∧ St s' wr ∧ (s' && okWL g k (l.drop j) n j) = (s && okWL g k l n 0)) (fun i _ => l.length - (intOf i).toNat)
    case atStart => exact ⟨0, _, s, rfl, Nat.zero_le _, hst, hs0, rfl⟩
    case round =>
      obtain ⟨j, vs, s', rfl, hj, hL, hs', hok⟩ := hrel
      clear hst hs0
      have HOK := Lib.hid hok
      clear hok
      by_cases hjl : j < l.length
      · obtain ⟨b, off, k2, n2, ao2, m2, cap2, rfl, ⟨hP, hPr⟩, h0, h1, h2, hrd⟩ := HE.out j hjl
        have hneB : some w.heap.size ≠ row := fun e => by have := HR.out _ e.symm; omega
        have hb : Bx row w.heap.size w wr := (Bx.of HBW.out).trans (hL.bel.mono (by omega))
        have e0 := (hb.cell (p := ⟨b, off + j * 3, none⟩) hP hPr).trans h0
        have e1 := (hb.cell (p := ⟨b, off + j * 3 + 1, none⟩) hP hPr).trans h1
        have e2 := (hb.cell (p := ⟨b, off + j * 3 + 2, none⟩) hP hPr).trans h2
        have hbw : b < wr.heap.size := Nat.lt_of_lt_of_le hP hb.size
        obtain ⟨i0, i1, i2, -, -⟩ := three ((hL.bel.block _ (by omega) hneB).trans HWB.out)
        have HL := Lib.hid hL
        have HB := Lib.hid hb
        have HS' := Lib.hid hs'
        clear h0 h1 h2 hL hb hs'
        have hcase : ((j : Int) == 1) = false ∧ bn k j = 0 ∨ ((j : Int) == 1) = true ∧ (k != 5) = false ∧ bn k j = 0 ∨ ((j : Int) == 1) = true ∧ (k != 5) = true ∧ bn k j = 1 := by
          unfold bn
          by_cases q1 : j = 1
          · by_cases q2 : k = 5
            · right; left; exact ⟨by simp [q1], by simp [q2], by rw [if_neg (by omega)]⟩
            · right; right; exact ⟨by simp [q1], by simp [q2], by rw [if_pos ⟨q1, q2⟩]⟩
          · left; exact ⟨by simp; omega, by rw [if_neg (by omega)]⟩
        have hlc : (j : Int) < (l.length : Int) := by omega
        have hBw : w.heap.size < wr.heap.size := by have := HL.out.lt; omega
        have hnb : n ≤ 1099511627775 := by omega
        rcases hcase with ⟨q1, q2⟩ | ⟨q1, q2, q3⟩ | ⟨q1, q2, q3⟩
        · skip
          have Q := Lib.hid q2
          clear q2
          go_wp2_with fail
          have hgs0 := heap_new wr (.cells #[.int .i64 k2, .int .i64 n2, .slice ao2 m2 cap2] 24) _ rfl
          have hbel : Below wr.heap.size wr (wr.alloc (.cells #[.int .i64 k2, .int .i64 n2, .slice ao2 m2 cap2] 24)).drew := below_drewN ((Below.refl _ _).alloc (Nat.le_refl _) _) 1
          have hlw : wr.heap.size < (wr.alloc (.cells #[.int .i64 k2, .int .i64 n2, .slice ao2 m2 cap2] 24)).drew.heap.size := by show _ < (wr.alloc _).heap.size; rw [World.size_alloc]; omega
          obtain ⟨c0, c1, c2, -, -⟩ := three hgs0
          generalize wr.alloc (.cells #[.int .i64 k2, .int .i64 n2, .slice ao2 m2 cap2] 24) = wa at hbel hgs0 hlw c0 c1 c2 ⊢
          have hLA := HL.out.on (Bx.of hbel)
          have hbA := HB.out.trans (Bx.of (hbel.mono HB.out.size))
          have hsA := HCLO.out.keep _ _ wa.drew HS'.out (fun q hq => hbel.block q (by have := HC.out q hq; have := HB.out.size; omega))
          have hng : vs.ownBlock ≠ some wr.heap.size := fun e => by have := (HL.out.made.block _ e).2; omega
          have hngr : some wr.heap.size ≠ row := fun e => by have := HR.out _ e.symm; have := HB.out.size; omega
          have hoR : some (w.heap.size + 1 + 1) ≠ row := fun e => by have := HR.out _ e.symm; omega
          have hcon := IH.out _ l[j] n s' wa.drew (RdN.keep (P := (fun q => q < w.heap.size ∧ some q ≠ row)) (w' := wa.drew) (fun b hb' => ⟨Nat.lt_of_lt_of_le hb'.1 hbA.size, hb'.2⟩) (fun b hb' => hbA.block b hb'.1 hb'.2) d _ _ hrd) (HG.out j hjl) (by omega) (by have := HN.out; omega)
            (fun q hq => by have := HC.out q hq; have := hbA.size; omega) (fun r hr => by have := HR.out r hr; have := hbA.size; omega) hsA
          obtain ⟨-, -, o2, -, -⟩ := three hLA.box
          have o2' : wa.cell? ⟨w.heap.size + 1 + 1, 2, none⟩ = some vs := o2
          have hok2 : (s' && okW g l[j] n && okWL g k (l.drop (j + 1)) n (j + 1)) = (s && okWL g k l n 0) := by
            have q := HOK.out
            rw [okWL_drop g k n l j hjl j, Q.out, ← Bool.and_assoc] at q
            first | exact q | (rw [Int.add_zero] at q; exact q)
          have hfin : mpL (Fwk f) k l n 0 = mpL (Fwk f) k l n 0 := rfl
          have htk : (mpL (Fwk f) k l n 0).take j ++ [mp (Fwk f) l[j] n] = (mpL (Fwk f) k l n 0).take (j + 1) := by
            rw [mpL_take _ _ _ _ _ hjl, Q.out]
            try (first | rfl | rw [Int.add_zero])
          have HLA := Lib.hid hLA
          have HCON := Lib.hid hcon
          have HOK2 := Lib.hid hok2
          have HTK := Lib.hid htk
          have HGS := Lib.hid (show wa.drew.heap[wr.heap.size]? = _ from hgs0)
          have HCL := Lib.hid (fun q (hq : C q) => (show q < w.heap.size + 1 + 1 by have := HC.out q hq; omega))
          generalize hgs : wr.heap.size = gs at c0 c1 c2 HGS hng hngr hlw ⊢
          clear e0 e1 e2 i0 i1 i2 hLA hcon hgs0 o2 hbel hbA hgs hsA hok2 hfin htk
          refine wp_region_order [(0, true), (1, true), (2, true), (3, true), (4, true), (5, false), (6, false), (7, false), (8, true), (9, false)] (fun w' => w'.cell? ⟨gs, 0, none⟩ = some (.int .i64 k2) ∧ w'.cell? ⟨gs, 1, none⟩ = some (.int .i64 n2) ∧ w'.cell? ⟨gs, 2, none⟩ = some (.slice ao2 m2 cap2) ∧ w'.cell? ⟨w.heap.size + 1 + 1, 2, none⟩ = some vs)
            (by kernel_rfl) (by kernel_rfl) ⟨c0, c1, c2, o2'⟩ (fun hHeld => ?_)
          simp only [pickT, List.getElem?_cons_zero, List.getElem?_cons_succ, Option.getD_some]
          repeat (refine wpT_take (v := ?_) (by rfl) (fun w' hSw => ?_) ?_; rotate_left; (go_simp; with_reducible rfl); simp only [Act.put, List.setIfInBounds_toArray, List.set_cons_zero, List.set_cons_succ])
          refine wpT_do (fun K hK => ?_)
          go_simp
          go_at_call 73
          refine HCON.out.mono ?_
          rintro e w3 ⟨k3, n3, ao3, m3, c3, rfl, hb3, hr3, hs3⟩
          have HR3 := Lib.hid hr3
          have HS3 := Lib.hid hs3
          clear hr3 hs3 hHeld
          refine hK.out _ _ ⟨(hb3.cell (p := ⟨gs, 0, none⟩) hlw hngr).trans c0, (hb3.cell (p := ⟨gs, 1, none⟩) hlw hngr).trans c1, (hb3.cell (p := ⟨gs, 2, none⟩) hlw hngr).trans c2, (hb3.cell (p := ⟨w.heap.size + 1 + 1, 2, none⟩) HLA.out.lt hoR).trans o2'⟩ (fun hHeld => ?_)
          clear hK K
          refine wpT_do (fun K hK => ?_)
          go_simp
          refine hK.out _ _ (by go_keep) (fun hHeld => ?_)
          clear hK K
          refine wpT_do (fun K hK => ?_)
          refine step_outX rfl _ _ rfl HLA.out (by simp; omega) rfl hb3 HR3.out 1 rfl ?_
          intro g5 m5 cap5 w5 hL5 hk5 q5
          obtain ⟨-, -, o5, f5, -⟩ := three q5
          have hlw3 := Nat.lt_of_lt_of_le hlw hb3.size
          obtain ⟨g0, g1, g2, -, -⟩ := three ((hk5 _ hlw3 hng).trans ((hb3.block _ hlw hngr).trans HGS.out))
          have f5' := f5 2
          have hs5 := HCLO.out.keep _ _ (w5.setCell ⟨w.heap.size + 1 + 1, 2, none⟩ (.slice (some ⟨g5, 0, none⟩) m5 cap5)) HS3.out (fun q hq => by
            have h1 := HCL.out q hq
            have h2 := HLA.out.lt
            have h3 := hb3.size
            rw [Below.heap_setCell _ _ _ _ (by show q ≠ w.heap.size + 1 + 1; omega)]
            exact hk5 q (by omega) (fun e => by have := (HLA.out.made.block _ e).1; omega))
          have HL5 := Lib.hid hL5
          have HS5 := Lib.hid hs5
          clear hL5 f5 q5 hk5 hs5 hlw3
          refine hK.out _ _ ⟨g0, g1, g2, o5⟩ (fun hHeld => ?_)
          clear hK K
          repeat (refine wpT_take (v := ?_) (by rfl) (fun w' hSw => ?_) ?_; rotate_left; (go_simp; with_reducible rfl); simp only [Act.put, List.setIfInBounds_toArray, List.set_cons_zero, List.set_cons_succ])
          refine wpT_last (fun K hK => ?_)
          go_simp
          refine hK.out _ _ ?_
          clear hK K
          go_wp2_with fail
          go_roundw
          case rel => exact ⟨j + 1, _, _, by go_num, by omega, by rw [← HTK.out]; exact HL5.out, HS5.out, HOK2.out⟩
          case measure =>
            have q : (intOf (.int .i64 ((j : Int) + 1))).toNat = j + 1 := by show ((j : Int) + 1).toNat = _; omega
            have q2 : (intOf (.int .i64 (j : Int))).toNat = j := by show ((j : Int)).toNat = _; omega
            rw [q, q2]; omega
        · skip
          have Q := Lib.hid q3
          clear q3
          go_wp2_with fail
          have hgs0 := heap_new wr (.cells #[.int .i64 k2, .int .i64 n2, .slice ao2 m2 cap2] 24) _ rfl
          have hbel : Below wr.heap.size wr (wr.alloc (.cells #[.int .i64 k2, .int .i64 n2, .slice ao2 m2 cap2] 24)).drew := below_drewN ((Below.refl _ _).alloc (Nat.le_refl _) _) 1
          have hlw : wr.heap.size < (wr.alloc (.cells #[.int .i64 k2, .int .i64 n2, .slice ao2 m2 cap2] 24)).drew.heap.size := by show _ < (wr.alloc _).heap.size; rw [World.size_alloc]; omega
          obtain ⟨c0, c1, c2, -, -⟩ := three hgs0
          generalize wr.alloc (.cells #[.int .i64 k2, .int .i64 n2, .slice ao2 m2 cap2] 24) = wa at hbel hgs0 hlw c0 c1 c2 ⊢
          have hLA := HL.out.on (Bx.of hbel)
          have hbA := HB.out.trans (Bx.of (hbel.mono HB.out.size))
          have hsA := HCLO.out.keep _ _ wa.drew HS'.out (fun q hq => hbel.block q (by have := HC.out q hq; have := HB.out.size; omega))
          have hng : vs.ownBlock ≠ some wr.heap.size := fun e => by have := (HL.out.made.block _ e).2; omega
          have hngr : some wr.heap.size ≠ row := fun e => by have := HR.out _ e.symm; have := HB.out.size; omega
          have hoR : some (w.heap.size + 1 + 1) ≠ row := fun e => by have := HR.out _ e.symm; omega
          have hcon := IH.out _ l[j] n s' wa.drew (RdN.keep (P := (fun q => q < w.heap.size ∧ some q ≠ row)) (w' := wa.drew) (fun b hb' => ⟨Nat.lt_of_lt_of_le hb'.1 hbA.size, hb'.2⟩) (fun b hb' => hbA.block b hb'.1 hb'.2) d _ _ hrd) (HG.out j hjl) (by omega) (by have := HN.out; omega)
            (fun q hq => by have := HC.out q hq; have := hbA.size; omega) (fun r hr => by have := HR.out r hr; have := hbA.size; omega) hsA
          obtain ⟨-, -, o2, -, -⟩ := three hLA.box
          have o2' : wa.cell? ⟨w.heap.size + 1 + 1, 2, none⟩ = some vs := o2
          have hok2 : (s' && okW g l[j] n && okWL g k (l.drop (j + 1)) n (j + 1)) = (s && okWL g k l n 0) := by
            have q := HOK.out
            rw [okWL_drop g k n l j hjl j, Q.out, ← Bool.and_assoc] at q
            first | exact q | (rw [Int.add_zero] at q; exact q)
          have hfin : mpL (Fwk f) k l n 0 = mpL (Fwk f) k l n 0 := rfl
          have htk : (mpL (Fwk f) k l n 0).take j ++ [mp (Fwk f) l[j] n] = (mpL (Fwk f) k l n 0).take (j + 1) := by
            rw [mpL_take _ _ _ _ _ hjl, Q.out]
            try (first | rfl | rw [Int.add_zero])
          have HLA := Lib.hid hLA
          have HCON := Lib.hid hcon
          have HOK2 := Lib.hid hok2
          have HTK := Lib.hid htk
          have HGS := Lib.hid (show wa.drew.heap[wr.heap.size]? = _ from hgs0)
          have HCL := Lib.hid (fun q (hq : C q) => (show q < w.heap.size + 1 + 1 by have := HC.out q hq; omega))
          generalize hgs : wr.heap.size = gs at c0 c1 c2 HGS hng hngr hlw ⊢
          clear e0 e1 e2 i0 i1 i2 hLA hcon hgs0 o2 hbel hbA hgs hsA hok2 hfin htk
          refine wp_region_order [(0, true), (1, true), (2, true), (3, true), (4, true), (5, false), (6, false), (7, false), (8, true), (9, false)] (fun w' => w'.cell? ⟨gs, 0, none⟩ = some (.int .i64 k2) ∧ w'.cell? ⟨gs, 1, none⟩ = some (.int .i64 n2) ∧ w'.cell? ⟨gs, 2, none⟩ = some (.slice ao2 m2 cap2) ∧ w'.cell? ⟨w.heap.size + 1 + 1, 2, none⟩ = some vs)
            (by kernel_rfl) (by kernel_rfl) ⟨c0, c1, c2, o2'⟩ (fun hHeld => ?_)
          simp only [pickT, List.getElem?_cons_zero, List.getElem?_cons_succ, Option.getD_some]
          repeat (refine wpT_take (v := ?_) (by rfl) (fun w' hSw => ?_) ?_; rotate_left; (go_simp; with_reducible rfl); simp only [Act.put, List.setIfInBounds_toArray, List.set_cons_zero, List.set_cons_succ])
          refine wpT_do (fun K hK => ?_)
          go_simp
          go_at_call 73
          refine HCON.out.mono ?_
          rintro e w3 ⟨k3, n3, ao3, m3, c3, rfl, hb3, hr3, hs3⟩
          have HR3 := Lib.hid hr3
          have HS3 := Lib.hid hs3
          clear hr3 hs3 hHeld
          refine hK.out _ _ ⟨(hb3.cell (p := ⟨gs, 0, none⟩) hlw hngr).trans c0, (hb3.cell (p := ⟨gs, 1, none⟩) hlw hngr).trans c1, (hb3.cell (p := ⟨gs, 2, none⟩) hlw hngr).trans c2, (hb3.cell (p := ⟨w.heap.size + 1 + 1, 2, none⟩) HLA.out.lt hoR).trans o2'⟩ (fun hHeld => ?_)
          clear hK K
          refine wpT_do (fun K hK => ?_)
          go_simp
          refine hK.out _ _ (by go_keep) (fun hHeld => ?_)
          clear hK K
          refine wpT_do (fun K hK => ?_)
          refine step_outX rfl _ _ rfl HLA.out (by simp; omega) rfl hb3 HR3.out 1 rfl ?_
          intro g5 m5 cap5 w5 hL5 hk5 q5
          obtain ⟨-, -, o5, f5, -⟩ := three q5
          have hlw3 := Nat.lt_of_lt_of_le hlw hb3.size
          obtain ⟨g0, g1, g2, -, -⟩ := three ((hk5 _ hlw3 hng).trans ((hb3.block _ hlw hngr).trans HGS.out))
          have f5' := f5 2
          have hs5 := HCLO.out.keep _ _ (w5.setCell ⟨w.heap.size + 1 + 1, 2, none⟩ (.slice (some ⟨g5, 0, none⟩) m5 cap5)) HS3.out (fun q hq => by
            have h1 := HCL.out q hq
            have h2 := HLA.out.lt
            have h3 := hb3.size
            rw [Below.heap_setCell _ _ _ _ (by show q ≠ w.heap.size + 1 + 1; omega)]
            exact hk5 q (by omega) (fun e => by have := (HLA.out.made.block _ e).1; omega))
          have HL5 := Lib.hid hL5
          have HS5 := Lib.hid hs5
          clear hL5 f5 q5 hk5 hs5 hlw3
          refine hK.out _ _ ⟨g0, g1, g2, o5⟩ (fun hHeld => ?_)
          clear hK K
          repeat (refine wpT_take (v := ?_) (by rfl) (fun w' hSw => ?_) ?_; rotate_left; (go_simp; with_reducible rfl); simp only [Act.put, List.setIfInBounds_toArray, List.set_cons_zero, List.set_cons_succ])
          refine wpT_last (fun K hK => ?_)
          go_simp
          refine hK.out _ _ ?_
          clear hK K
          go_wp2_with fail
          go_roundw
          case rel => exact ⟨j + 1, _, _, by go_num, by omega, by rw [← HTK.out]; exact HL5.out, HS5.out, HOK2.out⟩
          case measure =>
            have q : (intOf (.int .i64 ((j : Int) + 1))).toNat = j + 1 := by show ((j : Int) + 1).toNat = _; omega
            have q2 : (intOf (.int .i64 (j : Int))).toNat = j := by show ((j : Int)).toNat = _; omega
            rw [q, q2]; omega
        · skip
          have Q := Lib.hid q3
          clear q3
          go_wp2_with fail
          have hgs0 := heap_new wr (.cells #[.int .i64 k2, .int .i64 n2, .slice ao2 m2 cap2] 24) _ rfl
          have hbel : Below wr.heap.size wr (wr.alloc (.cells #[.int .i64 k2, .int .i64 n2, .slice ao2 m2 cap2] 24)).drew := below_drewN ((Below.refl _ _).alloc (Nat.le_refl _) _) 1
          have hlw : wr.heap.size < (wr.alloc (.cells #[.int .i64 k2, .int .i64 n2, .slice ao2 m2 cap2] 24)).drew.heap.size := by show _ < (wr.alloc _).heap.size; rw [World.size_alloc]; omega
          obtain ⟨c0, c1, c2, -, -⟩ := three hgs0
          generalize wr.alloc (.cells #[.int .i64 k2, .int .i64 n2, .slice ao2 m2 cap2] 24) = wa at hbel hgs0 hlw c0 c1 c2 ⊢
          have hLA := HL.out.on (Bx.of hbel)
          have hbA := HB.out.trans (Bx.of (hbel.mono HB.out.size))
          have hsA := HCLO.out.keep _ _ wa.drew HS'.out (fun q hq => hbel.block q (by have := HC.out q hq; have := HB.out.size; omega))
          have hng : vs.ownBlock ≠ some wr.heap.size := fun e => by have := (HL.out.made.block _ e).2; omega
          have hngr : some wr.heap.size ≠ row := fun e => by have := HR.out _ e.symm; have := HB.out.size; omega
          have hoR : some (w.heap.size + 1 + 1) ≠ row := fun e => by have := HR.out _ e.symm; omega
          have hcon := IH.out _ l[j] (n + 1) s' wa.drew (RdN.keep (P := (fun q => q < w.heap.size ∧ some q ≠ row)) (w' := wa.drew) (fun b hb' => ⟨Nat.lt_of_lt_of_le hb'.1 hbA.size, hb'.2⟩) (fun b hb' => hbA.block b hb'.1 hb'.2) d _ _ hrd) (HG.out j hjl) (by omega) (by have := HN.out; omega)
            (fun q hq => by have := HC.out q hq; have := hbA.size; omega) (fun r hr => by have := HR.out r hr; have := hbA.size; omega) hsA
          obtain ⟨-, -, o2, -, -⟩ := three hLA.box
          have o2' : wa.cell? ⟨w.heap.size + 1 + 1, 2, none⟩ = some vs := o2
          have hok2 : (s' && okW g l[j] (n + 1) && okWL g k (l.drop (j + 1)) n (j + 1)) = (s && okWL g k l n 0) := by
            have q := HOK.out
            rw [okWL_drop g k n l j hjl j, Q.out, ← Bool.and_assoc] at q
            first | exact q | (rw [Int.add_zero] at q; exact q)
          have hfin : mpL (Fwk f) k l n 0 = mpL (Fwk f) k l n 0 := rfl
          have htk : (mpL (Fwk f) k l n 0).take j ++ [mp (Fwk f) l[j] (n + 1)] = (mpL (Fwk f) k l n 0).take (j + 1) := by
            rw [mpL_take _ _ _ _ _ hjl, Q.out]
            try (first | rfl | rw [Int.add_zero])
          have HLA := Lib.hid hLA
          have HCON := Lib.hid hcon
          have HOK2 := Lib.hid hok2
          have HTK := Lib.hid htk
          have HGS := Lib.hid (show wa.drew.heap[wr.heap.size]? = _ from hgs0)
          have HCL := Lib.hid (fun q (hq : C q) => (show q < w.heap.size + 1 + 1 by have := HC.out q hq; omega))
          generalize hgs : wr.heap.size = gs at c0 c1 c2 HGS hng hngr hlw ⊢
          clear e0 e1 e2 i0 i1 i2 hLA hcon hgs0 o2 hbel hbA hgs hsA hok2 hfin htk
          refine wp_region_order [(0, true), (1, true), (2, true), (3, true), (4, true), (5, false), (6, false), (7, false), (8, true), (9, false)] (fun w' => w'.cell? ⟨gs, 0, none⟩ = some (.int .i64 k2) ∧ w'.cell? ⟨gs, 1, none⟩ = some (.int .i64 n2) ∧ w'.cell? ⟨gs, 2, none⟩ = some (.slice ao2 m2 cap2) ∧ w'.cell? ⟨w.heap.size + 1 + 1, 2, none⟩ = some vs)
            (by kernel_rfl) (by kernel_rfl) ⟨c0, c1, c2, o2'⟩ (fun hHeld => ?_)
          simp only [pickT, List.getElem?_cons_zero, List.getElem?_cons_succ, Option.getD_some]
          repeat (refine wpT_take (v := ?_) (by rfl) (fun w' hSw => ?_) ?_; rotate_left; (go_simp; with_reducible rfl); simp only [Act.put, List.setIfInBounds_toArray, List.set_cons_zero, List.set_cons_succ])
          refine wpT_do (fun K hK => ?_)
          go_simp
          go_at_call 73
          refine HCON.out.mono ?_
          rintro e w3 ⟨k3, n3, ao3, m3, c3, rfl, hb3, hr3, hs3⟩
          have HR3 := Lib.hid hr3
          have HS3 := Lib.hid hs3
          clear hr3 hs3 hHeld
          refine hK.out _ _ ⟨(hb3.cell (p := ⟨gs, 0, none⟩) hlw hngr).trans c0, (hb3.cell (p := ⟨gs, 1, none⟩) hlw hngr).trans c1, (hb3.cell (p := ⟨gs, 2, none⟩) hlw hngr).trans c2, (hb3.cell (p := ⟨w.heap.size + 1 + 1, 2, none⟩) HLA.out.lt hoR).trans o2'⟩ (fun hHeld => ?_)
          clear hK K
          refine wpT_do (fun K hK => ?_)
          go_simp
          refine hK.out _ _ (by go_keep) (fun hHeld => ?_)
          clear hK K
          refine wpT_do (fun K hK => ?_)
          refine step_outX rfl _ _ rfl HLA.out (by simp; omega) rfl hb3 HR3.out 1 rfl ?_
          intro g5 m5 cap5 w5 hL5 hk5 q5
          obtain ⟨-, -, o5, f5, -⟩ := three q5
          have hlw3 := Nat.lt_of_lt_of_le hlw hb3.size
          obtain ⟨g0, g1, g2, -, -⟩ := three ((hk5 _ hlw3 hng).trans ((hb3.block _ hlw hngr).trans HGS.out))
          have f5' := f5 2
          have hs5 := HCLO.out.keep _ _ (w5.setCell ⟨w.heap.size + 1 + 1, 2, none⟩ (.slice (some ⟨g5, 0, none⟩) m5 cap5)) HS3.out (fun q hq => by
            have h1 := HCL.out q hq
            have h2 := HLA.out.lt
            have h3 := hb3.size
            rw [Below.heap_setCell _ _ _ _ (by show q ≠ w.heap.size + 1 + 1; omega)]
            exact hk5 q (by omega) (fun e => by have := (HLA.out.made.block _ e).1; omega))
          have HL5 := Lib.hid hL5
          have HS5 := Lib.hid hs5
          clear hL5 f5 q5 hk5 hs5 hlw3
          refine hK.out _ _ ⟨g0, g1, g2, o5⟩ (fun hHeld => ?_)
          clear hK K
          repeat (refine wpT_take (v := ?_) (by rfl) (fun w' hSw => ?_) ?_; rotate_left; (go_simp; with_reducible rfl); simp only [Act.put, List.setIfInBounds_toArray, List.set_cons_zero, List.set_cons_succ])
          refine wpT_last (fun K hK => ?_)
          go_simp
          refine hK.out _ _ ?_
          clear hK K
          go_wp2_with fail
          go_roundw
          case rel => exact ⟨j + 1, _, _, by go_num, by omega, by rw [← HTK.out]; exact HL5.out, HS5.out, HOK2.out⟩
          case measure =>
            have q : (intOf (.int .i64 ((j : Int) + 1))).toNat = j + 1 := by show ((j : Int) + 1).toNat = _; omega
            have q2 : (intOf (.int .i64 (j : Int))).toNat = j := by show ((j : Int)).toNat = _; omega
            rw [q, q2]; omega
      · obtain ⟨o0, o1, o2, of, -⟩ := three hL.box
        have hne1 : some (w.heap.size + 1) ≠ row := fun e => by have := HR.out _ e.symm; omega
        obtain ⟨z0, z1, z2, zf, -⟩ := three ((hL.bel.block _ (by omega) hne1).trans HW0.out)
        obtain ⟨ao5, m5, cap5, rfl⟩ := hL.shape
        have HL := Lib.hid hL
        have HS' := Lib.hid hs'
        clear hL hs' hne1
        go_wp2_with fail
        have hd := HL.out.done (w := w) (a := .int .i64 k) (b := .int .i64 x) (c := .slice ao5 m5 cap5) (mpL_all _ _ _ _ _ hjl) (Bx.of HBW.out) (by omega) (Nat.lt_succ_self _) HK.out HX.out
        refine bodyPost_ret (v := .agg #[.int .i64 k, .int .i64 x, .slice ao5 m5 cap5]) (by simp [results, Try.results73, go_sem, z0, z1, z2]) rfl ⟨_, _, _, _, _, rfl, hd.1, hd.2.1, ?_⟩
        have q := HOK.out
        rw [List.drop_of_length_le (by omega)] at q
        simp only [okWL, Bool.and_true] at q
        rw [← q]
        exact HCLO.out.keep _ _ _ HS'.out (fun b hb => hd.2.2 b (HC.out b hb))
end Go.Proofs.Ythjlfjaciigfiaa
