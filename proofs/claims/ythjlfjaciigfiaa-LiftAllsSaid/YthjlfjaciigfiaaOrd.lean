/-
  A REGION THAT DRAWS ITS ORDER, whose last operation waits for all others, walked in ONE order that the prover names: what yields its value in every world that meets S may be taken at any time; what writes or calls must come up alone; behind each such operation but the last S is shown anew. Plain, whatever the program.
-/
import Derived.Deep.RegionHeld3
import Derived.StillTail
namespace Go.Proofs.Ythjlfjaciigfiaa
open Go
set_option linter.unusedVariables false
set_option linter.unusedSimpArgs false

section
variable {P : Program} {ops : Array Oper} {Q : Exit → Act → World → Prop} {md : Region.Mode} {S : World → Prop} {n : Nat}

/-- Whatever order is picked from here on, and S holds behind every operation that is carried out but the last (number n). -/
def wpAnyT (P : Program) (md : Region.Mode) (ops : Array Oper) (Q : Exit → Act → World → Prop) (S : World → Prop) (n : Nat) : Nat → Array Bool → Act → World → Prop
  | 0, listed, a, w => Region.ready md ops listed = [] ∧ Q .normal a w
  | fuel + 1, listed, a, w =>
    (Region.ready md ops listed = [] → Q .normal a w) ∧
    ∀ i ∈ Region.ready md ops listed, wpOp P ops Q i (fun a' w' => (n ≤ i ∨ S w') ∧ wpAnyT P md ops Q S n fuel (listed.setIfInBounds i true) a' w') a w

theorem wpAny_of_T : ∀ (fuel : Nat) (listed : Array Bool) (a : Act) (w : World), wpAnyT P md ops Q S n fuel listed a w → wpAny P md ops Q fuel listed a w
  | 0, _, _, _, h => h
  | fuel + 1, _, _, _, h => ⟨h.1, fun i hi => wpOp_mono (fun a' w' h' => wpAny_of_T fuel _ a' w' h'.2) (h.2 i hi)⟩

theorem wpAnyT_first {i : Nat} {oi : Oper} {v : Value} (hi : ops[i]? = some oi) (hsel : ∀ (j : Nat) (o : Oper) cs b, ops[j]? = some o → o.op ≠ .select cs b)
    (hs : Region.sinkB md ops n = true) (hc : Region.chainB md ops n = true) (hn : n < ops.size) (hin : i < n)
    (hQ : ∀ c a w, Q (.panic c) (a.put oi.dst v) w → Q (.panic c) a w) :
    ∀ (fuel : Nat) (listed : Array Bool) (a : Act) (w : World), HeadInv md ops n listed →
      (∀ j oj, ops[j]? = some oj → j ≠ i → listed.getD j true = false → (∀ e ∈ oj.after, Region.binds md e = true → e.on ≠ i) → oi.apart ops oj = true) →
      i ∈ Region.ready md ops listed → YieldsIf P ops S oi v a → S w →
      wpAnyT P md ops Q S n fuel (listed.setIfInBounds i true) (a.put oi.dst v) w → wpAnyT P md ops Q S n (fuel + 1) listed a w := by
  intro fuel
  induction fuel with
  | zero =>
    intro listed a w inv _ hr hy hS H
    refine ⟨fun h => (by rw [h] at hr; cases hr), fun j hj => ?_⟩
    by_cases hji : j = i
    · subst hji; exact hy.wpOp hi hS ⟨.inr hS, H⟩
    · have := ready_mono hj hji
      rw [H.1] at this
      cases this
  | succ fuel ih =>
    intro listed a w inv hfree hr hy hS H
    refine ⟨fun h => (by rw [h] at hr; cases hr), fun j hj => ?_⟩
    by_cases hji : j = i
    · subst hji; exact hy.wpOp hi hS ⟨.inr hS, H⟩
    · have hjn : j < n := by
        rcases Nat.lt_or_ge j n with h | h
        · exact h
        · exact absurd hj (tail_waits hs hc hn inv _ i rfl hin (mem_ready.1 hr).1 j h)
      have h1 := H.2 j (ready_mono hj hji)
      obtain ⟨hjun, oj, hoj, hall⟩ := mem_ready.1 hj
      have hnot : ∀ e ∈ oj.after, Region.binds md e = true → e.on ≠ i := fun e he hb heq => by
        have h1 := hall e he hb
        have h0 := (mem_ready.1 hr).1
        rw [heq] at h1
        rcases Nat.lt_or_ge i listed.size with h' | h'
        · simp [h'] at h0 h1; rw [h0] at h1; cases h1
        · simp [Array.getElem?_eq_none h'] at h1
      have h2 := wpOp_putIf hoj (hfree j oj hoj hji hjun hnot) (fun cs b => hsel i oi cs b hi) (fun cs b => hsel j oj cs b hoj) hQ hy h1
      have hfree' : ∀ k ok, ops[k]? = some ok → k ≠ i → (listed.setIfInBounds j true).getD k true = false →
          (∀ e ∈ ok.after, Region.binds md e = true → e.on ≠ i) → oi.apart ops ok = true := fun k ok hk hki hun hno => by
        refine hfree k ok hk hki ?_ hno
        by_cases hjk : j = k
        · subst hjk; exact hjun
        · rw [getD_set_ne true hjk] at hun; exact hun
      refine wpOp_mono (fun a' w' h3 => ⟨h3.2.1, ?_⟩) h2
      have hSw : S w' := h3.2.1.resolve_left (by omega)
      refine ih (listed.setIfInBounds j true) a' w' (inv.set hj hjn) hfree' (ready_mono hr (Ne.symm hji)) h3.1 hSw ?_
      rw [Array.setIfInBounds_comm _ _ hji]
      exact h3.2.2

/-- one operation, carried out -/
def stepT (P : Program) (ops : Array Oper) (Q : Exit → Act → World → Prop) (o : Oper) (K : Act → World → Prop) (a : Act) (w : World) : Prop :=
  if Region.wanted o (yielded ops a.tmps) = true then Oper.wp P o a w K Q else K (a.put o.dst undef) w

/-- the operations in the order that the prover names; true: taken, false: carried out -/
def wpT (P : Program) (ops : Array Oper) (Q : Exit → Act → World → Prop) (S : World → Prop) : List (Oper × Bool) → Act → World → Prop
  | [], a, w => Q .normal a w
  | (o, b) :: r, a, w =>
    match r, b with
    | [], _ => stepT P ops Q o (Q .normal) a w
    | r, true => ∃ v, YieldsIf P ops S o v a ∧ wpT P ops Q S r (a.put o.dst v) w
    | r, false => stepT P ops Q o (fun a' w' => S w' ∧ (S w' → wpT P ops Q S r a' w')) a w

/-- may they come up so? (asked of the region by the kernel) -/
def chkT (md : Region.Mode) (ops : Array Oper) (n : Nat) : List (Nat × Bool) → Array Bool → Bool
  | [], _ => false
  | (i, b) :: r, listed =>
    match r, b with
    | [], _ => decide (i = n) && decide (Region.ready md ops listed = [i]) && (Region.ready md ops (listed.setIfInBounds i true)).isEmpty
    | r, true => decide (i < n) && (Region.ready md ops listed).contains i && Region.free md ops listed i && chkT md ops n r (listed.setIfInBounds i true)
    | r, false => decide (i < n) && decide (Region.ready md ops listed = [i]) && chkT md ops n r (listed.setIfInBounds i true)

theorem stepT_op {i : Nat} {o : Oper} {K : Act → World → Prop} {a : Act} {w : World} (ho : ops[i]? = some o) (h : stepT P ops Q o K a w) : wpOp P ops Q i K a w := by
  unfold stepT at h
  unfold wpOp
  rw [ho]
  show if Region.wanted o (yielded ops a.tmps) = true then _ else _
  split
  · rename_i hw; rw [if_pos hw] at h; exact .inl h
  · rename_i hw; rw [if_neg hw] at h; exact h

theorem wpT_sound (hsel : Region.noSelect ops = true) (hs : Region.sinkB md ops n = true) (hc : Region.chainB md ops n = true) (hn : n < ops.size)
    (hQ : ∀ c d v a w, Q (.panic c) (Act.put a d v) w → Q (.panic c) a w) :
    ∀ (L : List (Nat × Bool)) (L' : List (Oper × Bool)) (listed : Array Bool) (a : Act) (w : World), L.length = L'.length → (∀ (k i : Nat) (b : Bool) (o : Oper) (c : Bool), L[k]? = some (i, b) → L'[k]? = some (o, c) → ops[i]? = some o ∧ b = c) →
      HeadInv md ops n listed → chkT md ops n L listed = true → S w → wpT P ops Q S L' a w → wpAnyT P md ops Q S n L.length listed a w := by
  intro L
  induction L with
  | nil => intro L' listed a w _ _ _ h; cases h
  | cons p r ih =>
    obtain ⟨i, b⟩ := p
    intro L' listed a w hl hLL inv hchk hS h
    cases L' with
    | nil => simp at hl
    | cons oc r' =>
      obtain ⟨o, c⟩ := oc
      have hl' : r.length = r'.length := by simpa using hl
      obtain ⟨ho, rfl⟩ := hLL 0 i b o c rfl rfl
      have hLL' : ∀ (k i : Nat) (b : Bool) (o : Oper) (c : Bool), r[k]? = some (i, b) → r'[k]? = some (o, c) → ops[i]? = some o ∧ b = c := fun k i b o c h1 h2 => hLL (k + 1) i b o c (by simpa using h1) (by simpa using h2)
      clear hl hLL
      cases r with
      | nil =>
        have hr0 : r' = [] := List.eq_nil_of_length_eq_zero (by simpa using hl'.symm)
        subst hr0
        simp only [chkT, Bool.and_eq_true, decide_eq_true_eq, List.isEmpty_iff] at hchk
        obtain ⟨⟨rfl, h2⟩, h3⟩ := hchk
        refine ⟨fun h0 => (by rw [h2] at h0; cases h0), fun j hj => ?_⟩
        rw [h2] at hj
        have hji : j = i := by simpa using hj
        subst hji
        have h' : stepT P ops Q o (Q .normal) a w := by cases b <;> exact h
        exact wpOp_mono (fun a' w' hq => ⟨.inl (Nat.le_refl _), h3, hq⟩) (stepT_op ho h')
      | cons p2 r =>
       cases r' with
       | nil => simp at hl'
       | cons p3 r' =>
        cases b with
        | true =>
          simp only [chkT, Bool.and_eq_true, decide_eq_true_eq] at hchk
          obtain ⟨⟨⟨h1, h2⟩, h3⟩, h4⟩ := hchk
          obtain ⟨v, hy, hk⟩ := h
          have hr : i ∈ Region.ready md ops listed := by simpa using h2
          exact wpAnyT_first ho (Region.noSelect_spec hsel) hs hc hn h1 (fun c a w hq => hQ c _ _ _ _ hq) _ listed a w inv (Region.free_spec ho h3) hr hy hS
            (ih (p3 :: r') _ _ w hl' hLL' (inv.set hr h1) h4 hS hk)
        | false =>
          simp only [chkT, Bool.and_eq_true, decide_eq_true_eq] at hchk
          obtain ⟨⟨h1, h2⟩, h4⟩ := hchk
          have hr : i ∈ Region.ready md ops listed := by rw [h2]; simp
          refine ⟨fun h0 => (by rw [h2] at h0; cases h0), fun j hj => ?_⟩
          rw [h2] at hj
          have hji : j = i := by simpa using hj
          subst hji
          have h' : stepT P ops Q o (fun a' w' => S w' ∧ (S w' → wpT P ops Q S (p3 :: r') a' w')) a w := h
          exact wpOp_mono (fun a' w' hq => ⟨.inr hq.1, ih (p3 :: r') _ a' w' hl' hLL' (inv.set hr h1) h4 hq.1 (hq.2 hq.1)⟩) (stepT_op ho h')

/-- is the order one that serves? -/
def fitsT (md : Region.Mode) (ops : Array Oper) (L : List (Nat × Bool)) : Bool :=
  decide (L.length = ops.size) && decide (0 < ops.size) && Region.noSelect ops && Region.sinkB md ops (ops.size - 1) && Region.chainB md ops (ops.size - 1) && L.all (fun p => decide (p.1 < ops.size)) && chkT md ops (ops.size - 1) L (Array.replicate ops.size false)

/-- the operations, in the order named -/
def pickT (l : List Oper) : List (Nat × Bool) → List (Oper × Bool)
  | [] => []
  | (i, b) :: r => ((l[i]?).getD ⟨none, .assign (.const undef), 0, "", #[], none⟩, b) :: pickT l r

theorem pickT_len (l : List Oper) : ∀ L, (pickT l L).length = L.length
  | [] => rfl
  | (i, b) :: r => by simp [pickT, pickT_len l r]
theorem pickT_get (l : List Oper) : ∀ (L : List (Nat × Bool)) (k i : Nat) (b : Bool) (o : Oper) (c : Bool), (∀ p ∈ L, p.1 < l.length) → L[k]? = some (i, b) → (pickT l L)[k]? = some (o, c) → l[i]? = some o ∧ b = c
  | [], k, i, b, o, c, _, h, _ => by simp at h
  | (i', b') :: r, 0, i, b, o, c, hp, h, h2 => by
    simp at h; obtain ⟨rfl, rfl⟩ := h
    have := hp (i', b') (by simp)
    simp only [pickT, List.getElem?_cons_zero, Option.some.injEq, Prod.mk.injEq] at h2
    rw [List.getElem?_eq_getElem this] at h2 ⊢
    exact ⟨by rw [← h2.1]; rfl, h2.2⟩
  | p :: r, k + 1, i, b, o, c, hp, h, h2 => pickT_get l r k i b o c (fun q hq => hp q (by simp [hq])) (by simpa using h) (by simpa [pickT] using h2)

/-- the beginning -/
theorem wp_region_order {id : Nat} {a : Act} {w : World} {l : List Oper} (L : List (Nat × Bool)) (S : World → Prop) (hm : P.follows .mixedOrders = true) (hB : fitsT .any l.toArray L = true)
    (hS : S w.drew) (h : S w.drew → wpT P l.toArray (NoPanic Q) S (pickT l L) a w.drew) : (Code.region id l.toArray true).wp P Q a w := by
  simp only [fitsT, Bool.and_eq_true, decide_eq_true_eq, List.all_eq_true] at hB
  obtain ⟨⟨⟨⟨⟨⟨h1, h2⟩, h3⟩, h4⟩, h5⟩, h6⟩, h7⟩ := hB
  have inv0 : HeadInv .any l.toArray (l.toArray.size - 1) (Array.replicate l.toArray.size false) :=
    ⟨by simp, fun j oj _ hl => (by rw [getD_replicate_false] at hl; cases hl), fun t _ ht => getD_in (by simpa using ht) (getD_replicate_false _ _)⟩
  refine wp_region_noPanic (wp_region_any hm ?_)
  have := wpT_sound (md := .any) (P := P) (Q := NoPanic Q) (S := S) h3 h4 h5 (by omega) (fun c d v a w hq => hq) L (pickT l L) _ a w.drew (pickT_len l L).symm
    (fun k i b o c q1 q2 => by simpa using pickT_get l L k i b o c (fun p hp => by simpa using h6 p hp) q1 q2) inv0 h7 hS (h hS)
  rw [h1] at this
  exact wpAny_of_T _ _ _ _ this

/-- an operation is taken -/
theorem wpT_take {o : Oper} {p : Oper × Bool} {r : List (Oper × Bool)} {a : Act} {w : World} {v : Value} (hw : Region.wanted o (yielded ops a.tmps) = true) (hv : ∀ w, S w → (execOp a.eval o).run P w = .ok (.value v) w)
    (h : wpT P ops Q S (p :: r) (a.put o.dst v) w) : wpT P ops Q S ((o, true) :: p :: r) a w := ⟨v, .inl ⟨hw, hv⟩, h⟩
/-- an operation is taken that its guard leaves out -/
theorem wpT_skip {o : Oper} {p : Oper × Bool} {r : List (Oper × Bool)} {a : Act} {w : World} (hw : Region.wanted o (yielded ops a.tmps) = false)
    (h : wpT P ops Q S (p :: r) (a.put o.dst undef) w) : wpT P ops Q S ((o, true) :: p :: r) a w := ⟨undef, .inr ⟨hw, rfl⟩, h⟩
/-- an operation is carried out -/
theorem wpT_do {o : Oper} {p : Oper × Bool} {r : List (Oper × Bool)} {a : Act} {w : World}
    (h : ∀ K' : Act → World → Prop, Shut (∀ a w, S w → (S w → wpT P ops Q S (p :: r) a w) → K' a w) → if Region.wanted o (yielded ops a.tmps) = true then Oper.wp P o a w K' Q else K' (a.put o.dst undef) w) : wpT P ops Q S ((o, false) :: p :: r) a w :=
  (show stepT P ops Q o (fun a' w' => S w' ∧ (S w' → wpT P ops Q S (p :: r) a' w')) a w from h _ (fun a w hS hW => ⟨hS, hW⟩))
/-- the last one -/
theorem wpT_last {o : Oper} {b : Bool} {a : Act} {w : World} {Q' : Exit → Act → World → Prop}
    (h : ∀ K' : Act → World → Prop, Shut (∀ a w, Q' .normal a w → K' a w) → if Region.wanted o (yielded ops a.tmps) = true then Oper.wp P o a w K' (NoPanic Q') else K' (a.put o.dst undef) w) : wpT P ops (NoPanic Q') S [(o, b)] a w := by
  have := h (Q' .normal) (fun a w h => h)
  cases b <;> exact this
end
end Go.Proofs.Ythjlfjaciigfiaa
