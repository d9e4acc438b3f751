/-
  A region that draws its order, walked along a TREE of orders: where two operations may come next, both ways are walked.
-/
import Derived.Test.YthjlfjaciigfiaaOrd
namespace Go.Proofs.Ythjlfjaciigfiaa
open Go
set_option linter.unusedVariables false
set_option linter.unusedSimpArgs false

inductive Tr where
  | rest (L : List (Nat × Bool))
  | one (i : Nat) (b : Bool) (t : Tr)
  | two (i : Nat) (t : Tr) (j : Nat) (u : Tr)
inductive TrO where
  | rest (L : List (Oper × Bool))
  | one (o : Oper) (b : Bool) (t : TrO)
  | two (o : Oper) (t : TrO) (o' : Oper) (u : TrO)
def Tr.len : Tr → Nat
  | .rest L => L.length
  | .one _ _ t => t.len + 1
  | .two _ t _ _ => t.len + 1
def opIn (l : List Oper) (i : Nat) : Oper := (l[i]?).getD ⟨none, .assign (.const undef), 0, "", #[], none⟩
def pickR (l : List Oper) : Tr → TrO
  | .rest L => .rest (pickT l L)
  | .one i b t => .one (opIn l i) b (pickR l t)
  | .two i t j u => .two (opIn l i) (pickR l t) (opIn l j) (pickR l u)
def wpR (P : Program) (ops : Array Oper) (Q : Exit → Act → World → Prop) (S : World → Prop) : TrO → Act → World → Prop
  | .rest L, a, w => wpT P ops Q S L a w
  | .one o true t, a, w => ∃ v, YieldsIf P ops S o v a ∧ wpR P ops Q S t (a.put o.dst v) w
  | .one o false t, a, w => stepT P ops Q o (fun a' w' => S w' ∧ (S w' → wpR P ops Q S t a' w')) a w
  | .two o t o' u, a, w => stepT P ops Q o (fun a' w' => S w' ∧ (S w' → wpR P ops Q S t a' w')) a w ∧ stepT P ops Q o' (fun a' w' => S w' ∧ (S w' → wpR P ops Q S u a' w')) a w
def chkR (md : Region.Mode) (ops : Array Oper) (n : Nat) : Tr → Array Bool → Bool
  | .rest L, listed => L.all (fun p => decide (p.1 < ops.size)) && chkT md ops n L listed
  | .one i true t, listed => decide (i < n) && (Region.ready md ops listed).contains i && Region.free md ops listed i && chkR md ops n t (listed.setIfInBounds i true)
  | .one i false t, listed => decide (i < n) && decide (Region.ready md ops listed = [i]) && chkR md ops n t (listed.setIfInBounds i true)
  | .two i t j u, listed => decide (i < n) && decide (j < n) && decide (Region.ready md ops listed = [i, j]) && decide (t.len = u.len) && chkR md ops n t (listed.setIfInBounds i true) && chkR md ops n u (listed.setIfInBounds j true)

theorem opIn_get {l : List Oper} {i : Nat} (h : i < l.length) : l.toArray[i]? = some (opIn l i) := by
  unfold opIn; simp [h]

section
variable {P : Program} {md : Region.Mode} {n : Nat} {Q : Exit → Act → World → Prop} {S : World → Prop}
theorem wpR_sound {l : List Oper} (hsel : Region.noSelect l.toArray = true) (hs : Region.sinkB md l.toArray n = true) (hc : Region.chainB md l.toArray n = true) (hn : n < l.toArray.size)
    (hQ : ∀ c d v a w, Q (.panic c) (Act.put a d v) w → Q (.panic c) a w) :
    ∀ (t : Tr) (listed : Array Bool) (a : Act) (w : World), HeadInv md l.toArray n listed → chkR md l.toArray n t listed = true → S w → wpR P l.toArray Q S (pickR l t) a w → wpAnyT P md l.toArray Q S n t.len listed a w := by
  have hnl : n < l.length := by simpa using hn
  intro t
  induction t with
  | rest L =>
    intro listed a w inv hchk hS h
    simp only [chkR, Bool.and_eq_true, List.all_eq_true, decide_eq_true_eq] at hchk
    exact wpT_sound hsel hs hc hn hQ L (pickT l L) listed a w (pickT_len l L).symm (fun k i b o c q1 q2 => by simpa using pickT_get l L k i b o c (fun p hp => by simpa using hchk.1 p hp) q1 q2) inv hchk.2 hS h
  | one i b t ih =>
    intro listed a w inv hchk hS h
    cases b with
    | true =>
      simp only [chkR, Bool.and_eq_true, decide_eq_true_eq] at hchk
      obtain ⟨⟨⟨h1, h2⟩, h3⟩, h4⟩ := hchk
      have ho := opIn_get (l := l) (i := i) (by omega)
      obtain ⟨v, hy, hk⟩ := h
      have hr : i ∈ Region.ready md l.toArray listed := by simpa using h2
      exact wpAnyT_first ho (Region.noSelect_spec hsel) hs hc hn h1 (fun c a w hq => hQ c _ _ _ _ hq) _ listed a w inv (Region.free_spec ho h3) hr hy hS
        (ih _ _ w (inv.set hr h1) h4 hS hk)
    | false =>
      simp only [chkR, Bool.and_eq_true, decide_eq_true_eq] at hchk
      obtain ⟨⟨h1, h2⟩, h4⟩ := hchk
      have ho := opIn_get (l := l) (i := i) (by omega)
      have hr : i ∈ Region.ready md l.toArray listed := by rw [h2]; simp
      refine ⟨fun h0 => (by rw [h2] at h0; cases h0), fun j hj => ?_⟩
      rw [h2] at hj
      have hji : j = i := by simpa using hj
      subst hji
      exact wpOp_mono (fun a' w' hq => ⟨.inr hq.1, ih _ a' w' (inv.set hr h1) h4 hq.1 (hq.2 hq.1)⟩) (stepT_op ho h)
  | two i t j u ih1 ih2 =>
    intro listed a w inv hchk hS h
    simp only [chkR, Bool.and_eq_true, decide_eq_true_eq] at hchk
    obtain ⟨⟨⟨⟨⟨h1, h1'⟩, h2⟩, hlen⟩, h4⟩, h4'⟩ := hchk
    have ho := opIn_get (l := l) (i := i) (by omega)
    have ho' := opIn_get (l := l) (i := j) (by omega)
    have hr : i ∈ Region.ready md l.toArray listed := by rw [h2]; simp
    have hr' : j ∈ Region.ready md l.toArray listed := by rw [h2]; simp
    refine ⟨fun h0 => (by rw [h2] at h0; cases h0), fun k hk => ?_⟩
    rw [h2] at hk
    have hki : k = i ∨ k = j := by simpa using hk
    rcases hki with rfl | rfl
    · exact wpOp_mono (fun a' w' hq => ⟨.inr hq.1, ih1 _ a' w' (inv.set hr h1) h4 hq.1 (hq.2 hq.1)⟩) (stepT_op ho h.1)
    · exact wpOp_mono (fun a' w' hq => ⟨.inr hq.1, hlen ▸ ih2 _ a' w' (inv.set hr' h1') h4' hq.1 (hq.2 hq.1)⟩) (stepT_op ho' h.2)

def fitsR (md : Region.Mode) (ops : Array Oper) (t : Tr) : Bool :=
  decide (t.len = ops.size) && decide (0 < ops.size) && Region.noSelect ops && Region.sinkB md ops (ops.size - 1) && Region.chainB md ops (ops.size - 1) && chkR md ops (ops.size - 1) t (Array.replicate ops.size false)

/-- the beginning -/
theorem wp_region_tree {id : Nat} {a : Act} {w : World} {l : List Oper} (t : Tr) (S : World → Prop) (hm : P.follows .mixedOrders = true) (hB : fitsR .any l.toArray t = true)
    (hS : S w.drew) (h : S w.drew → wpR P l.toArray (NoPanic Q) S (pickR l t) a w.drew) : (Code.region id l.toArray true).wp P Q a w := by
  simp only [fitsR, Bool.and_eq_true, decide_eq_true_eq] at hB
  obtain ⟨⟨⟨⟨⟨h1, h2⟩, h3⟩, h4⟩, h5⟩, h7⟩ := hB
  have inv0 : HeadInv .any l.toArray (l.toArray.size - 1) (Array.replicate l.toArray.size false) :=
    ⟨by simp, fun j oj _ hl => (by rw [getD_replicate_false] at hl; cases hl), fun t _ ht => getD_in (by simpa using ht) (getD_replicate_false _ _)⟩
  refine wp_region_noPanic (wp_region_any hm ?_)
  have := wpR_sound (md := .any) (P := P) (Q := NoPanic Q) (S := S) h3 h4 h5 (by omega) (fun c d v a w hq => hq) t _ a w.drew inv0 h7 hS (h hS)
  rw [h1] at this
  exact wpAny_of_T _ _ _ _ this

theorem wpR_rest {L : List (Oper × Bool)} {ops : Array Oper} {a : Act} {w : World} (h : wpT P ops Q S L a w) : wpR P ops Q S (.rest L) a w := h
theorem wpR_take {o : Oper} {t : TrO} {ops : Array Oper} {a : Act} {w : World} {v : Value} (hw : Region.wanted o (yielded ops a.tmps) = true) (hv : ∀ w, S w → (execOp a.eval o).run P w = .ok (.value v) w)
    (h : wpR P ops Q S t (a.put o.dst v) w) : wpR P ops Q S (.one o true t) a w := ⟨v, .inl ⟨hw, hv⟩, h⟩
theorem wpR_do {o : Oper} {t : TrO} {ops : Array Oper} {a : Act} {w : World}
    (h : ∀ K' : Act → World → Prop, Shut (∀ a w, S w → (S w → wpR P ops Q S t a w) → K' a w) → if Region.wanted o (yielded ops a.tmps) = true then Oper.wp P o a w K' Q else K' (a.put o.dst undef) w) : wpR P ops Q S (.one o false t) a w :=
  (show stepT P ops Q o (fun a' w' => S w' ∧ (S w' → wpR P ops Q S t a' w')) a w from h _ (fun a w hS hW => ⟨hS, hW⟩))
theorem wpR_two {o o' : Oper} {t u : TrO} {ops : Array Oper} {a : Act} {w : World}
    (h : wpR P ops Q S (.one o false t) a w) (h' : wpR P ops Q S (.one o' false u) a w) : wpR P ops Q S (.two o t o' u) a w := ⟨h, h'⟩
end
end Go.Proofs.Ythjlfjaciigfiaa
