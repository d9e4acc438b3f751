/-
  Closures of matrices as lists: a matrix put behind if it is not there; one pass; all passes; what they keep. Plain; no program.
-/
import Derived.Test.YtfcmkhjimgpppaaAlg
namespace Go.Proofs.Ytfcmkhjimgpppaa
set_option linter.unusedVariables false

abbrev Mx := List (List Int)
def addM (l : List Mx) (m : Mx) : List Mx := if m ∈ l then l else l ++ [m]
def step (l : List Mx) (i k : Nat) : List Mx := addM l (prod (l.getD i []) (l.getD k []))
def inn (i : Nat) : Nat → Nat → List Mx → Option (List Mx)
  | 0, _, _ => none
  | f + 1, k, l => if k < l.length then (if 256 < (step l i k).length then none else inn i f (k + 1) (step l i k)) else some l
def outr : Nat → Nat → List Mx → Option (List Mx)
  | 0, _, _ => none
  | f + 1, i, l => if i < l.length then (match inn i 257 0 l with | none => none | some l' => outr f (i + 1) l') else some l
def clo : Nat → List Mx → Option (List Mx)
  | 0, _ => none
  | f + 1, l => match outr 257 0 l with | none => none | some l' => if l'.length = l.length then some l' else clo f l'
def dedup (l : List Mx) : List Mx := l.foldl addM []
def closure (l : List Mx) : Option (List Mx) := clo 257 (dedup l)

theorem addM_mem {l : List Mx} {m x : Mx} : x ∈ addM l m ↔ x ∈ l ∨ x = m := by
  unfold addM; split
  · constructor
    · exact .inl
    · rintro (h | rfl) <;> assumption
  · simp
theorem addM_in {l : List Mx} {m : Mx} (h : m ∈ l) : addM l m = l := by unfold addM; rw [if_pos h]
theorem addM_out {l : List Mx} {m : Mx} (h : m ∉ l) : addM l m = l ++ [m] := by unfold addM; rw [if_neg h]
theorem addM_pre (l : List Mx) (m : Mx) : l <+: addM l m := by
  unfold addM; split
  · exact List.prefix_refl _
  · exact List.prefix_append _ _
theorem addM_len (l : List Mx) (m : Mx) : l.length ≤ (addM l m).length ∧ (addM l m).length ≤ l.length + 1 := by
  unfold addM; split <;> simp
theorem addM_nodup {l : List Mx} (h : l.Nodup) (m : Mx) : (addM l m).Nodup := by
  unfold addM; split
  · exact h
  · rename_i hm
    rw [List.nodup_append]
    refine ⟨h, by simp, fun a ha b hb => ?_⟩
    rw [List.mem_singleton] at hb
    subst hb
    intro e; subst e; exact hm ha
theorem addM_same {l : List Mx} {m : Mx} (h : (addM l m).length = l.length) : m ∈ l := by
  unfold addM at h; split at h
  · assumption
  · simp at h
theorem getD_mem {l : List Mx} {i : Nat} (h : i < l.length) : l.getD i [] ∈ l := by
  rw [List.getD_eq_getElem?_getD, List.getElem?_eq_getElem h]; exact List.getElem_mem h

theorem inn_ind {Q : List Mx → Prop} (hs : ∀ l a b, Q l → a ∈ l → b ∈ l → (addM l (prod a b)).length ≤ 256 → Q (addM l (prod a b))) {i : Nat} : ∀ f k l l', Q l → i < l.length → inn i f k l = some l' → Q l' ∧ l <+: l' := by
  intro f
  induction f with
  | zero => intro k l l' _ _ h; simp [inn] at h
  | succ f ih =>
    intro k l l' hQ hi h
    simp only [inn] at h
    split at h
    · rename_i hk
      split at h
      · cases h
      · rename_i h256
        have hp := addM_pre l (prod (l.getD i []) (l.getD k []))
        obtain ⟨h1, h2⟩ := ih (k + 1) _ l' (hs l _ _ hQ (getD_mem hi) (getD_mem hk) (by unfold step at h256; omega)) (Nat.lt_of_lt_of_le hi hp.length_le) h
        exact ⟨h1, hp.trans h2⟩
    · injection h with h; subst h; exact ⟨hQ, List.prefix_refl _⟩
theorem outr_ind {Q : List Mx → Prop} (hs : ∀ l a b, Q l → a ∈ l → b ∈ l → (addM l (prod a b)).length ≤ 256 → Q (addM l (prod a b))) : ∀ f i l l', Q l → outr f i l = some l' → Q l' ∧ l <+: l' := by
  intro f
  induction f with
  | zero => intro i l l' _ h; simp [outr] at h
  | succ f ih =>
    intro i l l' hQ h
    simp only [outr] at h
    split at h
    · rename_i hi
      cases h1 : inn i 257 0 l with
      | none => rw [h1] at h; cases h
      | some l1 =>
        rw [h1] at h
        obtain ⟨q1, p1⟩ := inn_ind hs _ _ _ _ hQ hi h1
        obtain ⟨q2, p2⟩ := ih _ _ _ q1 h
        exact ⟨q2, p1.trans p2⟩
    · injection h with h; subst h; exact ⟨hQ, List.prefix_refl _⟩
theorem clo_ind {Q : List Mx → Prop} (hs : ∀ l a b, Q l → a ∈ l → b ∈ l → (addM l (prod a b)).length ≤ 256 → Q (addM l (prod a b))) : ∀ f l l', Q l → clo f l = some l' → Q l' ∧ l <+: l' := by
  intro f
  induction f with
  | zero => intro l l' _ h; simp [clo] at h
  | succ f ih =>
    intro l l' hQ h
    simp only [clo] at h
    cases h1 : outr 257 0 l with
    | none => rw [h1] at h; cases h
    | some l1 =>
      rw [h1] at h
      obtain ⟨q1, p1⟩ := outr_ind hs _ _ _ _ hQ h1
      simp only at h
      split at h
      · injection h with h; subst h; exact ⟨q1, p1⟩
      · obtain ⟨q2, p2⟩ := ih _ _ q1 h
        exact ⟨q2, p1.trans p2⟩
theorem dedup_ind {Q : List Mx → Prop} : ∀ (l acc : List Mx), Q acc → (∀ acc m, Q acc → m ∈ l → Q (addM acc m)) → Q (l.foldl addM acc) := by
  intro l
  induction l with
  | nil => intro acc h _; exact h
  | cons a l ih => intro acc h hs; exact ih _ (hs acc a h (List.mem_cons_self ..)) fun acc m h hm => hs acc m h (List.mem_cons_of_mem _ hm)
theorem dedup_mem {l : List Mx} {x : Mx} : x ∈ dedup l ↔ x ∈ l := by
  unfold dedup
  suffices ∀ (l acc : List Mx), x ∈ l.foldl addM acc ↔ x ∈ acc ∨ x ∈ l from by simpa using this l []
  intro l
  induction l with
  | nil => intro acc; simp
  | cons a l ih => intro acc; rw [List.foldl_cons, ih, addM_mem, List.mem_cons, or_assoc]
theorem dedup_nodup (l : List Mx) : (dedup l).Nodup := dedup_ind (Q := List.Nodup) l [] (by simp) fun acc m h _ => addM_nodup h m
theorem dedup_len (l : List Mx) : (dedup l).length ≤ l.length := by
  unfold dedup
  suffices ∀ (l acc : List Mx), (l.foldl addM acc).length ≤ acc.length + l.length from by simpa using this l []
  intro l
  induction l with
  | nil => intro acc; simp
  | cons a l ih => intro acc; have := ih (addM acc a); have := (addM_len acc a).2; rw [List.foldl_cons, List.length_cons]; omega

/-- matrices of size n, no more than 256 -/
def Sqs (n : Nat) (l : List Mx) : Prop := ∀ m ∈ l, right m = true ∧ m.length = n
theorem Sqs.add {n : Nat} {l : List Mx} (h : Sqs n l) {m : Mx} (hm : right m = true ∧ m.length = n) : Sqs n (addM l m) := fun x hx => by
  rcases addM_mem.1 hx with h1 | rfl
  · exact h x h1
  · exact hm
theorem Sqs.prod {n : Nat} {l : List Mx} (h : Sqs n l) {a b : Mx} (ha : a ∈ l) (hb : b ∈ l) : right (prod a b) = true ∧ (Go.Proofs.Ytfcmkhjimgpppaa.prod a b).length = n :=
  ⟨right_prod (right_iff.1 (h a ha).1).1, by rw [prod_len]; exact (h a ha).2⟩
theorem Sqs.step {n : Nat} {l : List Mx} (h : Sqs n l) {i k : Nat} (hi : i < l.length) (hk : k < l.length) : Sqs n (step l i k) := h.add (h.prod (getD_mem hi) (getD_mem hk))
theorem sqs_step {n : Nat} : ∀ (l : List Mx) (a b : Mx), (Sqs n l ∧ l.length ≤ 256 ∧ l.Nodup) → a ∈ l → b ∈ l → (addM l (prod a b)).length ≤ 256 → (Sqs n (addM l (prod a b)) ∧ (addM l (prod a b)).length ≤ 256 ∧ (addM l (prod a b)).Nodup) :=
  fun l a b h ha hb hl => ⟨h.1.add (h.1.prod ha hb), hl, addM_nodup h.2.2 _⟩

theorem inn_same {i : Nat} : ∀ f k l l', i < l.length → inn i f k l = some l' → l'.length = l.length → l' = l ∧ ∀ k', k ≤ k' → k' < l.length → prod (l.getD i []) (l.getD k' []) ∈ l := by
  intro f
  induction f with
  | zero => intro k l l' _ h; simp [inn] at h
  | succ f ih =>
    intro k l l' hi h hl
    simp only [inn] at h
    split at h
    · rename_i hk
      split at h
      · cases h
      · have hp := addM_pre l (prod (l.getD i []) (l.getD k []))
        have hi' : i < (step l i k).length := Nat.lt_of_lt_of_le hi hp.length_le
        have h2 := (inn_ind (Q := fun _ => True) (fun _ _ _ _ _ _ _ => trivial) _ _ _ _ trivial hi' h).2
        have h3 := h2.length_le
        have h4 := hp.length_le
        have hm : prod (l.getD i []) (l.getD k []) ∈ l := addM_same (by unfold step at h3; omega)
        have he : step l i k = l := addM_in hm
        rw [he] at h
        obtain ⟨e1, e2⟩ := ih _ _ _ hi h hl
        refine ⟨e1, fun k' h5 h6 => ?_⟩
        by_cases hkk : k' = k
        · subst hkk; exact hm
        · exact e2 k' (by omega) h6
    · injection h with h; subst h
      exact ⟨rfl, fun k' h5 h6 => by omega⟩
theorem outr_same : ∀ f i l l', outr f i l = some l' → l'.length = l.length → l' = l ∧ ∀ i' k', i ≤ i' → i' < l.length → k' < l.length → prod (l.getD i' []) (l.getD k' []) ∈ l := by
  intro f
  induction f with
  | zero => intro i l l' h; simp [outr] at h
  | succ f ih =>
    intro i l l' h hl
    simp only [outr] at h
    split at h
    · rename_i hi
      cases h1 : inn i 257 0 l with
      | none => rw [h1] at h; cases h
      | some l1 =>
        rw [h1] at h
        have p1 := (inn_ind (Q := fun _ => True) (fun _ _ _ _ _ _ _ => trivial) _ _ _ _ trivial hi h1).2.length_le
        have p2 := (outr_ind (Q := fun _ => True) (fun _ _ _ _ _ _ _ => trivial) _ _ _ _ trivial h).2.length_le
        obtain ⟨e1, e2⟩ := inn_same _ _ _ _ hi h1 (by omega)
        rw [e1] at h
        obtain ⟨g1, g2⟩ := ih _ _ _ h hl
        refine ⟨g1, fun i' k' h5 h6 h7 => ?_⟩
        by_cases hii : i' = i
        · subst hii; exact e2 k' (Nat.zero_le _) h7
        · exact g2 i' k' (by omega) h6 h7
    · injection h with h; subst h
      exact ⟨rfl, fun i' k' h5 h6 => by omega⟩
def Closed (r : List Mx) : Prop := ∀ a b, a ∈ r → b ∈ r → prod a b ∈ r
theorem mem_getD {l : List Mx} {x : Mx} (h : x ∈ l) : ∃ i, i < l.length ∧ l.getD i [] = x := by
  obtain ⟨i, hi, rfl⟩ := List.getElem_of_mem h
  exact ⟨i, hi, by rw [List.getD_eq_getElem?_getD, List.getElem?_eq_getElem hi]; rfl⟩
theorem clo_closed : ∀ f l r, clo f l = some r → Closed r := by
  intro f
  induction f with
  | zero => intro l r h; simp [clo] at h
  | succ f ih =>
    intro l r h
    simp only [clo] at h
    cases h1 : outr 257 0 l with
    | none => rw [h1] at h; cases h
    | some l1 =>
      rw [h1] at h
      simp only at h
      split at h
      · rename_i hl
        injection h with h; subst h
        obtain ⟨e1, e2⟩ := outr_same _ _ _ _ h1 hl
        subst e1
        intro a b ha hb
        obtain ⟨i, hi, rfl⟩ := mem_getD ha
        obtain ⟨k, hk, rfl⟩ := mem_getD hb
        exact e2 i k (Nat.zero_le _) hi hk
      · exact ih _ _ h
theorem closure_closed {l r : List Mx} (h : closure l = some r) : Closed r := clo_closed _ _ _ h
theorem closure_has {l r : List Mx} (h : closure l = some r) : ∀ m ∈ l, m ∈ r := fun m hm =>
  (clo_ind (Q := fun _ => True) (fun _ _ _ _ _ _ _ => trivial) _ _ _ trivial h).2.subset (dedup_mem.2 hm)
theorem closure_ind {Q : Mx → Prop} {l r : List Mx} (h : closure l = some r) (h0 : ∀ m ∈ l, Q m) (hs : ∀ a b, Q a → Q b → Q (prod a b)) : ∀ m ∈ r, Q m :=
  (clo_ind (Q := fun l => ∀ m ∈ l, Q m) (fun l a b hl ha hb _ m hm => by
    rcases addM_mem.1 hm with h1 | rfl
    · exact hl m h1
    · exact hs a b (hl a ha) (hl b hb)) _ _ _ (fun m hm => h0 m (dedup_mem.1 hm)) h).1
theorem closure_ok {n : Nat} {l r : List Mx} (h : closure l = some r) (hl : l.length ≤ 256) (h0 : Sqs n l) : Sqs n r ∧ r.length ≤ 256 ∧ r.Nodup :=
  (clo_ind (Q := fun l => Sqs n l ∧ l.length ≤ 256 ∧ l.Nodup) sqs_step _ _ _ ⟨fun m hm => h0 m (dedup_mem.1 hm), Nat.le_trans (dedup_len l) hl, dedup_nodup l⟩ h).1

theorem nodup_le : ∀ (l r : List Mx), l.Nodup → (∀ m ∈ l, m ∈ r) → l.length ≤ r.length := by
  intro l
  induction l with
  | nil => intro r _ _; simp
  | cons a l ih =>
    intro r hn hs
    rw [List.nodup_cons] at hn
    have ha := hs a (List.mem_cons_self ..)
    have := ih (r.erase a) hn.2 fun m hm => (List.mem_erase_of_ne (fun e => by subst e; exact hn.1 hm)).2 (hs m (List.mem_cons_of_mem _ hm))
    rw [List.length_erase_of_mem ha] at this
    have := List.length_pos_of_mem ha
    rw [List.length_cons]; omega
section
variable {r : List Mx} (hr : Closed r) (hl : r.length ≤ 256)
include hr hl
theorem in_step (l : List Mx) (a b : Mx) (h : (∀ m ∈ l, m ∈ r) ∧ l.Nodup) (ha : a ∈ l) (hb : b ∈ l) : ((∀ m ∈ addM l (prod a b), m ∈ r) ∧ (addM l (prod a b)).Nodup) ∧ (addM l (prod a b)).length ≤ 256 := by
  have h1 : (∀ m ∈ addM l (prod a b), m ∈ r) ∧ (addM l (prod a b)).Nodup := ⟨fun m hm => by
    rcases addM_mem.1 hm with h1 | rfl
    · exact h.1 m h1
    · exact hr a b (h.1 a ha) (h.1 b hb), addM_nodup h.2 _⟩
  exact ⟨h1, Nat.le_trans (nodup_le _ _ h1.2 h1.1) hl⟩
theorem inn_some {i : Nat} : ∀ f k l, 257 ≤ f + k → k ≤ l.length → i < l.length → ((∀ m ∈ l, m ∈ r) ∧ l.Nodup) → ∃ l', inn i f k l = some l' := by
  intro f
  induction f with
  | zero => intro k l h1 h2 hi h3; have := nodup_le _ _ h3.2 h3.1; omega
  | succ f ih =>
    intro k l h1 h2 hi h3
    simp only [inn]
    by_cases hk : k < l.length
    · rw [if_pos hk]
      obtain ⟨g1, g2⟩ := in_step hr hl l _ _ h3 (getD_mem hi) (getD_mem hk)
      rw [if_neg (by unfold step; omega)]
      have := (addM_len l (prod (l.getD i []) (l.getD k []))).1
      exact ih (k + 1) _ (by omega) (by unfold step; omega) (by unfold step; omega) g1
    · rw [if_neg hk]; exact ⟨_, rfl⟩
theorem outr_some : ∀ f i l, 257 ≤ f + i → i ≤ l.length → ((∀ m ∈ l, m ∈ r) ∧ l.Nodup) → ∃ l', outr f i l = some l' := by
  intro f
  induction f with
  | zero => intro i l h1 h2 h3; have := nodup_le _ _ h3.2 h3.1; omega
  | succ f ih =>
    intro i l h1 h2 h3
    simp only [outr]
    by_cases hi : i < l.length
    · rw [if_pos hi]
      obtain ⟨l', h'⟩ := inn_some hr hl 257 0 l (by omega) (Nat.zero_le _) hi h3
      obtain ⟨q, p⟩ := inn_ind (Q := fun l => (∀ m ∈ l, m ∈ r) ∧ l.Nodup) (fun l a b h ha hb _ => (in_step hr hl l a b h ha hb).1) _ _ _ _ h3 hi h'
      rw [h']
      have := p.length_le
      exact ih _ _ (by omega) (by omega) q
    · rw [if_neg hi]; exact ⟨_, rfl⟩
theorem clo_some : ∀ f l, 257 ≤ f + l.length → ((∀ m ∈ l, m ∈ r) ∧ l.Nodup) → ∃ l', clo f l = some l' := by
  intro f
  induction f with
  | zero => intro l h1 h3; have := nodup_le _ _ h3.2 h3.1; omega
  | succ f ih =>
    intro l h1 h3
    simp only [clo]
    obtain ⟨l', h'⟩ := outr_some hr hl 257 0 l (by omega) (Nat.zero_le _) h3
    obtain ⟨q, p⟩ := outr_ind (Q := fun l => (∀ m ∈ l, m ∈ r) ∧ l.Nodup) (fun l a b h ha hb _ => (in_step hr hl l a b h ha hb).1) _ _ _ _ h3 h'
    rw [h']
    have := p.length_le
    by_cases he : l'.length = l.length
    · exact ⟨l', by simp only; rw [if_pos he]⟩
    · obtain ⟨l2, h2⟩ := ih l' (by omega) q
      exact ⟨l2, by simp only; rw [if_neg he]; exact h2⟩
end
/-- fewer matrices have a closure too, and it lies in the other one -/
theorem closure_fewer {l l' r : List Mx} (h : closure l = some r) (hr : r.length ≤ 256) (hs : ∀ m ∈ l', m ∈ l) : ∃ r', closure l' = some r' ∧ ∀ m ∈ r', m ∈ r := by
  have hc := closure_closed h
  have h1 : (∀ m ∈ dedup l', m ∈ r) ∧ (dedup l').Nodup := ⟨fun m hm => closure_has h m (hs m (dedup_mem.1 hm)), dedup_nodup _⟩
  obtain ⟨r', h'⟩ := clo_some hc hr 257 _ (by omega) h1
  refine ⟨r', h', closure_ind h' (fun m hm => closure_has h m (hs m hm)) fun a b ha hb => hc a b ha hb⟩

/-- falls by an order: at one place 2, at all earlier ones no 0 -/
def fallsBy (o : List Nat) (m : Mx) : Prop := ∃ p, p < o.length ∧ G m (o.getD p 0) (o.getD p 0) = 2 ∧ ∀ q, q < p → G m (o.getD q 0) (o.getD q 0) ≠ 0
theorem fallsBy_prod {o : List Nat} {n : Nat} (ho : ∀ i ∈ o, i < n) {a b : Mx} (la : a.length = n) (lb : b.length = n) (ha : fallsBy o a) (hb : fallsBy o b) : fallsBy o (prod a b) := by
  obtain ⟨p, hp, p2, pl⟩ := ha
  obtain ⟨q, hq, q2, ql⟩ := hb
  have hio : ∀ x, x < o.length → o.getD x 0 < n := fun x hx => ho _ (by rw [List.getD_eq_getElem?_getD, List.getElem?_eq_getElem hx]; exact List.getElem_mem hx)
  have hne : ∀ x, x < o.length → G a (o.getD x 0) (o.getD x 0) ≠ 0 → G b (o.getD x 0) (o.getD x 0) ≠ 0 → G (prod a b) (o.getD x 0) (o.getD x 0) ≠ 0 := by
    intro x hx h1 h2
    have h3 := hio x hx
    rw [G_prod a b _ _ (by omega) (by omega)]
    exact (pc_ne ..).2 ⟨_, by omega, h1, h2⟩
  have h2e : ∀ x, x < o.length → G a (o.getD x 0) (o.getD x 0) ≠ 0 → G b (o.getD x 0) (o.getD x 0) ≠ 0 → (G a (o.getD x 0) (o.getD x 0) = 2 ∨ G b (o.getD x 0) (o.getD x 0) = 2) → G (prod a b) (o.getD x 0) (o.getD x 0) = 2 := by
    intro x hx h1 h2 h4
    have h3 := hio x hx
    rw [G_prod a b _ _ (by omega) (by omega)]
    exact (pc_eq2 ..).2 ⟨_, by omega, h1, h2, h4⟩
  have ha0 : ∀ x, x ≤ p → G a (o.getD x 0) (o.getD x 0) ≠ 0 := fun x hx => by
    by_cases h : x = p
    · subst h; omega
    · exact pl x (by omega)
  have hb0 : ∀ x, x ≤ q → G b (o.getD x 0) (o.getD x 0) ≠ 0 := fun x hx => by
    by_cases h : x = q
    · subst h; omega
    · exact ql x (by omega)
  by_cases hpq : p ≤ q
  · exact ⟨p, hp, h2e p hp (ha0 p (Nat.le_refl _)) (hb0 p hpq) (.inl p2), fun x hx => hne x (by omega) (ha0 x (by omega)) (hb0 x (by omega))⟩
  · exact ⟨q, hq, h2e q hq (ha0 q (by omega)) (hb0 q (Nat.le_refl _)) (.inr q2), fun x hx => hne x (by omega) (ha0 x (by omega)) (hb0 x (by omega))⟩
theorem closure_falls {l r : List Mx} {n : Nat} {o : List Nat} (h : closure l = some r) (h0 : Sqs n l) (ho : ∀ i ∈ o, i < n) (hf : ∀ m ∈ l, fallsBy o m) : ∀ m ∈ r, ∃ i, i < n ∧ G m i i = 2 := by
  have := closure_ind (Q := fun m => m.length = n ∧ fallsBy o m) h (fun m hm => ⟨(h0 m hm).2, hf m hm⟩) (fun a b ha hb => ⟨by rw [prod_len]; exact ha.1, fallsBy_prod ho ha.1 hb.1 ha.2 hb.2⟩)
  intro m hm
  obtain ⟨-, p, hp, h2, -⟩ := this m hm
  exact ⟨_, ho _ (by rw [List.getD_eq_getElem?_getD, List.getElem?_eq_getElem hp]; exact List.getElem_mem hp), h2⟩
end Go.Proofs.Ytfcmkhjimgpppaa
