/-
  A matrix's text tells the matrix; a map of texts as the list of its matrices. Plain.
-/
import Derived.Test.YtfcmkhjimgpppaaText
import Derived.Test.YtfcmkhjimgpppaaPass
import Derived.Maps.OwnSet
namespace Go.Proofs.Ytfcmkhjimgpppaa
open Go.RowKit Go.Maps
set_option linter.unusedVariables false
set_option linter.unusedSimpArgs false

def u8 (x : Int) : UInt8 := UInt8.ofNat x.toNat
def key (m : Mx) : Lit := .string ((txt m m.length).map u8)
theorem key_str (m : Mx) : (Lit.string (strOfNums (txt m m.length)).data.toList) = key m := rfl

theorem u8_inj {x y : Int} (hx : 0 ≤ x ∧ x < 256) (hy : 0 ≤ y ∧ y < 256) (h : u8 x = u8 y) : x = y := by
  have h1 := congrArg UInt8.toNat h
  simp only [u8, UInt8.toNat_ofNat'] at h1
  omega
theorem map_inj_on {α β : Type} {f : α → β} {Q : α → Prop} (hf : ∀ x y, Q x → Q y → f x = f y → x = y) : ∀ (l l' : List α), (∀ x ∈ l, Q x) → (∀ x ∈ l', Q x) → l.map f = l'.map f → l = l'
  | [], [], _, _, _ => rfl
  | [], _ :: _, _, _, h => by simp at h
  | _ :: _, [], _, _, h => by simp at h
  | a :: l, b :: l', h1, h2, h => by
    simp only [List.map_cons, List.cons.injEq] at h
    rw [hf a b (h1 a (List.mem_cons_self ..)) (h2 b (List.mem_cons_self ..)) h.1, map_inj_on hf l l' (fun x hx => h1 x (List.mem_cons_of_mem _ hx)) (fun x hx => h2 x (List.mem_cons_of_mem _ hx)) h.2]
theorem sym_bd (x : Int) : 0 ≤ sym x ∧ sym x < 256 := by unfold sym; split <;> (try split) <;> omega
theorem sym_inj {x y : Int} (hx : 0 ≤ x ∧ x ≤ 2) (hy : 0 ≤ y ∧ y ≤ 2) (h : sym x = sym y) : x = y := by
  unfold sym at h; split at h <;> (try split at h) <;> (try split at h) <;> omega
theorem txt_bd (m : Mx) : ∀ k, ∀ x ∈ txt m k, 0 ≤ x ∧ x < 256 := by
  intro k
  induction k with
  | zero => intro x hx; simp [txt] at hx
  | succ k ih =>
    intro x hx
    simp only [txt, List.mem_append, List.mem_map] at hx
    rcases hx with (hx | hx) | ⟨y, -, rfl⟩
    · exact ih x hx
    · split at hx
      · simp at hx; omega
      · simp at hx
    · exact sym_bd y
theorem txt_inj {a b : Mx} {n : Nat} (ra : ∀ i, i < n → (a.getD i []).length = n ∧ ∀ x ∈ a.getD i [], 0 ≤ x ∧ x ≤ 2) (rb : ∀ i, i < n → (b.getD i []).length = n ∧ ∀ x ∈ b.getD i [], 0 ≤ x ∧ x ≤ 2) :
    ∀ k, k ≤ n → txt a k = txt b k → ∀ i, i < k → a.getD i [] = b.getD i [] := by
  intro k
  induction k with
  | zero => intro _ _ i h; omega
  | succ k ih =>
    intro hk h i hi
    simp only [txt] at h
    obtain ⟨h1, h2⟩ := List.append_inj' h (by rw [List.length_map, List.length_map, (ra k (by omega)).1, (rb k (by omega)).1])
    obtain ⟨h3, -⟩ := List.append_inj' h1 rfl
    by_cases hik : i = k
    · subst hik
      exact map_inj_on (Q := fun x => 0 ≤ x ∧ x ≤ 2) (fun x y hx hy e => sym_inj hx hy e) _ _ (ra i (by omega)).2 (rb i (by omega)).2 h2
    · exact ih (by omega) h3 i (by omega)
theorem right_rows {m : Mx} (h : right m = true) : ∀ i, i < m.length → (m.getD i []).length = m.length ∧ ∀ x ∈ m.getD i [], 0 ≤ x ∧ x ≤ 2 := fun i hi => by
  have h1 := (right_iff.1 h).2 i hi
  rw [List.getD_eq_getElem?_getD, List.getElem?_eq_getElem hi]
  obtain ⟨h2, h3⟩ := rowOk_iff.1 h1
  refine ⟨h2, fun x hx => ?_⟩
  obtain ⟨j, hj, rfl⟩ := List.getElem_of_mem hx
  exact h3 j hj
theorem key_inj {a b : Mx} (ra : right a = true) (rb : right b = true) (hl : a.length = b.length) (h : key a = key b) : a = b := by
  unfold key at h
  injection h with h
  have h1 := map_inj_on (Q := fun x => 0 ≤ x ∧ x < 256) (fun x y hx hy e => u8_inj hx hy e) _ _ (txt_bd a _) (txt_bd b _) h
  rw [← hl] at h1
  have h2 := txt_inj (n := a.length) (right_rows ra) (by have := right_rows rb; rw [← hl] at this; exact this) a.length (Nat.le_refl _) h1
  apply List.ext_getElem hl
  intro i h3 h4
  have := h2 i h3
  rwa [List.getD_eq_getElem?_getD, List.getElem?_eq_getElem h3, List.getD_eq_getElem?_getD, List.getElem?_eq_getElem h4] at this

/-- the matrices' texts, each with a 1 -/
def one1 : DataW Unit := .lit (.int .i64 1)
def keysOf (l : List Mx) : DataW Unit := setOf one1 (l.map key)
theorem keysOf_nil : keysOf [] = .map [] := rfl
theorem keysOf_snoc (l : List Mx) (m : Mx) : keysOf (l ++ [m]) = (keysOf l).put (key m) one1 := by
  unfold keysOf; rw [List.map_append, List.map_cons, List.map_nil, setOf_snoc]
theorem keyLit (m : Mx) : WideAt.IsKeyLit (key m) := by unfold key; first | trivial | (simp [WideAt.IsKeyLit]) | (exact ⟨_, rfl⟩)
theorem atKey_fold (k : Lit) (z : DataW Unit) : ∀ (acc : List Lit) (D : DataW Unit), IsMap D → (∀ x ∈ acc, WideAt.IsKeyLit x) →
    (k ∈ acc → (acc.foldl (fun m x => m.put x one1) D).atKey k z = one1) ∧ (k ∉ acc → (acc.foldl (fun m x => m.put x one1) D).atKey k z = D.atKey k z)
  | [], D, _, _ => ⟨fun h => (by cases h), fun _ => rfl⟩
  | x :: acc, D, hD, h => by
    obtain ⟨h1, h2⟩ := atKey_fold k z acc (D.put x one1) (hD.put _ _) fun y hy => h y (List.mem_cons_of_mem _ hy)
    rw [List.foldl_cons]
    refine ⟨fun hk => ?_, fun hk => ?_⟩
    · by_cases h3 : k ∈ acc
      · exact h1 h3
      · rw [h2 h3]
        have : k = x := by
          rcases List.mem_cons.1 hk with e | e
          · exact e
          · exact absurd e h3
        subst this
        exact atKey_put_same hD (h k (List.mem_cons_self ..)) _ _
    · have hx : k ≠ x := fun e => hk (by rw [e]; exact List.mem_cons_self ..)
      rw [h2 fun e => hk (List.mem_cons_of_mem _ e)]
      exact atKey_put_other hx _ _
theorem atKey_keys (l : List Mx) (m : Mx) (z : DataW Unit) {n : Nat} (hl : Sqs n l) (hm : right m = true ∧ m.length = n) : (keysOf l).atKey (key m) z = if m ∈ l then one1 else z := by
  have hf := atKey_fold (key m) z (l.map key) (.map []) isMap_empty (fun x hx => by obtain ⟨y, -, rfl⟩ := List.mem_map.1 hx; exact keyLit y)
  have : key m ∈ l.map key ↔ m ∈ l := by
    rw [List.mem_map]
    constructor
    · rintro ⟨y, hy, e⟩
      have := key_inj (hl y hy).1 hm.1 (by rw [(hl y hy).2, hm.2]) e
      subst this; exact hy
    · exact fun h => ⟨m, h, rfl⟩
  by_cases h : m ∈ l
  · rw [if_pos h]; exact hf.1 (this.2 h)
  · rw [if_neg h]; exact (hf.2 (fun e => h (this.1 e))).trans rfl
end Go.Proofs.Ytfcmkhjimgpppaa
