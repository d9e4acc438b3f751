/-
  append of a slice of terms onto one in the making: what it leaves. Plain, but for the numbers of the types.
-/
import Derived.Test.YthjlfjaciigfiaaOut
namespace Go.Proofs.Ythjlfjaciigfiaa
open Go.RowKit
set_option linter.unusedVariables false
set_option linter.unusedSimpArgs false

theorem run_append_nil {P : Program} {w : World} (base : Nat) (t ty e : TypeId) (i : TypeInfo) (size : Nat) (ht : P.underlying t = some (.slice e)) (hi : P.info? e = some i)
    (v : Value) (n : Nat) (xs : List Value) (hown : w.ownsRow base e size v n xs) (c : Nat) : (Builtin.append_ #[t, t] ty #[v, .slice none 0 c]).run P w = .ok v w := by
  rcases hown.2 with ⟨rfl, rfl⟩ | ⟨g, cap, cur, rfl, _, _, hnc, _⟩
  · simp [Builtin.append_, run_underlying ht, sizeOf, typeInfo, hi, Builtin.lenOf, Builtin.firstCells]
  · simp [Builtin.append_, run_underlying ht, sizeOf, typeInfo, hi, Builtin.lenOf, Builtin.firstCells, hnc, storeCells]

theorem list_of {α : Type} (n : Nat) (Q : Nat → α → Prop) (h : ∀ i, i < n → ∃ x, Q i x) : ∃ l : List α, l.length = n ∧ ∀ i (hi : i < l.length), Q i l[i] := by
  induction n with
  | zero => exact ⟨[], rfl, fun i hi => absurd hi (Nat.not_lt_zero _)⟩
  | succ n ih =>
    obtain ⟨l, hl, hq⟩ := ih fun i hi => h i (by omega)
    obtain ⟨x, hx⟩ := h n (by omega)
    refine ⟨l ++ [x], by simp [hl], fun i hi => ?_⟩
    by_cases hil : i < l.length
    · rw [List.getElem_append_left hil]; exact hq i hil
    · have : i = n := by simp at hi; omega
      subst this
      rw [List.getElem_append_right (by omega)]
      simpa [hl] using hx

theorem flatten_len {sz : Nat} : ∀ (css : List (List Value)) (_ : ∀ cs ∈ css, cs.length = sz), css.flatten.length = css.length * sz
  | [], _ => by simp
  | c :: css, h => by
    rw [List.flatten_cons, List.length_append, flatten_len css (fun x hx => h x (by simp [hx])), h c (by simp), List.length_cons, Nat.succ_mul]; omega

/-- the cells of a slice of terms -/
theorem subR_cells {Pb Pi : Nat → Prop} {w : World} {u : Value} {xs : List Tm} (h : SubR Pb w (Rd Pi w) u xs) :
    ∃ (ao : Option Addr) (cap : Nat) (css : List (List Value)), u = .slice ao xs.length cap ∧ css.length = xs.length ∧ (∀ cs ∈ css, cs.length = 3) ∧ (∀ i (hi : i < xs.length), ∃ cs, css[i]? = some cs ∧ cs.length = 3 ∧ RdC Pi w cs xs[i]) ∧
      (∀ u ∈ css.flatten, u.oneCell' = true) ∧ (xs = [] ∨ ∃ b off, ao = some ⟨b, off, none⟩ ∧ ∀ j u, css.flatten[j]? = some u → w.cell? ((⟨b, off, none⟩ : Addr).add j) = some u) := by
  obtain ⟨ao, cap, rfl, hl, hc, he⟩ := h
  have hq : ∀ i, i < xs.length → ∃ cs : List Value, ∃ (hi : i < xs.length), cs.length = 3 ∧ RdC Pi w cs xs[i] ∧ (∀ u ∈ cs, u.oneCell' = true) ∧ ∃ b off, ao = some ⟨b, off, none⟩ ∧ ∀ j u, cs[j]? = some u → w.cell? ⟨b, off + i * 3 + j, none⟩ = some u := by
    intro i hi
    obtain ⟨b, off, c0, c1, c2, q1, q2, q3, q4, q5, d, q6⟩ := he i hi
    obtain ⟨ao2, cap2, hv, hk, hn⟩ := q6.shape
    injection hv with hv
    injection hv with hv
    injection hv with r0 hv
    injection hv with r1 hv
    injection hv with r2 hv
    subst r0; subst r1; subst r2
    refine ⟨[_, _, _], hi, rfl, ⟨_, _, _, _, _, rfl, d, q6⟩, one3 _ _ _ _ _, b, off, q1, fun j u hj => ?_⟩
    match j, hj with
    | 0, hj => simp at hj; subst hj; exact q3
    | 1, hj => simp at hj; subst hj; exact q4
    | 2, hj => simp at hj; subst hj; exact q5
  obtain ⟨css, hcl, hcs⟩ := list_of _ _ hq
  have h3 : ∀ cs ∈ css, cs.length = 3 := fun cs hm => by
    obtain ⟨i, hi, rfl⟩ := List.getElem_of_mem hm
    obtain ⟨_, h, _⟩ := hcs i hi
    exact h
  refine ⟨ao, cap, css, rfl, hcl, h3, fun i hi => ?_, fun u hu => ?_, ?_⟩
  · obtain ⟨_, q1, q2, _⟩ := hcs i (by omega)
    exact ⟨css[i], List.getElem?_eq_getElem (by omega), q1, q2⟩
  · obtain ⟨cs, hm, hu⟩ := List.mem_flatten.1 hu
    obtain ⟨i, hi, rfl⟩ := List.getElem_of_mem hm
    obtain ⟨_, _, _, q, _⟩ := hcs i hi
    exact q u hu
  · by_cases h0 : xs.length = 0
    · exact .inl (List.eq_nil_of_length_eq_zero h0)
    · right
      obtain ⟨_, _, _, _, b, off, hao, _⟩ := hcs 0 (by omega)
      refine ⟨b, off, hao, fun j u hj => ?_⟩
      have hlen := flatten_len css h3
      have hjl : j < css.length * 3 := by rw [← hlen]; exact (List.getElem?_eq_some_iff.1 hj).1
      obtain ⟨_, _, _, _, b', off', hao', hcell⟩ := hcs (j / 3) (by omega)
      rw [hao] at hao'
      injection hao' with hao'
      injection hao' with e1 e2
      subst e1; subst e2
      have := flatten_get css h3 (j / 3) (j % 3) css[j / 3] (List.getElem?_eq_getElem (by omega)) (by omega)
      rw [show j / 3 * 3 + j % 3 = j from by omega, hj] at this
      have q := hcell (j % 3) u this.symm
      rw [Addr.add_lit]
      rwa [show off + j / 3 * 3 + j % 3 = off + j from by omega] at q

/-- append of a slice of terms -/
theorem run_terms {w : World} {F Pb : Nat → Prop} {base : Nat} {v u : Value} {l xs : List Tm} (ty : TypeId) (hM : MadeG 3 24 RdC F base w v l)
    (hsrc : SubR Pb w (Rd (fun g => v.ownBlock ≠ some g ∧ g < w.heap.size ∧ F g) w) u xs) (hlen : l.length + xs.length ≤ 1000000000) (hbase : base ≤ w.heap.size) :
    ∃ ao c w', (Builtin.append_ #[22, 22] ty #[v, u]).run Try.prog w = .ok (.slice ao (l.length + xs.length) c) w' ∧ MadeG 3 24 RdC F base w' (.slice ao (l.length + xs.length) c) (l ++ xs) ∧ w.grownBy w' v.ownBlock ∧
      ((Value.slice ao (l.length + xs.length) c).ownBlock = v.ownBlock ∨ (Value.slice ao (l.length + xs.length) c).ownBlock = some w.heap.size) := by
  obtain ⟨i24, hi24, hy1, hy2, hy3⟩ := info_parts info24
  obtain ⟨css, q1, q2, q3⟩ := hM
  obtain ⟨ao, cap, new, rfl, n1, n2, n3, n4, n5⟩ := subR_cells hsrc
  have hnl := flatten_len new n2
  have fin : ∀ v' w', (Builtin.append_ #[22, 22] ty #[v, .slice ao xs.length cap]).run Try.prog w = .ok v' w' → w'.ownsRow base 24 3 v' (l.length + xs.length) (css.flatten ++ new.flatten) → w.grownBy w' v.ownBlock → (v'.ownBlock = v.ownBlock ∨ v'.ownBlock = some w.heap.size) →
      ∃ ao2 c w', (Builtin.append_ #[22, 22] ty #[v, .slice ao xs.length cap]).run Try.prog w = .ok (.slice ao2 (l.length + xs.length) c) w' ∧ MadeG 3 24 RdC F base w' (.slice ao2 (l.length + xs.length) c) (l ++ xs) ∧ w.grownBy w' v.ownBlock ∧
        ((Value.slice ao2 (l.length + xs.length) c).ownBlock = v.ownBlock ∨ (Value.slice ao2 (l.length + xs.length) c).ownBlock = some w.heap.size) := by
    intro v' w' hr ho hg hb
    have hA : AppG base 24 3 w w' v v' (l.length + xs.length) (css.flatten ++ new.flatten) := ⟨ho, hg, hb.elim .inl fun e => .inr ⟨_, e, Nat.le_refl _⟩⟩
    have hM' : MadeG 3 24 RdC F base w' v' (l ++ xs) := MadeG.app keepsC_rd q3 q2 rfl hA n1 n3
    obtain ⟨ao2, c2, rfl, -⟩ := hM'.cells (by omega)
    rw [List.length_append] at hr hM' hb
    exact ⟨ao2, c2, w', hr, hM', hg, hb⟩
  by_cases h0 : xs = []
  · subst h0
    have hn0 : new = [] := List.eq_nil_of_length_eq_zero n1
    subst hn0
    cases ao with
    | none => exact fin v w (run_append_nil base 22 ty 24 i24 3 Try.underlying22 hi24 v l.length css.flatten q1 cap) (by simpa using q1) (World.grownBy.refl w _) (.inl rfl)
    | some ad =>
      obtain ⟨v', w', hr, h2, h3, -, h5⟩ := run_append_own_at (P := Try.prog) w base 22 ty 24 i24 _ 3 40 Try.underlying22 hi24 hy1 hy2 hy3 rfl (by omega) v l.length css.flatten q1 ad 0 cap [] rfl (fun j u hj => by simp at hj) (fun u hu => by simp at hu) (by unfold maxLen; simp at hlen; omega) (by simp at hlen; omega) hbase
      exact fin v' w' hr (by simpa using h2) h3 h5
  · obtain ⟨b, off, rfl, hcell⟩ := n5.resolve_left h0
    obtain ⟨v', w', hr, h2, h3, -, h5⟩ := run_append_own_at (P := Try.prog) w base 22 ty 24 i24 _ 3 40 Try.underlying22 hi24 hy1 hy2 hy3 rfl (by omega) v l.length css.flatten q1 ⟨b, off, none⟩ xs.length cap new.flatten (by rw [hnl, n1]) hcell n4 (by unfold maxLen; omega) (by omega) hbase
    exact fin v' w' hr h2 h3 h5

/-- an append whose run is known, as a step of a region that draws -/
theorem step_run_append {P : Program} {ops : Array Oper} {o : Oper} {a : Act} {K : Act → World → Prop} {Q : Exit → Act → World → Prop} {E : Prop} {w w' : World} (hgd : o.guard = none) (s x : Operand) (t : TypeId)
    (ho : o.op = .call { callee := .builtin .append, args := #[s, x], argTypes := #[t, t] }) (v u v' : Value) (hs : a.eval s = v) (hx : a.eval x = u) (hr : (Builtin.append_ #[t, t] o.type #[v, u]).run P w = .ok v' w') (h : K (a.put o.dst v') w') :
    if Region.wanted o (yielded ops a.tmps) = true then Oper.wp P o a w K Q else E := by
  have hw : Region.wanted o (yielded ops a.tmps) = true := by simp [Region.wanted, hgd]
  rw [if_pos hw]
  unfold Oper.wp execOp
  simp only [ho, resolve, invoke, builtin, Sem.run_bind, Sem.run_pure, Result.andThen_ok, List.map_toArray, List.map_cons, List.map_nil, hs, hx, hr]
  exact h
/-- the same, at a plain region's list -/
theorem wpList_run_append {P : Program} {ops : Array Oper} {rest : List Oper} {o : Oper} {a : Act} {Q : Exit → Act → World → Prop} {w w' : World} (hgd : o.guard = none) (s x : Operand) (t : TypeId)
    (ho : o.op = .call { callee := .builtin .append, args := #[s, x], argTypes := #[t, t] }) (v u v' : Value) (hs : a.eval s = v) (hx : a.eval x = u) (hr : (Builtin.append_ #[t, t] o.type #[v, u]).run P w = .ok v' w') (h : wpList P ops Q rest (a.put o.dst v') w') :
    wpList P ops Q (o :: rest) a w := by
  refine wpList_plain hgd fun K hK => ?_
  unfold Oper.wp execOp
  simp only [ho, resolve, invoke, builtin, Sem.run_bind, Sem.run_pure, Result.andThen_ok, List.map_toArray, List.map_cons, List.map_nil, hs, hx, hr]
  exact hK _ _ h
end Go.Proofs.Ythjlfjaciigfiaa
