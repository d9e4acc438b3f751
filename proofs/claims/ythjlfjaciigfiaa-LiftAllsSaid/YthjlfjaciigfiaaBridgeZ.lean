/-
  From what the form reads of a list of terms to the walks' reading, with how much memory it takes. Plain.
-/
import Derived.Test.YthjlfjaciigfiaaBridge
import Derived.Test.YthjlfjaciigfiaaTree
import Derived.SizedLaws
namespace Go.Proofs.Ythjlfjaciigfiaa
open Go.RowKit Go.ChangeShapes Go.WideShapes Go.ChangeAt
set_option linter.unusedVariables false
set_option linter.unusedSimpArgs false

variable {H : Type} {enc : TypeId × Value → H} {w : World} {sp : Nat → Bool}
theorem weightsAll_mem {P : Program} {e : TypeId} {z : Nat} {d : DataW H} : ∀ {l : List (DataW H)}, d ∈ l → z ∈ d.weights P e → z ∈ DataW.weightsAll P e l
  | [], h, _ => by cases h
  | a :: l, h, hz => by
    rw [DataW.weightsAll]
    rcases List.mem_cons.1 h with rfl | h
    · exact List.mem_append_left _ hz
    · exact List.mem_append_right _ (weightsAll_mem h hz)
theorem thinL_of : ∀ {l : List Tm}, (∀ i (hi : i < l.length), thin l[i] = true) → thinL l = true
  | [], _ => rfl
  | t :: l, h => by
    simp only [thinL, Bool.and_eq_true]
    exact ⟨h 0 (by simp), thinL_of fun i hi => h (i + 1) (by simpa using hi)⟩
theorem slice_ofZ {fuel : Nat} {v : Value} {x : DataW H × List MemPlace} (h : DataW.trod enc Try.prog w 0 sp true fuel 22 [v] = some x)
    (hw : ∀ z ∈ x.1.weights Try.prog 22, z ≤ reachBytes)
    (hel : ∀ n cs y, n < fuel → DataW.trod enc Try.prog w 0 sp true n 24 cs = some y → (∀ z ∈ y.1.weights Try.prog 24, z ≤ reachBytes) → ∃ k n ao m c t, cs = [.int .i64 k, .int .i64 n, .slice ao m c] ∧ Rd (· < w.heap.size) w (.agg #[.int .i64 k, .int .i64 n, .slice ao m c]) t ∧ thin t = true) : ∃ l, Ts (· < w.heap.size) w v l ∧ l.length ≤ 3518437208883 ∧ thinL l = true := by
  have hc : Try.prog.cellsOf 24 = 3 := by kernel_rfl
  rcases DataW.trod_slice Try.underlying22 h with ⟨h1, _⟩ | ⟨a, len, cap, elems, rest, n, hfu, h1, hx, hb, hl, hm, hlen, hels, _, _⟩
  · injection h1 with h1 _
    subst h1
    exact ⟨[], SubR.nil _ _ _ _ _ (Nat.zero_le _), by simp, rfl⟩
  · injection h1 with h1 _
    subst h1
    subst hx
    have hwt : (DataW.slice (elems.map (·.1)) (rest.map (·.1))).weights Try.prog 22 = ((elems.map (·.1)).length + (rest.map (·.1)).length) * Try.prog.bytesOf 24 :: (DataW.weightsAll Try.prog 24 (elems.map (·.1)) ++ DataW.weightsAll Try.prog 24 (rest.map (·.1))) := by
      rw [DataW.weights, Try.underlying22]
    have hw0 : ∀ z ∈ ((elems.map (·.1)).length + (rest.map (·.1)).length) * Try.prog.bytesOf 24 :: (DataW.weightsAll Try.prog 24 (elems.map (·.1)) ++ DataW.weightsAll Try.prog 24 (rest.map (·.1))), z ≤ reachBytes := by rw [← hwt]; exact hw
    have hlen2 : len ≤ 3518437208883 := by
      have h40 : Try.prog.bytesOf 24 = 40 := by kernel_rfl
      have h1 := hw0 _ (List.mem_cons_self ..)
      rw [h40, List.length_map] at h1
      have h2 : reachBytes = 140737488351232 := rfl
      omega
    have hwe : ∀ i (hi : i < elems.length), ∀ z ∈ elems[i].1.weights Try.prog 24, z ≤ reachBytes := fun i hi z hz =>
      hw0 z (List.mem_cons_of_mem _ (List.mem_append_left _ (weightsAll_mem (List.mem_map.2 ⟨_, List.getElem_mem hi, rfl⟩) hz)))
    have hq : ∀ i, i < len → ∃ z : Tm, (∃ b off c0 c1 c2, (some a : Option Addr) = some ⟨b, off, none⟩ ∧ b < w.heap.size ∧ w.cell? ⟨b, off + i * 3, none⟩ = some c0 ∧ w.cell? ⟨b, off + i * 3 + 1, none⟩ = some c1 ∧ w.cell? ⟨b, off + i * 3 + 2, none⟩ = some c2 ∧ Rd (· < w.heap.size) w (.agg #[c0, c1, c2]) z) ∧ thin z = true := by
      intro i hi
      have hy := hels i hi
      rw [List.getElem?_eq_getElem (by omega), hc, Option.bind_eq_some_iff] at hy
      obtain ⟨cs, hcs, hy⟩ := hy
      obtain ⟨c0, c1, c2, rfl, q0, q1, q2⟩ := three_cells hcs
      obtain ⟨k, x, ao, m, c, t, e, hr, hth⟩ := hel n _ _ (by omega) hy (hwe i (by omega))
      injection e with e0 e; injection e with e1 e; injection e with e2 e
      subst e0; subst e1; subst e2
      obtain ⟨hlt, hsp⟩ := cell_lt q0
      obtain ⟨b, off, spot⟩ := a
      have hspot : spot = none := by
        by_cases h0 : i = 0
        · subst h0; simpa [Addr.add] using hsp
        · obtain ⟨z, hz⟩ : ∃ z : Nat, z = 0 := ⟨0, rfl⟩
          have hy0 := hels z (by omega)
          rw [List.getElem?_eq_getElem (by omega), hc, Option.bind_eq_some_iff] at hy0
          obtain ⟨cs0, hcs0, _⟩ := hy0
          obtain ⟨_, _, _, _, q0', _⟩ := three_cells hcs0
          have := (cell_lt q0').2
          subst hz
          simpa [Addr.add] using this
      subst hspot
      rw [Addr.add_lit] at q0 q1 q2
      rw [Addr.add_lit] at q0 q1 q2
      rw [Addr.add_lit] at hlt
      rw [Nat.add_zero] at q0
      exact ⟨t, ⟨b, off, _, _, _, rfl, hlt, q0, q1, q2, hr⟩, hth⟩
    obtain ⟨l, hll, hlq⟩ := list_of len _ hq
    subst hll
    exact ⟨l, ⟨_, cap, rfl, hl, hm, fun i hi => (hlq i hi).1⟩, hlen2, thinL_of fun i hi => (hlq i hi).2⟩

theorem term_cellsZ : ∀ (fuel : Nat) (cs : List Value) (x : DataW H × List MemPlace), DataW.trod enc Try.prog w 0 sp true fuel 24 cs = some x → (∀ z ∈ x.1.weights Try.prog 24, z ≤ reachBytes) →
    ∃ k n ao m c t, cs = [.int .i64 k, .int .i64 n, .slice ao m c] ∧ Rd (· < w.heap.size) w (.agg #[.int .i64 k, .int .i64 n, .slice ao m c]) t ∧ thin t = true := by
  intro fuel
  induction fuel using Nat.strongRecOn with
  | _ fuel ih =>
    intro cs x h hw
    obtain ⟨xs, n, hfu, hx, hl, hlen, hf⟩ := DataW.trod_struct Try.underlying24 h
    have hc : Try.prog.cellsOf 24 = 3 := by kernel_rfl
    have hc3 : Try.prog.cellsOf 3 = 1 := by kernel_rfl
    have hc22 : Try.prog.cellsOf 22 = 1 := by kernel_rfl
    rw [hc] at hl
    match cs, hl with
    | [c0, c1, c2], _ =>
      match xs, hlen with
      | [y0, y1, y2], _ =>
        have h0 := hf 0 _ rfl
        have h1 := hf 1 _ rfl
        have h2 := hf 2 _ rfl
        simp [hc3, hc22] at h0 h1 h2
        obtain ⟨k, e0, -, w0⟩ := DataW.trod_int Try.underlying3 h0
        obtain ⟨m, e1, -, w1⟩ := DataW.trod_int Try.underlying3 h1
        injection e0 with e0 _
        injection e1 with e1 _
        subst e0; subst e1
        have hw2 : ∀ z ∈ y2.1.weights Try.prog 22, z ≤ reachBytes := fun z hz => hw z (by
          rw [hx]
          simp only [List.map_cons, List.map_nil]
          rw [DataW.weights, Try.underlying24]
          simp [DataW.weightsEach, hz])
        obtain ⟨l, hl, hlz, htz⟩ := slice_ofZ h2 hw2 fun n' cs' y hn hy hwy => ih n' (by omega) cs' y hy hwy
        have hl' := hl
        obtain ⟨ao, cap, rfl, -, -, -⟩ := hl
        have b0 : -9223372036854775808 ≤ k ∧ k ≤ 9223372036854775807 := by have q := w0; simp [Lit.wf, show IntKind.i64.min = -9223372036854775808 from rfl] at q; exact q
        have b1 : -9223372036854775808 ≤ m ∧ m ≤ 9223372036854775807 := by have q := w1; simp [Lit.wf, show IntKind.i64.min = -9223372036854775808 from rfl] at q; exact q
        exact ⟨k, m, ao, _, cap, .node k m l, rfl, Rd.node hl' b0 b1, by simp only [thin, Bool.and_eq_true, decide_eq_true_iff]; exact ⟨hlz, htz⟩⟩

theorem terms_argZ {r : Reach} {base : Nat} {v : Value} {d : DataW H} {ps : List MemPlace} (ho : Value.okWide Try.prog w r base 22 v) (h : DataW.Trod enc Try.prog w 0 sp true 22 v d ps) (hw : ∀ z ∈ d.weights Try.prog 22, z ≤ reachBytes) :
    ∃ x, Ts (· < w.heap.size) w v x ∧ thinL x = true := by
  obtain ⟨fuel, hf⟩ := h
  obtain ⟨a, l, c, rfl⟩ := okWide_slice Try.underlying22 ho
  have hcl : (Value.slice a l c).cells.toList = [.slice a l c] := rfl
  rw [hcl] at hf
  obtain ⟨x, h1, -, h2⟩ := slice_ofZ hf hw fun n cs y _ hy hwy => term_cellsZ n cs y hy hwy
  exact ⟨x, h1, h2⟩
end Go.Proofs.Ythjlfjaciigfiaa
