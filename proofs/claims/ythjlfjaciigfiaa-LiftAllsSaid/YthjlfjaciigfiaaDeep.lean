/-
  term.Size, deep, Depth: contracts of the walk.
-/
import Derived.Test.YthjlfjaciigfiaaSize
namespace Go.Proofs.Ythjlfjaciigfiaa
open Go.RowKit
set_option linter.unusedVariables false
set_option linter.unusedSimpArgs false

theorem heap_new (w : World) (o : Obj) (k : Nat) (h : k = w.heap.size) : (w.alloc o).heap[k]? = some o := by
  subst h
  show (w.heap.push _)[w.heap.size]? = _
  simp
/-- a term's three cells in a box of the walk, after a call -/
theorem box3 {w w1 : World} {a b c : Value} {z : Nat} (h : Below (w.alloc (.cells #[a, b, c] z)).heap.size (w.alloc (.cells #[a, b, c] z)) w1) :
    w1.cell? ⟨w.heap.size, 0, none⟩ = some a ∧ w1.cell? ⟨w.heap.size, 1, none⟩ = some b ∧ w1.cell? ⟨w.heap.size, 2, none⟩ = some c := by
  have hl : w.heap.size < (w.alloc (.cells #[a, b, c] z)).heap.size := by rw [World.size_alloc]; omega
  have hn : (w.alloc (.cells #[a, b, c] z)).heap[w.heap.size]? = some (.cells #[a, b, c] z) := heap_new w _ _ rfl
  refine ⟨(h.cell (p := ⟨w.heap.size, 0, none⟩) hl).trans ?_, (h.cell (p := ⟨w.heap.size, 1, none⟩) hl).trans ?_, (h.cell (p := ⟨w.heap.size, 2, none⟩) hl).trans ?_⟩ <;> (unfold World.cell?; rw [hn]; rfl)

mutual
/-- how deep, counting on, till it is too deep -/
def dp : Tm → Nat → Nat
  | .node _ _ l, a => if 128 < a then a else dpL l a (a + 1)
def dpL : List Tm → Nat → Nat → Nat
  | [], m, _ => m
  | t :: l, m, a => dpL l (max m (dp t a)) a
end

theorem dp_le (t : Tm) : ∀ a, a ≤ 129 → dp t a ≤ 129 := by
  refine Tm.ind (C := fun t => ∀ a, a ≤ 129 → dp t a ≤ 129) (fun k n l ih => ?_) t
  intro a ha
  have aux : ∀ (l' : List Tm), (∀ t, t ∈ l' → t ∈ l) → ∀ m b, m ≤ 129 → b ≤ 129 → dpL l' m b ≤ 129 := by
    intro l'
    induction l' with
    | nil => intro _ m b hm _; simpa [dpL] using hm
    | cons x l' ih2 =>
      intro hs m b hm hb
      simp only [dpL]
      have h1 := ih x (hs x (by simp)) b hb
      exact ih2 (fun t ht => hs t (by simp [ht])) _ b (by omega) hb
  simp only [dp]
  split
  · exact ha
  · exact aux l (fun _ h => h) a (a + 1) ha (by omega)

set_option maxHeartbeats 1000000 in
theorem Size_w (d : Nat) (v : Value) (t : Tm) (w : World) (hr : RdN (· < w.heap.size) w d v t) :
    Calls Try.prog 118 #[v] w (Ans w (.int .i64 (sz t 0))) := by
  have hr0 := hr
  obtain ⟨ao, cap, hv, -, -⟩ := hr.shape
  clear hr
  subst hv
  have H := Lib.hid hr0
  clear hr0
  go_enter Try.func118, Try.ntmps118
  go_wp2_with fail
  refine (size_w d _ t 0 _ (RdN.on H.out ((Below.refl _ _).alloc (Nat.le_refl _) _)) (by omega)).mono ?_
  rintro e w1 ⟨rfl, hb⟩
  go_wp2_with fail
  go_ret
  exact ⟨rfl, ((Below.refl _ _).alloc (Nat.le_refl _) _).trans (hb.mono ((Below.refl _ _).alloc (Nat.le_refl _) _).size)⟩

set_option maxHeartbeats 1000000 in
theorem deep_w : ∀ (d : Nat) (v : Value) (t : Tm) (a : Nat) (w : World), RdN (· < w.heap.size) w d v t → a ≤ 129 →
    Calls Try.prog 124 #[v, .int .i64 a] w (Ans w (.int .i64 (dp t a))) := by
  intro d
  induction d with
  | zero => intro v t h w hr; exact absurd hr (fun h => h)
  | succ d ih =>
    rintro v ⟨k, n, l⟩ a w hr ha
    obtain ⟨ao, cap, rfl, hlm, hk, hn, he⟩ := hr.open
    clear hr
    have IH := Lib.hid ih
    have HE := Lib.hid he
    clear ih he hk hn
    simp only [dp]
    by_cases ha2 : 128 < a
    · simp only [ha2, ↓reduceIte]
      go_enter Try.func124, Try.ntmps124
      go_wp2_with fail
      go_ret
      exact ⟨rfl, (Below.refl _ _).alloc (Nat.le_refl _) _⟩
    simp only [ha2, ↓reduceIte]
    go_enter Try.func124, Try.ntmps124
    go_wp2_with fail
    go_loopw [5, 15] (fun c i wr => ∃ (g j : Nat), c = .int .i64 g ∧ i = .int .i64 j ∧ j ≤ l.length ∧ g ≤ 129 ∧ dpL (l.drop j) g (a + 1) = dpL l a (a + 1) ∧ Below w.heap.size w wr) (fun _ i _ => l.length - (intOf i).toNat)
    case atStart => exact ⟨a, 0, by go_num, rfl, Nat.zero_le _, by omega, rfl, (Below.refl _ _).alloc (Nat.le_refl _) _⟩
    case round =>
      obtain ⟨g, j, rfl, rfl, hj, hg, hsz, hb⟩ := hrel
      have HSZ := Lib.hid hsz
      clear hsz
      by_cases hjl : j < l.length
      · obtain ⟨b, off, k2, n2, ao2, m2, cap2, rfl, hP, h0, h1, h2, hrd⟩ := HE.out j hjl
        have e0 := (hb.cell (p := ⟨b, off + j * 3, none⟩) hP).trans h0
        have e1 := (hb.cell (p := ⟨b, off + j * 3 + 1, none⟩) hP).trans h1
        have e2 := (hb.cell (p := ⟨b, off + j * 3 + 2, none⟩) hP).trans h2
        have hbw : b < wr.heap.size := Nat.lt_of_lt_of_le hP hb.size
        clear h0 h1 h2
        go_wp2_with fail
        refine (IH.out _ l[j] (a + 1) _ (RdN.keep (P := (· < w.heap.size)) (fun b hb' => ?_) (fun b hb' => ?_) d _ _ hrd) (by omega)).mono ?_
        · exact Nat.lt_of_lt_of_le hb' (hb.alloc hb.size _).size
        · exact (hb.alloc hb.size _).block b hb'
        rintro e w3 ⟨rfl, hb3⟩
        go_wp2_with fail
        have hx := dp_le l[j] (a + 1) (by omega)
        go_roundw
        case rel =>
          refine ⟨max g (dp l[j] (a + 1)), j + 1, by go_num, rfl, by omega, by omega, ?_, ?_⟩
          · have q := HSZ.out
            rw [List.drop_eq_getElem_cons hjl] at q
            simp only [dpL] at q
            exact q
          · exact (hb.alloc hb.size _).trans (hb3.mono (hb.alloc hb.size _).size)
        case measure =>
          have q : (intOf (.int .i64 ((j : Int) + 1))).toNat = j + 1 := by show ((j : Int) + 1).toNat = _; omega
          have q2 : (intOf (.int .i64 (j : Int))).toNat = j := by show ((j : Int)).toNat = _; omega
          rw [q, q2]; omega
      · go_wp2_with fail
        go_ret
        have q := HSZ.out
        rw [List.drop_of_length_le (by omega)] at q
        simp only [dpL] at q
        exact ⟨by rw [← q]; rfl, hb⟩

/-- how deep a term is, of one with not too many nodes -/
def depth (t : Tm) : Nat := if 8192 < sz t 0 then 129 else dp t 1

set_option maxHeartbeats 1000000 in
theorem Depth_w (d : Nat) (v : Value) (t : Tm) (w : World) (hr : RdN (· < w.heap.size) w d v t) :
    Calls Try.prog 111 #[v] w (Ans w (.int .i64 (depth t))) := by
  have hr0 := hr
  obtain ⟨ao, cap, hv, -, -⟩ := hr.shape
  clear hr
  subst hv
  have H := Lib.hid hr0
  clear hr0
  have hbx : ∀ o : Obj, Below w.heap.size w (w.alloc o) := fun o => (Below.refl _ _).alloc (Nat.le_refl _) _
  have HBX := Lib.hid hbx
  clear hbx
  unfold depth
  by_cases hs : 8192 < sz t 0
  · simp only [hs, ↓reduceIte]
    go_enter Try.func111, Try.ntmps111
    go_wp2_with fail
    refine (Size_w d _ t _ (RdN.on H.out (HBX.out _))).mono ?_
    rintro e w1 ⟨rfl, hb⟩
    go_wp2_with fail
    go_ret
    exact ⟨rfl, (HBX.out _).trans (hb.mono (HBX.out _).size)⟩
  · simp only [hs, ↓reduceIte]
    go_enter Try.func111, Try.ntmps111
    go_wp2_with fail
    refine (Size_w d _ t _ (RdN.on H.out (HBX.out _))).mono ?_
    rintro e w1 ⟨rfl, hb⟩
    have hb1 := (HBX.out _).trans (hb.mono (HBX.out _).size)
    obtain ⟨e0, e1, e2⟩ := box3 hb
    have hr1 := RdN.on H.out hb1
    have H1 := Lib.hid hr1
    clear hb hr1
    go_wp2_with fail
    refine (deep_w d _ t 1 _ H1.out (by omega)).mono ?_
    rintro e w2 ⟨rfl, hb2⟩
    go_wp2_with fail
    go_ret
    exact ⟨rfl, hb1.trans (hb2.mono hb1.size)⟩
end Go.Proofs.Ythjlfjaciigfiaa
