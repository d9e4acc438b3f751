/-
  MEMORY, whatever the program: what an append leaves (with its block), slices that read as lists, and that a reading stays where no block of its own is written. Plain lemmas; no condition.
-/
import Derived.WalkKit
import Derived.ProofKit
import Derived.ArgAppend
import Derived.Deep.Draws
import Derived.Deep.OwnRows
import Derived.Lib.Hide
namespace Go.Proofs.Ythjlfjaciigfiaa
open Go.RowKit
set_option linter.unusedVariables false
set_option linter.unusedSimpArgs false

/-- what an append leaves: the value owns the old cells and the new ones; nothing but its own block is written; its block is the old one or a new one. -/
structure App (base : Nat) (e : TypeId) (size : Nat) (w w' : World) (v v' : Value) (n : Nat) (xs : List Value) : Prop where
  own : w'.ownsRow base e size v' n xs
  grown : w.grownBy w' v.ownBlock
  blk : v'.ownBlock = v.ownBlock ∨ ∃ g, v'.ownBlock = some g ∧ w.heap.size ≤ g

theorem run_app {P : Program} (w : World) (base : Nat) (t ty e : TypeId) (i : TypeInfo) (z : Value) (size bytes : Nat) (ht : P.underlying t = some (.slice e)) (hi : P.info? e = some i) (hz : i.zero = some z)
    (hsize : i.size = size) (hby : i.bytes = bytes) (hzs : z.cells.size = size) (hsz : 0 < size)
    (v : Value) (n : Nat) (xs : List Value) (hown : w.ownsRow base e size v n xs)
    (a : Addr) (m c : Nat) (news : List Value) (hl : news.length = m * size) (hnews : ∀ j u, news[j]? = some u → w.cell? (a.add j) = some u) (h1 : ∀ u ∈ news, u.oneCell' = true)
    (h63 : n + m ≤ maxLen) (hbytes : (n + m) * bytes ≤ 140737488355328) (hbase : base ≤ w.heap.size) :
    ∃ v' w', (Builtin.append_ #[t, t] ty #[v, .slice (some a) m c]).run P w = .ok v' w' ∧ App base e size w w' v v' (n + m) (xs ++ news) := by
  obtain ⟨v', w', hr, h2, h3, -⟩ := run_append_own (P := P) w base t ty e i z size bytes ht hi hz hsize hby hzs hsz v n xs hown a m c news hl hnews h1 h63 hbytes hbase
  refine ⟨v', w', hr, h2, h3, ?_⟩
  rcases hown.2 with ⟨rfl, rfl⟩ | ⟨g, cap, cur, rfl, hbg, hg, hnc, hcm, hcs, htake⟩
  · have hx : xs = [] := List.eq_nil_of_length_eq_zero (by simpa using hown.1)
    subst hx
    obtain ⟨v2, w2, hr2, k2, -, -⟩ := run_append_own (P := P) w w.heap.size t ty e i z size bytes ht hi hz hsize hby hzs hsz (.slice none 0 0) 0 [] (World.ownsRow_nil _ _ _ _) a m c news hl hnews h1 h63 hbytes (Nat.le_refl _)
    rw [hr] at hr2
    injection hr2 with e1 e2
    subst e1
    rcases k2.2 with ⟨rfl, _⟩ | ⟨g, cap, cur, rfl, hb, _⟩
    · exact .inl rfl
    · exact .inr ⟨g, rfl, hb⟩
  · by_cases hroom : n + m ≤ cap
    · subst hsize
      have hr2 := run_append_room (P := P) w t ty e i ht hi g n cap cur hg a m c news hl hnews h1 hroom (by rw [hl, hcs, ← Nat.add_mul]; exact Nat.mul_le_mul_right _ hroom)
      rw [hr] at hr2
      injection hr2 with e1 e2
      subst e1
      exact .inl rfl
    · obtain ⟨v2, w2, hr2, k2, -⟩ := run_append_arg_grows (P := P) w t ty e i z size bytes ht hi hz hsize hby hzs hsz ⟨g, 0, none⟩ n cap xs hown.1 (hown.cells rfl) a m c news hl hnews (by omega) h63 hbytes
      rw [hr] at hr2
      injection hr2 with e1 e2
      subst e1
      rcases k2.2 with ⟨rfl, h0⟩ | ⟨g, cap, cur, rfl, hb, _⟩
      · exfalso; omega
      · exact .inr ⟨g, rfl, hb⟩

theorem wpList_app {P : Program} {w : World} {ops : Array Oper} {rest : List Oper} {o : Oper} {a : Act} {Q : Exit → Act → World → Prop} (hgd : o.guard = none) (s x : Operand) (t : TypeId)
    (ho : o.op = .call { callee := .builtin .append, args := #[s, x], argTypes := #[t, t] })
    (base : Nat) (e : TypeId) (i : TypeInfo) (z : Value) (size bytes : Nat) (ht : P.underlying t = some (.slice e)) (hi : P.info? e = some i) (hz : i.zero = some z)
    (hsize : i.size = size) (hby : i.bytes = bytes) (hzs : z.cells.size = size) (hsz : 0 < size)
    (v : Value) (n : Nat) (xs : List Value) (hs : a.eval s = v) (hown : w.ownsRow base e size v n xs)
    (ad : Addr) (m c : Nat) (news : List Value) (hx : a.eval x = .slice (some ad) m c) (hl : news.length = m * size) (hnews : ∀ j u, news[j]? = some u → w.cell? (ad.add j) = some u) (h1 : ∀ u ∈ news, u.oneCell' = true)
    (h63 : n + m ≤ maxLen) (hbytes : (n + m) * bytes ≤ 140737488355328) (hbase : base ≤ w.heap.size)
    (h : ∀ v' w', App base e size w w' v v' (n + m) (xs ++ news) → wpList P ops Q rest (a.put o.dst v') w') : wpList P ops Q (o :: rest) a w := by
  refine wpList_plain hgd fun K hK => ?_
  obtain ⟨v', w', hr, h2⟩ := run_app (P := P) w base t o.type e i z size bytes ht hi hz hsize hby hzs hsz v n xs hown ad m c news hl hnews h1 h63 hbytes hbase
  unfold Oper.wp execOp
  simp only [ho, resolve, invoke, builtin, Sem.run_bind, Sem.run_pure, Result.andThen_ok, List.map_toArray, List.map_cons, List.map_nil, hs, hx, hr]
  exact hK _ _ (h v' w' h2)

/-- a slice reads as a list: each element's block has P, and the element reads by R at its address (one cell an element) -/
def SlR {α : Type} (P : Nat → Prop) (R : Addr → α → Prop) (v : Value) (l : List α) : Prop :=
  ∃ ao cap, v = .slice ao l.length cap ∧ l.length ≤ cap ∧ cap ≤ maxLen ∧ ∀ i (h : i < l.length), ∃ b off, ao = some ⟨b, off, none⟩ ∧ P b ∧ R ⟨b, off + i, none⟩ l[i]

theorem SlR.mono {α : Type} {P P' : Nat → Prop} {R R' : Addr → α → Prop} {v : Value} {l : List α} (h : SlR P R v l) (hP : ∀ b, P b → P' b) (hR : ∀ a x, P a.block → x ∈ l → R a x → R' a x) : SlR P' R' v l := by
  obtain ⟨ao, cap, hv, hl, hc, he⟩ := h
  refine ⟨ao, cap, hv, hl, hc, fun i hi => ?_⟩
  obtain ⟨b, off, h1, h2, h3⟩ := he i hi
  exact ⟨b, off, h1, hP b h2, hR _ _ h2 (List.getElem_mem hi) h3⟩

theorem SlR.nil {α : Type} (P : Nat → Prop) (R : Addr → α → Prop) : SlR P R (.slice none 0 0) [] :=
  ⟨none, 0, rfl, Nat.le_refl _, Nat.zero_le _, fun i h => absurd h (Nat.not_lt_zero _)⟩

/-- an owned row of one-cell elements reads as a list, where each cell does -/
theorem SlR.own {α : Type} {w : World} {base : Nat} {e : TypeId} {v : Value} {n : Nat} {xs : List Value} {P : Nat → Prop} {R : Addr → α → Prop} {l : List α} (h : w.ownsRow base e 1 v n xs) (hl : l.length = n)
    (hP : ∀ g, v.ownBlock = some g → base ≤ g → g < w.heap.size → P g) (hR : ∀ i (hi : i < l.length) a u, xs[i]? = some u → w.cell? a = some u → R a l[i]) : SlR P R v l := by
  subst hl
  rcases h.2 with ⟨rfl, h0⟩ | ⟨g, cap, cur, rfl, hb, hg, hnc, hcm, hcs, ht⟩
  · rw [List.eq_nil_of_length_eq_zero h0]; exact SlR.nil P R
  · refine ⟨_, cap, rfl, hnc, hcm, fun i hi => ⟨g, 0, rfl, hP g rfl hb (Array.getElem?_eq_some_iff.1 hg).1, ?_⟩⟩
    have hx : i < xs.length := by have := h.1; omega
    refine hR i hi _ xs[i] (List.getElem?_eq_getElem hx) ?_
    have := h.cells (g := g) rfl i xs[i] (List.getElem?_eq_getElem hx)
    rwa [Addr.add_lit] at this

/-- the cell of an int -/
def IntR (w : World) (a : Addr) (x : Int) : Prop := w.cell? a = some (.int .i64 x)
/-- a cell that holds a slice -/
def CellR {α : Type} (w : World) (R : Value → α → Prop) (a : Addr) (x : α) : Prop := ∃ v, w.cell? a = some v ∧ R v x

def RowR (P : Nat → Prop) (w : World) (v : Value) (r : List Int) : Prop := SlR P (IntR w) v r
def MatR (P : Nat → Prop) (w : World) (v : Value) (m : List (List Int)) : Prop := SlR P (CellR w (RowR P w)) v m
def MatsR (P : Nat → Prop) (w : World) (v : Value) (l : List (List (List Int))) : Prop := SlR P (CellR w (MatR P w)) v l

theorem cell_keep {w w' : World} {a : Addr} (h : w'.heap[a.block]? = w.heap[a.block]?) : w'.cell? a = w.cell? a := World.cell?_of_block h

theorem RowR.keep {P P' : Nat → Prop} {w w' : World} {v : Value} {r : List Int} (h : RowR P w v r) (hP : ∀ b, P b → P' b) (hk : ∀ b, P b → w'.heap[b]? = w.heap[b]?) : RowR P' w' v r :=
  SlR.mono h hP fun a x ha _ hx => (cell_keep (hk _ ha)).trans hx
theorem MatR.keep {P P' : Nat → Prop} {w w' : World} {v : Value} {r : List (List Int)} (h : MatR P w v r) (hP : ∀ b, P b → P' b) (hk : ∀ b, P b → w'.heap[b]? = w.heap[b]?) : MatR P' w' v r :=
  SlR.mono h hP fun a x ha _ hx => by
    obtain ⟨u, h1, h2⟩ := hx
    exact ⟨u, (cell_keep (hk _ ha)).trans h1, h2.keep hP hk⟩
theorem MatsR.keep {P P' : Nat → Prop} {w w' : World} {v : Value} {r : List (List (List Int))} (h : MatsR P w v r) (hP : ∀ b, P b → P' b) (hk : ∀ b, P b → w'.heap[b]? = w.heap[b]?) : MatsR P' w' v r :=
  SlR.mono h hP fun a x ha _ hx => by
    obtain ⟨u, h1, h2⟩ := hx
    exact ⟨u, (cell_keep (hk _ ha)).trans h1, h2.keep hP hk⟩

theorem RowR.below {B : Nat} {w w' : World} {v : Value} {r : List Int} (h : RowR (· < B) w v r) (hb : Below B w w') : RowR (· < B) w' v r := h.keep (fun _ h => h) fun b h => hb.block b h
theorem MatR.below {B : Nat} {w w' : World} {v : Value} {r : List (List Int)} (h : MatR (· < B) w v r) (hb : Below B w w') : MatR (· < B) w' v r := h.keep (fun _ h => h) fun b h => hb.block b h
theorem MatsR.below {B : Nat} {w w' : World} {v : Value} {r : List (List (List Int))} (h : MatsR (· < B) w v r) (hb : Below B w w') : MatsR (· < B) w' v r := h.keep (fun _ h => h) fun b h => hb.block b h

/-- block g is a row of ints of the call's own -/
def OwnInts (w : World) (g : Nat) (t : TypeId) (l : List Int) : Prop := w.heap[g]? = some (.cells (l.map (Value.int .i64)).toArray t (0, 0))
theorem OwnInts.lt {w : World} {g : Nat} {t : TypeId} {l : List Int} (h : OwnInts w g t l) : g < w.heap.size := (Array.getElem?_eq_some_iff.1 h).1
theorem OwnInts.cell {w : World} {g : Nat} {t : TypeId} {l : List Int} (h : OwnInts w g t l) (i : Nat) (hi : i < l.length) : w.cell? ⟨g, i, none⟩ = some (.int .i64 l[i]) := by
  unfold OwnInts at h; simp [World.cell?, h, hi]
theorem OwnInts.frozen {w : World} {g : Nat} {t : TypeId} {l : List Int} (h : OwnInts w g t l) (i : Nat) : w.frozen? ⟨g, i, none⟩ = false := by
  unfold OwnInts at h; simp [World.frozen?, h]
theorem OwnInts.set {w : World} {g : Nat} {t : TypeId} {l : List Int} (h : OwnInts w g t l) (i : Nat) (x : Int) : OwnInts (w.setCell ⟨g, i, none⟩ (.int .i64 x)) g t (l.set i x) := by
  unfold OwnInts at *
  simp [World.setCell, Array.getElem?_modify, h, ← List.map_set]
theorem OwnInts.row {w : World} {g : Nat} {t : TypeId} {l : List Int} (h : OwnInts w g t l) (P : Nat → Prop) (hP : P g) (hm : l.length ≤ maxLen) : RowR P w (.slice (some ⟨g, 0, none⟩) l.length l.length) l :=
  ⟨_, _, rfl, Nat.le_refl _, hm, fun i hi => ⟨g, 0, rfl, hP, by rw [Nat.zero_add]; exact h.cell i hi⟩⟩
/-- all but block b is as it was -/
structure Only (b : Nat) (w w' : World) : Prop where
  os : w'.os = w.os
  tape : w'.tape = w.tape
  output : w'.output = w.output
  size : w'.heap.size = w.heap.size
  block : ∀ k, k ≠ b → w'.heap[k]? = w.heap[k]?
theorem Only.below {b : Nat} {w w' : World} (h : Only b w w') {B : Nat} (hb : B ≤ b) : Below B w w' :=
  ⟨h.os, h.tape, h.output, by rw [h.size]; exact Nat.le_refl _, fun k hk => h.block k (by omega)⟩
theorem Only.trans {b : Nat} {w w' w'' : World} (h : Only b w w') (g : Only b w' w'') : Only b w w'' :=
  ⟨g.os.trans h.os, g.tape.trans h.tape, g.output.trans h.output, g.size.trans h.size, fun k hk => (g.block k hk).trans (h.block k hk)⟩
theorem Only.refl (b : Nat) (w : World) : Only b w w := ⟨rfl, rfl, rfl, rfl, fun _ _ => rfl⟩
theorem Only.drewN {b : Nat} {w w' : World} (h : Only b w w') (n : Nat) : Only b w (w'.drewN n) := ⟨h.os, h.tape, h.output, h.size, h.block⟩
theorem only_set (w : World) (b o : Nat) (x : Value) : Only b w (w.setCell ⟨b, o, none⟩ x) :=
  ⟨rfl, rfl, rfl, by simp [World.setCell], fun k hk => Below.heap_setCell _ _ _ _ (by simpa using hk)⟩
theorem below_drewN {B : Nat} {w w' : World} (h : Below B w w') (n : Nat) : Below B w (w'.drewN n) := ⟨h.os, h.tape, h.output, h.size, h.block⟩
theorem lt_of_cell {w : World} {b o : Nat} {v : Value} (h : w.cell? ⟨b, o, none⟩ = some v) : b < w.heap.size := by
  apply Nat.lt_of_not_le
  intro hle
  rw [World.cell?, show w.heap[b]? = none from Array.getElem?_eq_none hle] at h
  cases h
theorem ownsRow_only {w w' : World} {base e size : Nat} {v : Value} {n : Nat} {xs : List Value} {b : Nat} (h : w.ownsRow base e size v n xs) (ho : Only b w w') (hv : v.ownBlock ≠ some b) : w'.ownsRow base e size v n xs :=
  h.kept (row := some b) ⟨ho.os, ho.tape, ho.output, by rw [ho.size]; exact Nat.le_refl _, fun k _ hk => ho.block k (fun e => hk (by rw [e]))⟩ (.inr hv)
theorem ownsRow_drewN {w : World} {base e size : Nat} {v : Value} {n : Nat} {xs : List Value} (h : w.ownsRow base e size v n xs) (k : Nat) : (w.drewN k).ownsRow base e size v n xs := h
theorem App.below {base e size : Nat} {w w' : World} {v v' : Value} {n : Nat} {xs : List Value} (h : App base e size w w' v v' n xs) {B : Nat} (hB : B ≤ w.heap.size) (hv : ∀ k, v.ownBlock = some k → B ≤ k) : Below B w w' :=
  ⟨h.grown.os, h.grown.tape, h.grown.output, h.grown.size, fun k hk => h.grown.block k (by omega) (fun e => by have := hv k e.symm; omega)⟩
/-- a block that is not the row's own is kept, and is not the new row's -/
theorem App.other {base e size : Nat} {w w' : World} {v v' : Value} {n : Nat} {xs : List Value} (h : App base e size w w' v v' n xs) {b : Nat} (hb : b < w.heap.size) (hv : v.ownBlock ≠ some b) : w'.heap[b]? = w.heap[b]? ∧ v'.ownBlock ≠ some b := by
  refine ⟨h.grown.block b hb (fun e => hv e.symm), fun e => ?_⟩
  rcases h.blk with h1 | ⟨g, h1, h2⟩
  · exact hv (h1 ▸ e)
  · rw [h1] at e; injection e with e; omega
theorem OwnInts.keep {w w' : World} {g : Nat} {t : TypeId} {l : List Int} (h : OwnInts w g t l) (hk : w'.heap[g]? = w.heap[g]?) : OwnInts w' g t l := hk.trans h

/-- a slice in the making (base: from which block on it may lie): it owns its row; each element reads, in blocks that are not the row's -/
def Made {α : Type} (base : Nat) (w : World) (e : TypeId) (R : (Nat → Prop) → World → Value → α → Prop) (v : Value) (l : List α) : Prop :=
  ∃ vals, w.ownsRow base e 1 v l.length vals ∧ ∀ i (hi : i < l.length), ∃ u, vals[i]? = some u ∧ u.oneCell' = true ∧ R (fun g => v.ownBlock ≠ some g ∧ g < w.heap.size) w u l[i]

/-- what a reading needs to be carried on -/
def Keeps {α : Type} (R : (Nat → Prop) → World → Value → α → Prop) : Prop :=
  ∀ (P P' : Nat → Prop) (w w' : World) (u : Value) (x : α), R P w u x → (∀ b, P b → P' b) → (∀ b, P b → w'.heap[b]? = w.heap[b]?) → R P' w' u x

theorem keeps_row : Keeps RowR := fun _ _ _ _ _ _ h h1 h2 => RowR.keep h h1 h2
theorem keeps_mat : Keeps MatR := fun _ _ _ _ _ _ h h1 h2 => MatR.keep h h1 h2

theorem Made.nil {α : Type} (base : Nat) (w : World) (e : TypeId) (R : (Nat → Prop) → World → Value → α → Prop) : Made base w e R (.slice none 0 0) [] :=
  ⟨[], World.ownsRow_nil _ _ _ _, fun i hi => absurd hi (Nat.not_lt_zero _)⟩

theorem Made.below {α : Type} {base : Nat} {w W : World} {e : TypeId} {R : (Nat → Prop) → World → Value → α → Prop} {v : Value} {l : List α} (hR : Keeps R) (h : Made base w e R v l) (hb : Below w.heap.size w W) : Made base W e R v l := by
  obtain ⟨vals, h1, h2⟩ := h
  refine ⟨vals, h1.kept (row := none) ⟨hb.os, hb.tape, hb.output, hb.size, fun k hk _ => hb.block k hk⟩ (by cases v.ownBlock <;> simp), fun i hi => ?_⟩
  obtain ⟨u, hu, h1c, hr⟩ := h2 i hi
  exact ⟨u, hu, h1c, hR _ _ _ _ _ _ hr (fun b hb' => ⟨hb'.1, Nat.lt_of_lt_of_le hb'.2 hb.size⟩) fun b hb' => hb.block b hb'.2⟩

theorem Made.app {α : Type} {base : Nat} {W w' : World} {e : TypeId} {R : (Nat → Prop) → World → Value → α → Prop} {v v' : Value} {l : List α} (hR : Keeps R) {vals : List Value} {u : Value} {x : α}
    (h : ∀ i (hi : i < l.length), ∃ u, vals[i]? = some u ∧ u.oneCell' = true ∧ R (fun g => v.ownBlock ≠ some g ∧ g < W.heap.size) W u l[i]) (hl : vals.length = l.length)
    (ha : App base e 1 W w' v v' (l.length + 1) (vals ++ [u])) (h1 : u.oneCell' = true) (hu : R (fun g => v.ownBlock ≠ some g ∧ g < W.heap.size) W u x) : Made base w' e R v' (l ++ [x]) := by
  have hk : ∀ (u : Value) (y : α), R (fun g => v.ownBlock ≠ some g ∧ g < W.heap.size) W u y → R (fun g => v'.ownBlock ≠ some g ∧ g < w'.heap.size) w' u y := fun u y hr =>
    hR _ _ _ _ _ _ hr (fun b hb => ⟨(ha.other hb.2 hb.1).2, Nat.lt_of_lt_of_le hb.2 ha.grown.size⟩) fun b hb => (ha.other hb.2 hb.1).1
  refine ⟨vals ++ [u], by rw [List.length_append]; exact ha.own, fun i hi => ?_⟩
  by_cases hil : i < l.length
  · obtain ⟨y, hy, hy1, hyr⟩ := h i hil
    refine ⟨y, by rw [List.getElem?_append_left (by omega)]; exact hy, hy1, ?_⟩
    rw [List.getElem_append_left hil]
    exact hk _ _ hyr
  · have : i = l.length := by simp at hi; omega
    subst this
    refine ⟨u, by rw [← hl]; simp, h1, ?_⟩
    rw [List.getElem_append_right (by omega)]
    simp only [Nat.sub_self, List.getElem_cons_zero]
    exact hk _ _ hu

theorem Made.block {α : Type} {base : Nat} {w : World} {e : TypeId} {R : (Nat → Prop) → World → Value → α → Prop} {v : Value} {l : List α} (h : Made base w e R v l) : ∀ k, v.ownBlock = some k → base ≤ k ∧ k < w.heap.size := by
  obtain ⟨vals, h1, h2⟩ := h
  exact fun k hk => h1.lt k hk

theorem Made.read {α : Type} {base : Nat} {w : World} {e : TypeId} {R : (Nat → Prop) → World → Value → α → Prop} {v : Value} {l : List α} (hR : Keeps R) (h : Made base w e R v l) : SlR (· < w.heap.size) (CellR w (R (· < w.heap.size) w)) v l := by
  obtain ⟨vals, h1, h2⟩ := h
  refine SlR.own h1 rfl (fun g _ _ hg => hg) fun i hi a u hu hc => ?_
  obtain ⟨u', hu', -, hr⟩ := h2 i hi
  rw [hu] at hu'
  injection hu' with hu'
  subst hu'
  exact ⟨u, hc, hR _ _ _ _ _ _ hr (fun b hb => hb.2) fun _ _ => rfl⟩
theorem Made.mat {base : Nat} {w : World} {e : TypeId} {v : Value} {l : List (List Int)} (h : Made base w e RowR v l) : MatR (· < w.heap.size) w v l := h.read keeps_row
theorem Made.mats {base : Nat} {w : World} {e : TypeId} {v : Value} {l : List (List (List Int))} (h : Made base w e MatR v l) : MatsR (· < w.heap.size) w v l := h.read keeps_mat

/-- an int as an element -/
def IntV (_ : Nat → Prop) (_ : World) (u : Value) (x : Int) : Prop := u = .int .i64 x
theorem keeps_int : Keeps IntV := fun _ _ _ _ _ _ h _ _ => h
theorem Made.row {base : Nat} {w : World} {e : TypeId} {v : Value} {l : List Int} (h : Made base w e IntV v l) (P : Nat → Prop) (hP : ∀ g, v.ownBlock = some g → base ≤ g → g < w.heap.size → P g) : RowR P w v l := by
  obtain ⟨vals, h1, h2⟩ := h
  refine SlR.own h1 rfl hP fun i hi a u hu hc => ?_
  obtain ⟨u', hu', -, hr⟩ := h2 i hi
  rw [hu] at hu'
  injection hu' with hu'
  subst hu'
  unfold IntR
  rw [hc, hr]
/-- an empty slice that was made: a new block without cells -/
theorem Made.empty {α : Type} (w : World) (base : Nat) (e : TypeId) (R : (Nat → Prop) → World → Value → α → Prop) (hb : base ≤ w.heap.size) : Made base (w.alloc (.cells #[] e)) e R (.slice (some ⟨w.heap.size, 0, none⟩) 0 0) [] := by
  refine ⟨[], ⟨rfl, .inr ⟨w.heap.size, 0, #[], rfl, hb, ?_, Nat.le_refl _, Nat.zero_le _, rfl, rfl⟩⟩, fun i hi => absurd hi (Nat.not_lt_zero _)⟩
  show (w.heap.push _)[w.heap.size]? = _
  simp
end Go.Proofs.Ythjlfjaciigfiaa
