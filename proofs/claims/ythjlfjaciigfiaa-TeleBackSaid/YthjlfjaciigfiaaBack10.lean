/-
  TeleBack, the plain law: loose variables; a closed term is not changed by putting in; Result of types around a term is Fill, for closed arguments. Plain; no program.
  ref07.Loose: a contract of the walk.
  ref07.Loose, put, Numbers, Right: contracts of the walk (Numbers and Right only as far as TeleBack asks).
  TeleBack: the walk: it returns true and writes nothing that was there. No condition but that the arguments read as terms.
-/
import Derived.Test.YthjlfjaciigfiaaResult
import Derived.Test.YthjlfjaciigfiaaAround
import Derived.Test.YthjlfjaciigfiaaRs
import Derived.IntWalk
import Derived.Test.YthjlfjaciigfiaaTurn
import Derived.Test.YthjlfjaciigfiaaWhole
import Derived.Test.YthjlfjaciigfiaaPis
import Derived.Test.YthjlfjaciigfiaaSames
import Derived.Test.YthjlfjaciigfiaaAwake10
namespace Go.Proofs.Ythjlfjaciigfiaa
open Go.RowKit
set_option linter.unusedVariables false
set_option linter.unusedSimpArgs false

mutual
/-- the greatest loose variable and one, beneath so many binders -/
def loo : Tm → Int → Int
  | .node k n l, b => if k = 1 ∧ b ≤ n then n - b + 1 else looL k l b 0
def looL (k : Int) : List Tm → Int → Nat → Int
  | [], _, _ => 0
  | t :: l, b, i => max (loo t (b + bn k i)) (looL k l b (i + 1))
end
theorem looL_nn (k : Int) : ∀ (l : List Tm) (b : Int) (i : Nat), 0 ≤ looL k l b i
  | [], _, _ => by simp [looL]
  | t :: l, b, i => by simp only [looL]; have := looL_nn k l b (i + 1); omega
theorem loo_nn (t : Tm) (b : Int) : 0 ≤ loo t b := by
  cases t with
  | node k n l => simp only [loo]; split
                  · omega
                  · exact looL_nn _ _ _ _
theorem loo_leaf (k n b : Int) : loo (.node k n []) b = if k = 1 ∧ b ≤ n then n - b + 1 else 0 := by simp only [loo, looL]
theorem loo_bin {k : Int} (h : k ≠ 1) (a b : Tm) (c : Int) : loo (.node k 0 [a, b]) c = max (loo a c) (loo b (c + bn k 1)) := by
  have := loo_nn b (c + bn k 1)
  simp only [loo, h, false_and, ↓reduceIte, looL, bn0, Int.add_zero, Nat.zero_add]
  omega
/-- a road that does nothing on a closed term -/
theorem closed_mp {F : Int → Int → Int → Option Tm} (hF : Leafy F) (h8 : ∀ n c, F 8 n c = none) (h1 : ∀ n c, n < c → mp F (.node 1 n []) c = .node 1 n []) (t : Tm) (hg : gd t = true) : ∀ c, loo t c ≤ 0 → mp F t c = t := by
  refine gd_rec (C := fun t => ∀ c, loo t c ≤ 0 → mp F t c = t) ?_ ?_ ?_ t hg
  · intro k n hk hgn c hl
    rw [loo_leaf] at hl
    by_cases h : k = 1
    · subst h
      by_cases hn : c ≤ n
      · rw [if_pos ⟨rfl, hn⟩] at hl; omega
      · exact h1 n c (by omega)
    · rw [mp_leaf]
      by_cases h2 : k = 8
      · subst h2; rw [h8]; rfl
      · rw [hF k n c h h2]; rfl
  · intro k a b hk _ _ ha hb c hl
    rw [loo_bin (by omega)] at hl
    rw [mp_bin _ _ _ _ _ (hF k 0 c (by omega) (by omega)), ha c (by omega), hb _ (by omega)]
  · intro n m _ _ c hl
    rw [mp_elim _ _ _ _ (hF 7 n c (by omega) (by omega)), hF 2 m c (by omega) (by omega)]; rfl
theorem closed_raise {a : Tm} (hg : gd a = true) (hl : loo a 0 ≤ 0) (b : Int) : raise a b = a :=
  closed_mp (leafy_mv b) (fun n c => by simp [Fmv]) (fun n c h => mv_lt h) a hg 0 hl
theorem loo_up (t : Tm) (hg : gd t = true) : ∀ c d, c ≤ d → loo t d ≤ loo t c := by
  refine gd_rec (C := fun t => ∀ c d, c ≤ d → loo t d ≤ loo t c) ?_ ?_ ?_ t hg
  · intro k n hk hgn c d h
    rw [loo_leaf, loo_leaf]
    split <;> split <;> omega
  · intro k a b hk _ _ ha hb c d h
    rw [loo_bin (by omega), loo_bin (by omega)]
    have := ha c d h
    have := hb (c + bn k 1) (d + bn k 1) (by omega)
    omega
  · intro n m _ _ c d h
    have e : ∀ x, loo (.node 7 n [.node 2 m []]) x = 0 := fun x => by simp [loo, looL]
    rw [e, e]; omega
theorem closed_my {a b : Tm} (hg : gd a = true) (hl : loo a 0 ≤ 0) {c : Int} (hc : 0 ≤ c) : mp (Fmy [b]) a c = a :=
  closed_mp (leafy_my [b]) (fun n c => by simp [Fmy]) (fun n c h => my_lt h) a hg c (Int.le_trans (loo_up a hg 0 c hc) hl)

/-- one more put in -/
theorem my_cons (a : Tm) (r : List Tm) (hr : ∀ x ∈ r, gd x = true ∧ loo x 0 ≤ 0) (t : Tm) (hg : gd t = true) (c : Int) (hc : 0 ≤ c) : mp (Fmy [a]) (mp (Fmy r) t (c + 1)) c = mp (Fmy (a :: r)) t c := by
  have := one_road (leafy_my r) (leafy_my [a]) (leafy_my (a :: r)) 1 0 0 (fun k n e he hk hn => ?_) t hg c hc
  · simpa using this
  · simp only [Int.add_zero]
    rcases hk with rfl | rfl
    · by_cases h : n < e
      · rw [my_lt (by omega), my_lt h, my_lt h]
      · by_cases h2 : n = e
        · rw [my_lt (by omega), my_in (i := 0) (by simp) (by omega), my_in (i := 0) (by simp) (by omega)]
          rfl
        · by_cases h3 : n < e + 1 + r.length
          · obtain ⟨j, hj⟩ : ∃ j : Nat, n = e + 1 + j := ⟨(n - e - 1).toNat, by omega⟩
            have hjl : j < r.length := by omega
            obtain ⟨g, q⟩ := hr _ (List.getElem_mem hjl)
            rw [my_in (i := j) hjl hj, my_in (i := j + 1) (by simpa using hjl) (by omega)]
            simp only [List.getElem_cons_succ]
            rw [closed_raise g q, closed_raise g q, closed_my g q he]
          · rw [my_ge (by omega), my_ge (by simp; omega), my_ge (by simp; omega)]
            congr 1
            simp; omega
    · rw [my_8, my_8, my_8]
/-- types around a term, gone over -/
theorem arnd_mp {F : Int → Int → Int → Option Tm} (hF : Leafy F) : ∀ (l : List Tm) (u : Tm) (c : Int), ∃ l', l'.length = l.length ∧ mp F (arnd 3 l u) c = arnd 3 l' (mp F u (c + l.length))
  | [], u, c => ⟨[], rfl, by simp [arnd]⟩
  | b :: l, u, c => by
    obtain ⟨l', h1, h2⟩ := arnd_mp hF l u (c + bn 3 1)
    refine ⟨mp F b c :: l', by simp [h1], ?_⟩
    show mp F (.node 3 0 [b, arnd 3 l u]) c = .node 3 0 [mp F b c, arnd 3 l' (mp F u (c + _))]
    rw [mp_bin _ _ _ _ _ (hF 3 0 c (by omega) (by omega)), h2]
    have : c + bn 3 1 + (l.length : Int) = c + ((b :: l).length : Int) := by simp [bn]; omega
    rw [this]
theorem manyR_val {t x : Tm} {l : List Tm} (h : manyR t l = (x, 0)) : x = mp (Fmy l) t 0 := by
  unfold manyR subR at h
  split at h
  · split at h
    · injection h with h1 h2; exact h1.symm
    · injection h with h1 h2; cases h2
  · injection h with h1 h2; cases h2
theorem resL_cons {a b u : Tm} {l args : List Tm} : resL (a :: args) (arnd 3 (b :: l) u) = if (manyR (arnd 3 l u) [a]).2 = 0 then resL args (manyR (arnd 3 l u) [a]).1 else (tm0, (manyR (arnd 3 l u) [a]).2) := by
  show resL (a :: args) (.node 3 0 [b, arnd 3 l u]) = _
  rw [resL, if_pos (show (Tm.node 3 0 [b, arnd 3 l u]).kind = 3 from rfl)]
  rfl
theorem back_law : ∀ (args l r : List Tm) (t x : Tm), gd t = true → (∀ a ∈ args, gd a = true ∧ loo a 0 ≤ 0) → (∀ a ∈ r, gd a = true ∧ loo a 0 ≤ 0) → args.length = l.length → resL args (arnd 3 l (mp (Fmy r) t l.length)) = (x, 0) → x = mp (Fmy (args.reverse ++ r)) t 0
  | [], [], r, t, x, _, _, _, _, h => by
    simp only [resL, arnd, List.foldr_nil, Prod.mk.injEq] at h
    rw [← h.1]; rfl
  | [], _ :: _, _, _, _, _, _, _, hl, _ => by simp at hl
  | _ :: _, [], _, _, _, _, _, _, hl, _ => by simp at hl
  | a :: args, b :: l, r, t, x, hg, ha, hr, hl, h => by
    rw [resL_cons] at h
    obtain ⟨y, c, hy⟩ : ∃ y c, manyR (arnd 3 l (mp (Fmy r) t ((b :: l).length : Nat))) [a] = (y, c) := ⟨_, _, rfl⟩
    rw [hy] at h
    simp only at h
    split at h
    · rename_i hc
      subst hc
      have hv := manyR_val hy
      obtain ⟨l', h1, h2⟩ := arnd_mp (leafy_my [a]) l (mp (Fmy r) t ((b :: l).length : Nat)) 0
      rw [h2] at hv
      have e : (((b :: l).length : Nat) : Int) = (0 + (l.length : Int)) + 1 := by simp
      rw [e, my_cons a r hr t hg _ (by omega)] at hv
      have e2 : (0 : Int) + (l.length : Int) = (l'.length : Int) := by omega
      rw [e2] at hv
      rw [hv] at h
      have := back_law args l' (a :: r) t x hg (fun x hx => ha x (List.mem_cons_of_mem _ hx)) (fun x hx => by
        rcases List.mem_cons.1 hx with rfl | hx
        · exact ha _ (List.mem_cons_self ..)
        · exact hr x hx) (by simp at hl; omega) h
      rw [this]; simp
    · rename_i hc
      injection h with _ h; exact absurd h hc
theorem back_same {args l : List Tm} {t x y : Tm} (hg : gd t = true) (ha : ∀ a ∈ args, gd a = true ∧ loo a 0 ≤ 0) (hl : args.length = l.length) (h1 : resL args (arnd 3 l t) = (x, 0)) (h2 : manyR t args.reverse = (y, 0)) : x = y := by
  have e0 : mp (Fmy []) t l.length = t := by
    have := back_road leafy_no (leafy_my []) 0 0 (fun k n e he hk hn => ?_) t hg l.length (by omega)
    · rw [mp_no t hg] at this; simpa using this
    · simp only [Int.add_zero]
      rw [mp_leaf Fno]; simp only [Fno, Option.getD_none]
      rcases hk with rfl | rfl
      · by_cases h : n < e
        · rw [my_lt h]
        · rw [my_ge (by simp; omega)]; simp
      · rw [my_8]
  have := back_law args l [] t x hg ha (fun a h => by cases h) hl (by rw [e0]; exact h1)
  rw [manyR_val h2, this, List.append_nil]
theorem manyR_code {t : Tm} {l : List Tm} (ht : Shp t = true) (hl : l.all Shp = true) : (manyR t l).2 = 0 ∨ (manyR t l).2 = 2 := by
  unfold manyR subR
  rw [if_pos ⟨ht, hl⟩]
  split
  · exact .inl rfl
  · exact .inr rfl
theorem shp_pi {b u : Tm} (h : Shp (.node 3 0 [b, u]) = true) : Shp u = true := by
  obtain ⟨h1, h2, h3⟩ := (Shp_iff _).1 h
  refine (Shp_iff _).2 ⟨?_, ?_, ?_⟩
  · simp only [nsz, nszL] at h1; omega
  · simp only [dep, depL] at h2; omega
  · exact gd_sub h3 1 (by simp)
theorem res_code : ∀ (args l : List Tm) (u : Tm), (∀ a ∈ args, Shp a = true) → args.length = l.length → Shp (arnd 3 l u) = true → (resL args (arnd 3 l u)).2 = 0 ∨ (resL args (arnd 3 l u)).2 = 2
  | [], l, u, _, _, _ => .inl rfl
  | _ :: _, [], _, _, hl, _ => by simp at hl
  | a :: args, b :: l, u, ha, hl, hs => by
    rw [resL_cons]
    have hs' : Shp (arnd 3 l u) = true := shp_pi hs
    obtain ⟨y, c, hy⟩ : ∃ y c, manyR (arnd 3 l u) [a] = (y, c) := ⟨_, _, rfl⟩
    have hc := manyR_code (l := [a]) hs' (by simp [ha a (List.mem_cons_self ..)])
    rw [hy] at hc ⊢
    simp only at hc ⊢
    split
    · rename_i h0
      subst h0
      obtain ⟨l', h1, h2⟩ := arnd_mp (leafy_my [a]) l u 0
      have hv := manyR_val hy
      have hsy := manyR_shp hy
      rw [h2] at hv
      rw [hv] at hsy ⊢
      exact res_code args l' _ (fun x hx => ha x (List.mem_cons_of_mem _ hx)) (by simp at hl; omega) hsy
    · exact hc
/-- Whole of types around what is no type of functions -/
theorem spl_arnd : ∀ (l : List Tm) (t : Tm), spl l.length (arnd 3 l t) = some (l, t)
  | [], t => rfl
  | b :: l, t => by
    show spl (l.length + 1) (.node 3 0 [b, arnd 3 l t]) = _
    rw [spl_step, spl_arnd l t]; rfl
theorem pis_arnd : ∀ (l : List Tm) (t : Tm) (f : Nat), t.kind ≠ 3 → l.length < f → pis f (arnd 3 l t) = l.length
  | [], t, 0, _, h => by simp at h
  | [], .node k x l, f + 1, h3, _ => by
    show pis (f + 1) (.node k x l) = 0
    simp only [pis]
    rw [if_neg (show ¬ k = 3 from h3)]
  | b :: l, t, 0, _, h => by simp at h
  | b :: l, t, f + 1, h3, h => by
    show pis (f + 1) (.node 3 0 [b, arnd 3 l t]) = l.length + 1
    simp only [pis]
    rw [if_pos trivial, pis_arnd l t f h3 (by simpa using h)]
theorem split_arnd {l : List Tm} {t : Tm} (hs : Shp (arnd 3 l t) = true) (h24 : l.length ≤ 24) (h3 : t.kind ≠ 3) : splitR (arnd 3 l t) (pis 25 (arnd 3 l t) : Nat) = (l, t, 0) := by
  rw [pis_arnd l t 25 h3 (by omega)]
  unfold splitR
  rw [if_pos ⟨hs, Int.natCast_nonneg _⟩, if_neg (by omega), show ((l.length : Nat) : Int).toNat = l.length by omega, spl_arnd]
end Go.Proofs.Ythjlfjaciigfiaa
namespace Go.Proofs.Ythjlfjaciigfiaa
open Go.RowKit
set_option linter.unusedVariables false
set_option linter.unusedSimpArgs false

theorem looL_take (k : Int) (l : List Tm) (b : Int) (i j : Nat) (hj : j < l.length) : looL k (l.take (j + 1)) b i = max (looL k (l.take j) b i) (loo l[j] (b + bn k (i + j))) := by
  induction l generalizing i j with
  | nil => simp at hj
  | cons a l ih =>
    cases j with
    | zero => 
      simp only [List.take_succ_cons, List.take_zero, looL, List.getElem_cons_zero, Nat.add_zero]
      have := loo_nn a (b + bn k i); omega
    | succ j =>
      have := ih (i + 1) j (by simpa using hj)
      simp only [List.take_succ_cons, looL, List.getElem_cons_succ]
      rw [this, show i + 1 + j = i + (j + 1) from by omega]
      omega
theorem loo_le (t : Tm) (hg : gd t = true) : ∀ c, 0 ≤ c → loo t c ≤ 1048577 := by
  refine gd_rec (C := fun t => ∀ c, 0 ≤ c → loo t c ≤ 1048577) ?_ ?_ ?_ t hg
  · intro k n hk hgn c h
    have := (gd_num hgn).2.2.2
    rw [loo_leaf]; split <;> omega
  · intro k a b hk _ _ ha hb c h
    have q := bn_le k 1
    have := ha c h; have := hb (c + bn k 1) (by omega)
    rw [loo_bin (by omega)]; omega
  · intro n m _ _ c h; simp [loo, looL]
theorem looL_le (k : Int) (l : List Tm) (c : Int) (hc : 0 ≤ c) (hg : ∀ i (hi : i < l.length), gd l[i] = true) (i : Nat) : looL k l c i ≤ 1048577 := by
  induction l generalizing i with
  | nil => simp [looL]
  | cons a l ih =>
    have h1 := loo_le a (hg 0 (by simp)) (c + bn k i) (by have := bn_le k i; omega)
    have h2 := ih (fun j hj => hg (j + 1) (by simpa using hj)) (i + 1)
    simp only [looL]; omega
theorem maxIte (x y : Int) : (if x < y then y else x) = max x y := by split <;> omega
set_option maxRecDepth 100000 in
set_option maxHeartbeats 1000000 in
theorem Loose_w : ∀ (d : Nat) (v : Value) (t : Tm) (n : Int) (w : World), RdN (· < w.heap.size) w d v t → gd t = true → 0 ≤ n → n + d ≤ 1099511627776 →
    Calls Try.prog 110 #[v, .int .i64 n] w (Ans w (.int .i64 (loo t n))) := by
  intro d
  induction d with
  | zero => intro v t n w hr; exact absurd hr (fun h => h)
  | succ d ih =>
    rintro v ⟨k, x, l⟩ n w hr hg hn0 hm1
    have hgs := gd_sub hg
    have hll := gd_len hg
    obtain ⟨hk1, hk8, hx0, hx1⟩ := gd_num hg
    have hgv : k = 1 → l = [] := fun e => by subst e; exact gd_var hg
    obtain ⟨ao, cap, rfl, hlm, hk, hx, he⟩ := hr.open
    clear hr
    have IH := Lib.hid ih
    have HE := Lib.hid he
    have HG := Lib.hid hgs
    have hbx : ∀ o : Obj, Below w.heap.size w (w.alloc o) := fun o => (Below.refl _ _).alloc (Nat.le_refl _) _
    have HBX := Lib.hid hbx
    have HM := Lib.hid hm1
    clear ih he hk hx hgs hg hbx
    have hnn : n ≤ 1099511627775 := by omega
    have HGV := Lib.hid hgv
    clear hgv
    by_cases h12 : k = 1 ∧ n ≤ x
    · obtain ⟨rfl, h2⟩ := h12
      have e : loo (.node 1 x l) n = x - n + 1 := by simp [loo, h2]
      rw [e]; clear e
      go_enter Try.func110, Try.ntmps110
      go_wp2_with fail
      go_ret
      exact ⟨rfl, HBX.out _⟩
    have e : loo (.node k x l) n = looL k l n 0 := by simp only [loo]; rw [if_neg h12]
    rw [e]; clear e
    have HNO := Lib.hid h12
    go_enter Try.func110, Try.ntmps110
    by_cases h1 : k = 1
    · subst h1
      have hnx : ¬ n ≤ x := fun h => HNO.out ⟨rfl, h⟩
      have hnx2 : decide (n ≤ x) = false := decide_eq_false hnx
      have hl0 := HGV.out rfl
      subst hl0
      clear h12
      go_wp2_with fail
      refine wp_loop_rounds 1 ?_
      rw [rounds_succ]
      go_wp2_with fail
      go_ret
      exact ⟨by simp only [looL]; rfl, HBX.out _⟩
    have h1b : (k == 1) = false := by simp [h1]
    clear h12
    go_wp2_with fail
    have hq := heap_new w (.cells #[.int .i64 k, .int .i64 x, .slice ao l.length cap] 24) _ rfl
    have hbx2 := HBX.out (.cells #[.int .i64 k, .int .i64 x, .slice ao l.length cap] 24)
    generalize w.alloc (.cells #[.int .i64 k, .int .i64 x, .slice ao l.length cap] 24) = w0 at hq hbx2 ⊢
    have HQ := Lib.hid hq
    have HB0 := Lib.hid hbx2
    clear hq hbx2
    go_loopw [5, 6] (fun a i wr => ∃ (j : Nat), a = .int .i64 (looL k (l.take j) n 0) ∧ i = .int .i64 j ∧ j ≤ l.length ∧ Below w0.heap.size w0 wr) (fun _ i _ => l.length - (intOf i).toNat)
    case atStart => exact ⟨0, by simp [looL], rfl, Nat.zero_le _, Below.refl _ _⟩
    case round =>
      obtain ⟨j, rfl, rfl, hj, hb0⟩ := hrel
      obtain ⟨w1, rfl⟩ : ∃ x : World, x = wr := ⟨_, rfl⟩
      have HBB := Lib.hid ((hb0.block _ (three HQ.out).2.2.2.2).trans HQ.out)
      obtain ⟨i0, i1, i2, -, hl⟩ := three HBB.out
      have hb : Below w.heap.size w w1 := HB0.out.trans (hb0.mono HB0.out.size)
      obtain ⟨A, hA⟩ : ∃ A, A = looL k (l.take j) n 0 := ⟨_, rfl⟩
      rw [← hA]
      have HA := Lib.hid hA
      have hA0 : 0 ≤ A := by rw [hA]; exact looL_nn _ _ _ _
      have hA1 : A ≤ 1048577 := by rw [hA]; exact looL_le k _ n hn0 (fun i hi => by rw [List.getElem_take]; exact HG.out i (by rw [List.length_take] at hi; omega)) 0
      clear hA
      by_cases hjl : j < l.length
      · obtain ⟨b, off, k2, n2, ao2, m2, cap2, rfl, hP, h0, h1', h2, hrd⟩ := HE.out j hjl
        have HB := Lib.hid hb
        have HB00 := Lib.hid hb0
        have e0 := (hb.cell (p := ⟨b, off + j * 3, none⟩) hP).trans h0
        have e1 := (hb.cell (p := ⟨b, off + j * 3 + 1, none⟩) hP).trans h1'
        have e2 := (hb.cell (p := ⟨b, off + j * 3 + 2, none⟩) hP).trans h2
        have hbw : b < w1.heap.size := Nat.lt_of_lt_of_le hP hb.size
        have hji : (j : Int) < (l.length : Int) := by omega
        have hbk := bn_le k j
        have hgj := HG.out j hjl
        have HRD := Lib.hid hrd
        have hnext : looL k (l.take (j + 1)) n 0 = max A (loo l[j] (n + bn k j)) := by rw [looL_take k l n 0 j hjl, Nat.zero_add, ← HA.out]
        have hl0 := loo_nn l[j] (n + bn k j)
        have hl1 := loo_le l[j] hgj (n + bn k j) (by omega)
        obtain ⟨L, hL⟩ : ∃ L, L = loo l[j] (n + bn k j) := ⟨_, rfl⟩
        rw [← hL] at hnext hl0 hl1
        obtain ⟨db, hdb⟩ : ∃ db, db = bn k j := ⟨_, rfl⟩
        rw [← hdb] at hL hbk
        have HNX := Lib.hid hnext
        have HL := Lib.hid hL
        have HDB := Lib.hid hdb
        clear hb hb0 h0 h1' h2 hrd hnext hL hdb hgj
        go_wp2_with fail
        refine wp_region_order [(0, true), (1, true), (2, true), (3, true), (4, true), (5, true), (6, true), (7, true), (8, true), (9, false), (10, true), (11, false), (12, true), (13, false)]
          (fun w' => (w'.cell? ⟨w.heap.size, 0, none⟩ = some (.int .i64 k) ∧ w'.cell? ⟨w.heap.size, 1, none⟩ = some (.int .i64 x) ∧ w'.cell? ⟨w.heap.size, 2, none⟩ = some (.slice (some ⟨b, off, none⟩) l.length cap)) ∧
            (w'.cell? ⟨b, off + j * 3, none⟩ = some (.int .i64 k2) ∧ w'.cell? ⟨b, off + j * 3 + 1, none⟩ = some (.int .i64 n2) ∧ w'.cell? ⟨b, off + j * 3 + 2, none⟩ = some (.slice ao2 m2 cap2))) (by kernel_rfl) (by kernel_rfl) ⟨⟨i0, i1, i2⟩, ⟨e0, e1, e2⟩⟩ (fun hHeld => ?_)
        simp only [pickT, List.getElem?_cons_zero, List.getElem?_cons_succ, Option.getD_some]
        repeat (refine wpT_take (v := ?_) (by rfl) (fun w' hSw => ?_) ?_; rotate_left; (go_simp; with_reducible rfl); simp only [Act.put, List.setIfInBounds_toArray, List.set_cons_zero, List.set_cons_succ])
        refine wpT_do (fun K hK => ?_)
        go_simp
        go_at_call 114
        have kb := Beneath_w k x (.slice (some ⟨b, off, none⟩) l.length cap) (some ⟨b, off, none⟩) l.length cap rfl j w1.drew
        rw [← HDB.out] at kb
        refine kb.mono ?_
        rintro e w3 ⟨rfl, hb3⟩
        replace hb3 : Below w1.heap.size w1 w3 := (below_drewN (Below.refl _ _) 1).trans hb3
        have H3 := Lib.hid hb3
        have hI := And.intro (And.intro ((hb3.cell (p := ⟨w.heap.size, 0, none⟩) hl).trans i0) (And.intro ((hb3.cell (p := ⟨w.heap.size, 1, none⟩) hl).trans i1) ((hb3.cell (p := ⟨w.heap.size, 2, none⟩) hl).trans i2)))
          (And.intro ((hb3.cell (p := ⟨b, off + j * 3, none⟩) hbw).trans e0) (And.intro ((hb3.cell (p := ⟨b, off + j * 3 + 1, none⟩) hbw).trans e1) ((hb3.cell (p := ⟨b, off + j * 3 + 2, none⟩) hbw).trans e2)))
        clear kb hb3 hHeld
        refine hK.out _ _ hI (fun hHeld => ?_)
        clear hK K hHeld
        repeat (refine wpT_take (v := ?_) (by rfl) (fun w' hSw => ?_) ?_; rotate_left; (go_simp; with_reducible rfl); simp only [Act.put, List.setIfInBounds_toArray, List.set_cons_zero, List.set_cons_succ])
        rw [show IntKind.i64.wrap (n + db) = n + db from by rw [IntKind.wrap_i64]; omega]
        have hbb := HB.out.trans (H3.out.mono HB.out.size)
        have hcon := IH.out _ l[j] (n + db) w3 (RdN.keep (P := (· < w.heap.size)) (w' := w3) (fun b hb' => Nat.lt_of_lt_of_le hb' hbb.size) (fun b hb' => hbb.block b hb') d _ _ HRD.out) (HG.out j hjl) (by omega) (by have := HM.out; omega)
        rw [← HL.out] at hcon
        have HCON := Lib.hid hcon
        clear hcon hbb
        refine wpT_do (fun K hK => ?_)
        go_simp
        go_at_call 110
        refine HCON.out.mono ?_
        rintro e w4 ⟨rfl, hb4⟩
        have hb14 := H3.out.trans (hb4.mono H3.out.size)
        have HB04 := Lib.hid (HB00.out.trans (hb14.mono HB00.out.size))
        have hI4 := And.intro (And.intro ((hb14.cell (p := ⟨w.heap.size, 0, none⟩) hl).trans i0) (And.intro ((hb14.cell (p := ⟨w.heap.size, 1, none⟩) hl).trans i1) ((hb14.cell (p := ⟨w.heap.size, 2, none⟩) hl).trans i2)))
          (And.intro ((hb14.cell (p := ⟨b, off + j * 3, none⟩) hbw).trans e0) (And.intro ((hb14.cell (p := ⟨b, off + j * 3 + 1, none⟩) hbw).trans e1) ((hb14.cell (p := ⟨b, off + j * 3 + 2, none⟩) hbw).trans e2)))
        clear hb4 hb14 HCON hI
        refine hK.out _ _ hI4 (fun hHeld => ?_)
        clear hK K hHeld hI4
        repeat (refine wpT_take (v := ?_) (by rfl) (fun w' hSw => ?_) ?_; rotate_left; (go_simp; with_reducible rfl); simp only [Act.put, List.setIfInBounds_toArray, List.set_cons_zero, List.set_cons_succ])
        refine wpT_last (fun K hK => ?_)
        go_simp
        refine hK.out _ _ ?_
        clear hK K e0 e1 e2 i0 i1 i2
        go_wp2_with fail
        go_roundw
        case rel => exact ⟨j + 1, by rw [HNX.out, ← maxIte], by go_num, by omega, HB04.out⟩
        case measure =>
          have q : (intOf (.int .i64 ((j : Int) + 1))).toNat = j + 1 := by show ((j : Int) + 1).toNat = _; omega
          have q2 : (intOf (.int .i64 (j : Int))).toNat = j := by show ((j : Int)).toNat = _; omega
          rw [q, q2]; omega
      · have HB := Lib.hid hb
        clear hb hb0
        have ht : A = looL k l n 0 := by rw [HA.out, List.take_of_length_le (by omega)]
        have HT := Lib.hid ht
        clear ht
        go_wp2_with fail
        go_ret
        exact ⟨by rw [← HT.out]; rfl, HB.out⟩
end Go.Proofs.Ythjlfjaciigfiaa
namespace Go.Proofs.Ythjlfjaciigfiaa
open Go.RowKit
set_option linter.unusedVariables false
set_option linter.unusedSimpArgs false

/-- a row of ints in new memory is answered -/
def AnsI (w : World) (Q : List Int → Prop) (e : Ending) (w' : World) : Prop := ∃ ao m c l, e = .returned (.slice ao m c) ∧ Below w.heap.size w w' ∧ RowR (Fr w w') w' (.slice ao m c) l ∧ Q l
theorem info3 : (Try.prog.info? 3).map (fun i => (i.zero, i.size, i.bytes)) = some (some (.int .i64 0), 1, 8) := by kernel_rfl
theorem RowR.get {P : Nat → Prop} {w : World} {v : Value} {r : List Int} (h : RowR P w v r) : ∃ ao cap, v = .slice ao r.length cap ∧ r.length ≤ cap ∧ cap ≤ maxLen ∧ ∀ i (hi : i < r.length), ∃ b off, ao = some ⟨b, off, none⟩ ∧ P b ∧ w.cell? ⟨b, off + i, none⟩ = some (.int .i64 r[i]) := h

set_option maxRecDepth 100000 in
set_option maxHeartbeats 4000000 in
theorem put_w (lv : Value) (l : List Int) (n : Int) (w : World) (hl : RowR (· < w.heap.size) w lv l) (hlen : l.length ≤ 1000000) :
    Calls Try.prog 101 #[lv, .int .i64 n] w (AnsI w fun l' => (∀ x, x ∈ l' ↔ x ∈ l ∨ x = n) ∧ l'.length ≤ l.length + 1) := by
  obtain ⟨i3, hi3, hx1, hx2, hx3⟩ := info_parts info3
  obtain ⟨al, cl, rfl, hlc, hcm, he⟩ := hl.get
  have HE := Lib.hid he
  clear he hl
  go_enter Try.func101, Try.ntmps101
  go_wp2_with fail
  have hM0 : Made w.heap.size (w.alloc (.cells #[] 3)) 3 IntV (.slice (some ⟨w.heap.size, 0, none⟩) 0 0) [] := Made.empty w w.heap.size 3 IntV (Nat.le_refl _)
  have HM0 := Lib.hid hM0
  have HB0 := Lib.hid (alloc_bel w (.cells #[] 3))
  clear hM0
  go_loopw [5, 6, 7] (fun vs dv i wr => ∃ (j : Nat) (xs : List Int) (dn : Bool), dv = .bool dn ∧ i = .int .i64 j ∧ j ≤ l.length ∧ Made w.heap.size wr 3 IntV vs xs ∧ Below w.heap.size w wr ∧ (∀ x, x ∈ xs ↔ x ∈ l.take j ∨ (dn = true ∧ x = n)) ∧ xs.length ≤ j + (if dn = true then 1 else 0)) (fun _ _ i _ => l.length - (intOf i).toNat)
  case atStart => exact ⟨0, [], false, by go_num, by go_num, Nat.zero_le _, HM0.out, HB0.out, fun x => by simp, by simp⟩
  case round =>
    obtain ⟨j, xs, dn, rfl, rfl, hj, hM, hB, hmem, hxl⟩ := hrel
    have HMEM := Lib.hid hmem
    clear hmem HM0 HB0
    by_cases hjl : j < l.length
    · obtain ⟨b, off, rfl, hPb, h0⟩ := HE.out j hjl
      have e0 := (hB.cell (p := ⟨b, off + j, none⟩) hPb).trans h0
      have hbw : b < wr.heap.size := Nat.lt_of_lt_of_le hPb hB.size
      have hji : (j : Int) < (l.length : Int) := by omega
      have hj0 : (0 : Int) ≤ (j : Int) := Int.natCast_nonneg _
      have H0 := Lib.hid h0
      clear h0
      have hx1l : xs.length ≤ j + 1 := by split at hxl <;> omega
      cases dn
      · simp only [Bool.false_eq_true, ↓reduceIte, Nat.add_zero] at hxl
        by_cases hge : n ≤ l[j]
        · by_cases hgt : n < l[j]
          · have HGT := Lib.hid hgt
            obtain ⟨vals, hvo, hvr⟩ := hM
            have hvl : vals.length = xs.length := by have := hvo.1; omega
            have HVR := Lib.hid hvr
            have HVL := Lib.hid hvl
            have hblk := fun q hq => (hvo.lt q hq).1
            have HBL := Lib.hid hblk
            have HBB := Lib.hid hB
            clear hvr hvl hblk hB
            go_wp2_with (at_builtin; refine wpList_app rfl _ _ 58 rfl w.heap.size 3 i3 (.int .i64 0) 1 8 Try.underlying58 hi3 hx1 hx2 hx3 rfl (by decide) u5 xs.length vals rfl (hvo.alloc _) ⟨wr.heap.size, 0, none⟩ 1 1 [.int .i64 (n)] rfl rfl (cell_one_new _ _ _) (by intro u hu; simp at hu; subst hu; rfl) (by unfold maxLen; omega) (by omega) (by have := HBB.out.size; simp only [World.size_alloc]; omega) ?_)
            intro v3 w3 happ
            have hM : Made w.heap.size w3 3 IntV v3 (xs ++ [n]) := by
              have hvr := HVR.out
              have hal : Below wr.heap.size wr (wr.alloc (.cells #[.int .i64 (n)] 3)) := alloc_bel _ _
              exact Made.app keeps_int (W := wr.alloc (.cells #[.int .i64 (n)] 3)) (fun i hi => hvr i hi) HVL.out happ rfl rfl
            have hB : Below w.heap.size w w3 := (HBB.out.alloc HBB.out.size (.cells #[.int .i64 (n)] 3)).trans (happ.below (B := w.heap.size) (by have := HBB.out.size; simp only [World.size_alloc]; omega) (fun q hq => HBL.out q hq))
            clear happ HVR HVL HBL HBB hvo
            have e3 := (hB.cell (p := ⟨b, off + j, none⟩) hPb).trans H0.out
            have hb3 : b < w3.heap.size := Nat.lt_of_lt_of_le hPb hB.size
            have hxs3 : (xs ++ [n]).length ≤ j + 1 := by simp; omega
            obtain ⟨ys, hys⟩ : ∃ ys, ys = xs ++ [n] := ⟨_, rfl⟩
            rw [← hys] at hM hxs3
            have HYS := Lib.hid hys
            clear hys
            obtain ⟨vals3, hvo, hvr⟩ := hM
            have hvl : vals3.length = ys.length := by have := hvo.1; omega
            have HVR := Lib.hid hvr
            have HVL := Lib.hid hvl
            have hblk := fun q hq => (hvo.lt q hq).1
            have HBL := Lib.hid hblk
            have HBB := Lib.hid hB
            clear hvr hvl hblk hB
            go_wp2_with (at_builtin; refine wpList_app rfl _ _ 58 rfl w.heap.size 3 i3 (.int .i64 0) 1 8 Try.underlying58 hi3 hx1 hx2 hx3 rfl (by decide) v3 ys.length vals3 rfl (hvo.alloc _) ⟨w3.heap.size, 0, none⟩ 1 1 [.int .i64 (l[j])] rfl rfl (cell_one_new _ _ _) (by intro u hu; simp at hu; subst hu; rfl) (by unfold maxLen; omega) (by omega) (by have := HBB.out.size; simp only [World.size_alloc]; omega) ?_)
            intro v4 w4 happ
            have hM : Made w.heap.size w4 3 IntV v4 (ys ++ [l[j]]) := by
              have hvr := HVR.out
              have hal : Below w3.heap.size w3 (w3.alloc (.cells #[.int .i64 (l[j])] 3)) := alloc_bel _ _
              exact Made.app keeps_int (W := w3.alloc (.cells #[.int .i64 (l[j])] 3)) (fun i hi => hvr i hi) HVL.out happ rfl rfl
            have hB : Below w.heap.size w w4 := (HBB.out.alloc HBB.out.size (.cells #[.int .i64 (l[j])] 3)).trans (happ.below (B := w.heap.size) (by have := HBB.out.size; simp only [World.size_alloc]; omega) (fun q hq => HBL.out q hq))
            clear happ HVR HVL HBL HBB hvo
            go_wp2_with fail
            go_roundw
            case rel =>
              refine ⟨j + 1, ys ++ [l[j]], true, by go_num, by go_num, by omega, hM, hB, fun x => ?_, by simp only [List.length_append, List.length_cons, List.length_nil, ↓reduceIte, Bool.false_eq_true]; omega⟩
              rw [List.take_succ_eq_append_getElem hjl]
              have hm := HMEM.out x
              simp only [List.mem_append, List.mem_singleton, hm]
              rw [HYS.out]
              simp only [List.mem_append, List.mem_singleton, hm]
              simp
              exact or_right_comm
            case measure =>
              have q : (intOf (.int .i64 ((j : Int) + 1))).toNat = j + 1 := by show ((j : Int) + 1).toNat = _; omega
              have q2 : (intOf (.int .i64 (j : Int))).toNat = j := by show ((j : Int)).toNat = _; omega
              rw [q, q2]; omega
          · have hle : l[j] = n := by omega
            have HLE := Lib.hid hle
            clear hle
            obtain ⟨vals, hvo, hvr⟩ := hM
            have hvl : vals.length = xs.length := by have := hvo.1; omega
            have HVR := Lib.hid hvr
            have HVL := Lib.hid hvl
            have hblk := fun q hq => (hvo.lt q hq).1
            have HBL := Lib.hid hblk
            have HBB := Lib.hid hB
            clear hvr hvl hblk hB
            go_wp2_with (at_builtin; refine wpList_app rfl _ _ 58 rfl w.heap.size 3 i3 (.int .i64 0) 1 8 Try.underlying58 hi3 hx1 hx2 hx3 rfl (by decide) u5 xs.length vals rfl (hvo.alloc _) ⟨wr.heap.size, 0, none⟩ 1 1 [.int .i64 (l[j])] rfl rfl (cell_one_new _ _ _) (by intro u hu; simp at hu; subst hu; rfl) (by unfold maxLen; omega) (by omega) (by have := HBB.out.size; simp only [World.size_alloc]; omega) ?_)
            intro v4 w4 happ
            have hM : Made w.heap.size w4 3 IntV v4 (xs ++ [l[j]]) := by
              have hvr := HVR.out
              have hal : Below wr.heap.size wr (wr.alloc (.cells #[.int .i64 (l[j])] 3)) := alloc_bel _ _
              exact Made.app keeps_int (W := wr.alloc (.cells #[.int .i64 (l[j])] 3)) (fun i hi => hvr i hi) HVL.out happ rfl rfl
            have hB : Below w.heap.size w w4 := (HBB.out.alloc HBB.out.size (.cells #[.int .i64 (l[j])] 3)).trans (happ.below (B := w.heap.size) (by have := HBB.out.size; simp only [World.size_alloc]; omega) (fun q hq => HBL.out q hq))
            clear happ HVR HVL HBL HBB hvo
            go_wp2_with fail
            go_roundw
            case rel =>
              refine ⟨j + 1, xs ++ [l[j]], true, by go_num, by go_num, by omega, hM, hB, fun x => ?_, by simp only [List.length_append, List.length_cons, List.length_nil, ↓reduceIte, Bool.false_eq_true]; omega⟩
              rw [List.take_succ_eq_append_getElem hjl]
              have hm := HMEM.out x
              simp only [List.mem_append, List.mem_singleton, hm]
              rw [HLE.out]
              simp
            case measure =>
              have q : (intOf (.int .i64 ((j : Int) + 1))).toNat = j + 1 := by show ((j : Int) + 1).toNat = _; omega
              have q2 : (intOf (.int .i64 (j : Int))).toNat = j := by show ((j : Int)).toNat = _; omega
              rw [q, q2]; omega
        · skip
          obtain ⟨vals, hvo, hvr⟩ := hM
          have hvl : vals.length = xs.length := by have := hvo.1; omega
          have HVR := Lib.hid hvr
          have HVL := Lib.hid hvl
          have hblk := fun q hq => (hvo.lt q hq).1
          have HBL := Lib.hid hblk
          have HBB := Lib.hid hB
          clear hvr hvl hblk hB
          go_wp2_with (at_builtin; refine wpList_app rfl _ _ 58 rfl w.heap.size 3 i3 (.int .i64 0) 1 8 Try.underlying58 hi3 hx1 hx2 hx3 rfl (by decide) u5 xs.length vals rfl (hvo.alloc _) ⟨wr.heap.size, 0, none⟩ 1 1 [.int .i64 (l[j])] rfl rfl (cell_one_new _ _ _) (by intro u hu; simp at hu; subst hu; rfl) (by unfold maxLen; omega) (by omega) (by have := HBB.out.size; simp only [World.size_alloc]; omega) ?_)
          intro v4 w4 happ
          have hM : Made w.heap.size w4 3 IntV v4 (xs ++ [l[j]]) := by
            have hvr := HVR.out
            have hal : Below wr.heap.size wr (wr.alloc (.cells #[.int .i64 (l[j])] 3)) := alloc_bel _ _
            exact Made.app keeps_int (W := wr.alloc (.cells #[.int .i64 (l[j])] 3)) (fun i hi => hvr i hi) HVL.out happ rfl rfl
          have hB : Below w.heap.size w w4 := (HBB.out.alloc HBB.out.size (.cells #[.int .i64 (l[j])] 3)).trans (happ.below (B := w.heap.size) (by have := HBB.out.size; simp only [World.size_alloc]; omega) (fun q hq => HBL.out q hq))
          clear happ HVR HVL HBL HBB hvo
          go_wp2_with fail
          go_roundw
          case rel =>
            refine ⟨j + 1, xs ++ [l[j]], false, by go_num, by go_num, by omega, hM, hB, fun x => ?_, by simp only [List.length_append, List.length_cons, List.length_nil, ↓reduceIte, Bool.false_eq_true]; omega⟩
            rw [List.take_succ_eq_append_getElem hjl]
            have hm := HMEM.out x
            simp only [List.mem_append, List.mem_singleton, hm]
            simp
          case measure =>
            have q : (intOf (.int .i64 ((j : Int) + 1))).toNat = j + 1 := by show ((j : Int) + 1).toNat = _; omega
            have q2 : (intOf (.int .i64 (j : Int))).toNat = j := by show ((j : Int)).toNat = _; omega
            rw [q, q2]; omega
      · skip
        obtain ⟨vals, hvo, hvr⟩ := hM
        have hvl : vals.length = xs.length := by have := hvo.1; omega
        have HVR := Lib.hid hvr
        have HVL := Lib.hid hvl
        have hblk := fun q hq => (hvo.lt q hq).1
        have HBL := Lib.hid hblk
        have HBB := Lib.hid hB
        clear hvr hvl hblk hB
        go_wp2_with (at_builtin; refine wpList_app rfl _ _ 58 rfl w.heap.size 3 i3 (.int .i64 0) 1 8 Try.underlying58 hi3 hx1 hx2 hx3 rfl (by decide) u5 xs.length vals rfl (hvo.alloc _) ⟨wr.heap.size, 0, none⟩ 1 1 [.int .i64 (l[j])] rfl rfl (cell_one_new _ _ _) (by intro u hu; simp at hu; subst hu; rfl) (by unfold maxLen; omega) (by omega) (by have := HBB.out.size; simp only [World.size_alloc]; omega) ?_)
        intro v4 w4 happ
        have hM : Made w.heap.size w4 3 IntV v4 (xs ++ [l[j]]) := by
          have hvr := HVR.out
          have hal : Below wr.heap.size wr (wr.alloc (.cells #[.int .i64 (l[j])] 3)) := alloc_bel _ _
          exact Made.app keeps_int (W := wr.alloc (.cells #[.int .i64 (l[j])] 3)) (fun i hi => hvr i hi) HVL.out happ rfl rfl
        have hB : Below w.heap.size w w4 := (HBB.out.alloc HBB.out.size (.cells #[.int .i64 (l[j])] 3)).trans (happ.below (B := w.heap.size) (by have := HBB.out.size; simp only [World.size_alloc]; omega) (fun q hq => HBL.out q hq))
        clear happ HVR HVL HBL HBB hvo
        go_wp2_with fail
        go_roundw
        case rel =>
          refine ⟨j + 1, xs ++ [l[j]], true, by go_num, by go_num, by omega, hM, hB, fun x => ?_, by simp only [List.length_append, List.length_cons, List.length_nil, ↓reduceIte, Bool.false_eq_true]; omega⟩
          rw [List.take_succ_eq_append_getElem hjl]
          have hm := HMEM.out x
          simp only [List.mem_append, List.mem_singleton, hm]
          simp
          exact or_right_comm
        case measure =>
          have q : (intOf (.int .i64 ((j : Int) + 1))).toNat = j + 1 := by show ((j : Int) + 1).toNat = _; omega
          have q2 : (intOf (.int .i64 (j : Int))).toNat = j := by show ((j : Int)).toNat = _; omega
          rw [q, q2]; omega
    · have htk : l.take j = l := List.take_of_length_le (by omega)
      have hxj : xs.length ≤ l.length + 1 := by split at hxl <;> omega
      cases dn
      · have hxj2 : xs.length ≤ l.length := by simp at hxl; omega
        obtain ⟨vals, hvo, hvr⟩ := hM
        have hvl : vals.length = xs.length := by have := hvo.1; omega
        have HVR := Lib.hid hvr
        have HVL := Lib.hid hvl
        have hblk := fun q hq => (hvo.lt q hq).1
        have HBL := Lib.hid hblk
        have HBB := Lib.hid hB
        clear hvr hvl hblk hB
        go_wp2_with (at_builtin; refine wpList_app rfl _ _ 58 rfl w.heap.size 3 i3 (.int .i64 0) 1 8 Try.underlying58 hi3 hx1 hx2 hx3 rfl (by decide) u5 xs.length vals rfl (hvo.alloc _) ⟨wr.heap.size, 0, none⟩ 1 1 [.int .i64 (n)] rfl rfl (cell_one_new _ _ _) (by intro u hu; simp at hu; subst hu; rfl) (by unfold maxLen; omega) (by omega) (by have := HBB.out.size; simp only [World.size_alloc]; omega) ?_)
        intro v4 w4 happ
        have hM : Made w.heap.size w4 3 IntV v4 (xs ++ [n]) := by
          have hvr := HVR.out
          have hal : Below wr.heap.size wr (wr.alloc (.cells #[.int .i64 (n)] 3)) := alloc_bel _ _
          exact Made.app keeps_int (W := wr.alloc (.cells #[.int .i64 (n)] 3)) (fun i hi => hvr i hi) HVL.out happ rfl rfl
        have hB : Below w.heap.size w w4 := (HBB.out.alloc HBB.out.size (.cells #[.int .i64 (n)] 3)).trans (happ.below (B := w.heap.size) (by have := HBB.out.size; simp only [World.size_alloc]; omega) (fun q hq => HBL.out q hq))
        clear happ HVR HVL HBL HBB hvo
        have hrow := hM.row (fun q => w.heap.size ≤ q ∧ q < w4.heap.size) (fun g _ h1 h2 => ⟨h1, h2⟩)
        obtain ⟨a4, c4, hv4, -⟩ := hrow.get
        subst hv4
        go_wp2_with fail
        go_ret
        refine ⟨_, _, _, _, rfl, hB, hrow.keep (fun q h => h) fun _ _ => rfl, fun x => ?_, by simp; omega⟩
        have hm := HMEM.out x
        rw [htk] at hm
        simp only [List.mem_append, List.mem_singleton, hm]
        simp
      · have hrow := hM.row (fun q => w.heap.size ≤ q ∧ q < wr.heap.size) (fun g _ h1 h2 => ⟨h1, h2⟩)
        obtain ⟨a4, c4, hv4, -⟩ := hrow.get
        subst hv4
        go_wp2_with fail
        go_ret
        refine ⟨_, _, _, _, rfl, hB, hrow.keep (fun q h => h) fun _ _ => rfl, fun x => ?_, by omega⟩
        have hm := HMEM.out x
        rw [htk] at hm
        simp only [hm]
        simp
set_option maxRecDepth 100000 in
set_option maxHeartbeats 1000000 in
theorem Numbers67_w : ∀ (d : Nat) (v : Value) (t : Tm) (w : World), RdN (· < w.heap.size) w d v t → gd t = true → nsz t ≤ 100000 →
    Calls Try.prog 60 #[v, .int .i64 6, .int .i64 7] w (AnsI w fun l' => l'.length ≤ nsz t) := by
  obtain ⟨i3, hi3, hx1, hx2, hx3⟩ := info_parts info3
  intro d
  induction d with
  | zero => intro v t w hr; exact absurd hr (fun h => h)
  | succ d ih =>
    rintro v ⟨k, x, l⟩ w hr hg hsz
    have hll := gd_len hg
    have hgs := gd_sub hg
    obtain ⟨hk1, hk8, hx0, hx1'⟩ := gd_num hg
    obtain ⟨ao, cap, rfl, hlm, hk, hx, he⟩ := hr.open
    have IH := Lib.hid ih
    have HE := Lib.hid he
    have HG := Lib.hid hgs
    have HSZ := Lib.hid hsz
    clear hr ih he hgs hg hsz hk hx
    by_cases h6 : k = 6
    · skip
      have h6b : (k == 6) = true := by simp [h6]
      clear h6
      obtain ⟨xs0, hxs⟩ : ∃ xs0 : List Int, xs0 = [] := ⟨_, rfl⟩
      have hM : Made w.heap.size ((w.alloc (.cells #[.int .i64 k, .int .i64 x, .slice ao l.length cap] 24)).alloc (.cells #[] 3)) 3 IntV (.slice (some ⟨w.heap.size + 1, 0, none⟩) 0 0) xs0 := by
        rw [hxs]
        have := Made.empty (w.alloc (.cells #[.int .i64 k, .int .i64 x, .slice ao l.length cap] 24)) w.heap.size 3 IntV (by simp)
        rw [World.size_alloc] at this
        exact this
      have hB : Below w.heap.size w ((w.alloc (.cells #[.int .i64 k, .int .i64 x, .slice ao l.length cap] 24)).alloc (.cells #[] 3)) := ((Below.refl _ _).alloc (Nat.le_refl _) _).alloc (by simp) _
      have hxl : xs0.length = 0 := by rw [hxs]; rfl
      have HXS := Lib.hid hxs
      have HQ1 := Lib.hid (show ((w.alloc (.cells #[.int .i64 k, .int .i64 x, .slice ao l.length cap] 24)).alloc (.cells #[] 3)).heap[w.heap.size]? = some (.cells #[.int .i64 k, .int .i64 x, .slice ao l.length cap] 24) from (Below.heap_alloc _ _ _ (by simp)).trans (heap_new _ _ _ rfl))
      clear hxs
      go_enter Try.func60, Try.ntmps60
      obtain ⟨vals, hvo, hvr⟩ := hM
      have hvl : vals.length = xs0.length := by have := hvo.1; omega
      have HVR := Lib.hid hvr
      have HVL := Lib.hid hvl
      have hblk := fun q hq => (hvo.lt q hq).1
      have HBL := Lib.hid hblk
      have HBB := Lib.hid hB
      clear hvr hvl hblk hB
      go_wp2_with (at_builtin; refine wpList_app rfl _ _ 58 rfl w.heap.size 3 i3 (.int .i64 0) 1 8 Try.underlying58 hi3 hx1 hx2 hx3 rfl (by decide) (.slice (some ⟨w.heap.size + 1, 0, none⟩) 0 0) xs0.length vals rfl (hvo.alloc _) ⟨w.heap.size + 1 + 1, 0, none⟩ 1 1 [.int .i64 (x)] rfl rfl (by have h := cell_one_new (((w.alloc (.cells #[.int .i64 k, .int .i64 x, .slice ao l.length cap] 24)).alloc (.cells #[] 3))) (.int .i64 (x)) 3; simp only [World.size_alloc] at h; exact h) (by intro u hu; simp at hu; subst hu; rfl) (by unfold maxLen; omega) (by omega) (by have := HBB.out.size; simp only [World.size_alloc]; omega) ?_)
      intro v4 w4 happ
      have hM : Made w.heap.size w4 3 IntV v4 (xs0 ++ [x]) := by
        have hvr := HVR.out
        have hal : Below ((w.alloc (.cells #[.int .i64 k, .int .i64 x, .slice ao l.length cap] 24)).alloc (.cells #[] 3)).heap.size ((w.alloc (.cells #[.int .i64 k, .int .i64 x, .slice ao l.length cap] 24)).alloc (.cells #[] 3)) (((w.alloc (.cells #[.int .i64 k, .int .i64 x, .slice ao l.length cap] 24)).alloc (.cells #[] 3)).alloc (.cells #[.int .i64 (x)] 3)) := alloc_bel _ _
        exact Made.app keeps_int (W := ((w.alloc (.cells #[.int .i64 k, .int .i64 x, .slice ao l.length cap] 24)).alloc (.cells #[] 3)).alloc (.cells #[.int .i64 (x)] 3)) (fun i hi => hvr i hi) HVL.out (by rw [hxl]; exact happ) rfl rfl
      have hB : Below w.heap.size w w4 := (HBB.out.alloc HBB.out.size (.cells #[.int .i64 (x)] 3)).trans (happ.below (B := w.heap.size) (by have := HBB.out.size; simp only [World.size_alloc]; omega) (fun q hq => HBL.out q hq))
      have hoth := fun q hq hv => (happ.other (b := q) hq hv).1
      clear happ HVR HVL HBL HBB hvo
      have HO := Lib.hid ((hoth w.heap.size (by simp only [World.size_alloc]; omega) (by intro e; injection e with e; have : w.heap.size + 1 = w.heap.size := e; omega)).trans ((Below.heap_alloc _ _ _ (by simp only [World.size_alloc]; omega)).trans HQ1.out))
      clear hoth
      obtain ⟨q0, q1, q2, -, ql⟩ := three HO.out
      have hrow := hM.row (fun q => w.heap.size ≤ q ∧ q < w4.heap.size) (fun g _ h1 h2 => ⟨h1, h2⟩)
      have hzl0 : (xs0 ++ [x]).length = 1 := by rw [List.length_append, hxl]; rfl
      generalize xs0 ++ [x] = zs0 at hrow hzl0
      obtain ⟨a4, c4, hv4, -⟩ := hrow.get
      rw [hzl0] at hv4
      subst hv4
      have HROW0 := Lib.hid hrow
      have HBW0 := Lib.hid hB
      have HXL0 := Lib.hid hzl0
      clear hM hB hrow hxl hzl0
      go_wp2_with fail
      clear q0 q1 q2 ql
      go_loopw [7, 8] (fun vs i wr => ∃ (j : Nat) (xs : List Int), i = .int .i64 j ∧ j ≤ l.length ∧ RowR (fun q => w.heap.size ≤ q ∧ q < wr.heap.size) wr vs xs ∧ Below w.heap.size w wr ∧ wr.heap[w.heap.size]? = some (.cells #[.int .i64 k, .int .i64 x, .slice ao l.length cap] 24) ∧ xs.length ≤ 1 + nszL (l.take j)) (fun _ i _ => l.length - (intOf i).toNat)
      case atStart => exact ⟨0, _, by go_num, Nat.zero_le _, HROW0.out, HBW0.out, HO.out, by rw [HXL0.out]; simp⟩
      case round =>
        obtain ⟨j, xs, rfl, hj, hrow, hb, hqq, hxl⟩ := hrel
        have HBW := Lib.hid hb
        have HQr := Lib.hid hqq
        have HROW := Lib.hid hrow
        clear hb hrow hqq HROW0 HBW0 HO HQ1
        obtain ⟨q0, q1, q2, -, ql⟩ := three HQr.out
        by_cases hjl : j < l.length
        · obtain ⟨b, off, k2, n2, ao2, m2, cap2, rfl, hP, h0, h1, h2, hrd⟩ := HE.out j hjl
          have e0 := (HBW.out.cell (p := ⟨b, off + j * 3, none⟩) hP).trans h0
          have e1 := (HBW.out.cell (p := ⟨b, off + j * 3 + 1, none⟩) hP).trans h1
          have e2 := (HBW.out.cell (p := ⟨b, off + j * 3 + 2, none⟩) hP).trans h2
          have hbw : b < wr.heap.size := Nat.lt_of_lt_of_le hP HBW.out.size
          have hji : (j : Int) < (l.length : Int) := by omega
          have hj0 : (0 : Int) ≤ (j : Int) := Int.natCast_nonneg _
          have hszj : nsz l[j] ≤ nszL l := nszL_get l j hjl
          have hszt : nszL l ≤ 100000 := by have := HSZ.out; simp only [nsz] at this; omega
          have HCON := Lib.hid (IH.out _ l[j] wr (RdN.keep (P := (· < w.heap.size)) (w' := wr) (fun b hb' => Nat.lt_of_lt_of_le hb' HBW.out.size) (fun b hb' => HBW.out.block b hb') d _ _ hrd) (HG.out j hjl) (by omega))
          have htk : nszL (l.take (j + 1)) = nszL (l.take j) + nsz l[j] := by rw [List.take_succ_eq_append_getElem hjl, nszL_append]; simp [nszL]
          have htk2 : nszL (l.take (j + 1)) ≤ nszL l := nszL_take l _
          obtain ⟨S1, hS1⟩ : ∃ q, q = nszL (l.take j) := ⟨_, rfl⟩
          obtain ⟨S2, hS2⟩ : ∃ q, q = nsz l[j] := ⟨_, rfl⟩
          obtain ⟨S3, hS3⟩ : ∃ q, q = nszL (l.take (j + 1)) := ⟨_, rfl⟩
          obtain ⟨S4, hS4⟩ : ∃ q, q = nszL l := ⟨_, rfl⟩
          rw [← hS1] at hxl htk
          rw [← hS2] at htk hszj HCON
          rw [← hS3] at htk htk2
          rw [← hS4] at htk2 hszt hszj
          have HS3 := Lib.hid hS3
          clear h0 h1 h2 hrd hS1 hS2 hS3 hS4
          go_wp2_with fail
          refine HCON.out.mono ?_
          rintro e w1 ⟨a1, m1, c1, ys, rfl, hb1, hr1, hl1⟩
          obtain ⟨a1', c1', hv1, hyc, hyc2, hel⟩ := hr1.get
          injection hv1 with hv1 hv2 hv3
          subst hv1; subst hv2; subst hv3
          have HEL := Lib.hid hel
          have HROW1 := Lib.hid (HROW.out.keep (w' := w1) (P' := fun q => w.heap.size ≤ q ∧ q < w1.heap.size) (fun q hq => ⟨hq.1, Nat.lt_of_lt_of_le hq.2 hb1.size⟩) fun q hq => hb1.block q hq.2)
          have HB1 := Lib.hid (HBW.out.trans (hb1.mono HBW.out.size))
          have HQ1 := Lib.hid ((hb1.block _ ql).trans HQr.out)
          have hsz1 : w.heap.size + 1 ≤ w1.heap.size := by have := hb1.size; omega
          clear hb1 hr1 hel q0 q1 q2 ql e0 e1 e2
          go_wp2_with fail
          go_loopw [7, 10] (fun vs i wq => ∃ (q : Nat) (zs : List Int), i = .int .i64 q ∧ q ≤ ys.length ∧ RowR (fun p => w.heap.size ≤ p ∧ p < wq.heap.size) wq vs zs ∧ Below w1.heap.size w1 wq ∧ zs.length ≤ xs.length + q) (fun _ i _ => ys.length - (intOf i).toNat)
          case atStart => exact ⟨0, xs, by go_num, Nat.zero_le _, HROW1.out, Below.refl _ _, by simp⟩
          case round =>
            obtain ⟨q, zs, rfl, hq, hrow2, hb2, hzl⟩ := hrel
            have HB2 := Lib.hid hb2
            by_cases hql : q < ys.length
            · obtain ⟨b2, off2, rfl, hP2, h0⟩ := HEL.out q hql
              have e0 := (hb2.cell (p := ⟨b2, off2 + q, none⟩) hP2.2).trans h0
              have hbw2 : b2 < wr.heap.size := Nat.lt_of_lt_of_le hP2.2 hb2.size
              have hqi : (q : Int) < (ys.length : Int) := by omega
              have hq0 : (0 : Int) ≤ (q : Int) := Int.natCast_nonneg _
              have hszw : w1.heap.size ≤ wr.heap.size := hb2.size
              have hput := put_w _ zs ys[q] wr (hrow2.keep (P' := (· < wr.heap.size)) (fun p hp => hp.2) fun _ _ => rfl) (by omega)
              have HPUT := Lib.hid hput
              clear h0 hb2 hrow2 hput
              go_wp2_with fail
              refine HPUT.out.mono ?_
              rintro e w2 ⟨a2, m2', c2, vs2, rfl, hb3, hr3, hm3, hl3⟩
              have HR3 := Lib.hid (hr3.keep (P' := fun p => w.heap.size ≤ p ∧ p < w2.heap.size) (fun p hp => ⟨by have := hp.1; omega, hp.2⟩) fun _ _ => rfl)
              have HB3 := Lib.hid (HB2.out.trans (hb3.mono HB2.out.size))
              clear hb3 hr3 hm3 e0
              go_wp2_with fail
              go_roundw
              case rel => exact ⟨q + 1, vs2, by go_num, by omega, HR3.out, HB3.out, by omega⟩
              case measure =>
                have q' : (intOf (.int .i64 ((q : Int) + 1))).toNat = q + 1 := by show ((q : Int) + 1).toNat = _; omega
                have q2 : (intOf (.int .i64 (q : Int))).toNat = q := by show ((q : Int)).toNat = _; omega
                rw [q', q2]; omega
            · have HROW2 := Lib.hid hrow2
              clear hrow2 hb2
              go_wp2_with fail
              go_roundw
              case rel => exact ⟨j + 1, zs, by go_num, by omega, HROW2.out, HB1.out.trans (HB2.out.mono HB1.out.size), (HB2.out.block _ (three HQ1.out).2.2.2.2).trans HQ1.out, by rw [← HS3.out]; omega⟩
              case measure =>
                have q' : (intOf (.int .i64 ((j : Int) + 1))).toNat = j + 1 := by show ((j : Int) + 1).toNat = _; omega
                have q2 : (intOf (.int .i64 (j : Int))).toNat = j := by show ((j : Int)).toNat = _; omega
                rw [q', q2]; omega
        · have htl : l.take j = l := List.take_of_length_le (by omega)
          rw [htl] at hxl
          have HXL := Lib.hid hxl
          obtain ⟨a4, c4, hv4, -⟩ := HROW.out.get
          subst hv4
          clear hxl htl
          go_wp2_with fail
          go_ret
          exact ⟨_, _, _, _, rfl, HBW.out, HROW.out, by have := HXL.out; simp only [nsz]; omega⟩
    by_cases h7 : k = 7
    · skip
      have h6b : (k == 6) = false := by simp [h6]
      have h7b : (k == 7) = true := by simp [h7]
      clear h6 h7
      obtain ⟨xs0, hxs⟩ : ∃ xs0 : List Int, xs0 = [] := ⟨_, rfl⟩
      have hM : Made w.heap.size ((w.alloc (.cells #[.int .i64 k, .int .i64 x, .slice ao l.length cap] 24)).alloc (.cells #[] 3)) 3 IntV (.slice (some ⟨w.heap.size + 1, 0, none⟩) 0 0) xs0 := by
        rw [hxs]
        have := Made.empty (w.alloc (.cells #[.int .i64 k, .int .i64 x, .slice ao l.length cap] 24)) w.heap.size 3 IntV (by simp)
        rw [World.size_alloc] at this
        exact this
      have hB : Below w.heap.size w ((w.alloc (.cells #[.int .i64 k, .int .i64 x, .slice ao l.length cap] 24)).alloc (.cells #[] 3)) := ((Below.refl _ _).alloc (Nat.le_refl _) _).alloc (by simp) _
      have hxl : xs0.length = 0 := by rw [hxs]; rfl
      have HXS := Lib.hid hxs
      have HQ1 := Lib.hid (show ((w.alloc (.cells #[.int .i64 k, .int .i64 x, .slice ao l.length cap] 24)).alloc (.cells #[] 3)).heap[w.heap.size]? = some (.cells #[.int .i64 k, .int .i64 x, .slice ao l.length cap] 24) from (Below.heap_alloc _ _ _ (by simp)).trans (heap_new _ _ _ rfl))
      clear hxs
      go_enter Try.func60, Try.ntmps60
      obtain ⟨vals, hvo, hvr⟩ := hM
      have hvl : vals.length = xs0.length := by have := hvo.1; omega
      have HVR := Lib.hid hvr
      have HVL := Lib.hid hvl
      have hblk := fun q hq => (hvo.lt q hq).1
      have HBL := Lib.hid hblk
      have HBB := Lib.hid hB
      clear hvr hvl hblk hB
      go_wp2_with (at_builtin; refine wpList_app rfl _ _ 58 rfl w.heap.size 3 i3 (.int .i64 0) 1 8 Try.underlying58 hi3 hx1 hx2 hx3 rfl (by decide) (.slice (some ⟨w.heap.size + 1, 0, none⟩) 0 0) xs0.length vals rfl (hvo.alloc _) ⟨w.heap.size + 1 + 1, 0, none⟩ 1 1 [.int .i64 (x)] rfl rfl (by have h := cell_one_new (((w.alloc (.cells #[.int .i64 k, .int .i64 x, .slice ao l.length cap] 24)).alloc (.cells #[] 3))) (.int .i64 (x)) 3; simp only [World.size_alloc] at h; exact h) (by intro u hu; simp at hu; subst hu; rfl) (by unfold maxLen; omega) (by omega) (by have := HBB.out.size; simp only [World.size_alloc]; omega) ?_)
      intro v4 w4 happ
      have hM : Made w.heap.size w4 3 IntV v4 (xs0 ++ [x]) := by
        have hvr := HVR.out
        have hal : Below ((w.alloc (.cells #[.int .i64 k, .int .i64 x, .slice ao l.length cap] 24)).alloc (.cells #[] 3)).heap.size ((w.alloc (.cells #[.int .i64 k, .int .i64 x, .slice ao l.length cap] 24)).alloc (.cells #[] 3)) (((w.alloc (.cells #[.int .i64 k, .int .i64 x, .slice ao l.length cap] 24)).alloc (.cells #[] 3)).alloc (.cells #[.int .i64 (x)] 3)) := alloc_bel _ _
        exact Made.app keeps_int (W := ((w.alloc (.cells #[.int .i64 k, .int .i64 x, .slice ao l.length cap] 24)).alloc (.cells #[] 3)).alloc (.cells #[.int .i64 (x)] 3)) (fun i hi => hvr i hi) HVL.out (by rw [hxl]; exact happ) rfl rfl
      have hB : Below w.heap.size w w4 := (HBB.out.alloc HBB.out.size (.cells #[.int .i64 (x)] 3)).trans (happ.below (B := w.heap.size) (by have := HBB.out.size; simp only [World.size_alloc]; omega) (fun q hq => HBL.out q hq))
      have hoth := fun q hq hv => (happ.other (b := q) hq hv).1
      clear happ HVR HVL HBL HBB hvo
      have HO := Lib.hid ((hoth w.heap.size (by simp only [World.size_alloc]; omega) (by intro e; injection e with e; have : w.heap.size + 1 = w.heap.size := e; omega)).trans ((Below.heap_alloc _ _ _ (by simp only [World.size_alloc]; omega)).trans HQ1.out))
      clear hoth
      obtain ⟨q0, q1, q2, -, ql⟩ := three HO.out
      have hrow := hM.row (fun q => w.heap.size ≤ q ∧ q < w4.heap.size) (fun g _ h1 h2 => ⟨h1, h2⟩)
      have hzl0 : (xs0 ++ [x]).length = 1 := by rw [List.length_append, hxl]; rfl
      generalize xs0 ++ [x] = zs0 at hrow hzl0
      obtain ⟨a4, c4, hv4, -⟩ := hrow.get
      rw [hzl0] at hv4
      subst hv4
      have HROW0 := Lib.hid hrow
      have HBW0 := Lib.hid hB
      have HXL0 := Lib.hid hzl0
      clear hM hB hrow hxl hzl0
      go_wp2_with fail
      clear q0 q1 q2 ql
      go_loopw [7, 8] (fun vs i wr => ∃ (j : Nat) (xs : List Int), i = .int .i64 j ∧ j ≤ l.length ∧ RowR (fun q => w.heap.size ≤ q ∧ q < wr.heap.size) wr vs xs ∧ Below w.heap.size w wr ∧ wr.heap[w.heap.size]? = some (.cells #[.int .i64 k, .int .i64 x, .slice ao l.length cap] 24) ∧ xs.length ≤ 1 + nszL (l.take j)) (fun _ i _ => l.length - (intOf i).toNat)
      case atStart => exact ⟨0, _, by go_num, Nat.zero_le _, HROW0.out, HBW0.out, HO.out, by rw [HXL0.out]; simp⟩
      case round =>
        obtain ⟨j, xs, rfl, hj, hrow, hb, hqq, hxl⟩ := hrel
        have HBW := Lib.hid hb
        have HQr := Lib.hid hqq
        have HROW := Lib.hid hrow
        clear hb hrow hqq HROW0 HBW0 HO HQ1
        obtain ⟨q0, q1, q2, -, ql⟩ := three HQr.out
        by_cases hjl : j < l.length
        · obtain ⟨b, off, k2, n2, ao2, m2, cap2, rfl, hP, h0, h1, h2, hrd⟩ := HE.out j hjl
          have e0 := (HBW.out.cell (p := ⟨b, off + j * 3, none⟩) hP).trans h0
          have e1 := (HBW.out.cell (p := ⟨b, off + j * 3 + 1, none⟩) hP).trans h1
          have e2 := (HBW.out.cell (p := ⟨b, off + j * 3 + 2, none⟩) hP).trans h2
          have hbw : b < wr.heap.size := Nat.lt_of_lt_of_le hP HBW.out.size
          have hji : (j : Int) < (l.length : Int) := by omega
          have hj0 : (0 : Int) ≤ (j : Int) := Int.natCast_nonneg _
          have hszj : nsz l[j] ≤ nszL l := nszL_get l j hjl
          have hszt : nszL l ≤ 100000 := by have := HSZ.out; simp only [nsz] at this; omega
          have HCON := Lib.hid (IH.out _ l[j] wr (RdN.keep (P := (· < w.heap.size)) (w' := wr) (fun b hb' => Nat.lt_of_lt_of_le hb' HBW.out.size) (fun b hb' => HBW.out.block b hb') d _ _ hrd) (HG.out j hjl) (by omega))
          have htk : nszL (l.take (j + 1)) = nszL (l.take j) + nsz l[j] := by rw [List.take_succ_eq_append_getElem hjl, nszL_append]; simp [nszL]
          have htk2 : nszL (l.take (j + 1)) ≤ nszL l := nszL_take l _
          obtain ⟨S1, hS1⟩ : ∃ q, q = nszL (l.take j) := ⟨_, rfl⟩
          obtain ⟨S2, hS2⟩ : ∃ q, q = nsz l[j] := ⟨_, rfl⟩
          obtain ⟨S3, hS3⟩ : ∃ q, q = nszL (l.take (j + 1)) := ⟨_, rfl⟩
          obtain ⟨S4, hS4⟩ : ∃ q, q = nszL l := ⟨_, rfl⟩
          rw [← hS1] at hxl htk
          rw [← hS2] at htk hszj HCON
          rw [← hS3] at htk htk2
          rw [← hS4] at htk2 hszt hszj
          have HS3 := Lib.hid hS3
          clear h0 h1 h2 hrd hS1 hS2 hS3 hS4
          go_wp2_with fail
          refine HCON.out.mono ?_
          rintro e w1 ⟨a1, m1, c1, ys, rfl, hb1, hr1, hl1⟩
          obtain ⟨a1', c1', hv1, hyc, hyc2, hel⟩ := hr1.get
          injection hv1 with hv1 hv2 hv3
          subst hv1; subst hv2; subst hv3
          have HEL := Lib.hid hel
          have HROW1 := Lib.hid (HROW.out.keep (w' := w1) (P' := fun q => w.heap.size ≤ q ∧ q < w1.heap.size) (fun q hq => ⟨hq.1, Nat.lt_of_lt_of_le hq.2 hb1.size⟩) fun q hq => hb1.block q hq.2)
          have HB1 := Lib.hid (HBW.out.trans (hb1.mono HBW.out.size))
          have HQ1 := Lib.hid ((hb1.block _ ql).trans HQr.out)
          have hsz1 : w.heap.size + 1 ≤ w1.heap.size := by have := hb1.size; omega
          clear hb1 hr1 hel q0 q1 q2 ql e0 e1 e2
          go_wp2_with fail
          go_loopw [7, 10] (fun vs i wq => ∃ (q : Nat) (zs : List Int), i = .int .i64 q ∧ q ≤ ys.length ∧ RowR (fun p => w.heap.size ≤ p ∧ p < wq.heap.size) wq vs zs ∧ Below w1.heap.size w1 wq ∧ zs.length ≤ xs.length + q) (fun _ i _ => ys.length - (intOf i).toNat)
          case atStart => exact ⟨0, xs, by go_num, Nat.zero_le _, HROW1.out, Below.refl _ _, by simp⟩
          case round =>
            obtain ⟨q, zs, rfl, hq, hrow2, hb2, hzl⟩ := hrel
            have HB2 := Lib.hid hb2
            by_cases hql : q < ys.length
            · obtain ⟨b2, off2, rfl, hP2, h0⟩ := HEL.out q hql
              have e0 := (hb2.cell (p := ⟨b2, off2 + q, none⟩) hP2.2).trans h0
              have hbw2 : b2 < wr.heap.size := Nat.lt_of_lt_of_le hP2.2 hb2.size
              have hqi : (q : Int) < (ys.length : Int) := by omega
              have hq0 : (0 : Int) ≤ (q : Int) := Int.natCast_nonneg _
              have hszw : w1.heap.size ≤ wr.heap.size := hb2.size
              have hput := put_w _ zs ys[q] wr (hrow2.keep (P' := (· < wr.heap.size)) (fun p hp => hp.2) fun _ _ => rfl) (by omega)
              have HPUT := Lib.hid hput
              clear h0 hb2 hrow2 hput
              go_wp2_with fail
              refine HPUT.out.mono ?_
              rintro e w2 ⟨a2, m2', c2, vs2, rfl, hb3, hr3, hm3, hl3⟩
              have HR3 := Lib.hid (hr3.keep (P' := fun p => w.heap.size ≤ p ∧ p < w2.heap.size) (fun p hp => ⟨by have := hp.1; omega, hp.2⟩) fun _ _ => rfl)
              have HB3 := Lib.hid (HB2.out.trans (hb3.mono HB2.out.size))
              clear hb3 hr3 hm3 e0
              go_wp2_with fail
              go_roundw
              case rel => exact ⟨q + 1, vs2, by go_num, by omega, HR3.out, HB3.out, by omega⟩
              case measure =>
                have q' : (intOf (.int .i64 ((q : Int) + 1))).toNat = q + 1 := by show ((q : Int) + 1).toNat = _; omega
                have q2 : (intOf (.int .i64 (q : Int))).toNat = q := by show ((q : Int)).toNat = _; omega
                rw [q', q2]; omega
            · have HROW2 := Lib.hid hrow2
              clear hrow2 hb2
              go_wp2_with fail
              go_roundw
              case rel => exact ⟨j + 1, zs, by go_num, by omega, HROW2.out, HB1.out.trans (HB2.out.mono HB1.out.size), (HB2.out.block _ (three HQ1.out).2.2.2.2).trans HQ1.out, by rw [← HS3.out]; omega⟩
              case measure =>
                have q' : (intOf (.int .i64 ((j : Int) + 1))).toNat = j + 1 := by show ((j : Int) + 1).toNat = _; omega
                have q2 : (intOf (.int .i64 (j : Int))).toNat = j := by show ((j : Int)).toNat = _; omega
                rw [q', q2]; omega
        · have htl : l.take j = l := List.take_of_length_le (by omega)
          rw [htl] at hxl
          have HXL := Lib.hid hxl
          obtain ⟨a4, c4, hv4, -⟩ := HROW.out.get
          subst hv4
          clear hxl htl
          go_wp2_with fail
          go_ret
          exact ⟨_, _, _, _, rfl, HBW.out, HROW.out, by have := HXL.out; simp only [nsz]; omega⟩
    have h6b : (k == 6) = false := by simp [h6]
    have h7b : (k == 7) = false := by simp [h7]
    clear h6 h7
    obtain ⟨W, hWd⟩ : ∃ W, W = w.alloc (.cells #[.int .i64 k, .int .i64 x, .slice ao l.length cap] 24) := ⟨_, rfl⟩
    have hq := (show W.heap[w.heap.size]? = some (.cells #[.int .i64 k, .int .i64 x, .slice ao l.length cap] 24) by rw [hWd]; exact heap_new _ _ _ rfl)
    have HQ := Lib.hid ((Below.heap_alloc W (.cells #[] 3) _ (three hq).2.2.2.2).trans hq)
    have hWs : W.heap.size = w.heap.size + 1 := by rw [hWd, World.size_alloc]
    have HBEL := Lib.hid (show Below w.heap.size w (W.alloc (.cells #[] 3)) by rw [hWd]; exact ((alloc_bel _ _).alloc (by simp) _))
    have HWD := Lib.hid hWd
    obtain ⟨q0, q1, q2, -, ql⟩ := three hq
    have HR0 := Lib.hid (show RowR (fun q => w.heap.size ≤ q ∧ q < (W.alloc (.cells #[] 3)).heap.size) (W.alloc (.cells #[] 3)) (.slice (some ⟨w.heap.size + 1, 0, none⟩) 0 0) [] from ⟨_, 0, rfl, Nat.le_refl _, Nat.zero_le _, fun i h => absurd h (Nat.not_lt_zero _)⟩)
    clear hWd hq
    rw [HWD.out] at q0 q1 q2 ql
    go_enter Try.func60, Try.ntmps60
    go_wp2_with fail
    rw [← HWD.out]
    clear q0 q1 q2 ql
    go_loopw [7, 8] (fun vs i wr => ∃ (j : Nat) (xs : List Int), i = .int .i64 j ∧ j ≤ l.length ∧ RowR (fun q => w.heap.size ≤ q ∧ q < wr.heap.size) wr vs xs ∧ Below w.heap.size w wr ∧ wr.heap[w.heap.size]? = some (.cells #[.int .i64 k, .int .i64 x, .slice ao l.length cap] 24) ∧ xs.length ≤ 1 + nszL (l.take j)) (fun _ i _ => l.length - (intOf i).toNat)
    case atStart => exact ⟨0, [], by go_num, Nat.zero_le _, HR0.out, HBEL.out, HQ.out, by simp⟩
    case round =>
      obtain ⟨j, xs, rfl, hj, hrow, hb, hqq, hxl⟩ := hrel
      have HBW := Lib.hid hb
      have HQr := Lib.hid hqq
      have HROW := Lib.hid hrow
      clear hb hrow hqq HR0 HBEL HQ
      obtain ⟨q0, q1, q2, -, ql⟩ := three HQr.out
      by_cases hjl : j < l.length
      · obtain ⟨b, off, k2, n2, ao2, m2, cap2, rfl, hP, h0, h1, h2, hrd⟩ := HE.out j hjl
        have e0 := (HBW.out.cell (p := ⟨b, off + j * 3, none⟩) hP).trans h0
        have e1 := (HBW.out.cell (p := ⟨b, off + j * 3 + 1, none⟩) hP).trans h1
        have e2 := (HBW.out.cell (p := ⟨b, off + j * 3 + 2, none⟩) hP).trans h2
        have hbw : b < wr.heap.size := Nat.lt_of_lt_of_le hP HBW.out.size
        have hji : (j : Int) < (l.length : Int) := by omega
        have hj0 : (0 : Int) ≤ (j : Int) := Int.natCast_nonneg _
        have hszj : nsz l[j] ≤ nszL l := nszL_get l j hjl
        have hszt : nszL l ≤ 100000 := by have := HSZ.out; simp only [nsz] at this; omega
        have HCON := Lib.hid (IH.out _ l[j] wr (RdN.keep (P := (· < w.heap.size)) (w' := wr) (fun b hb' => Nat.lt_of_lt_of_le hb' HBW.out.size) (fun b hb' => HBW.out.block b hb') d _ _ hrd) (HG.out j hjl) (by omega))
        have htk : nszL (l.take (j + 1)) = nszL (l.take j) + nsz l[j] := by rw [List.take_succ_eq_append_getElem hjl, nszL_append]; simp [nszL]
        have htk2 : nszL (l.take (j + 1)) ≤ nszL l := nszL_take l _
        obtain ⟨S1, hS1⟩ : ∃ q, q = nszL (l.take j) := ⟨_, rfl⟩
        obtain ⟨S2, hS2⟩ : ∃ q, q = nsz l[j] := ⟨_, rfl⟩
        obtain ⟨S3, hS3⟩ : ∃ q, q = nszL (l.take (j + 1)) := ⟨_, rfl⟩
        obtain ⟨S4, hS4⟩ : ∃ q, q = nszL l := ⟨_, rfl⟩
        rw [← hS1] at hxl htk
        rw [← hS2] at htk hszj HCON
        rw [← hS3] at htk htk2
        rw [← hS4] at htk2 hszt hszj
        have HS3 := Lib.hid hS3
        clear h0 h1 h2 hrd hS1 hS2 hS3 hS4
        go_wp2_with fail
        refine HCON.out.mono ?_
        rintro e w1 ⟨a1, m1, c1, ys, rfl, hb1, hr1, hl1⟩
        obtain ⟨a1', c1', hv1, hyc, hyc2, hel⟩ := hr1.get
        injection hv1 with hv1 hv2 hv3
        subst hv1; subst hv2; subst hv3
        have HEL := Lib.hid hel
        have HROW1 := Lib.hid (HROW.out.keep (w' := w1) (P' := fun q => w.heap.size ≤ q ∧ q < w1.heap.size) (fun q hq => ⟨hq.1, Nat.lt_of_lt_of_le hq.2 hb1.size⟩) fun q hq => hb1.block q hq.2)
        have HB1 := Lib.hid (HBW.out.trans (hb1.mono HBW.out.size))
        have HQ1 := Lib.hid ((hb1.block _ ql).trans HQr.out)
        have hsz1 : w.heap.size + 1 ≤ w1.heap.size := by have := hb1.size; omega
        clear hb1 hr1 hel q0 q1 q2 ql e0 e1 e2
        go_wp2_with fail
        go_loopw [7, 10] (fun vs i wq => ∃ (q : Nat) (zs : List Int), i = .int .i64 q ∧ q ≤ ys.length ∧ RowR (fun p => w.heap.size ≤ p ∧ p < wq.heap.size) wq vs zs ∧ Below w1.heap.size w1 wq ∧ zs.length ≤ xs.length + q) (fun _ i _ => ys.length - (intOf i).toNat)
        case atStart => exact ⟨0, xs, by go_num, Nat.zero_le _, HROW1.out, Below.refl _ _, by simp⟩
        case round =>
          obtain ⟨q, zs, rfl, hq, hrow2, hb2, hzl⟩ := hrel
          have HB2 := Lib.hid hb2
          by_cases hql : q < ys.length
          · obtain ⟨b2, off2, rfl, hP2, h0⟩ := HEL.out q hql
            have e0 := (hb2.cell (p := ⟨b2, off2 + q, none⟩) hP2.2).trans h0
            have hbw2 : b2 < wr.heap.size := Nat.lt_of_lt_of_le hP2.2 hb2.size
            have hqi : (q : Int) < (ys.length : Int) := by omega
            have hq0 : (0 : Int) ≤ (q : Int) := Int.natCast_nonneg _
            have hszw : w1.heap.size ≤ wr.heap.size := hb2.size
            have hput := put_w _ zs ys[q] wr (hrow2.keep (P' := (· < wr.heap.size)) (fun p hp => hp.2) fun _ _ => rfl) (by omega)
            have HPUT := Lib.hid hput
            clear h0 hb2 hrow2 hput
            go_wp2_with fail
            refine HPUT.out.mono ?_
            rintro e w2 ⟨a2, m2', c2, vs2, rfl, hb3, hr3, hm3, hl3⟩
            have HR3 := Lib.hid (hr3.keep (P' := fun p => w.heap.size ≤ p ∧ p < w2.heap.size) (fun p hp => ⟨by have := hp.1; omega, hp.2⟩) fun _ _ => rfl)
            have HB3 := Lib.hid (HB2.out.trans (hb3.mono HB2.out.size))
            clear hb3 hr3 hm3 e0
            go_wp2_with fail
            go_roundw
            case rel => exact ⟨q + 1, vs2, by go_num, by omega, HR3.out, HB3.out, by omega⟩
            case measure =>
              have q' : (intOf (.int .i64 ((q : Int) + 1))).toNat = q + 1 := by show ((q : Int) + 1).toNat = _; omega
              have q2 : (intOf (.int .i64 (q : Int))).toNat = q := by show ((q : Int)).toNat = _; omega
              rw [q', q2]; omega
          · have HROW2 := Lib.hid hrow2
            clear hrow2 hb2
            go_wp2_with fail
            go_roundw
            case rel => exact ⟨j + 1, zs, by go_num, by omega, HROW2.out, HB1.out.trans (HB2.out.mono HB1.out.size), (HB2.out.block _ (three HQ1.out).2.2.2.2).trans HQ1.out, by rw [← HS3.out]; omega⟩
            case measure =>
              have q' : (intOf (.int .i64 ((j : Int) + 1))).toNat = j + 1 := by show ((j : Int) + 1).toNat = _; omega
              have q2 : (intOf (.int .i64 (j : Int))).toNat = j := by show ((j : Int)).toNat = _; omega
              rw [q', q2]; omega
      · have htl : l.take j = l := List.take_of_length_le (by omega)
        rw [htl] at hxl
        have HXL := Lib.hid hxl
        obtain ⟨a4, c4, hv4, -⟩ := HROW.out.get
        subst hv4
        clear hxl htl
        go_wp2_with fail
        go_ret
        exact ⟨_, _, _, _, rfl, HBW.out, HROW.out, by have := HXL.out; simp only [nsz]; omega⟩
/-- what Right tells, as far as it is asked here -/
def AnsR7 (w : World) (t : Tm) (e : Ending) (w' : World) : Prop := ∃ b : Bool, e = .returned (.bool b) ∧ Below w.heap.size w w' ∧ (b = true → Shp t = true ∧ loo t 0 ≤ 0)
set_option maxRecDepth 100000 in
set_option maxHeartbeats 1000000 in
theorem Right_w (v : Value) (t : Tm) (w : World) (hr : Rd (· < w.heap.size) w v t) :
    Calls Try.prog 70 #[v, .int .i64 0, .int .i64 1048577] w (AnsR7 w t) := by
  obtain ⟨ao, cap, rfl⟩ := hr.shape
  obtain ⟨W, hW⟩ : ∃ W, W = w.alloc (.cells #[.int .i64 t.kind, .int .i64 t.num, .slice ao t.sub.length cap] 24) := ⟨_, rfl⟩
  have hb0 : Below w.heap.size w W := by rw [hW]; exact alloc_bel _ _
  have Q := Lib.hid (show W.heap[w.heap.size]? = some (.cells #[.int .i64 t.kind, .int .i64 t.num, .slice ao t.sub.length cap] 24) by rw [hW]; exact heap_new _ _ _ rfl)
  have T := Lib.hid (hr.on hb0)
  have FB0 := Lib.hid hb0
  have HW := Lib.hid hW
  have hs := refShaped_r (hr.on hb0)
  clear hW hb0 hr
  cases hsh : Shp t
  · rw [hsh] at hs
    have HS := Lib.hid hs
    clear hs hsh
    go_enter Try.func70, Try.ntmps70
    go_wp2_with fail
    rw [← HW.out]
    refine HS.out.mono ?_
    rintro e w1 ⟨rfl, hb⟩
    go_wp2_with fail
    go_ret
    exact ⟨false, rfl, FB0.out.trans (hb.mono FB0.out.size), fun h => by cases h⟩
  rw [hsh] at hs
  have HS := Lib.hid hs
  have HSH := Lib.hid hsh
  obtain ⟨hn1, hn2, hgd⟩ := (Shp_iff t).1 hsh
  have HGD := Lib.hid hgd
  have HN1 := Lib.hid hn1
  have HN2 := Lib.hid hn2
  clear hs hsh hgd hn1 hn2
  obtain ⟨L, hL⟩ : ∃ L, L = loo t 0 := ⟨_, rfl⟩
  have hL0 : 0 ≤ L := by rw [hL]; exact loo_nn _ _
  have hL1 : L ≤ 1048577 := by rw [hL]; exact loo_le t HGD.out 0 (by omega)
  have HL := Lib.hid hL
  clear hL
  go_enter Try.func70, Try.ntmps70
  go_wp2_with fail
  rw [← HW.out]
  refine HS.out.mono ?_
  rintro e w1 ⟨rfl, hb1⟩
  have hl := Loose_w (dep t) _ t 0 w1 ((T.out.on hb1).fit) HGD.out (by omega) (by have := HN2.out; omega)
  rw [← HL.out] at hl
  have HLO := Lib.hid hl
  have HB1 := Lib.hid (FB0.out.trans (hb1.mono FB0.out.size))
  have T1 := Lib.hid (T.out.on hb1)
  have Q1 := Lib.hid ((hb1.block _ (blt Q.out)).trans Q.out)
  clear hl hb1
  obtain ⟨q0, q1, q2, -, -⟩ := three Q1.out
  go_wp2_with fail
  refine HLO.out.mono ?_
  rintro e w2 ⟨rfl, hb2⟩
  have HB2 := Lib.hid (HB1.out.trans (hb2.mono HB1.out.size))
  have T2 := Lib.hid (T1.out.on hb2)
  have Q2 := Lib.hid ((hb2.block _ (blt Q1.out)).trans Q1.out)
  clear q0 q1 q2 hb2
  by_cases hgt : 0 < L
  · go_wp2_with fail
    go_ret
    exact ⟨false, rfl, HB2.out, fun h => by cases h⟩
  obtain ⟨q0, q1, q2, -, -⟩ := three Q2.out
  have hnu := Numbers67_w (dep t) _ t w2 (T2.out.fit) HGD.out (by have := HN1.out; omega)
  have HNU := Lib.hid hnu
  clear hnu
  have hL00 : L = 0 := by omega
  subst hL00
  have HL2 := Lib.hid (show loo t 0 ≤ 0 by rw [← HL.out]; omega)
  clear HL HLO
  go_wp2_with fail
  refine HNU.out.mono ?_
  rintro e w3 ⟨a1, m1, c1, ys, rfl, hb3, hr3, hl3⟩
  obtain ⟨a1', c1', hv1, hyc, hyc2, hel⟩ := hr3.get
  injection hv1 with hv1 hv2 hv3
  subst hv1; subst hv2; subst hv3
  have HB3 := Lib.hid (HB2.out.trans (hb3.mono HB2.out.size))
  have HEL := Lib.hid hel
  have hyl : ys.length ≤ 9223372036854775807 := by unfold maxLen at hyc2; omega
  clear q0 q1 q2 hb3 hr3 hel hl3
  go_wp2_with fail
  go_loop [8] (fun i => ∃ k : Nat, i = .int .i64 k ∧ k ≤ ys.length) (fun i => ys.length - (intOf i).toNat)
  case atStart => exact ⟨0, rfl, Nat.zero_le _⟩
  case round =>
    obtain ⟨k, rfl, hk⟩ := hrel
    by_cases hlt : k < ys.length
    · obtain ⟨b, off, rfl, hP, hc⟩ := HEL.out k hlt
      obtain ⟨z, hz⟩ : ∃ z, z = ys[k] := ⟨_, rfl⟩
      rw [← hz] at hc
      clear hz
      by_cases hz2 : 1048577 ≤ z
      · go_wp2_with fail
        go_ret
        exact ⟨false, rfl, HB3.out, fun h => by cases h⟩
      · go_wp2_with fail
        go_round
        case rel => exact ⟨k + 1, by go_num, by omega⟩
        case measure => simp [intOf]; omega
    · have hkl : k = ys.length := by omega
      go_wp2_with fail
      go_ret
      exact ⟨true, rfl, HB3.out, fun _ => ⟨HSH.out, HL2.out⟩⟩
end Go.Proofs.Ythjlfjaciigfiaa
namespace Go.Proofs.Ythjlfjaciigfiaa
open Go.RowKit
set_option linter.unusedVariables false
set_option linter.unusedSimpArgs false

/-- a list, a term and an error are answered (the list's length in sight) -/
def AnsS3 (w : World) (l : List Tm) (t : Tm) (c : Int) (e : Ending) (w' : World) : Prop :=
  ∃ al cl k n ao m c', e = .returned (.tuple #[.slice al l.length cl, .agg #[.int .i64 k, .int .i64 n, .slice ao m c'], .int .i64 c]) ∧ Below w.heap.size w w' ∧ Ts (· < w'.heap.size) w' (.slice al l.length cl) l ∧
    Rd (· < w'.heap.size) w' (.agg #[.int .i64 k, .int .i64 n, .slice ao m c']) t
theorem AnsS.three {w w' : World} {l : List Tm} {t : Tm} {c : Int} {e : Ending} (h : AnsS w (l, t, c) e w') : AnsS3 w l t c e w' := by
  obtain ⟨al, ml, cl, k, n, ao, m, c', rfl, hb, hl, hr⟩ := h
  have hl0 := hl
  obtain ⟨al', cl', hv, -⟩ := hl0
  injection hv with h1 h2 h3
  subst h1; subst h2; subst h3
  exact ⟨_, _, _, _, _, _, _, rfl, hb, hl, hr⟩
theorem AnsSF.three {w w' : World} {l : List Tm} {t : Tm} {c : Int} {e : Ending} (h : AnsSF w (l, t, c) e w') : AnsS3 w l t c e w' := by
  obtain ⟨al, ml, cl, k, n, ao, m, c', rfl, hb, hl, hr⟩ := h
  exact AnsS.three ⟨_, _, _, _, _, _, _, _, rfl, hb, hl.keep (fun q hq => hq.2) (fun _ _ => rfl), hr.keep (fun q hq => hq.2) (fun _ _ => rfl)⟩
theorem Whole_q {w : World} {v : Value} {t a : Tm} {l : List Tm} {c : Int} (hq : splitR t (pis 25 t : Nat) = (l, a, c)) (h : Rd (· < w.heap.size) w v t) : Calls Try.prog 47 #[v] w (AnsS3 w l a c) := by
  have := Whole_w v t w h; rw [hq] at this; exact this.mono fun _ _ h => h.three
theorem SameAll_q {w : World} {v v' : Value} {l : List Tm} (h : Ts (· < w.heap.size) w v l) (h' : Ts (· < w.heap.size) w v' l) : Calls Try.prog 34 #[v, v'] w (Ans w (.bool true)) := by
  have := SameAll_w v v' l l w h h'; rwa [(eqTs_iff l l).mpr rfl] at this
theorem Equal_q {w : World} {v v' : Value} {t : Tm} (h : Rd (· < w.heap.size) w v t) (h' : Rd (· < w.heap.size) w v' t) : Calls Try.prog 46 #[v, v'] w (Ans w (.bool true)) := by
  have := Equal_r h h'; rwa [eqT_refl] at this
theorem Pis_q {w : World} {vl v : Value} {l : List Tm} {t a : Tm} {c : Int} (hq : aroundR 3 l t = (a, c)) (hl : Ts (· < w.heap.size) w vl l) (h : Rd (· < w.heap.size) w v t) : Calls Try.prog 36 #[vl, v] w (AnsTE w a c) := by
  have := Pis_w vl v l t w hl h; rwa [hq] at this
theorem Result_q {w : World} {vl v : Value} {l : List Tm} {t a : Tm} {c : Int} (hq : resultR t l = (a, c)) (hlen : l.length ≤ 1000000) (hl : Ts (· < w.heap.size) w vl l) (h : Rd (· < w.heap.size) w v t) : Calls Try.prog 64 #[v, vl] w (AnsTE w a c) := by
  have := Result_w v t vl l w h hl hlen; rwa [hq] at this
theorem around_ok {l : List Tm} {t p : Tm} (h : aroundR 3 l t = (p, 0)) : Shp t = true ∧ p = arnd 3 l t ∧ Shp p = true := by
  unfold aroundR at h
  split at h
  · injection h with _ h; cases h
  · split at h
    · split at h
      · rename_i h1 h2
        injection h with h _
        rw [Bool.and_eq_true] at h1
        exact ⟨h1.2, h.symm, h ▸ h2⟩
      · injection h with _ h; cases h
    · injection h with _ h; cases h
set_option maxRecDepth 100000 in
set_option maxHeartbeats 2000000 in
theorem teleBack_walk (vl : Value) (l : List Tm) (va : Value) (args : List Tm) (v : Value) (t : Tm) (w : World) (hl : Ts (· < w.heap.size) w vl l) (ha : Ts (· < w.heap.size) w va args) (hr : Rd (· < w.heap.size) w v t) :
    Calls Try.prog 22 #[vl, va, v] w fun e w' => e = .returned (.bool true) ∧ Below w.heap.size w w' := by
  obtain ⟨ao, cap, rfl⟩ := hr.shape
  have hb0 := alloc_bel w (.cells #[.int .i64 t.kind, .int .i64 t.num, .slice ao t.sub.length cap] 24)
  have FB := Lib.hid hb0
  have T := Lib.hid (hr.on hb0)
  have Q := Lib.hid (heap_new w (.cells #[.int .i64 t.kind, .int .i64 t.num, .slice ao t.sub.length cap] 24) _ rfl)
  have TL := Lib.hid (hl.on hb0)
  have TA := Lib.hid (ha.on hb0)
  obtain ⟨aol, capl, rfl, hlc, hlc2, -⟩ := hl.elem
  obtain ⟨aoa, capa, rfl, hac, hac2, he⟩ := ha.elem
  have HE := Lib.hid he
  clear hl ha he hb0 hr
  by_cases h24 : 24 < l.length
  · skip
    go_enter Try.func22, Try.ntmps22
    obtain ⟨Q0, Q1, Q2, Qf, -⟩ := three Q.out
    go_wp2_with fail
    clear Q0 Q1 Q2 Qf
    refine (awake35_w _).mono ?_
    rintro e w1 ⟨rfl, hb⟩
    replace FB := Lib.hid (FB.out.trans (hb.mono FB.out.size))
    replace TL := Lib.hid (TL.out.on hb)
    replace TA := Lib.hid (TA.out.on hb)
    replace T := Lib.hid (T.out.on hb)
    replace Q := Lib.hid ((hb.block _ (blt Q.out)).trans Q.out)
    clear hb
    go_wp2_with fail
    go_ret
    exact ⟨rfl, FB.out⟩
  have hdb : decide ((24 : Int) < (l.length : Int)) = false := by simp; omega
  by_cases hk : t.kind = 3
  · skip
    have hkb : (t.kind == 3) = true := by simp [hk]
    clear hk
    go_enter Try.func22, Try.ntmps22
    obtain ⟨Q0, Q1, Q2, Qf, -⟩ := three Q.out
    go_wp2_with fail
    clear Q0 Q1 Q2 Qf
    refine (awake35_w _).mono ?_
    rintro e w1 ⟨rfl, hb⟩
    replace FB := Lib.hid (FB.out.trans (hb.mono FB.out.size))
    replace TL := Lib.hid (TL.out.on hb)
    replace TA := Lib.hid (TA.out.on hb)
    replace T := Lib.hid (T.out.on hb)
    replace Q := Lib.hid ((hb.block _ (blt Q.out)).trans Q.out)
    clear hb
    go_wp2_with fail
    go_ret
    exact ⟨rfl, FB.out⟩
  have hkb : (t.kind == 3) = false := by simp [hk]
  have HK := Lib.hid hk
  clear hk
  obtain ⟨p, c, hP⟩ : ∃ p c, aroundR 3 l t = (p, c) := ⟨_, _, rfl⟩
  by_cases hc : c = 0
  rotate_left
  · skip
    have hq : (c != 0) = true := by simp [hc]
    have HP := Lib.hid hP
    clear hc hP
    go_enter Try.func22, Try.ntmps22
    obtain ⟨Q0, Q1, Q2, Qf, -⟩ := three Q.out
    go_wp2_with fail
    clear Q0 Q1 Q2 Qf
    refine (Pis_q HP.out TL.out T.out).mono ?_
    rintro e w1 ⟨k1, n1, ao1, m1, c1, rfl, hb, hr⟩
    obtain ⟨hb1, B1, R1, -⟩ := boxed hb hr
    clear hb hr
    replace FB := Lib.hid (FB.out.trans (hb1.mono FB.out.size))
    replace TL := Lib.hid (TL.out.on hb1)
    replace TA := Lib.hid (TA.out.on hb1)
    replace T := Lib.hid (T.out.on hb1)
    replace Q := Lib.hid ((hb1.block _ (blt Q.out)).trans Q.out)
    replace B1 := Lib.hid B1
    replace R1 := Lib.hid R1
    clear hb1
    go_wp2_with fail
    refine (awake35_w _).mono ?_
    rintro e w2 ⟨rfl, hb⟩
    replace FB := Lib.hid (FB.out.trans (hb.mono FB.out.size))
    replace TL := Lib.hid (TL.out.on hb)
    replace TA := Lib.hid (TA.out.on hb)
    replace T := Lib.hid (T.out.on hb)
    replace Q := Lib.hid ((hb.block _ (blt Q.out)).trans Q.out)
    replace B1 := Lib.hid ((hb.block _ (blt B1.out)).trans B1.out)
    replace R1 := Lib.hid (R1.out.on hb)
    clear hb
    go_wp2_with fail
    go_ret
    exact ⟨rfl, FB.out⟩
  subst hc
  obtain ⟨hst, hpe, hsp⟩ := around_ok hP
  have hsplit : splitR p (pis 25 p : Nat) = (l, t, 0) := by
    rw [hpe]; exact split_arnd (by rw [← hpe]; exact hsp) (by omega) HK.out
  have HP := Lib.hid hP
  have HPE := Lib.hid hpe
  have HSP := Lib.hid hsp
  have HST := Lib.hid hst
  have HSPL := Lib.hid hsplit
  clear hP hpe hsp hst hsplit
  by_cases hlen : args.length = l.length
  rotate_left
  · skip
    have hnn : ((args.length : Int) != (l.length : Int)) = true := by simp; omega
    clear hlen
    go_enter Try.func22, Try.ntmps22
    obtain ⟨Q0, Q1, Q2, Qf, -⟩ := three Q.out
    go_wp2_with fail
    clear Q0 Q1 Q2 Qf
    refine (Pis_q HP.out TL.out T.out).mono ?_
    rintro e w1 ⟨k1, n1, ao1, m1, c1, rfl, hb, hr⟩
    obtain ⟨hb1, B1, R1, -⟩ := boxed hb hr
    clear hb hr
    replace FB := Lib.hid (FB.out.trans (hb1.mono FB.out.size))
    replace TL := Lib.hid (TL.out.on hb1)
    replace TA := Lib.hid (TA.out.on hb1)
    replace T := Lib.hid (T.out.on hb1)
    replace Q := Lib.hid ((hb1.block _ (blt Q.out)).trans Q.out)
    replace B1 := Lib.hid B1
    replace R1 := Lib.hid R1
    clear hb1
    obtain ⟨B10, B11, B12, B1f, -⟩ := three B1.out
    go_wp2_with fail
    clear B10 B11 B12 B1f
    refine (Whole_q HSPL.out R1.out).mono ?_
    rintro e w2 ⟨al2, cl2, k2, n2, ao2, m2, c2, rfl, hb, hl, hr⟩
    obtain ⟨hb2, B2, R2, -⟩ := boxedR hb hr
    have L2 := Lib.hid (Ts.on hl (alloc_bel w2 (.cells #[.int .i64 k2, .int .i64 n2, .slice ao2 m2 c2] 24)))
    clear hb hl hr
    replace FB := Lib.hid (FB.out.trans (hb2.mono FB.out.size))
    replace TL := Lib.hid (TL.out.on hb2)
    replace TA := Lib.hid (TA.out.on hb2)
    replace T := Lib.hid (T.out.on hb2)
    replace Q := Lib.hid ((hb2.block _ (blt Q.out)).trans Q.out)
    replace B1 := Lib.hid ((hb2.block _ (blt B1.out)).trans B1.out)
    replace R1 := Lib.hid (R1.out.on hb2)
    replace B2 := Lib.hid B2
    replace R2 := Lib.hid R2
    clear hb2
    go_wp2_with fail
    refine (SameAll_q L2.out TL.out).mono ?_
    rintro e w3 ⟨rfl, hb⟩
    replace FB := Lib.hid (FB.out.trans (hb.mono FB.out.size))
    replace TL := Lib.hid (TL.out.on hb)
    replace TA := Lib.hid (TA.out.on hb)
    replace T := Lib.hid (T.out.on hb)
    replace Q := Lib.hid ((hb.block _ (blt Q.out)).trans Q.out)
    replace B1 := Lib.hid ((hb.block _ (blt B1.out)).trans B1.out)
    replace R1 := Lib.hid (R1.out.on hb)
    replace B2 := Lib.hid ((hb.block _ (blt B2.out)).trans B2.out)
    replace R2 := Lib.hid (R2.out.on hb)
    replace L2 := Lib.hid (L2.out.on hb)
    clear hb
    obtain ⟨B20, B21, B22, B2f, -⟩ := three B2.out
    obtain ⟨Q0, Q1, Q2, Qf, -⟩ := three Q.out
    go_wp2_with fail
    clear B20 B21 B22 B2f Q0 Q1 Q2 Qf
    refine (Equal_q R2.out T.out).mono ?_
    rintro e w4 ⟨rfl, hb⟩
    replace FB := Lib.hid (FB.out.trans (hb.mono FB.out.size))
    replace TL := Lib.hid (TL.out.on hb)
    replace TA := Lib.hid (TA.out.on hb)
    replace T := Lib.hid (T.out.on hb)
    replace Q := Lib.hid ((hb.block _ (blt Q.out)).trans Q.out)
    replace B1 := Lib.hid ((hb.block _ (blt B1.out)).trans B1.out)
    replace R1 := Lib.hid (R1.out.on hb)
    replace B2 := Lib.hid ((hb.block _ (blt B2.out)).trans B2.out)
    replace R2 := Lib.hid (R2.out.on hb)
    replace L2 := Lib.hid (L2.out.on hb)
    clear hb
    go_wp2_with fail
    refine (awake35_w _).mono ?_
    rintro e w5 ⟨rfl, hb⟩
    replace FB := Lib.hid (FB.out.trans (hb.mono FB.out.size))
    replace TL := Lib.hid (TL.out.on hb)
    replace TA := Lib.hid (TA.out.on hb)
    replace T := Lib.hid (T.out.on hb)
    replace Q := Lib.hid ((hb.block _ (blt Q.out)).trans Q.out)
    replace B1 := Lib.hid ((hb.block _ (blt B1.out)).trans B1.out)
    replace R1 := Lib.hid (R1.out.on hb)
    replace B2 := Lib.hid ((hb.block _ (blt B2.out)).trans B2.out)
    replace R2 := Lib.hid (R2.out.on hb)
    replace L2 := Lib.hid (L2.out.on hb)
    clear hb
    go_wp2_with fail
    go_ret
    exact ⟨rfl, FB.out⟩
  have hnn : ((args.length : Int) != (l.length : Int)) = false := by simp [hlen]
  have HLEN := Lib.hid hlen
  have hal : args.length ≤ 1000000 := by omega
  clear hlen
  go_enter Try.func22, Try.ntmps22
  obtain ⟨Q0, Q1, Q2, Qf, -⟩ := three Q.out
  go_wp2_with fail
  clear Q0 Q1 Q2 Qf
  refine (Pis_q HP.out TL.out T.out).mono ?_
  rintro e w1 ⟨k1, n1, ao1, m1, c1, rfl, hb, hr⟩
  obtain ⟨hb1, B1, R1, -⟩ := boxed hb hr
  clear hb hr
  replace FB := Lib.hid (FB.out.trans (hb1.mono FB.out.size))
  replace TL := Lib.hid (TL.out.on hb1)
  replace TA := Lib.hid (TA.out.on hb1)
  replace T := Lib.hid (T.out.on hb1)
  replace Q := Lib.hid ((hb1.block _ (blt Q.out)).trans Q.out)
  replace B1 := Lib.hid B1
  replace R1 := Lib.hid R1
  clear hb1
  obtain ⟨B10, B11, B12, B1f, -⟩ := three B1.out
  go_wp2_with fail
  clear B10 B11 B12 B1f
  refine (Whole_q HSPL.out R1.out).mono ?_
  rintro e w2 ⟨al2, cl2, k2, n2, ao2, m2, c2, rfl, hb, hl, hr⟩
  obtain ⟨hb2, B2, R2, -⟩ := boxedR hb hr
  have L2 := Lib.hid (Ts.on hl (alloc_bel w2 (.cells #[.int .i64 k2, .int .i64 n2, .slice ao2 m2 c2] 24)))
  clear hb hl hr
  replace FB := Lib.hid (FB.out.trans (hb2.mono FB.out.size))
  replace TL := Lib.hid (TL.out.on hb2)
  replace TA := Lib.hid (TA.out.on hb2)
  replace T := Lib.hid (T.out.on hb2)
  replace Q := Lib.hid ((hb2.block _ (blt Q.out)).trans Q.out)
  replace B1 := Lib.hid ((hb2.block _ (blt B1.out)).trans B1.out)
  replace R1 := Lib.hid (R1.out.on hb2)
  replace B2 := Lib.hid B2
  replace R2 := Lib.hid R2
  clear hb2
  go_wp2_with fail
  refine (SameAll_q L2.out TL.out).mono ?_
  rintro e w3 ⟨rfl, hb⟩
  replace FB := Lib.hid (FB.out.trans (hb.mono FB.out.size))
  replace TL := Lib.hid (TL.out.on hb)
  replace TA := Lib.hid (TA.out.on hb)
  replace T := Lib.hid (T.out.on hb)
  replace Q := Lib.hid ((hb.block _ (blt Q.out)).trans Q.out)
  replace B1 := Lib.hid ((hb.block _ (blt B1.out)).trans B1.out)
  replace R1 := Lib.hid (R1.out.on hb)
  replace B2 := Lib.hid ((hb.block _ (blt B2.out)).trans B2.out)
  replace R2 := Lib.hid (R2.out.on hb)
  replace L2 := Lib.hid (L2.out.on hb)
  clear hb
  obtain ⟨B20, B21, B22, B2f, -⟩ := three B2.out
  obtain ⟨Q0, Q1, Q2, Qf, -⟩ := three Q.out
  go_wp2_with fail
  clear B20 B21 B22 B2f Q0 Q1 Q2 Qf
  refine (Equal_q R2.out T.out).mono ?_
  rintro e w4 ⟨rfl, hb⟩
  replace FB := Lib.hid (FB.out.trans (hb.mono FB.out.size))
  replace TL := Lib.hid (TL.out.on hb)
  replace TA := Lib.hid (TA.out.on hb)
  replace T := Lib.hid (T.out.on hb)
  replace Q := Lib.hid ((hb.block _ (blt Q.out)).trans Q.out)
  replace B1 := Lib.hid ((hb.block _ (blt B1.out)).trans B1.out)
  replace R1 := Lib.hid (R1.out.on hb)
  replace B2 := Lib.hid ((hb.block _ (blt B2.out)).trans B2.out)
  replace R2 := Lib.hid (R2.out.on hb)
  replace L2 := Lib.hid (L2.out.on hb)
  clear hb
  go_wp2_with fail
  have HS0 := Lib.hid (Below.refl w4.heap.size w4)
  go_loopw [12] (fun i wr => ∃ j : Nat, i = .int .i64 j ∧ j ≤ args.length ∧ Below w4.heap.size w4 wr ∧ ∀ j' (hj : j' < args.length), j' < j → Shp args[j'] = true ∧ loo args[j'] 0 ≤ 0) (fun i _ => args.length - (intOf i).toNat)
  case atStart => exact ⟨0, rfl, Nat.zero_le _, HS0.out, fun _ _ h => absurd h (Nat.not_lt_zero _)⟩
  case round =>
    obtain ⟨j, rfl, hj, hb, hall⟩ := hrel
    have HALL := Lib.hid hall
    have HBr := Lib.hid hb
    clear hall HS0
    replace FB := Lib.hid (FB.out.trans (hb.mono FB.out.size))
    replace TL := Lib.hid (TL.out.on hb)
    replace TA := Lib.hid (TA.out.on hb)
    replace T := Lib.hid (T.out.on hb)
    replace Q := Lib.hid ((hb.block _ (blt Q.out)).trans Q.out)
    replace B1 := Lib.hid ((hb.block _ (blt B1.out)).trans B1.out)
    replace R1 := Lib.hid (R1.out.on hb)
    replace B2 := Lib.hid ((hb.block _ (blt B2.out)).trans B2.out)
    replace R2 := Lib.hid (R2.out.on hb)
    replace L2 := Lib.hid (L2.out.on hb)
    clear hb
    by_cases hjl : j < args.length
    · skip
      obtain ⟨be, off, k0, n0, ao0, m0, c0, rfl, hPb, h0, h1, h2, hrd⟩ := HE.out j hjl
      have e0 := (FB.out.cell (p := ⟨be, off + j * 3, none⟩) hPb).trans h0
      have e1 := (FB.out.cell (p := ⟨be, off + j * 3 + 1, none⟩) hPb).trans h1
      have e2 := (FB.out.cell (p := ⟨be, off + j * 3 + 2, none⟩) hPb).trans h2
      have hbw : be < wr.heap.size := Nat.lt_of_lt_of_le hPb FB.out.size
      have hji : (j : Int) < (args.length : Int) := by omega
      have hj0 : (0 : Int) ≤ (j : Int) := Int.natCast_nonneg _
      have hcon := Right_w _ _ wr (hrd.keep (P' := (· < wr.heap.size)) (w' := wr) (fun q hq => Nat.lt_of_lt_of_le hq FB.out.size) fun q hq => FB.out.block q hq)
      have HCON := Lib.hid hcon
      clear h0 h1 h2 hrd hcon
      go_wp2_with fail
      refine HCON.out.mono ?_
      rintro e w8 ⟨bb, rfl, hb, hok⟩
      have HOK := Lib.hid hok
      clear hok e0 e1 e2 HCON
      replace FB := Lib.hid (FB.out.trans (hb.mono FB.out.size))
      replace TL := Lib.hid (TL.out.on hb)
      replace TA := Lib.hid (TA.out.on hb)
      replace T := Lib.hid (T.out.on hb)
      replace Q := Lib.hid ((hb.block _ (blt Q.out)).trans Q.out)
      replace B1 := Lib.hid ((hb.block _ (blt B1.out)).trans B1.out)
      replace R1 := Lib.hid (R1.out.on hb)
      replace B2 := Lib.hid ((hb.block _ (blt B2.out)).trans B2.out)
      replace R2 := Lib.hid (R2.out.on hb)
      replace L2 := Lib.hid (L2.out.on hb)
      replace HBr := Lib.hid (HBr.out.trans (hb.mono HBr.out.size))
      clear hb
      cases bb
      · skip
        go_wp2_with fail
        refine (awake35_w _).mono ?_
        rintro e w5 ⟨rfl, hb⟩
        replace FB := Lib.hid (FB.out.trans (hb.mono FB.out.size))
        replace TL := Lib.hid (TL.out.on hb)
        replace TA := Lib.hid (TA.out.on hb)
        replace T := Lib.hid (T.out.on hb)
        replace Q := Lib.hid ((hb.block _ (blt Q.out)).trans Q.out)
        replace B1 := Lib.hid ((hb.block _ (blt B1.out)).trans B1.out)
        replace R1 := Lib.hid (R1.out.on hb)
        replace B2 := Lib.hid ((hb.block _ (blt B2.out)).trans B2.out)
        replace R2 := Lib.hid (R2.out.on hb)
        replace L2 := Lib.hid (L2.out.on hb)
        replace HBr := Lib.hid (HBr.out.trans (hb.mono HBr.out.size))
        clear hb
        go_wp2_with fail
        go_ret
        exact ⟨rfl, FB.out⟩
      · skip
        go_wp2_with fail
        go_roundw
        case rel => exact ⟨j + 1, by go_num, by omega, HBr.out, fun j' h' hj' => by
          by_cases hjj : j' = j
          · subst hjj; exact HOK.out (by trivial)
          · exact HALL.out j' h' (by omega)⟩
        case measure =>
          have q : (intOf (.int .i64 ((j : Int) + 1))).toNat = j + 1 := by show ((j : Int) + 1).toNat = _; omega
          have q2 : (intOf (.int .i64 (j : Int))).toNat = j := by show ((j : Int)).toNat = _; omega
          rw [q, q2]; omega
    have HA := Lib.hid (show ∀ a ∈ args, Shp a = true ∧ loo a 0 ≤ 0 from fun a ha => by
      obtain ⟨i, hi, rfl⟩ := List.getElem_of_mem ha
      exact HALL.out i hi (by omega))
    have hjj : j = args.length := by omega
    obtain ⟨x, cx, hX⟩ : ∃ x c, resultR p args = (x, c) := ⟨_, _, rfl⟩
    obtain ⟨y, cy, hY⟩ : ∃ x c, manyR t args.reverse = (x, c) := ⟨_, _, rfl⟩
    have hres : resL args (arnd 3 l t) = (x, cx) := by rw [← hX]; unfold resultR; rw [if_pos HSP.out, HPE.out]
    have hcx : cx = 0 ∨ cx = 2 := by
      have := res_code args l t (fun a ha => (HA.out a ha).1) HLEN.out (by rw [← HPE.out]; exact HSP.out)
      rwa [hres] at this
    have hcy : cy = 0 ∨ cy = 2 := by
      have := manyR_code (t := t) (l := args.reverse) HST.out (by rw [List.all_eq_true]; exact fun a ha => (HA.out a (List.mem_reverse.1 ha)).1)
      rwa [hY] at this
    have HX := Lib.hid hX
    have HY := Lib.hid hY
    have HRES := Lib.hid hres
    clear hX hY hres
    obtain ⟨B10, B11, B12, B1f, -⟩ := three B1.out
    obtain ⟨Q0, Q1, Q2, Qf, -⟩ := three Q.out
    go_wp2_with fail
    clear B10 B11 B12 B1f Q0 Q1 Q2 Qf
    clear hjj hjl hj
    rcases hcx with rfl | rfl
    · rcases hcy with rfl | rfl
      · skip
        have hxy : x = y := back_same ((Shp_iff t).1 HST.out).2.2 (fun a ha => ⟨((Shp_iff a).1 (HA.out a ha).1).2.2, (HA.out a ha).2⟩) HLEN.out HRES.out HY.out
        subst hxy
        refine (Result_q HX.out hal TA.out R1.out).mono ?_
        rintro e w5 ⟨k5, n5, ao5, m5, c5, rfl, hb, hr⟩
        obtain ⟨hb5, B5, R5, -⟩ := boxed hb hr
        clear hb hr
        replace FB := Lib.hid (FB.out.trans (hb5.mono FB.out.size))
        replace TL := Lib.hid (TL.out.on hb5)
        replace TA := Lib.hid (TA.out.on hb5)
        replace T := Lib.hid (T.out.on hb5)
        replace Q := Lib.hid ((hb5.block _ (blt Q.out)).trans Q.out)
        replace B1 := Lib.hid ((hb5.block _ (blt B1.out)).trans B1.out)
        replace R1 := Lib.hid (R1.out.on hb5)
        replace B2 := Lib.hid ((hb5.block _ (blt B2.out)).trans B2.out)
        replace R2 := Lib.hid (R2.out.on hb5)
        replace L2 := Lib.hid (L2.out.on hb5)
        replace HBr := Lib.hid (HBr.out.trans (hb5.mono HBr.out.size))
        replace B5 := Lib.hid B5
        replace R5 := Lib.hid R5
        clear hb5
        obtain ⟨Q0, Q1, Q2, Qf, -⟩ := three Q.out
        go_wp2_with fail
        clear Q0 Q1 Q2 Qf
        refine (Fill_q HY.out hal TA.out T.out).mono ?_
        rintro e w6 ⟨k6, n6, ao6, m6, c6, rfl, hb, hr⟩
        obtain ⟨hb6, B6, R6, -⟩ := boxed hb hr
        clear hb hr
        replace FB := Lib.hid (FB.out.trans (hb6.mono FB.out.size))
        replace TL := Lib.hid (TL.out.on hb6)
        replace TA := Lib.hid (TA.out.on hb6)
        replace T := Lib.hid (T.out.on hb6)
        replace Q := Lib.hid ((hb6.block _ (blt Q.out)).trans Q.out)
        replace B1 := Lib.hid ((hb6.block _ (blt B1.out)).trans B1.out)
        replace R1 := Lib.hid (R1.out.on hb6)
        replace B2 := Lib.hid ((hb6.block _ (blt B2.out)).trans B2.out)
        replace R2 := Lib.hid (R2.out.on hb6)
        replace L2 := Lib.hid (L2.out.on hb6)
        replace HBr := Lib.hid (HBr.out.trans (hb6.mono HBr.out.size))
        replace B5 := Lib.hid ((hb6.block _ (blt B5.out)).trans B5.out)
        replace R5 := Lib.hid (R5.out.on hb6)
        replace B6 := Lib.hid B6
        replace R6 := Lib.hid R6
        clear hb6
        obtain ⟨B50, B51, B52, B5f, -⟩ := three B5.out
        obtain ⟨B60, B61, B62, B6f, -⟩ := three B6.out
        go_wp2_with fail
        clear B50 B51 B52 B5f B60 B61 B62 B6f
        refine (Equal_q R5.out R6.out).mono ?_
        rintro e w7 ⟨rfl, hb⟩
        replace FB := Lib.hid (FB.out.trans (hb.mono FB.out.size))
        replace TL := Lib.hid (TL.out.on hb)
        replace TA := Lib.hid (TA.out.on hb)
        replace T := Lib.hid (T.out.on hb)
        replace Q := Lib.hid ((hb.block _ (blt Q.out)).trans Q.out)
        replace B1 := Lib.hid ((hb.block _ (blt B1.out)).trans B1.out)
        replace R1 := Lib.hid (R1.out.on hb)
        replace B2 := Lib.hid ((hb.block _ (blt B2.out)).trans B2.out)
        replace R2 := Lib.hid (R2.out.on hb)
        replace L2 := Lib.hid (L2.out.on hb)
        replace HBr := Lib.hid (HBr.out.trans (hb.mono HBr.out.size))
        replace B5 := Lib.hid ((hb.block _ (blt B5.out)).trans B5.out)
        replace R5 := Lib.hid (R5.out.on hb)
        replace B6 := Lib.hid ((hb.block _ (blt B6.out)).trans B6.out)
        replace R6 := Lib.hid (R6.out.on hb)
        clear hb
        go_wp2_with fail
        refine (awake35_w _).mono ?_
        rintro e w8 ⟨rfl, hb⟩
        replace FB := Lib.hid (FB.out.trans (hb.mono FB.out.size))
        replace TL := Lib.hid (TL.out.on hb)
        replace TA := Lib.hid (TA.out.on hb)
        replace T := Lib.hid (T.out.on hb)
        replace Q := Lib.hid ((hb.block _ (blt Q.out)).trans Q.out)
        replace B1 := Lib.hid ((hb.block _ (blt B1.out)).trans B1.out)
        replace R1 := Lib.hid (R1.out.on hb)
        replace B2 := Lib.hid ((hb.block _ (blt B2.out)).trans B2.out)
        replace R2 := Lib.hid (R2.out.on hb)
        replace L2 := Lib.hid (L2.out.on hb)
        replace HBr := Lib.hid (HBr.out.trans (hb.mono HBr.out.size))
        replace B5 := Lib.hid ((hb.block _ (blt B5.out)).trans B5.out)
        replace R5 := Lib.hid (R5.out.on hb)
        replace B6 := Lib.hid ((hb.block _ (blt B6.out)).trans B6.out)
        replace R6 := Lib.hid (R6.out.on hb)
        clear hb
        go_wp2_with fail
        go_ret
        exact ⟨rfl, FB.out⟩
      · skip
        refine (Result_q HX.out hal TA.out R1.out).mono ?_
        rintro e w5 ⟨k5, n5, ao5, m5, c5, rfl, hb, hr⟩
        obtain ⟨hb5, B5, R5, -⟩ := boxed hb hr
        clear hb hr
        replace FB := Lib.hid (FB.out.trans (hb5.mono FB.out.size))
        replace TL := Lib.hid (TL.out.on hb5)
        replace TA := Lib.hid (TA.out.on hb5)
        replace T := Lib.hid (T.out.on hb5)
        replace Q := Lib.hid ((hb5.block _ (blt Q.out)).trans Q.out)
        replace B1 := Lib.hid ((hb5.block _ (blt B1.out)).trans B1.out)
        replace R1 := Lib.hid (R1.out.on hb5)
        replace B2 := Lib.hid ((hb5.block _ (blt B2.out)).trans B2.out)
        replace R2 := Lib.hid (R2.out.on hb5)
        replace L2 := Lib.hid (L2.out.on hb5)
        replace HBr := Lib.hid (HBr.out.trans (hb5.mono HBr.out.size))
        replace B5 := Lib.hid B5
        replace R5 := Lib.hid R5
        clear hb5
        obtain ⟨Q0, Q1, Q2, Qf, -⟩ := three Q.out
        go_wp2_with fail
        clear Q0 Q1 Q2 Qf
        refine (Fill_q HY.out hal TA.out T.out).mono ?_
        rintro e w6 ⟨k6, n6, ao6, m6, c6, rfl, hb, hr⟩
        obtain ⟨hb6, B6, R6, -⟩ := boxed hb hr
        clear hb hr
        replace FB := Lib.hid (FB.out.trans (hb6.mono FB.out.size))
        replace TL := Lib.hid (TL.out.on hb6)
        replace TA := Lib.hid (TA.out.on hb6)
        replace T := Lib.hid (T.out.on hb6)
        replace Q := Lib.hid ((hb6.block _ (blt Q.out)).trans Q.out)
        replace B1 := Lib.hid ((hb6.block _ (blt B1.out)).trans B1.out)
        replace R1 := Lib.hid (R1.out.on hb6)
        replace B2 := Lib.hid ((hb6.block _ (blt B2.out)).trans B2.out)
        replace R2 := Lib.hid (R2.out.on hb6)
        replace L2 := Lib.hid (L2.out.on hb6)
        replace HBr := Lib.hid (HBr.out.trans (hb6.mono HBr.out.size))
        replace B5 := Lib.hid ((hb6.block _ (blt B5.out)).trans B5.out)
        replace R5 := Lib.hid (R5.out.on hb6)
        replace B6 := Lib.hid B6
        replace R6 := Lib.hid R6
        clear hb6
        go_wp2_with fail
        refine (awake35_w _).mono ?_
        rintro e w7 ⟨rfl, hb⟩
        replace FB := Lib.hid (FB.out.trans (hb.mono FB.out.size))
        replace TL := Lib.hid (TL.out.on hb)
        replace TA := Lib.hid (TA.out.on hb)
        replace T := Lib.hid (T.out.on hb)
        replace Q := Lib.hid ((hb.block _ (blt Q.out)).trans Q.out)
        replace B1 := Lib.hid ((hb.block _ (blt B1.out)).trans B1.out)
        replace R1 := Lib.hid (R1.out.on hb)
        replace B2 := Lib.hid ((hb.block _ (blt B2.out)).trans B2.out)
        replace R2 := Lib.hid (R2.out.on hb)
        replace L2 := Lib.hid (L2.out.on hb)
        replace HBr := Lib.hid (HBr.out.trans (hb.mono HBr.out.size))
        replace B5 := Lib.hid ((hb.block _ (blt B5.out)).trans B5.out)
        replace R5 := Lib.hid (R5.out.on hb)
        replace B6 := Lib.hid ((hb.block _ (blt B6.out)).trans B6.out)
        replace R6 := Lib.hid (R6.out.on hb)
        clear hb
        go_wp2_with fail
        go_ret
        exact ⟨rfl, FB.out⟩
    · rcases hcy with rfl | rfl
      · skip
        refine (Result_q HX.out hal TA.out R1.out).mono ?_
        rintro e w5 ⟨k5, n5, ao5, m5, c5, rfl, hb, hr⟩
        obtain ⟨hb5, B5, R5, -⟩ := boxed hb hr
        clear hb hr
        replace FB := Lib.hid (FB.out.trans (hb5.mono FB.out.size))
        replace TL := Lib.hid (TL.out.on hb5)
        replace TA := Lib.hid (TA.out.on hb5)
        replace T := Lib.hid (T.out.on hb5)
        replace Q := Lib.hid ((hb5.block _ (blt Q.out)).trans Q.out)
        replace B1 := Lib.hid ((hb5.block _ (blt B1.out)).trans B1.out)
        replace R1 := Lib.hid (R1.out.on hb5)
        replace B2 := Lib.hid ((hb5.block _ (blt B2.out)).trans B2.out)
        replace R2 := Lib.hid (R2.out.on hb5)
        replace L2 := Lib.hid (L2.out.on hb5)
        replace HBr := Lib.hid (HBr.out.trans (hb5.mono HBr.out.size))
        replace B5 := Lib.hid B5
        replace R5 := Lib.hid R5
        clear hb5
        obtain ⟨Q0, Q1, Q2, Qf, -⟩ := three Q.out
        go_wp2_with fail
        clear Q0 Q1 Q2 Qf
        refine (Fill_q HY.out hal TA.out T.out).mono ?_
        rintro e w6 ⟨k6, n6, ao6, m6, c6, rfl, hb, hr⟩
        obtain ⟨hb6, B6, R6, -⟩ := boxed hb hr
        clear hb hr
        replace FB := Lib.hid (FB.out.trans (hb6.mono FB.out.size))
        replace TL := Lib.hid (TL.out.on hb6)
        replace TA := Lib.hid (TA.out.on hb6)
        replace T := Lib.hid (T.out.on hb6)
        replace Q := Lib.hid ((hb6.block _ (blt Q.out)).trans Q.out)
        replace B1 := Lib.hid ((hb6.block _ (blt B1.out)).trans B1.out)
        replace R1 := Lib.hid (R1.out.on hb6)
        replace B2 := Lib.hid ((hb6.block _ (blt B2.out)).trans B2.out)
        replace R2 := Lib.hid (R2.out.on hb6)
        replace L2 := Lib.hid (L2.out.on hb6)
        replace HBr := Lib.hid (HBr.out.trans (hb6.mono HBr.out.size))
        replace B5 := Lib.hid ((hb6.block _ (blt B5.out)).trans B5.out)
        replace R5 := Lib.hid (R5.out.on hb6)
        replace B6 := Lib.hid B6
        replace R6 := Lib.hid R6
        clear hb6
        go_wp2_with fail
        refine (awake35_w _).mono ?_
        rintro e w7 ⟨rfl, hb⟩
        replace FB := Lib.hid (FB.out.trans (hb.mono FB.out.size))
        replace TL := Lib.hid (TL.out.on hb)
        replace TA := Lib.hid (TA.out.on hb)
        replace T := Lib.hid (T.out.on hb)
        replace Q := Lib.hid ((hb.block _ (blt Q.out)).trans Q.out)
        replace B1 := Lib.hid ((hb.block _ (blt B1.out)).trans B1.out)
        replace R1 := Lib.hid (R1.out.on hb)
        replace B2 := Lib.hid ((hb.block _ (blt B2.out)).trans B2.out)
        replace R2 := Lib.hid (R2.out.on hb)
        replace L2 := Lib.hid (L2.out.on hb)
        replace HBr := Lib.hid (HBr.out.trans (hb.mono HBr.out.size))
        replace B5 := Lib.hid ((hb.block _ (blt B5.out)).trans B5.out)
        replace R5 := Lib.hid (R5.out.on hb)
        replace B6 := Lib.hid ((hb.block _ (blt B6.out)).trans B6.out)
        replace R6 := Lib.hid (R6.out.on hb)
        clear hb
        go_wp2_with fail
        go_ret
        exact ⟨rfl, FB.out⟩
      · skip
        refine (Result_q HX.out hal TA.out R1.out).mono ?_
        rintro e w5 ⟨k5, n5, ao5, m5, c5, rfl, hb, hr⟩
        obtain ⟨hb5, B5, R5, -⟩ := boxed hb hr
        clear hb hr
        replace FB := Lib.hid (FB.out.trans (hb5.mono FB.out.size))
        replace TL := Lib.hid (TL.out.on hb5)
        replace TA := Lib.hid (TA.out.on hb5)
        replace T := Lib.hid (T.out.on hb5)
        replace Q := Lib.hid ((hb5.block _ (blt Q.out)).trans Q.out)
        replace B1 := Lib.hid ((hb5.block _ (blt B1.out)).trans B1.out)
        replace R1 := Lib.hid (R1.out.on hb5)
        replace B2 := Lib.hid ((hb5.block _ (blt B2.out)).trans B2.out)
        replace R2 := Lib.hid (R2.out.on hb5)
        replace L2 := Lib.hid (L2.out.on hb5)
        replace HBr := Lib.hid (HBr.out.trans (hb5.mono HBr.out.size))
        replace B5 := Lib.hid B5
        replace R5 := Lib.hid R5
        clear hb5
        obtain ⟨Q0, Q1, Q2, Qf, -⟩ := three Q.out
        go_wp2_with fail
        clear Q0 Q1 Q2 Qf
        refine (Fill_q HY.out hal TA.out T.out).mono ?_
        rintro e w6 ⟨k6, n6, ao6, m6, c6, rfl, hb, hr⟩
        obtain ⟨hb6, B6, R6, -⟩ := boxed hb hr
        clear hb hr
        replace FB := Lib.hid (FB.out.trans (hb6.mono FB.out.size))
        replace TL := Lib.hid (TL.out.on hb6)
        replace TA := Lib.hid (TA.out.on hb6)
        replace T := Lib.hid (T.out.on hb6)
        replace Q := Lib.hid ((hb6.block _ (blt Q.out)).trans Q.out)
        replace B1 := Lib.hid ((hb6.block _ (blt B1.out)).trans B1.out)
        replace R1 := Lib.hid (R1.out.on hb6)
        replace B2 := Lib.hid ((hb6.block _ (blt B2.out)).trans B2.out)
        replace R2 := Lib.hid (R2.out.on hb6)
        replace L2 := Lib.hid (L2.out.on hb6)
        replace HBr := Lib.hid (HBr.out.trans (hb6.mono HBr.out.size))
        replace B5 := Lib.hid ((hb6.block _ (blt B5.out)).trans B5.out)
        replace R5 := Lib.hid (R5.out.on hb6)
        replace B6 := Lib.hid B6
        replace R6 := Lib.hid R6
        clear hb6
        go_wp2_with fail
        refine (awake35_w _).mono ?_
        rintro e w7 ⟨rfl, hb⟩
        replace FB := Lib.hid (FB.out.trans (hb.mono FB.out.size))
        replace TL := Lib.hid (TL.out.on hb)
        replace TA := Lib.hid (TA.out.on hb)
        replace T := Lib.hid (T.out.on hb)
        replace Q := Lib.hid ((hb.block _ (blt Q.out)).trans Q.out)
        replace B1 := Lib.hid ((hb.block _ (blt B1.out)).trans B1.out)
        replace R1 := Lib.hid (R1.out.on hb)
        replace B2 := Lib.hid ((hb.block _ (blt B2.out)).trans B2.out)
        replace R2 := Lib.hid (R2.out.on hb)
        replace L2 := Lib.hid (L2.out.on hb)
        replace HBr := Lib.hid (HBr.out.trans (hb.mono HBr.out.size))
        replace B5 := Lib.hid ((hb.block _ (blt B5.out)).trans B5.out)
        replace R5 := Lib.hid (R5.out.on hb)
        replace B6 := Lib.hid ((hb.block _ (blt B6.out)).trans B6.out)
        replace R6 := Lib.hid (R6.out.on hb)
        clear hb
        go_wp2_with fail
        go_ret
        exact ⟨rfl, FB.out⟩
end Go.Proofs.Ythjlfjaciigfiaa
