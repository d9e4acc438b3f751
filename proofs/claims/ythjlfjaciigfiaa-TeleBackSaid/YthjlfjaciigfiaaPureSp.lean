/-
  Splitting off outermost types. Plain; no program.
-/
import Derived.Test.YthjlfjaciigfiaaAwake10
import Derived.Test.YthjlfjaciigfiaaSames
namespace Go.Proofs.Ythjlfjaciigfiaa
open Go.RowKit
set_option linter.unusedVariables false
set_option linter.unusedSimpArgs false

def spl : Nat → Tm → Option (List Tm × Tm)
  | 0, t => some ([], t)
  | n + 1, .node k x l => if k = 3 then (match l with | [a, b] => (spl n b).map fun p => (a :: p.1, p.2) | _ => none) else none
def splitR (t : Tm) (n : Int) : List Tm × Tm × Int :=
  if Shp t = true ∧ 0 ≤ n then (if 24 < n then ([], tm0, 2) else (match spl n.toNat t with | some p => (p.1, p.2, 0) | none => ([], tm0, 6))) else ([], tm0, 5)
/-- how many outermost types, up to so many -/
def pis : Nat → Tm → Nat
  | 0, _ => 0
  | f + 1, .node k x l => if k = 3 then (match l with | [a, b] => pis f b + 1 | _ => 0) else 0

theorem gd_pi {x : Int} {l : List Tm} (h : gd (.node 3 x l) = true) : ∃ a b, l = [a, b] ∧ gd a = true ∧ gd b = true := by
  have hs := gd_sub h
  simp only [gd, Bool.and_eq_true] at h
  have := ((hd_iff 3 x l).mp h.1).2.2.1
  have q : subsOf 3 = 2 := by decide
  match l, (show l.length = 2 by omega), hs with
  | [a, b], _, hs => exact ⟨a, b, rfl, hs 0 (by simp), hs 1 (by simp)⟩
theorem spl_step {n : Nat} {x : Int} {a b : Tm} : spl (n + 1) (.node 3 x [a, b]) = (spl n b).map fun p => (a :: p.1, p.2) := by simp [spl]
theorem spl_no {n : Nat} {t : Tm} (h : t.kind ≠ 3) : spl (n + 1) t = none := by
  cases t with
  | node k x l => simp [spl, show k ≠ 3 from h]
theorem pis_min : ∀ (f d : Nat) (t : Tm), dep t ≤ d → pis f t = min (pis d t) f
  | 0, d, t, _ => by simp [pis]
  | f + 1, 0, t, h => by have := dep_pos t; omega
  | f + 1, d + 1, .node k x l, h => by
    simp only [pis]
    split
    · split
      · rename_i a b
        have h2 : dep b ≤ d := by simp only [dep, depL] at h; omega
        rw [pis_min f d b h2]; omega
      · omega
    · omega
theorem split_whole {t : Tm} {d : Nat} (hs : Shp t = true) (hd : dep t ≤ d) : splitR t (pis 25 t : Nat) = splitR t (pis d t : Nat) := by
  have := pis_min 25 d t hd
  by_cases h : pis d t ≤ 24
  · rw [show pis 25 t = pis d t by omega]
  · have e1 : splitR t (pis 25 t : Nat) = ([], tm0, 2) := by
      unfold splitR; rw [if_pos ⟨hs, Int.natCast_nonneg _⟩, if_pos (by omega)]
    have e2 : splitR t (pis d t : Nat) = ([], tm0, 2) := by
      unfold splitR; rw [if_pos ⟨hs, Int.natCast_nonneg _⟩, if_pos (by omega)]
    rw [e1, e2]

/-- a list, a term and an error are answered -/
def AnsS (w : World) (r : List Tm × Tm × Int) (e : Ending) (w' : World) : Prop :=
  ∃ al ml cl k n ao m c, e = .returned (.tuple #[.slice al ml cl, .agg #[.int .i64 k, .int .i64 n, .slice ao m c], .int .i64 r.2.2]) ∧ Below w.heap.size w w' ∧ Ts (· < w'.heap.size) w' (.slice al ml cl) r.1 ∧
    Rd (· < w'.heap.size) w' (.agg #[.int .i64 k, .int .i64 n, .slice ao m c]) r.2.1

/-- the two subs' cells of a type of functions in memory -/
theorem pi_cells {P : Nat → Prop} {w : World} {k x : Int} {s : Value} {n : Int} {a b : Tm} (h : Rd P w (.agg #[.int .i64 k, .int .i64 x, s]) (.node 3 n [a, b])) :
    ∃ g off cap ka na aoa ma ca kb nb aob mb cb, s = .slice (some ⟨g, off, none⟩) 2 cap ∧ 2 ≤ cap ∧ P g ∧
      w.cell? ⟨g, off, none⟩ = some (.int .i64 ka) ∧ w.cell? ⟨g, off + 1, none⟩ = some (.int .i64 na) ∧ w.cell? ⟨g, off + 2, none⟩ = some (.slice aoa ma ca) ∧ Rd P w (.agg #[.int .i64 ka, .int .i64 na, .slice aoa ma ca]) a ∧
      w.cell? ⟨g, off + 3, none⟩ = some (.int .i64 kb) ∧ w.cell? ⟨g, off + 3 + 1, none⟩ = some (.int .i64 nb) ∧ w.cell? ⟨g, off + 3 + 2, none⟩ = some (.slice aob mb cb) ∧ Rd P w (.agg #[.int .i64 kb, .int .i64 nb, .slice aob mb cb]) b := by
  obtain ⟨-, -, hs, -, -⟩ := h.subs
  obtain ⟨d, hs⟩ := subR_depth hs
  obtain ⟨ao, cap, rfl, -, hc, -, he⟩ := hs.open
  obtain ⟨g, off, ka, na, aoa, ma, ca, rfl, hP, q0, q1, q2, qa⟩ := he 0 (by simp)
  obtain ⟨g', off', kb, nb, aob, mb, cb, e, hP', r0, r1, r2, qb⟩ := he 1 (by simp)
  injection e with e; injection e with e1 e2; subst e1; subst e2
  exact ⟨g, off, cap, ka, na, aoa, ma, ca, kb, nb, aob, mb, cb, rfl, hc, hP, by simpa using q0, by simpa using q1, by simpa using q2, ⟨d, qa⟩, by simpa using r0, by simpa using r1, by simpa using r2, ⟨d, qb⟩⟩
end Go.Proofs.Ythjlfjaciigfiaa
