/-
  term.size, Size, deep, Depth: contracts of the walk, at any term that can be read.
-/
import Derived.Test.YthjlfjaciigfiaaRows
import Derived.Test.YthjlfjaciigfiaaTm
import Derived.WalkLawsBesides
import Derived.WalkSpells
import Derived.Outline
namespace Go.Proofs.Ythjlfjaciigfiaa
open Go.RowKit
set_option linter.unusedVariables false
set_option linter.unusedSimpArgs false

/-- an answer, and no old memory written -/
def Ans (w : World) (v : Value) (e : Ending) (w' : World) : Prop := e = .returned v ∧ Below w.heap.size w w'

set_option maxHeartbeats 1000000 in
theorem size_w : ∀ (d : Nat) (v : Value) (t : Tm) (h : Nat) (w : World), RdN (· < w.heap.size) w d v t → h ≤ 8192 →
    Calls Try.prog 126 #[v, .int .i64 h] w (Ans w (.int .i64 (sz t h))) := by
  intro d
  induction d with
  | zero => intro v t h w hr; exact absurd hr (fun h => h)
  | succ d ih =>
    rintro v ⟨k, n, l⟩ h w hr hh
    obtain ⟨ao, cap, rfl, hlm, hk, hn, he⟩ := hr.open
    clear hr
    have IH := Lib.hid ih
    have HE := Lib.hid he
    clear ih he hk hn
    simp only [sz]
    go_enter Try.func126, Try.ntmps126
    go_wp2_with fail
    go_loopw [1, 12] (fun c i wr => ∃ (g j : Nat), c = .int .i64 g ∧ i = .int .i64 j ∧ j ≤ l.length ∧ g ≤ 8193 ∧ szL (l.drop j) g = szL l (h + 1) ∧ Below w.heap.size w wr) (fun _ i _ => l.length - (intOf i).toNat)
    case atStart => exact ⟨h + 1, 0, by go_num, rfl, Nat.zero_le _, by omega, rfl, (Below.refl _ _).alloc (Nat.le_refl _) _⟩
    case round =>
      obtain ⟨g, j, rfl, rfl, hj, hg, hsz, hb⟩ := hrel
      have HSZ := Lib.hid hsz
      clear hsz
      by_cases hjl : j < l.length
      · obtain ⟨b, off, k2, n2, ao2, m2, cap2, rfl, hP, h0, h1, h2, hrd⟩ := HE.out j hjl
        have e0 := (hb.cell (p := ⟨b, off + j * 3, none⟩) hP).trans h0
        have e1 := (hb.cell (p := ⟨b, off + j * 3 + 1, none⟩) hP).trans h1
        have e2 := (hb.cell (p := ⟨b, off + j * 3 + 2, none⟩) hP).trans h2
        have hbw : b < wr.heap.size := Nat.lt_of_lt_of_le hP hb.size
        clear h0 h1 h2
        by_cases hg2 : 8192 < g
        · go_wp2_with fail
          go_ret
          have q := HSZ.out
          rw [List.drop_eq_getElem_cons hjl] at q
          simp only [szL, hg2, ↓reduceIte] at q
          exact ⟨by rw [← q]; rfl, hb.alloc hb.size _⟩
        · go_wp2_with fail
          refine (IH.out _ l[j] g _ (RdN.keep (P := (· < w.heap.size)) (fun b hb' => ?_) (fun b hb' => ?_) d _ _ hrd) (by omega)).mono ?_
          · exact Nat.lt_of_lt_of_le hb' (hb.alloc hb.size _).size
          · exact (hb.alloc hb.size _).block b hb'
          rintro e w3 ⟨rfl, hb3⟩
          go_wp2_with fail
          have hx := sz_le l[j] g (by omega)
          go_roundw
          case rel =>
            refine ⟨sz l[j] g, j + 1, by go_num, rfl, by omega, hx.1, ?_, ?_⟩
            · have q := HSZ.out
              rw [List.drop_eq_getElem_cons hjl] at q
              simp only [szL, hg2, ↓reduceIte] at q
              exact q
            · exact (hb.alloc hb.size _).trans (hb3.mono (hb.alloc hb.size _).size)
          case measure =>
            have q : (intOf (.int .i64 ((j : Int) + 1))).toNat = j + 1 := by show ((j : Int) + 1).toNat = _; omega
            have q2 : (intOf (.int .i64 (j : Int))).toNat = j := by show ((j : Int)).toNat = _; omega
            rw [q, q2]; omega
      · go_wp2_with fail
        go_ret
        have q := HSZ.out
        rw [List.drop_of_length_le (by omega)] at q
        simp only [szL] at q
        exact ⟨by rw [← q]; rfl, hb⟩
end Go.Proofs.Ythjlfjaciigfiaa
