/-
  Text, Falls, the program's and the document's: contracts, at any right matrix (Text, Falls: at any matrix).
-/
import Derived.Test.YtfcmkhjimgpppaaRight
import Derived.Test.YtfcmkhjimgpppaaSq
import Derived.Laws.BytesArg
import Derived.LoopN
import Derived.Deep.DeepCutAuto
import Derived.Deep.LoopGhost
namespace Go.Proofs.Ytfcmkhjimgpppaa
open Go.RowKit
set_option linter.unusedVariables false
set_option linter.unusedSimpArgs false

def sym (x : Int) : Int := if x = 0 then 63 else if x = 1 then 61 else 60
def txt (m : List (List Int)) : Nat → List Int
  | 0 => []
  | k + 1 => txt m k ++ (if 0 < k then [47] else []) ++ (m.getD k []).map sym

def ByteV (_ : Nat → Prop) (_ : World) (u : Value) (x : Int) : Prop := u = .int .u8 x
theorem keeps_byte : Keeps ByteV := fun _ _ _ _ _ _ h _ _ => h
theorem info5 : (Try.prog.info? 5).map (fun i => (i.zero, i.size, i.bytes)) = some (some (.int .u8 0), 1, 1) := by kernel_rfl

theorem sx0 (w : World) : (Instr.index 55 (.agg #[.int .u8 63, .int .u8 61, .int .u8 60]) (.int .i64 0)).run Try.prog w = .ok (.int .u8 63) w := by kernel_rfl
theorem sx1 (w : World) : (Instr.index 55 (.agg #[.int .u8 63, .int .u8 61, .int .u8 60]) (.int .i64 1)).run Try.prog w = .ok (.int .u8 61) w := by kernel_rfl
theorem sx2 (w : World) : (Instr.index 55 (.agg #[.int .u8 63, .int .u8 61, .int .u8 60]) (.int .i64 2)).run Try.prog w = .ok (.int .u8 60) w := by kernel_rfl
theorem sx (x : Int) (h : 0 ≤ x ∧ x ≤ 2) (w : World) : (Instr.index 55 (.agg #[.int .u8 63, .int .u8 61, .int .u8 60]) (.int .i64 x)).run Try.prog w = .ok (.int .u8 (sym x)) w := by
  have : x = 0 ∨ x = 1 ∨ x = 2 := by omega
  rcases this with rfl | rfl | rfl
  · exact sx0 w
  · exact sx1 w
  · exact sx2 w

theorem Made.str {base : Nat} {w : World} {v : Value} {l : List Int} (h : Made base w 5 ByteV v l) : (convert 54 9 v).run Try.prog w = .ok (.string (strOfNums l)) w := by
  obtain ⟨vals, h1, h2⟩ := h
  rcases h1.2 with ⟨rfl, h0⟩ | ⟨g, cap, cur, rfl, hb, hg, hnc, hcm, hcs, ht⟩
  · rw [List.eq_nil_of_length_eq_zero h0]
    exact run_convert_bytes_nil w 54 5 Try.underlying54 Try.underlying5 0 0 9 Try.underlying9
  · refine run_convert_bytes_arg w 54 5 Try.underlying54 Try.underlying5 g 0 l.length cap l rfl (fun i hi => ?_) 9 Try.underlying9
    obtain ⟨u, hu, -, hr⟩ := h2 i hi
    have := h1.cells (g := g) rfl i u hu
    rw [Addr.add_lit] at this
    rw [this, hr, List.getD_eq_getElem?_getD, List.getElem?_eq_getElem hi]
    rfl

theorem txt_le (m : List (List Int)) (n : Nat) (hn : n ≤ 24) (hm : ∀ i, i < n → (m.getD i []).length = n) : ∀ k, k ≤ n → (txt m k).length ≤ 25 * k := by
  intro k
  induction k with
  | zero => intro _; simp [txt]
  | succ k ih =>
    intro hk
    have h1 := ih (by omega)
    have h2 := hm k (by omega)
    simp only [txt, List.length_append, List.length_map, h2]
    split <;> simp <;> omega

theorem txt_step (m : List (List Int)) (k : Nat) (pre : List Int) (h : pre = txt m k ++ (if 0 < k then [47] else [])) (n : Nat) (hn : (m.getD k []).length = n) : txt m (k + 1) = pre ++ (List.range n).map fun j' => sym (G m k j') := by
  subst h
  subst hn
  simp only [txt]
  congr 1
  apply List.ext_getElem (by simp)
  intro i h1 h2
  have hi : i < (m.getD k []).length := by simpa using h1
  simp only [List.getElem_map, List.getElem_range, G]
  rw [List.getD_eq_getElem?_getD (l := m.getD k []), List.getElem?_eq_getElem hi]
  rfl

set_option maxHeartbeats 2000000 in
theorem text_sq (va : Value) (m : List (List Int)) (n b off cap : Nat) (B O C : Nat → Nat) (w : World) (h24 : n ≤ 24) (hs : SqR w va m n b off cap B O C) (hlen : ∀ i, i < n → (m.getD i []).length = n)
    (hv : ∀ i j, i < n → j < n → 0 ≤ G m i j ∧ G m i j ≤ 2) (h0 : n ≠ 0)
    (ka : Calls Try.prog 15 #[va] w fun e w' => e = .returned (.bool true) ∧ w = w') :
    Calls Try.prog 25 #[va] w fun e w' => e = .returned (.string (strOfNums (txt m n))) ∧ Below w.heap.size w w' := by
  have hav := hs.val
  subst hav
  have HT := Lib.hid (txt_le m n h24 hlen)
  have hbw : b < w.heap.size := lt_of_cell (hs.row 0 (by omega))
  have hBw : ∀ i, i < n → B i < w.heap.size := fun i hi => lt_of_cell (hs.cell i 0 hi (by omega))
  have hkeep : ∀ w', Below w.heap.size w w' → SqR w' (.slice (some ⟨b, off, none⟩) n cap) m n b off cap B O C := fun w' hbl => hs.keep (fun _ => hbl.block _ hbw) fun i hi => hbl.block _ (hBw i hi)
  have HK := Lib.hid hkeep
  have KA := Lib.hid ka
  have HLEN := Lib.hid hlen
  clear hkeep ka hs hlen
  obtain ⟨i5, hi5, hy1, hy2, hy3⟩ := info_parts info5
  go_enter Try.func25, Try.ntmps25
  go_wp2_with fail
  refine KA.out.mono ?_
  rintro e w' ⟨rfl, rfl⟩
  clear KA
  go_wp2_with fail
  go_loopg [3, 13] n (fun g v i wr => ∃ k : Nat, i = .int .i64 k ∧ k + g = n ∧ Made w.heap.size wr 5 ByteV v (txt m k) ∧ Below w.heap.size w wr)
  case atStart => exact ⟨0, rfl, Nat.zero_add _, Made.nil _ _ _ _, Below.refl _ _⟩
  case round =>
    obtain ⟨k, rfl, hkg, hmade, hbel⟩ := hrel
    obtain ⟨w2, rfl⟩ : ∃ w2 : World, w2 = wr := ⟨_, rfl⟩
    have hk : k ≤ n := by omega
    have HKG := Lib.hid hkg
    clear hkg
    by_cases hlt : k < n
    · have c1 := (HK.out w2 hbel).row k hlt
      go_upto_if 19 with fail
      go_cut [3] (fun s3 wx => Made w.heap.size wx 5 ByteV s3 (txt m k ++ (if 0 < k then [47] else [])) ∧ Below w.heap.size w wx)
      case first =>
        have hlen := HT.out k hk
        by_cases hk0 : k = 0
        · subst hk0
          go_wp2_with fail
          go_meet
          exact ⟨by simpa using hmade, hbel⟩
        · have hk1 : 0 < k := by omega
          have hmade2 := hmade.below keeps_byte ((Below.refl w2.heap.size w2).alloc (Nat.le_refl _) (.cells #[.int .u8 47] 5))
          have hblk := hmade.block
          obtain ⟨vals, hvo, hvr⟩ := hmade2
          have hvl : vals.length = (txt m k).length := by have := hvo.1; omega
          have HVR := Lib.hid hvr
          have HVL := Lib.hid hvl
          clear hvr hvl hmade c1 hk0
          go_wp2_with (at_builtin; refine wpList_app rfl _ _ 54 rfl w.heap.size 5 i5 (.int .u8 0) 1 1 Try.underlying54 hi5 hy1 hy2 hy3 rfl (by decide) u3 (txt m k).length vals rfl hvo ⟨w2.heap.size, 0, none⟩ 1 1 [.int .u8 47] rfl rfl ?c1 ?c2 ?c3 ?c4 ?c5 ?_)
          case c1 => exact cell_one_new _ _ _
          case c2 => intro u hu; simp at hu; subst hu; rfl
          case c3 => unfold maxLen; omega
          case c4 => omega
          case c5 => have := hbel.size; simp only [World.size_alloc]; omega
          intro v' w3 happ
          have hM : Made w.heap.size w3 5 ByteV v' (txt m k ++ [47]) := Made.app keeps_byte HVR.out HVL.out happ rfl rfl
          have hB3 := (hbel.alloc hbel.size (.cells #[.int .u8 47] 5)).trans (happ.below (B := w.heap.size) (by have := hbel.size; simp only [World.size_alloc]; omega) (fun q hq => (hblk q hq).1))
          clear happ HVR HVL hvo
          go_wp2_with fail
          go_meet
          exact ⟨by rw [if_pos hk1]; exact hM, hB3⟩
      case rest =>
        obtain ⟨hm2, hb2⟩ := hcut
        obtain ⟨pre, hpre⟩ : ∃ pre, pre = txt m k ++ (if 0 < k then [47] else []) := ⟨_, rfl⟩
        rw [← hpre] at hm2
        have hprelen : pre.length ≤ 25 * k + 1 := by rw [hpre, List.length_append]; have := HT.out k hk; split <;> simp <;> omega
        have HPRE := Lib.hid hpre
        clear hpre hmade hbel c1
        go_wp2_with fail
        go_loopw [3, 25] (fun v i wr => ∃ j : Nat, i = .int .i64 j ∧ j ≤ n ∧ Made w.heap.size wr 5 ByteV v (pre ++ (List.range j).map fun j' => sym (G m k j')) ∧ Below w.heap.size w wr) (fun _ i _ => n - (intOf i).toNat)
        case atStart => exact ⟨0, rfl, Nat.zero_le _, by simpa using hm2, hb2⟩
        case round =>
          obtain ⟨j, rfl, hj, hmd, hbd⟩ := hrel
          clear hm2 hb2
          by_cases hjl : j < n
          · have hS := HK.out wr hbd
            have c2 := hS.cell k j hlt hjl
            have r1 := hv k j hlt hjl
            obtain ⟨x, hx⟩ : ∃ x, x = G m k j := ⟨_, rfl⟩
            rw [← hx] at c2 r1
            have HX := Lib.hid hx
            have hix := sx x r1
            have hmd2 := hmd.below keeps_byte ((Below.refl wr.heap.size wr).alloc (Nat.le_refl _) (.cells #[.int .u8 (sym x)] 5))
            have hblk := hmd.block
            obtain ⟨vals, hvo, hvr⟩ := hmd2
            have hvl : vals.length = (pre ++ (List.range j).map fun j' => sym (G m k j')).length := by have := hvo.1; omega
            have hk2 : (pre ++ (List.range j).map fun j' => sym (G m k j')).length = pre.length + j := by simp
            have HVR := Lib.hid hvr
            have HVL := Lib.hid hvl
            have HK2 := Lib.hid hk2
            rw [hk2] at hvo
            clear hvr hvl hmd hk2 hS hx
            go_wp2_with (at_builtin; refine wpList_app rfl _ _ 54 rfl w.heap.size 5 i5 (.int .u8 0) 1 1 Try.underlying54 hi5 hy1 hy2 hy3 rfl (by decide) u3 (pre.length + j) vals rfl hvo ⟨wr.heap.size, 0, none⟩ 1 1 [.int .u8 (sym x)] rfl rfl ?d1 ?d2 ?d3 ?d4 ?d5 ?_)
            case d1 => exact cell_one_new _ _ _
            case d2 => intro u hu; simp at hu; subst hu; rfl
            case d3 => unfold maxLen; omega
            case d4 => omega
            case d5 => have := hbd.size; simp only [World.size_alloc]; omega
            intro v' w3 happ
            have hM : Made w.heap.size w3 5 ByteV v' (pre ++ (List.range (j + 1)).map fun j' => sym (G m k j')) := by
              rw [List.range_succ, List.map_append, ← List.append_assoc]
              exact Made.app keeps_byte HVR.out HVL.out (by rw [HK2.out]; exact happ) rfl (by rw [HX.out]; rfl)
            have hB3 := (hbd.alloc hbd.size (.cells #[.int .u8 (sym x)] 5)).trans (happ.below (B := w.heap.size) (by have := hbd.size; simp only [World.size_alloc]; omega) (fun q hq => (hblk q hq).1))
            clear happ HVR HVL hvo hix c2
            go_wp2_with fail
            go_roundw
            case rel => exact ⟨j + 1, by go_num, by omega, hM, hB3⟩
            case measure => simp [intOf]; omega
          · have hjj : j = n := by omega
            have HJ := Lib.hid hjj
            clear hjj
            go_wp2_with fail
            go_roundg (gk - 1)
            case measure => have := HKG.out; omega
            case rel => exact ⟨k + 1, by go_num, by have := HKG.out; omega, by rw [txt_step m k pre HPRE.out n (HLEN.out k hlt), ← HJ.out]; exact hmd, hbd⟩
    · have hkn : k = n := by omega
      subst hkn
      have hconv := hmade.str
      go_wp2_with fail
      go_ret
      exact ⟨rfl, hbel⟩
end Go.Proofs.Ytfcmkhjimgpppaa
