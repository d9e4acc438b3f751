/-
  SizeFewer: the walk: it returns true and writes nothing that was there. No condition but that the argument reads.
-/
import Derived.Test.YtfcmkhjimgpppaaSzs
namespace Go.Proofs.Ytfcmkhjimgpppaa
open Go.RowKit Go.Maps
set_option linter.unusedVariables false
set_option linter.unusedSimpArgs false

theorem ends_fewer {l s r : List Mx} (hrb : rightsB l = true) (hl : l.length ≤ 256) (ho : closure l = some r) (hb : badAt r = none) (hs : ∀ m ∈ s, m ∈ l) : endsR s = (true, 0) := by
  have hok := closure_ok ho hl (rightsB_sqs hrb)
  obtain ⟨r', h1, h2⟩ := closure_fewer ho hok.2.1 hs
  have hr : rightsB s = true := rightsB_of fun i hi => by
    have h3 := rightsB_sqs hrb _ (hs _ (getD_mem hi))
    have h4 := rightsB_sqs hrb _ (hs _ (getD_mem (show 0 < s.length by omega)))
    unfold goodAt
    rw [h3.1, h3.2, h4.2, decide_eq_true rfl]; rfl
  have hbn : badAt r' = none := by
    unfold badAt at hb ⊢
    rw [List.findIdx?_eq_none_iff] at hb ⊢
    exact fun x hx => hb x (h2 x hx)
  unfold endsR
  rw [hr, h1]
  simp [hbn]

set_option maxRecDepth 100000 in
set_option maxHeartbeats 1000000 in
theorem fewer_walk (va : Value) (l : List Mx) (wh : Int) (w : World) (h : MatsR (· < w.heap.size) w va l) (hwh : (Lit.int .u8 wh).wf = true) :
    Calls Try.prog 10 #[va, .int .u8 wh] w fun e w' => e = .returned (.bool true) ∧ Below w.heap.size w w' := by
  have kf := few31_w va l w h
  have ke := Ends_w va l w h
  have H := Lib.hid h
  obtain ⟨ao, cap, rfl, hlm, he⟩ := h.get
  have HE := Lib.hid he
  clear h he
  obtain ⟨fb, hfb⟩ : ∃ x, x = few31B l := ⟨_, rfl⟩
  rw [← hfb] at kf
  have HFB := Lib.hid hfb
  have KF := Lib.hid kf
  have KE := Lib.hid ke
  clear kf hfb ke
  cases fb
  · go_enter Try.func10, Try.ntmps10
    go_wp2_with fail
    refine KF.out.mono ?_
    rintro e w1 ⟨rfl, rfl⟩
    go_wp2_with fail
    refine (awake31_w _).mono ?_
    rintro e w9 ⟨rfl, hb9⟩
    go_wp2_with fail
    go_ret
    exact ⟨rfl, hb9⟩
  have hl6 : l.length ≤ 6 := by
    have h := HFB.out
    unfold few31B at h
    rw [eq_comm, Bool.and_eq_true, decide_eq_true_iff] at h
    exact h.1
  have ke := KE.out (by omega)
  by_cases hen : endsR l = (true, 0)
  rotate_left
  · obtain ⟨x, y, hxy⟩ : ∃ x y, endsR l = (x, y) := ⟨_, _, rfl⟩
    rw [hxy] at ke hen
    have hc : y ≠ 0 ∨ x = false := by
      by_cases hy : y = 0
      · right; cases x
        · rfl
        · subst hy; exact absurd rfl hen
      · exact .inl hy
    have hy3 : y = 0 ∨ y = 2 ∨ y = 5 := by
      unfold endsR at hxy
      split at hxy
      · split at hxy <;> (injection hxy with _ hxy; omega)
      · injection hxy with _ hxy; omega
    have KE := Lib.hid ke
    clear ke hxy hen
    rcases hy3 with rfl | rfl | rfl
    · obtain rfl : x = false := by
        rcases hc with h | h
        · exact absurd rfl h
        · exact h
      clear hc
      go_enter Try.func10, Try.ntmps10
      go_wp2_with fail
      refine KF.out.mono ?_
      rintro e w1 ⟨rfl, rfl⟩
      go_wp2_with fail
      refine KE.out.mono ?_
      rintro e w2 ⟨rfl, hb2⟩
      go_wp2_with fail
      refine (awake31_w _).mono ?_
      rintro e w9 ⟨rfl, hb9⟩
      go_wp2_with fail
      go_ret
      exact ⟨rfl, hb2.trans (hb9.mono hb2.size)⟩
    all_goals
      clear hc
      go_enter Try.func10, Try.ntmps10
      go_wp2_with fail
      refine KF.out.mono ?_
      rintro e w1 ⟨rfl, rfl⟩
      go_wp2_with fail
      refine KE.out.mono ?_
      rintro e w2 ⟨rfl, hb2⟩
      go_wp2_with fail
      refine (awake31_w _).mono ?_
      rintro e w9 ⟨rfl, hb9⟩
      go_wp2_with fail
      go_ret
      exact ⟨rfl, hb2.trans (hb9.mono hb2.size)⟩
  rw [hen] at ke
  have hrb : rightsB l = true := by
    unfold endsR at hen
    cases h : rightsB l
    · rw [h] at hen; cases hen
    · rfl
  obtain ⟨r, ho⟩ : ∃ r, closure l = some r := by
    unfold endsR at hen
    rw [hrb] at hen
    cases h : closure l with
    | none => rw [h] at hen; cases hen
    | some r => exact ⟨r, rfl⟩
  have hba : badAt r = none := by
    unfold endsR at hen
    rw [hrb, ho] at hen
    cases h : badAt r with
    | none => rfl
    | some i => simp [h] at hen
  have HFEW := Lib.hid (show ∀ s : List Mx, (∀ m ∈ s, m ∈ l) → endsR s = (true, 0) from fun s hs => ends_fewer hrb (by omega) ho hba hs)
  have KE := Lib.hid ke
  obtain ⟨i22, hi22, hy1, hy2, hy3⟩ := info_parts (show (Try.prog.info? 22).map (fun i => (i.zero, i.size, i.bytes)) = some (some (.slice none 0 0), 1, 24) by kernel_rfl)
  clear ke hen hrb ho hba
  go_enter Try.func10, Try.ntmps10
  go_wp2_with fail
  refine KF.out.mono ?_
  rintro e w1 ⟨rfl, rfl⟩
  go_wp2_with fail
  refine KE.out.mono ?_
  rintro e w2 ⟨rfl, hb2⟩
  have HB2 := Lib.hid hb2
  have HMD0 := Lib.hid (show Made w.heap.size (w2.alloc (.cells #[] 22)) 22 MatR (.slice (some ⟨w2.heap.size, 0, none⟩) 0 0) ([] : List Mx) from Made.empty w2 w.heap.size 22 MatR hb2.size)
  clear hb2 KF KE
  go_wp2_with fail
  go_loopw [7, 8] (fun v i wr => ∃ (k : Nat) (s : List Mx), i = .int .i64 k ∧ k ≤ l.length ∧ s.length ≤ k ∧ (∀ m ∈ s, m ∈ l) ∧ Made w.heap.size wr 22 MatR v s ∧ Below w.heap.size w wr) (fun _ i _ => l.length - (intOf i).toNat)
  case atStart => exact ⟨0, [], rfl, Nat.zero_le _, Nat.le_refl _, fun m hm => (by cases hm), HMD0.out, HB2.out.alloc HB2.out.size _⟩
  case round =>
    obtain ⟨k, s, rfl, hk, hsk, hsl, hmd, hB⟩ := hrel
    obtain ⟨w5, rfl⟩ : ∃ x : World, x = wr := ⟨_, rfl⟩
    obtain ⟨av, cv, rfl⟩ : ∃ ao cap, u7 = .slice ao s.length cap := by obtain ⟨ao, cap, hv, -⟩ := hmd.mats.get; exact ⟨ao, cap, hv⟩
    have HMD := Lib.hid hmd
    have HB5 := Lib.hid hB
    have HSL := Lib.hid hsl
    clear hmd hB hsl HMD0
    by_cases hlt : k < l.length
    · obtain ⟨b, off, a1, c1, rfl, hb, hc, hx⟩ := HE.out k hlt
      have hc5 := (HB5.out.cell (p := ⟨b, off + k, none⟩) hb).trans hc
      have hxm : l.getD k [] ∈ l := getD_mem hlt
      obtain ⟨m, hm⟩ : ∃ m, m = l.getD k [] := ⟨_, rfl⟩
      rw [← hm] at hc5 hx hxm
      have hx5 : MatR (· < w.heap.size) w5 (.slice a1 m.length c1) m := hx.keep (fun _ h => h) fun q hq => HB5.out.block q hq
      have hblk := HMD.out.block
      have hmd6 := HMD.out.below keeps_mat ((Below.refl w5.heap.size w5).alloc (Nat.le_refl _) (.cells #[.slice a1 m.length c1] 22))
      have hbs := HB5.out.size
      have hx6 : MatR (fun g => (Value.slice av s.length cv).ownBlock ≠ some g ∧ g < (w5.alloc (.cells #[.slice a1 m.length c1] 22)).heap.size) (w5.alloc (.cells #[.slice a1 m.length c1] 22)) (.slice a1 m.length c1) m :=
        hx5.keep (fun q hq => ⟨fun e => by have := (hblk _ e).1; omega, by rw [World.size_alloc]; omega⟩) fun q hq => Below.heap_alloc _ _ _ (by omega)
      obtain ⟨vals, hvo, hvr⟩ := hmd6
      have hvl : vals.length = s.length := by have := hvo.1; omega
      have HVR := Lib.hid hvr
      have HVL := Lib.hid hvl
      have HX6 := Lib.hid hx6
      have HBLK := Lib.hid hblk
      have HXM := Lib.hid hxm
      have HVO := Lib.hid hvo
      have hmlen : m.length = m.length := rfl
      clear hvr hvl hx6 hblk hx5 hc hx hm hxm hvo hmlen
      cases ht : (bits BinOp.and IntKind.u8 (wh / 2 ^ k) 1 == 1)
      · go_wp2_with fail
        go_roundw
        case rel => exact ⟨k + 1, s, by go_num, by omega, by omega, HSL.out, HMD.out, HB5.out⟩
        case measure => simp [intOf]; omega
      · go_wp2_with (at_builtin; refine wpList_app rfl _ _ 39 rfl w.heap.size 22 i22 (.slice none 0 0) 1 24 Try.underlying39 hi22 hy1 hy2 hy3 rfl (by decide) (.slice av s.length cv) s.length vals rfl HVO.out ⟨w5.heap.size, 0, none⟩ 1 1 [.slice a1 m.length c1] rfl rfl ?c1 ?c2 ?c3 ?c4 ?c5 ?_)
        case c1 => exact cell_one_new _ _ _
        case c2 => intro u hu; simp at hu; subst hu; rfl
        case c3 => unfold maxLen; omega
        case c4 => omega
        case c5 => simp only [World.size_alloc]; omega
        intro v7 w7 happ
        have hM : Made w.heap.size w7 22 MatR v7 (s ++ [m]) := Made.app keeps_mat HVR.out HVL.out happ rfl HX6.out
        have hB7 : Below w.heap.size w w7 := (HB5.out.alloc HB5.out.size (.cells #[.slice a1 m.length c1] 22)).trans (happ.below (by simp only [World.size_alloc]; omega) (fun q hq => (HBLK.out q hq).1))
        have HM7 := Lib.hid hM
        have HB7 := Lib.hid hB7
        clear happ hM hB7 HVR HVL HX6 HBLK
        go_wp2_with fail
        go_roundw
        case rel =>
          exact ⟨k + 1, s ++ [m], by go_num, by omega, by rw [List.length_append, List.length_singleton]; omega, fun x hx => by
            rcases List.mem_append.1 hx with h | h
            · exact HSL.out x h
            · rw [List.mem_singleton] at h; subst h; exact HXM.out, HM7.out, HB7.out⟩
        case measure => simp [intOf]; omega
    · have hkl : k = l.length := by omega
      have ke := Ends_w _ s w5 HMD.out.mats (by omega)
      rw [HFEW.out s HSL.out] at ke
      have KE := Lib.hid ke
      clear ke
      go_wp2_with fail
      refine KE.out.mono ?_
      rintro e w6 ⟨rfl, hb6⟩
      go_wp2_with fail
      refine (awake31_w _).mono ?_
      rintro e w9 ⟨rfl, hb9⟩
      go_wp2_with fail
      go_ret
      exact ⟨rfl, (HB5.out.trans (hb6.mono HB5.out.size)).trans (hb9.mono (Nat.le_trans HB5.out.size hb6.size))⟩
end Go.Proofs.Ytfcmkhjimgpppaa
