/-
  scholiumref30.Closure: a contract, where a closure of no more than 256 matrices is there.
-/
import Derived.Test.YtfcmkhjimgpppaaRound
namespace Go.Proofs.Ytfcmkhjimgpppaa
open Go.RowKit Go.Maps
set_option linter.unusedVariables false
set_option linter.unusedSimpArgs false

set_option maxRecDepth 100000 in
set_option maxHeartbeats 4000000 in
theorem refClosure_w (va : Value) (l r : List Mx) (w : World) (h : MatsR (· < w.heap.size) w va l) (hrb : rightsB l = true) (hl : l.length ≤ 256) (hr : closure l = some r) :
    Calls Try.prog 30 #[va] w fun e w' => ∃ v, e = .returned (.tuple #[v, .int .i64 0]) ∧ MatsR (· < w'.heap.size) w' v r ∧ Below w.heap.size w w' := by
  have H := Lib.hid h
  obtain ⟨n, hn⟩ : ∃ n, n = (l.getD 0 []).length := ⟨_, rfl⟩
  have hsq0 := rightsB_sqs hrb
  rw [← hn] at hsq0
  have HSQ := Lib.hid hsq0
  have HR := Lib.hid hr
  obtain ⟨ao, cap, rfl, hlm, he⟩ := h.get
  have HE := Lib.hid he
  obtain ⟨i22, hi22, hy1, hy2, hy3⟩ := info_parts (show (Try.prog.info? 22).map (fun i => (i.zero, i.size, i.bytes)) = some (some (.slice none 0 0), 1, 24) by kernel_rfl)
  clear h hrb hr he hn hsq0
  have hmd0 : Made w.heap.size (w.alloc (.cells #[] 22)) 22 MatR (.slice (some ⟨w.heap.size, 0, none⟩) 0 0) (dedup (l.take 0)) := Made.empty w w.heap.size 22 MatR (Nat.le_refl _)
  have HMD0 := Lib.hid hmd0
  clear hmd0
  go_enter Try.func30, Try.ntmps30
  go_wp2_with fail
  go_loopw [4, 5] (fun v i wr => ∃ k : Nat, i = .int .i64 k ∧ k ≤ l.length ∧ Made w.heap.size wr 22 MatR v (dedup (l.take k)) ∧ Below w.heap.size w wr) (fun _ i _ => l.length - (intOf i).toNat)
  case atStart => exact ⟨0, rfl, Nat.zero_le _, HMD0.out, (Below.refl _ _).alloc (Nat.le_refl _) _⟩
  case round =>
    obtain ⟨k, rfl, hk, hmd, hB⟩ := hrel
    obtain ⟨w1, rfl⟩ : ∃ x : World, x = wr := ⟨_, rfl⟩
    have hmd1 := hmd.mats
    obtain ⟨av, cv, rfl, -, -⟩ := hmd1.get
    have HMD := Lib.hid hmd
    have HM := Lib.hid hmd1
    have HB := Lib.hid hB
    clear hmd hmd1 hB HMD0
    by_cases hlt : k < l.length
    · obtain ⟨b, off, a1, c1, rfl, hb, hc, hx⟩ := HE.out k hlt
      have hx1 : MatR (· < w1.heap.size) w1 _ _ := hx.keep (w' := w1) (P' := (· < w1.heap.size)) (fun q hq => Nat.lt_of_lt_of_le hq HB.out.size) fun q hq => HB.out.block q hq
      have hc1 := (HB.out.cell (p := ⟨b, off + k, none⟩) hb).trans hc
      have ki := In_w _ _ _ _ w1 HM.out hx1
      have hstep : addM (dedup (l.take k)) (l.getD k []) = dedup (l.take (k + 1)) := by
        unfold dedup; rw [take_getD l [] k hlt, List.foldl_append]; rfl
      have hdl : (dedup (l.take k)).length ≤ 256 := Nat.le_trans (dedup_len _) (by rw [List.length_take]; omega)
      obtain ⟨D, hD⟩ : ∃ D, D = dedup (l.take k) := ⟨_, rfl⟩
      obtain ⟨m, hm⟩ : ∃ m, m = l.getD k [] := ⟨_, rfl⟩
      rw [← hm] at hc1 ki hstep hx1
      rw [← hD] at ki hstep hdl
      have HD := Lib.hid hD
      have HX1 := Lib.hid (hx.keep (w' := w) (P' := (· < w.heap.size)) (fun _ h => h) fun _ _ => rfl)
      rw [← hm] at HX1
      have HST := Lib.hid hstep
      have HX2 := Lib.hid hx1
      obtain ⟨xl, hxl⟩ : ∃ n, n = m.length := ⟨_, rfl⟩
      rw [← hxl] at hc1 ki HX1 HX2
      clear hstep hm hx hx1 hc hxl
      by_cases hin : m ∈ D
      · rw [decide_eq_true hin] at ki
        have KI := Lib.hid ki
        have HIN := Lib.hid hin
        clear ki hin
        rw [← hD] at HMD HM
        rw [← hD]
        clear hD
        go_wp2_with fail
        refine KI.out.mono ?_
        rintro e w' ⟨rfl, d, rfl⟩
        go_wp2_with fail
        go_roundw
        case rel =>
          have h1 := HST.out
          rw [addM_in HIN.out] at h1
          exact ⟨k + 1, by go_num, by omega, by rw [← h1]; exact HMD.out.below keeps_mat (below_drewN (Below.refl _ _) d), below_drewN HB.out d⟩
        case measure => simp [intOf]; omega
      · rw [decide_eq_false hin] at ki
        have KI := Lib.hid ki
        have HIN := Lib.hid hin
        clear ki hin
        rw [← hD] at HMD HM
        rw [← hD]
        clear hD
        go_wp2_with fail
        refine KI.out.mono ?_
        rintro e w' ⟨rfl, d, rfl⟩
        obtain ⟨w5, hw5⟩ : ∃ x, x = w1.drewN d := ⟨_, rfl⟩
        have hc5 : (w1.drewN d).cell? ⟨b, off + k, none⟩ = some (.slice a1 xl c1) := hc1
        have hmd5 := HMD.out.below keeps_mat (below_drewN (Below.refl w1.heap.size w1) d)
        have hb5 := below_drewN HB.out d
        have hx5 : MatR (· < w.heap.size) (w1.drewN d) (.slice a1 xl c1) m := HX1.out.keep (fun _ h => h) fun q hq => HB.out.block q hq
        rw [← hw5] at hc5 hmd5 hb5 hx5 ⊢
        clear hw5
        have hblk := hmd5.block
        have hmd6 := hmd5.below keeps_mat ((Below.refl w5.heap.size w5).alloc (Nat.le_refl _) (.cells #[.slice a1 xl c1] 22))
        have hbs := hb5.size
        have hx6 : MatR (fun g => (Value.slice av D.length cv).ownBlock ≠ some g ∧ g < (w5.alloc (.cells #[.slice a1 xl c1] 22)).heap.size) (w5.alloc (.cells #[.slice a1 xl c1] 22)) (.slice a1 xl c1) m :=
          hx5.keep (fun q hq => ⟨fun e => by have := (hblk _ e).1; omega, by rw [World.size_alloc]; omega⟩) fun q hq => Below.heap_alloc _ _ _ (by omega)
        obtain ⟨vals, hvo, hvr⟩ := hmd6
        have hvl : vals.length = D.length := by have := hvo.1; omega
        have HVR := Lib.hid hvr
        have HVL := Lib.hid hvl
        have HX6 := Lib.hid hx6
        have HB5 := Lib.hid hb5
        have HBLK := Lib.hid hblk
        clear hvr hvl hx6 hb5 hblk hmd5 hx5 HMD HM
        go_wp2_with (at_builtin; refine wpList_app rfl _ _ 39 rfl w.heap.size 22 i22 (.slice none 0 0) 1 24 Try.underlying39 hi22 hy1 hy2 hy3 rfl (by decide) (.slice av D.length cv) D.length vals rfl hvo ⟨w5.heap.size, 0, none⟩ 1 1 [.slice a1 xl c1] rfl rfl ?c1 ?c2 ?c3 ?c4 ?c5 ?_)
        case c1 => exact cell_one_new _ _ _
        case c2 => intro u hu; simp at hu; subst hu; rfl
        case c3 => unfold maxLen; omega
        case c4 => omega
        case c5 => simp only [World.size_alloc]; omega
        intro v7 w7 happ
        have hM : Made w.heap.size w7 22 MatR v7 (D ++ [m]) := Made.app keeps_mat HVR.out HVL.out happ rfl HX6.out
        have hB7 : Below w.heap.size w w7 := (HB5.out.alloc HB5.out.size (.cells #[.slice a1 xl c1] 22)).trans (happ.below (by simp only [World.size_alloc]; omega) (fun q hq => (HBLK.out q hq).1))
        have HM7 := Lib.hid hM
        have HB7 := Lib.hid hB7
        clear happ hM hB7 HVR HVL HX6 HB5 HBLK hvo
        go_wp2_with fail
        go_roundw
        case rel =>
          have h1 := HST.out
          rw [addM_out HIN.out] at h1
          exact ⟨k + 1, by go_num, by omega, by rw [← h1]; exact HM7.out, HB7.out⟩
        case measure => simp [intOf]; omega
    · have hkl : k = l.length := by omega
      go_wp2_with fail
      have hm := HM.out
      rw [hkl, List.take_length] at hm ⊢
      have hsq : Sqs n (dedup l) := fun x hx => HSQ.out x (dedup_mem.1 hx)
      have hdl : (dedup l).length ≤ 256 := Nat.le_trans (dedup_len _) hl
      have hr := HR.out
      unfold closure at hr
      generalize dedup l = q0 at hm hsq hdl hr ⊢
      have HM := Lib.hid hm
      have HSQ := Lib.hid hsq
      have HR := Lib.hid hr
      clear hm hsq hr hkl hlt hk HMD
      go_loopg [4, 6] 257 (fun g v i wx => ∃ (k : Nat) (q : List Mx), i = .int .i64 k ∧ k ≤ q.length ∧ MatsR (· < wx.heap.size) wx v q ∧ Below w.heap.size w wx ∧ Sqs n q ∧ q.length ≤ 256 ∧ 257 ≤ g + q.length ∧ clo g q = some r)
      case atStart => exact ⟨0, q0, rfl, Nat.zero_le _, HM.out, HB.out, HSQ.out, hdl, by omega, HR.out⟩
      case round =>
        clear HM HB
        obtain ⟨k, q, rfl, hk, hq, hB, hsq, hql, hg, hc⟩ := hrel
        obtain ⟨g1, rfl⟩ : ∃ x, x = gk := ⟨_, rfl⟩
        obtain ⟨w2, rfl⟩ : ∃ x : World, x = wr := ⟨_, rfl⟩
        obtain ⟨g2, rfl⟩ : ∃ g2, g1 = g2 + 1 := ⟨g1 - 1, by omega⟩
        have HQ := Lib.hid hq
        obtain ⟨aq, cq, rfl, hqm, -⟩ := hq.get
        obtain ⟨p, hp⟩ : ∃ p, outr 257 0 q = some p := by
          rw [clo] at hc
          cases hx : outr 257 0 q with
          | none => rw [hx] at hc; cases hc
          | some p => exact ⟨p, rfl⟩
        rw [clo, hp] at hc
        have kr := round_w (n := n) _ q p w2 hq hsq hql hp
        have hpo := outr_ind (Q := fun q => Sqs n q ∧ q.length ≤ 256) (fun l a b h ha hb hl => ⟨h.1.add (h.1.prod ha hb), hl⟩) _ _ _ _ ⟨hsq, hql⟩ hp
        have hk1 : k ≤ 256 := by omega
        have HB := Lib.hid hB
        have HG := Lib.hid hg
        have HC := Lib.hid hc
        have KR := Lib.hid kr
        have HPO := Lib.hid hpo
        clear hq hB hsq hg hc kr hpo hp
        go_wp2_with fail
        refine KR.out.mono ?_
        rintro e w3 ⟨v3, rfl, hm3, hb3⟩
        obtain ⟨a3, c3, rfl, hpm, -⟩ := hm3.get
        have HM3 := Lib.hid hm3
        have HB3 := Lib.hid hb3
        clear hm3 hb3 KR
        by_cases he : p.length = q.length
        · have hb1 : ((p.length : Int) == (q.length : Int)) = true := by simp [he]
          have HE2 := Lib.hid he
          clear he
          go_wp2_with fail
          go_ret2
          have h1 := HC.out
          rw [if_pos HE2.out] at h1
          injection h1 with h1
          subst h1
          have h2 : p = q := by
            have h3 := HPO.out.2
            exact (h3.eq_of_length HE2.out.symm).symm
          subst h2
          exact ⟨_, rfl, HQ.out.on HB3.out, HB.out.trans (HB3.out.mono HB.out.size)⟩
        · have hb1 : ((p.length : Int) == (q.length : Int)) = false := by simp; omega
          have HE2 := Lib.hid he
          clear he
          go_wp2_with fail
          go_roundg g2
          case measure => omega
          case rel =>
            have h1 := HC.out
            rw [if_neg HE2.out] at h1
            have h2 := HPO.out.2.length_le
            have h3 := HE2.out
            exact ⟨k + 1, p, by go_num, by omega, HM3.out, HB.out.trans (HB3.out.mono HB.out.size), HPO.out.1.1, HPO.out.1.2, by have := HG.out; omega, h1⟩
end Go.Proofs.Ytfcmkhjimgpppaa
