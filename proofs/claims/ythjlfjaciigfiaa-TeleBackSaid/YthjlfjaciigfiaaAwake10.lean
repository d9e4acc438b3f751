/-
  scholiumlaw10.awake: a contract of the walk.
-/
import Derived.Test.YthjlfjaciigfiaaVars
import Derived.Test.YthjlfjaciigfiaaPis
namespace Go.Proofs.Ythjlfjaciigfiaa
open Go.RowKit
set_option linter.unusedVariables false
set_option linter.unusedSimpArgs false

theorem around_awake : aroundR 3 [.node 2 0 []] (.node 1 0 []) = (.node 3 0 [.node 2 0 [], .node 1 0 []], 0) := by rfl
theorem vars_awake : vars 2 = [.node 1 1 [], .node 1 0 []] := by rfl
set_option maxRecDepth 100000 in
set_option maxHeartbeats 4000000 in
theorem awake35_w (w : World) : Calls Try.prog 35 #[] w (Ans w (.bool true)) := by
  have hv := Vars_w 2 w
  rw [vars_awake] at hv
  have HV := Lib.hid hv
  clear hv
  go_enter Try.func35, Try.ntmps35
  go_wp2_with fail
  refine HV.out.mono ?_
  rintro e w1 ⟨ao, m, c, rfl, hb, hts⟩
  obtain ⟨dl, hts⟩ := subR_depth hts
  obtain ⟨ao', cap', hv, -, -, -, he⟩ := hts.open
  injection hv with e1 e2 e3
  subst e1; subst e2; subst e3
  obtain ⟨b, off, k2, n2, ao2, m2, cap2, rfl, hP, h0, h1, h2, hrd⟩ := he 0 (by simp)
  have hn2 : n2 = 1 := by
    obtain ⟨a3, c3, hv, -⟩ := hrd.shape
    injection hv with hv; injection hv with hv; injection hv with q0 hv; injection hv with q1 hv; injection q1 with _ q1
  subst hn2
  have HB := Lib.hid hb
  have HH := Lib.hid h1
  have HPP := Lib.hid hP
  clear he hts hrd h0 h1 h2 hb hP
  go_wp2_with fail
  have hba := alloc_bel w1 (.cells #[.int .i64 2, .int .i64 0, .slice none 0 0] 24)
  have hl := (one_sub (Pg := (· < (w1.alloc (.cells #[.int .i64 2, .int .i64 0, .slice none 0 0] 24)).heap.size)) (P := (· < (w1.alloc (.cells #[.int .i64 2, .int .i64 0, .slice none 0 0] 24)).heap.size)) (heap_new w1 (.cells #[.int .i64 2, .int .i64 0, .slice none 0 0] 24) _ rfl) (by simp) (Rd.leaf _ _ 2 0 none 0 (Nat.zero_le _) (by omega) (by omega)))
  have hp := Pis_w _ (.agg #[.int .i64 1, .int .i64 0, .slice none 0 0]) [.node 2 0 []] (.node 1 0 []) _ hl (Rd.leaf _ _ 1 0 none 0 (Nat.zero_le _) (by omega) (by omega))
  rw [around_awake] at hp
  refine hp.mono ?_
  rintro e w2 ⟨k3, n3, ao3, m3, c3, rfl, hb2, hr2⟩
  obtain ⟨rfl, rfl, -⟩ := hr2.subs
  have hb12 := hba.trans (hb2.mono hba.size)
  have hc : w2.cell? ⟨b, off + 1, none⟩ = some (.int .i64 1) := by
    have := (hb12.cell (p := ⟨b, off + 0 * 3 + 1, none⟩) HPP.out.2).trans HH.out
    simpa using this
  have hbl : b < w2.heap.size := by have := HPP.out.2; have := hb12.size; omega
  have HB2 := Lib.hid (HB.out.trans (hb12.mono HB.out.size))
  clear hba hl hp hb2 hr2 hb12
  go_wp2_with fail
  go_ret
  exact ⟨rfl, HB2.out.alloc HB2.out.size _⟩
end Go.Proofs.Ythjlfjaciigfiaa
