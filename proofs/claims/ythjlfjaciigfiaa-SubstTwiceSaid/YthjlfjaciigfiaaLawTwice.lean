/-
  SubstTwice: the walk: it returns true and writes nothing that was there. No condition but that the arguments read as terms.
-/
import Derived.Test.YthjlfjaciigfiaaOpen9
namespace Go.Proofs.Ythjlfjaciigfiaa
open Go.RowKit
set_option linter.unusedVariables false
set_option linter.unusedSimpArgs false

theorem manyR_ok {t a : Tm} {l : List Tm} (h : manyR t l = (a, 0)) : Shp t = true ∧ l.all Shp = true ∧ a = mp (Fmy l) t 0 ∧ Shp a = true := by
  unfold manyR at h
  by_cases h1 : Shp t = true ∧ l.all Shp = true
  · rw [if_pos h1] at h
    unfold subR at h
    by_cases h2 : Shp (mp (Fmy l) t 0) = true
    · rw [if_pos h2] at h
      injection h with e1 e2
      subst e1
      exact ⟨h1.1, h1.2, rfl, h2⟩
    · rw [if_neg h2] at h; injection h with e1 e2; omega
  · rw [if_neg h1] at h; injection h with e1 e2; omega
theorem atR_ok {t x a : Tm} {n : Int} (h : atR t x n = (a, 0)) : Shp t = true ∧ Shp x = true ∧ a = mp (Fat x n) t 0 ∧ Shp a = true := by
  unfold atR at h
  by_cases h1 : Shp t = true ∧ Shp x = true ∧ fit n = true
  · rw [if_pos h1] at h
    unfold subR at h
    by_cases h2 : Shp (mp (Fat x n) t 0) = true
    · rw [if_pos h2] at h
      injection h with e1 e2
      subst e1
      exact ⟨h1.1, h1.2.1, rfl, h2⟩
    · rw [if_neg h2] at h; injection h with e1 e2; omega
  · rw [if_neg h1] at h; injection h with e1 e2; omega
theorem twice_same {t a b x y u v z : Tm} (h1 : manyR t [a] = (x, 0)) (h2 : manyR x [b] = (y, 0)) (h3 : atR t b 1 = (u, 0)) (h4 : manyR a [b] = (v, 0)) (h5 : manyR u [v] = (z, 0)) : y = z := by
  obtain ⟨p1, p2, rfl, -⟩ := manyR_ok h1
  obtain ⟨-, q2, rfl, -⟩ := manyR_ok h2
  obtain ⟨-, -, rfl, -⟩ := atR_ok h3
  obtain ⟨s1, s2, rfl, -⟩ := manyR_ok h4
  obtain ⟨-, -, rfl, -⟩ := manyR_ok h5
  have g := fun (q : Tm) (h : Shp q = true) => ((Shp_iff q).mp h).2.2
  exact my_twice t a b (g t p1) (g a s1) (g b (by simpa using q2))
set_option maxRecDepth 100000 in
set_option maxHeartbeats 4000000 in
theorem substTwice_walk (v1 : Value) (t : Tm) (v2 : Value) (a : Tm) (v3 : Value) (b : Tm) (w : World) (hr : Rd (· < w.heap.size) w v1 t) (ha : Rd (· < w.heap.size) w v2 a) (hb' : Rd (· < w.heap.size) w v3 b) :
    Calls Try.prog 16 #[v1, v2, v3] w fun e w' => e = .returned (.bool true) ∧ Below w.heap.size w w' := by
  obtain ⟨x, c1, h1⟩ : ∃ x c, manyR t [a] = (x, c) := ⟨_, _, rfl⟩
  obtain ⟨y, c2, h2⟩ : ∃ y c, manyR x [b] = (y, c) := ⟨_, _, rfl⟩
  obtain ⟨u, c3, h3⟩ : ∃ u c, atR t b 1 = (u, c) := ⟨_, _, rfl⟩
  obtain ⟨v, c4, h4⟩ : ∃ v c, manyR a [b] = (v, c) := ⟨_, _, rfl⟩
  obtain ⟨z, c5, h5⟩ : ∃ z c, manyR u [v] = (z, c) := ⟨_, _, rfl⟩
  by_cases hc : c1 = 0
  rotate_left
  · skip
    have hq : (c1 != 0) = true := by simp [hc]
    clear hc
    have H1 := Lib.hid h1
    have H2 := Lib.hid h2
    have H3 := Lib.hid h3
    have H4 := Lib.hid h4
    have H5 := Lib.hid h5
    clear h1 h2 h3 h4 h5
    obtain ⟨ot, cot, rfl⟩ := hr.shape
    obtain ⟨oa, coa, rfl⟩ := ha.shape
    obtain ⟨ob, cob, rfl⟩ := hb'.shape
    obtain ⟨W, hW⟩ : ∃ W, W = ((w.alloc (.cells #[.int .i64 t.kind, .int .i64 t.num, .slice ot t.sub.length cot] 24)).alloc (.cells #[.int .i64 a.kind, .int .i64 a.num, .slice oa a.sub.length coa] 24)).alloc (.cells #[.int .i64 b.kind, .int .i64 b.num, .slice ob b.sub.length cob] 24) := ⟨_, rfl⟩
    have hb0 : Below w.heap.size w W := by rw [hW]; exact ((((Below.refl _ _).alloc (Nat.le_refl _) _).alloc (by simp only [World.size_alloc]; omega) _).alloc (by simp only [World.size_alloc]; omega) _)
    have FB := Lib.hid hb0
    have Qt := Lib.hid (show W.heap[w.heap.size]? = some (.cells #[.int .i64 t.kind, .int .i64 t.num, .slice ot t.sub.length cot] 24) by rw [hW]; exact (Below.heap_alloc _ _ _ (by simp only [World.size_alloc]; omega)).trans ((Below.heap_alloc _ _ _ (by simp only [World.size_alloc]; omega)).trans (heap_new _ _ _ (by first | rfl | simp only [World.size_alloc]))))
    have Tt := Lib.hid (hr.on hb0)
    clear hr
    have Qa := Lib.hid (show W.heap[w.heap.size + 1]? = some (.cells #[.int .i64 a.kind, .int .i64 a.num, .slice oa a.sub.length coa] 24) by rw [hW]; exact (Below.heap_alloc _ _ _ (by simp only [World.size_alloc]; omega)).trans (heap_new _ _ _ (by first | rfl | simp only [World.size_alloc])))
    have Ta := Lib.hid (ha.on hb0)
    clear ha
    have Qb := Lib.hid (show W.heap[w.heap.size + 1 + 1]? = some (.cells #[.int .i64 b.kind, .int .i64 b.num, .slice ob b.sub.length cob] 24) by rw [hW]; exact heap_new _ _ _ (by first | rfl | simp only [World.size_alloc]))
    have Tb := Lib.hid (hb'.on hb0)
    clear hb'
    have HW := Lib.hid hW
    clear hb0 hW
    go_enter Try.func16, Try.ntmps16
    go_wp2_with fail
    rw [← HW.out]
    refine (One_q H1.out Ta.out Tt.out).mono ?_
    rintro e w1 ⟨k1, n1, ao1, m1, c1, rfl, hb, hr⟩
    obtain ⟨hb1, B1, R1, -⟩ := boxed hb hr
    clear hb hr
    replace FB := Lib.hid (FB.out.trans (hb1.mono FB.out.size))
    replace Qt := Lib.hid ((hb1.block _ (blt Qt.out)).trans Qt.out)
    replace Tt := Lib.hid (Tt.out.on hb1)
    replace Qa := Lib.hid ((hb1.block _ (blt Qa.out)).trans Qa.out)
    replace Ta := Lib.hid (Ta.out.on hb1)
    replace Qb := Lib.hid ((hb1.block _ (blt Qb.out)).trans Qb.out)
    replace Tb := Lib.hid (Tb.out.on hb1)
    replace B1 := Lib.hid B1
    replace R1 := Lib.hid R1
    clear hb1
    obtain ⟨B10, B11, B12, B1f, -⟩ := three B1.out
    obtain ⟨Qb0, Qb1, Qb2, Qbf, -⟩ := three Qb.out
    go_wp2_with fail
    clear B10 B11 B12 B1f Qb0 Qb1 Qb2 Qbf
    refine (One_q H2.out Tb.out R1.out).mono ?_
    rintro e w2 ⟨k2, n2, ao2, m2, c2, rfl, hb, hr⟩
    obtain ⟨hb2, B2, R2, -⟩ := boxed hb hr
    clear hb hr
    replace FB := Lib.hid (FB.out.trans (hb2.mono FB.out.size))
    replace Qt := Lib.hid ((hb2.block _ (blt Qt.out)).trans Qt.out)
    replace Tt := Lib.hid (Tt.out.on hb2)
    replace Qa := Lib.hid ((hb2.block _ (blt Qa.out)).trans Qa.out)
    replace Ta := Lib.hid (Ta.out.on hb2)
    replace Qb := Lib.hid ((hb2.block _ (blt Qb.out)).trans Qb.out)
    replace Tb := Lib.hid (Tb.out.on hb2)
    replace B1 := Lib.hid ((hb2.block _ (blt B1.out)).trans B1.out)
    replace R1 := Lib.hid (R1.out.on hb2)
    replace B2 := Lib.hid B2
    replace R2 := Lib.hid R2
    clear hb2
    obtain ⟨Qt0, Qt1, Qt2, Qtf, -⟩ := three Qt.out
    obtain ⟨Qb0, Qb1, Qb2, Qbf, -⟩ := three Qb.out
    go_wp2_with fail
    clear Qt0 Qt1 Qt2 Qtf Qb0 Qb1 Qb2 Qbf
    refine (At_q H3.out Tb.out Tt.out).mono ?_
    rintro e w3 ⟨k3, n3, ao3, m3, c3, rfl, hb, hr⟩
    obtain ⟨hb3, B3, R3, -⟩ := boxed hb hr
    clear hb hr
    replace FB := Lib.hid (FB.out.trans (hb3.mono FB.out.size))
    replace Qt := Lib.hid ((hb3.block _ (blt Qt.out)).trans Qt.out)
    replace Tt := Lib.hid (Tt.out.on hb3)
    replace Qa := Lib.hid ((hb3.block _ (blt Qa.out)).trans Qa.out)
    replace Ta := Lib.hid (Ta.out.on hb3)
    replace Qb := Lib.hid ((hb3.block _ (blt Qb.out)).trans Qb.out)
    replace Tb := Lib.hid (Tb.out.on hb3)
    replace B1 := Lib.hid ((hb3.block _ (blt B1.out)).trans B1.out)
    replace R1 := Lib.hid (R1.out.on hb3)
    replace B2 := Lib.hid ((hb3.block _ (blt B2.out)).trans B2.out)
    replace R2 := Lib.hid (R2.out.on hb3)
    replace B3 := Lib.hid B3
    replace R3 := Lib.hid R3
    clear hb3
    obtain ⟨Qa0, Qa1, Qa2, Qaf, -⟩ := three Qa.out
    obtain ⟨Qb0, Qb1, Qb2, Qbf, -⟩ := three Qb.out
    go_wp2_with fail
    clear Qa0 Qa1 Qa2 Qaf Qb0 Qb1 Qb2 Qbf
    refine (One_q H4.out Tb.out Ta.out).mono ?_
    rintro e w4 ⟨k4, n4, ao4, m4, c4, rfl, hb, hr⟩
    obtain ⟨hb4, B4, R4, -⟩ := boxed hb hr
    clear hb hr
    replace FB := Lib.hid (FB.out.trans (hb4.mono FB.out.size))
    replace Qt := Lib.hid ((hb4.block _ (blt Qt.out)).trans Qt.out)
    replace Tt := Lib.hid (Tt.out.on hb4)
    replace Qa := Lib.hid ((hb4.block _ (blt Qa.out)).trans Qa.out)
    replace Ta := Lib.hid (Ta.out.on hb4)
    replace Qb := Lib.hid ((hb4.block _ (blt Qb.out)).trans Qb.out)
    replace Tb := Lib.hid (Tb.out.on hb4)
    replace B1 := Lib.hid ((hb4.block _ (blt B1.out)).trans B1.out)
    replace R1 := Lib.hid (R1.out.on hb4)
    replace B2 := Lib.hid ((hb4.block _ (blt B2.out)).trans B2.out)
    replace R2 := Lib.hid (R2.out.on hb4)
    replace B3 := Lib.hid ((hb4.block _ (blt B3.out)).trans B3.out)
    replace R3 := Lib.hid (R3.out.on hb4)
    replace B4 := Lib.hid B4
    replace R4 := Lib.hid R4
    clear hb4
    obtain ⟨B30, B31, B32, B3f, -⟩ := three B3.out
    obtain ⟨B40, B41, B42, B4f, -⟩ := three B4.out
    go_wp2_with fail
    clear B30 B31 B32 B3f B40 B41 B42 B4f
    refine (One_q H5.out R4.out R3.out).mono ?_
    rintro e w5 ⟨k5, n5, ao5, m5, c5, rfl, hb, hr⟩
    obtain ⟨hb5, B5, R5, -⟩ := boxed hb hr
    clear hb hr
    replace FB := Lib.hid (FB.out.trans (hb5.mono FB.out.size))
    replace Qt := Lib.hid ((hb5.block _ (blt Qt.out)).trans Qt.out)
    replace Tt := Lib.hid (Tt.out.on hb5)
    replace Qa := Lib.hid ((hb5.block _ (blt Qa.out)).trans Qa.out)
    replace Ta := Lib.hid (Ta.out.on hb5)
    replace Qb := Lib.hid ((hb5.block _ (blt Qb.out)).trans Qb.out)
    replace Tb := Lib.hid (Tb.out.on hb5)
    replace B1 := Lib.hid ((hb5.block _ (blt B1.out)).trans B1.out)
    replace R1 := Lib.hid (R1.out.on hb5)
    replace B2 := Lib.hid ((hb5.block _ (blt B2.out)).trans B2.out)
    replace R2 := Lib.hid (R2.out.on hb5)
    replace B3 := Lib.hid ((hb5.block _ (blt B3.out)).trans B3.out)
    replace R3 := Lib.hid (R3.out.on hb5)
    replace B4 := Lib.hid ((hb5.block _ (blt B4.out)).trans B4.out)
    replace R4 := Lib.hid (R4.out.on hb5)
    replace B5 := Lib.hid B5
    replace R5 := Lib.hid R5
    clear hb5
    obtain ⟨B20, B21, B22, B2f, -⟩ := three B2.out
    obtain ⟨B50, B51, B52, B5f, -⟩ := three B5.out
    go_wp2_with fail
    clear B20 B21 B22 B2f B50 B51 B52 B5f
    refine (awake49_w _).mono ?_
    rintro e w6 ⟨rfl, hb⟩
    replace FB := Lib.hid (FB.out.trans (hb.mono FB.out.size))
    replace Qt := Lib.hid ((hb.block _ (blt Qt.out)).trans Qt.out)
    replace Tt := Lib.hid (Tt.out.on hb)
    replace Qa := Lib.hid ((hb.block _ (blt Qa.out)).trans Qa.out)
    replace Ta := Lib.hid (Ta.out.on hb)
    replace Qb := Lib.hid ((hb.block _ (blt Qb.out)).trans Qb.out)
    replace Tb := Lib.hid (Tb.out.on hb)
    replace B1 := Lib.hid ((hb.block _ (blt B1.out)).trans B1.out)
    replace R1 := Lib.hid (R1.out.on hb)
    replace B2 := Lib.hid ((hb.block _ (blt B2.out)).trans B2.out)
    replace R2 := Lib.hid (R2.out.on hb)
    replace B3 := Lib.hid ((hb.block _ (blt B3.out)).trans B3.out)
    replace R3 := Lib.hid (R3.out.on hb)
    replace B4 := Lib.hid ((hb.block _ (blt B4.out)).trans B4.out)
    replace R4 := Lib.hid (R4.out.on hb)
    replace B5 := Lib.hid ((hb.block _ (blt B5.out)).trans B5.out)
    replace R5 := Lib.hid (R5.out.on hb)
    clear hb
    go_wp2_with fail
    go_ret
    exact ⟨rfl, FB.out⟩
  subst hc
  by_cases hc : c2 = 0
  rotate_left
  · skip
    have hq : (c2 != 0) = true := by simp [hc]
    clear hc
    have H1 := Lib.hid h1
    have H2 := Lib.hid h2
    have H3 := Lib.hid h3
    have H4 := Lib.hid h4
    have H5 := Lib.hid h5
    clear h1 h2 h3 h4 h5
    obtain ⟨ot, cot, rfl⟩ := hr.shape
    obtain ⟨oa, coa, rfl⟩ := ha.shape
    obtain ⟨ob, cob, rfl⟩ := hb'.shape
    obtain ⟨W, hW⟩ : ∃ W, W = ((w.alloc (.cells #[.int .i64 t.kind, .int .i64 t.num, .slice ot t.sub.length cot] 24)).alloc (.cells #[.int .i64 a.kind, .int .i64 a.num, .slice oa a.sub.length coa] 24)).alloc (.cells #[.int .i64 b.kind, .int .i64 b.num, .slice ob b.sub.length cob] 24) := ⟨_, rfl⟩
    have hb0 : Below w.heap.size w W := by rw [hW]; exact ((((Below.refl _ _).alloc (Nat.le_refl _) _).alloc (by simp only [World.size_alloc]; omega) _).alloc (by simp only [World.size_alloc]; omega) _)
    have FB := Lib.hid hb0
    have Qt := Lib.hid (show W.heap[w.heap.size]? = some (.cells #[.int .i64 t.kind, .int .i64 t.num, .slice ot t.sub.length cot] 24) by rw [hW]; exact (Below.heap_alloc _ _ _ (by simp only [World.size_alloc]; omega)).trans ((Below.heap_alloc _ _ _ (by simp only [World.size_alloc]; omega)).trans (heap_new _ _ _ (by first | rfl | simp only [World.size_alloc]))))
    have Tt := Lib.hid (hr.on hb0)
    clear hr
    have Qa := Lib.hid (show W.heap[w.heap.size + 1]? = some (.cells #[.int .i64 a.kind, .int .i64 a.num, .slice oa a.sub.length coa] 24) by rw [hW]; exact (Below.heap_alloc _ _ _ (by simp only [World.size_alloc]; omega)).trans (heap_new _ _ _ (by first | rfl | simp only [World.size_alloc])))
    have Ta := Lib.hid (ha.on hb0)
    clear ha
    have Qb := Lib.hid (show W.heap[w.heap.size + 1 + 1]? = some (.cells #[.int .i64 b.kind, .int .i64 b.num, .slice ob b.sub.length cob] 24) by rw [hW]; exact heap_new _ _ _ (by first | rfl | simp only [World.size_alloc]))
    have Tb := Lib.hid (hb'.on hb0)
    clear hb'
    have HW := Lib.hid hW
    clear hb0 hW
    go_enter Try.func16, Try.ntmps16
    go_wp2_with fail
    rw [← HW.out]
    refine (One_q H1.out Ta.out Tt.out).mono ?_
    rintro e w1 ⟨k1, n1, ao1, m1, c1, rfl, hb, hr⟩
    obtain ⟨hb1, B1, R1, -⟩ := boxed hb hr
    clear hb hr
    replace FB := Lib.hid (FB.out.trans (hb1.mono FB.out.size))
    replace Qt := Lib.hid ((hb1.block _ (blt Qt.out)).trans Qt.out)
    replace Tt := Lib.hid (Tt.out.on hb1)
    replace Qa := Lib.hid ((hb1.block _ (blt Qa.out)).trans Qa.out)
    replace Ta := Lib.hid (Ta.out.on hb1)
    replace Qb := Lib.hid ((hb1.block _ (blt Qb.out)).trans Qb.out)
    replace Tb := Lib.hid (Tb.out.on hb1)
    replace B1 := Lib.hid B1
    replace R1 := Lib.hid R1
    clear hb1
    obtain ⟨B10, B11, B12, B1f, -⟩ := three B1.out
    obtain ⟨Qb0, Qb1, Qb2, Qbf, -⟩ := three Qb.out
    go_wp2_with fail
    clear B10 B11 B12 B1f Qb0 Qb1 Qb2 Qbf
    refine (One_q H2.out Tb.out R1.out).mono ?_
    rintro e w2 ⟨k2, n2, ao2, m2, c2, rfl, hb, hr⟩
    obtain ⟨hb2, B2, R2, -⟩ := boxed hb hr
    clear hb hr
    replace FB := Lib.hid (FB.out.trans (hb2.mono FB.out.size))
    replace Qt := Lib.hid ((hb2.block _ (blt Qt.out)).trans Qt.out)
    replace Tt := Lib.hid (Tt.out.on hb2)
    replace Qa := Lib.hid ((hb2.block _ (blt Qa.out)).trans Qa.out)
    replace Ta := Lib.hid (Ta.out.on hb2)
    replace Qb := Lib.hid ((hb2.block _ (blt Qb.out)).trans Qb.out)
    replace Tb := Lib.hid (Tb.out.on hb2)
    replace B1 := Lib.hid ((hb2.block _ (blt B1.out)).trans B1.out)
    replace R1 := Lib.hid (R1.out.on hb2)
    replace B2 := Lib.hid B2
    replace R2 := Lib.hid R2
    clear hb2
    obtain ⟨Qt0, Qt1, Qt2, Qtf, -⟩ := three Qt.out
    obtain ⟨Qb0, Qb1, Qb2, Qbf, -⟩ := three Qb.out
    go_wp2_with fail
    clear Qt0 Qt1 Qt2 Qtf Qb0 Qb1 Qb2 Qbf
    refine (At_q H3.out Tb.out Tt.out).mono ?_
    rintro e w3 ⟨k3, n3, ao3, m3, c3, rfl, hb, hr⟩
    obtain ⟨hb3, B3, R3, -⟩ := boxed hb hr
    clear hb hr
    replace FB := Lib.hid (FB.out.trans (hb3.mono FB.out.size))
    replace Qt := Lib.hid ((hb3.block _ (blt Qt.out)).trans Qt.out)
    replace Tt := Lib.hid (Tt.out.on hb3)
    replace Qa := Lib.hid ((hb3.block _ (blt Qa.out)).trans Qa.out)
    replace Ta := Lib.hid (Ta.out.on hb3)
    replace Qb := Lib.hid ((hb3.block _ (blt Qb.out)).trans Qb.out)
    replace Tb := Lib.hid (Tb.out.on hb3)
    replace B1 := Lib.hid ((hb3.block _ (blt B1.out)).trans B1.out)
    replace R1 := Lib.hid (R1.out.on hb3)
    replace B2 := Lib.hid ((hb3.block _ (blt B2.out)).trans B2.out)
    replace R2 := Lib.hid (R2.out.on hb3)
    replace B3 := Lib.hid B3
    replace R3 := Lib.hid R3
    clear hb3
    obtain ⟨Qa0, Qa1, Qa2, Qaf, -⟩ := three Qa.out
    obtain ⟨Qb0, Qb1, Qb2, Qbf, -⟩ := three Qb.out
    go_wp2_with fail
    clear Qa0 Qa1 Qa2 Qaf Qb0 Qb1 Qb2 Qbf
    refine (One_q H4.out Tb.out Ta.out).mono ?_
    rintro e w4 ⟨k4, n4, ao4, m4, c4, rfl, hb, hr⟩
    obtain ⟨hb4, B4, R4, -⟩ := boxed hb hr
    clear hb hr
    replace FB := Lib.hid (FB.out.trans (hb4.mono FB.out.size))
    replace Qt := Lib.hid ((hb4.block _ (blt Qt.out)).trans Qt.out)
    replace Tt := Lib.hid (Tt.out.on hb4)
    replace Qa := Lib.hid ((hb4.block _ (blt Qa.out)).trans Qa.out)
    replace Ta := Lib.hid (Ta.out.on hb4)
    replace Qb := Lib.hid ((hb4.block _ (blt Qb.out)).trans Qb.out)
    replace Tb := Lib.hid (Tb.out.on hb4)
    replace B1 := Lib.hid ((hb4.block _ (blt B1.out)).trans B1.out)
    replace R1 := Lib.hid (R1.out.on hb4)
    replace B2 := Lib.hid ((hb4.block _ (blt B2.out)).trans B2.out)
    replace R2 := Lib.hid (R2.out.on hb4)
    replace B3 := Lib.hid ((hb4.block _ (blt B3.out)).trans B3.out)
    replace R3 := Lib.hid (R3.out.on hb4)
    replace B4 := Lib.hid B4
    replace R4 := Lib.hid R4
    clear hb4
    obtain ⟨B30, B31, B32, B3f, -⟩ := three B3.out
    obtain ⟨B40, B41, B42, B4f, -⟩ := three B4.out
    go_wp2_with fail
    clear B30 B31 B32 B3f B40 B41 B42 B4f
    refine (One_q H5.out R4.out R3.out).mono ?_
    rintro e w5 ⟨k5, n5, ao5, m5, c5, rfl, hb, hr⟩
    obtain ⟨hb5, B5, R5, -⟩ := boxed hb hr
    clear hb hr
    replace FB := Lib.hid (FB.out.trans (hb5.mono FB.out.size))
    replace Qt := Lib.hid ((hb5.block _ (blt Qt.out)).trans Qt.out)
    replace Tt := Lib.hid (Tt.out.on hb5)
    replace Qa := Lib.hid ((hb5.block _ (blt Qa.out)).trans Qa.out)
    replace Ta := Lib.hid (Ta.out.on hb5)
    replace Qb := Lib.hid ((hb5.block _ (blt Qb.out)).trans Qb.out)
    replace Tb := Lib.hid (Tb.out.on hb5)
    replace B1 := Lib.hid ((hb5.block _ (blt B1.out)).trans B1.out)
    replace R1 := Lib.hid (R1.out.on hb5)
    replace B2 := Lib.hid ((hb5.block _ (blt B2.out)).trans B2.out)
    replace R2 := Lib.hid (R2.out.on hb5)
    replace B3 := Lib.hid ((hb5.block _ (blt B3.out)).trans B3.out)
    replace R3 := Lib.hid (R3.out.on hb5)
    replace B4 := Lib.hid ((hb5.block _ (blt B4.out)).trans B4.out)
    replace R4 := Lib.hid (R4.out.on hb5)
    replace B5 := Lib.hid B5
    replace R5 := Lib.hid R5
    clear hb5
    obtain ⟨B20, B21, B22, B2f, -⟩ := three B2.out
    obtain ⟨B50, B51, B52, B5f, -⟩ := three B5.out
    go_wp2_with fail
    clear B20 B21 B22 B2f B50 B51 B52 B5f
    refine (awake49_w _).mono ?_
    rintro e w6 ⟨rfl, hb⟩
    replace FB := Lib.hid (FB.out.trans (hb.mono FB.out.size))
    replace Qt := Lib.hid ((hb.block _ (blt Qt.out)).trans Qt.out)
    replace Tt := Lib.hid (Tt.out.on hb)
    replace Qa := Lib.hid ((hb.block _ (blt Qa.out)).trans Qa.out)
    replace Ta := Lib.hid (Ta.out.on hb)
    replace Qb := Lib.hid ((hb.block _ (blt Qb.out)).trans Qb.out)
    replace Tb := Lib.hid (Tb.out.on hb)
    replace B1 := Lib.hid ((hb.block _ (blt B1.out)).trans B1.out)
    replace R1 := Lib.hid (R1.out.on hb)
    replace B2 := Lib.hid ((hb.block _ (blt B2.out)).trans B2.out)
    replace R2 := Lib.hid (R2.out.on hb)
    replace B3 := Lib.hid ((hb.block _ (blt B3.out)).trans B3.out)
    replace R3 := Lib.hid (R3.out.on hb)
    replace B4 := Lib.hid ((hb.block _ (blt B4.out)).trans B4.out)
    replace R4 := Lib.hid (R4.out.on hb)
    replace B5 := Lib.hid ((hb.block _ (blt B5.out)).trans B5.out)
    replace R5 := Lib.hid (R5.out.on hb)
    clear hb
    go_wp2_with fail
    go_ret
    exact ⟨rfl, FB.out⟩
  subst hc
  by_cases hc : c3 = 0
  rotate_left
  · skip
    have hq : (c3 != 0) = true := by simp [hc]
    clear hc
    have H1 := Lib.hid h1
    have H2 := Lib.hid h2
    have H3 := Lib.hid h3
    have H4 := Lib.hid h4
    have H5 := Lib.hid h5
    clear h1 h2 h3 h4 h5
    obtain ⟨ot, cot, rfl⟩ := hr.shape
    obtain ⟨oa, coa, rfl⟩ := ha.shape
    obtain ⟨ob, cob, rfl⟩ := hb'.shape
    obtain ⟨W, hW⟩ : ∃ W, W = ((w.alloc (.cells #[.int .i64 t.kind, .int .i64 t.num, .slice ot t.sub.length cot] 24)).alloc (.cells #[.int .i64 a.kind, .int .i64 a.num, .slice oa a.sub.length coa] 24)).alloc (.cells #[.int .i64 b.kind, .int .i64 b.num, .slice ob b.sub.length cob] 24) := ⟨_, rfl⟩
    have hb0 : Below w.heap.size w W := by rw [hW]; exact ((((Below.refl _ _).alloc (Nat.le_refl _) _).alloc (by simp only [World.size_alloc]; omega) _).alloc (by simp only [World.size_alloc]; omega) _)
    have FB := Lib.hid hb0
    have Qt := Lib.hid (show W.heap[w.heap.size]? = some (.cells #[.int .i64 t.kind, .int .i64 t.num, .slice ot t.sub.length cot] 24) by rw [hW]; exact (Below.heap_alloc _ _ _ (by simp only [World.size_alloc]; omega)).trans ((Below.heap_alloc _ _ _ (by simp only [World.size_alloc]; omega)).trans (heap_new _ _ _ (by first | rfl | simp only [World.size_alloc]))))
    have Tt := Lib.hid (hr.on hb0)
    clear hr
    have Qa := Lib.hid (show W.heap[w.heap.size + 1]? = some (.cells #[.int .i64 a.kind, .int .i64 a.num, .slice oa a.sub.length coa] 24) by rw [hW]; exact (Below.heap_alloc _ _ _ (by simp only [World.size_alloc]; omega)).trans (heap_new _ _ _ (by first | rfl | simp only [World.size_alloc])))
    have Ta := Lib.hid (ha.on hb0)
    clear ha
    have Qb := Lib.hid (show W.heap[w.heap.size + 1 + 1]? = some (.cells #[.int .i64 b.kind, .int .i64 b.num, .slice ob b.sub.length cob] 24) by rw [hW]; exact heap_new _ _ _ (by first | rfl | simp only [World.size_alloc]))
    have Tb := Lib.hid (hb'.on hb0)
    clear hb'
    have HW := Lib.hid hW
    clear hb0 hW
    go_enter Try.func16, Try.ntmps16
    go_wp2_with fail
    rw [← HW.out]
    refine (One_q H1.out Ta.out Tt.out).mono ?_
    rintro e w1 ⟨k1, n1, ao1, m1, c1, rfl, hb, hr⟩
    obtain ⟨hb1, B1, R1, -⟩ := boxed hb hr
    clear hb hr
    replace FB := Lib.hid (FB.out.trans (hb1.mono FB.out.size))
    replace Qt := Lib.hid ((hb1.block _ (blt Qt.out)).trans Qt.out)
    replace Tt := Lib.hid (Tt.out.on hb1)
    replace Qa := Lib.hid ((hb1.block _ (blt Qa.out)).trans Qa.out)
    replace Ta := Lib.hid (Ta.out.on hb1)
    replace Qb := Lib.hid ((hb1.block _ (blt Qb.out)).trans Qb.out)
    replace Tb := Lib.hid (Tb.out.on hb1)
    replace B1 := Lib.hid B1
    replace R1 := Lib.hid R1
    clear hb1
    obtain ⟨B10, B11, B12, B1f, -⟩ := three B1.out
    obtain ⟨Qb0, Qb1, Qb2, Qbf, -⟩ := three Qb.out
    go_wp2_with fail
    clear B10 B11 B12 B1f Qb0 Qb1 Qb2 Qbf
    refine (One_q H2.out Tb.out R1.out).mono ?_
    rintro e w2 ⟨k2, n2, ao2, m2, c2, rfl, hb, hr⟩
    obtain ⟨hb2, B2, R2, -⟩ := boxed hb hr
    clear hb hr
    replace FB := Lib.hid (FB.out.trans (hb2.mono FB.out.size))
    replace Qt := Lib.hid ((hb2.block _ (blt Qt.out)).trans Qt.out)
    replace Tt := Lib.hid (Tt.out.on hb2)
    replace Qa := Lib.hid ((hb2.block _ (blt Qa.out)).trans Qa.out)
    replace Ta := Lib.hid (Ta.out.on hb2)
    replace Qb := Lib.hid ((hb2.block _ (blt Qb.out)).trans Qb.out)
    replace Tb := Lib.hid (Tb.out.on hb2)
    replace B1 := Lib.hid ((hb2.block _ (blt B1.out)).trans B1.out)
    replace R1 := Lib.hid (R1.out.on hb2)
    replace B2 := Lib.hid B2
    replace R2 := Lib.hid R2
    clear hb2
    obtain ⟨Qt0, Qt1, Qt2, Qtf, -⟩ := three Qt.out
    obtain ⟨Qb0, Qb1, Qb2, Qbf, -⟩ := three Qb.out
    go_wp2_with fail
    clear Qt0 Qt1 Qt2 Qtf Qb0 Qb1 Qb2 Qbf
    refine (At_q H3.out Tb.out Tt.out).mono ?_
    rintro e w3 ⟨k3, n3, ao3, m3, c3, rfl, hb, hr⟩
    obtain ⟨hb3, B3, R3, -⟩ := boxed hb hr
    clear hb hr
    replace FB := Lib.hid (FB.out.trans (hb3.mono FB.out.size))
    replace Qt := Lib.hid ((hb3.block _ (blt Qt.out)).trans Qt.out)
    replace Tt := Lib.hid (Tt.out.on hb3)
    replace Qa := Lib.hid ((hb3.block _ (blt Qa.out)).trans Qa.out)
    replace Ta := Lib.hid (Ta.out.on hb3)
    replace Qb := Lib.hid ((hb3.block _ (blt Qb.out)).trans Qb.out)
    replace Tb := Lib.hid (Tb.out.on hb3)
    replace B1 := Lib.hid ((hb3.block _ (blt B1.out)).trans B1.out)
    replace R1 := Lib.hid (R1.out.on hb3)
    replace B2 := Lib.hid ((hb3.block _ (blt B2.out)).trans B2.out)
    replace R2 := Lib.hid (R2.out.on hb3)
    replace B3 := Lib.hid B3
    replace R3 := Lib.hid R3
    clear hb3
    obtain ⟨Qa0, Qa1, Qa2, Qaf, -⟩ := three Qa.out
    obtain ⟨Qb0, Qb1, Qb2, Qbf, -⟩ := three Qb.out
    go_wp2_with fail
    clear Qa0 Qa1 Qa2 Qaf Qb0 Qb1 Qb2 Qbf
    refine (One_q H4.out Tb.out Ta.out).mono ?_
    rintro e w4 ⟨k4, n4, ao4, m4, c4, rfl, hb, hr⟩
    obtain ⟨hb4, B4, R4, -⟩ := boxed hb hr
    clear hb hr
    replace FB := Lib.hid (FB.out.trans (hb4.mono FB.out.size))
    replace Qt := Lib.hid ((hb4.block _ (blt Qt.out)).trans Qt.out)
    replace Tt := Lib.hid (Tt.out.on hb4)
    replace Qa := Lib.hid ((hb4.block _ (blt Qa.out)).trans Qa.out)
    replace Ta := Lib.hid (Ta.out.on hb4)
    replace Qb := Lib.hid ((hb4.block _ (blt Qb.out)).trans Qb.out)
    replace Tb := Lib.hid (Tb.out.on hb4)
    replace B1 := Lib.hid ((hb4.block _ (blt B1.out)).trans B1.out)
    replace R1 := Lib.hid (R1.out.on hb4)
    replace B2 := Lib.hid ((hb4.block _ (blt B2.out)).trans B2.out)
    replace R2 := Lib.hid (R2.out.on hb4)
    replace B3 := Lib.hid ((hb4.block _ (blt B3.out)).trans B3.out)
    replace R3 := Lib.hid (R3.out.on hb4)
    replace B4 := Lib.hid B4
    replace R4 := Lib.hid R4
    clear hb4
    obtain ⟨B30, B31, B32, B3f, -⟩ := three B3.out
    obtain ⟨B40, B41, B42, B4f, -⟩ := three B4.out
    go_wp2_with fail
    clear B30 B31 B32 B3f B40 B41 B42 B4f
    refine (One_q H5.out R4.out R3.out).mono ?_
    rintro e w5 ⟨k5, n5, ao5, m5, c5, rfl, hb, hr⟩
    obtain ⟨hb5, B5, R5, -⟩ := boxed hb hr
    clear hb hr
    replace FB := Lib.hid (FB.out.trans (hb5.mono FB.out.size))
    replace Qt := Lib.hid ((hb5.block _ (blt Qt.out)).trans Qt.out)
    replace Tt := Lib.hid (Tt.out.on hb5)
    replace Qa := Lib.hid ((hb5.block _ (blt Qa.out)).trans Qa.out)
    replace Ta := Lib.hid (Ta.out.on hb5)
    replace Qb := Lib.hid ((hb5.block _ (blt Qb.out)).trans Qb.out)
    replace Tb := Lib.hid (Tb.out.on hb5)
    replace B1 := Lib.hid ((hb5.block _ (blt B1.out)).trans B1.out)
    replace R1 := Lib.hid (R1.out.on hb5)
    replace B2 := Lib.hid ((hb5.block _ (blt B2.out)).trans B2.out)
    replace R2 := Lib.hid (R2.out.on hb5)
    replace B3 := Lib.hid ((hb5.block _ (blt B3.out)).trans B3.out)
    replace R3 := Lib.hid (R3.out.on hb5)
    replace B4 := Lib.hid ((hb5.block _ (blt B4.out)).trans B4.out)
    replace R4 := Lib.hid (R4.out.on hb5)
    replace B5 := Lib.hid B5
    replace R5 := Lib.hid R5
    clear hb5
    obtain ⟨B20, B21, B22, B2f, -⟩ := three B2.out
    obtain ⟨B50, B51, B52, B5f, -⟩ := three B5.out
    go_wp2_with fail
    clear B20 B21 B22 B2f B50 B51 B52 B5f
    refine (awake49_w _).mono ?_
    rintro e w6 ⟨rfl, hb⟩
    replace FB := Lib.hid (FB.out.trans (hb.mono FB.out.size))
    replace Qt := Lib.hid ((hb.block _ (blt Qt.out)).trans Qt.out)
    replace Tt := Lib.hid (Tt.out.on hb)
    replace Qa := Lib.hid ((hb.block _ (blt Qa.out)).trans Qa.out)
    replace Ta := Lib.hid (Ta.out.on hb)
    replace Qb := Lib.hid ((hb.block _ (blt Qb.out)).trans Qb.out)
    replace Tb := Lib.hid (Tb.out.on hb)
    replace B1 := Lib.hid ((hb.block _ (blt B1.out)).trans B1.out)
    replace R1 := Lib.hid (R1.out.on hb)
    replace B2 := Lib.hid ((hb.block _ (blt B2.out)).trans B2.out)
    replace R2 := Lib.hid (R2.out.on hb)
    replace B3 := Lib.hid ((hb.block _ (blt B3.out)).trans B3.out)
    replace R3 := Lib.hid (R3.out.on hb)
    replace B4 := Lib.hid ((hb.block _ (blt B4.out)).trans B4.out)
    replace R4 := Lib.hid (R4.out.on hb)
    replace B5 := Lib.hid ((hb.block _ (blt B5.out)).trans B5.out)
    replace R5 := Lib.hid (R5.out.on hb)
    clear hb
    go_wp2_with fail
    go_ret
    exact ⟨rfl, FB.out⟩
  subst hc
  by_cases hc : c4 = 0
  rotate_left
  · skip
    have hq : (c4 != 0) = true := by simp [hc]
    clear hc
    have H1 := Lib.hid h1
    have H2 := Lib.hid h2
    have H3 := Lib.hid h3
    have H4 := Lib.hid h4
    have H5 := Lib.hid h5
    clear h1 h2 h3 h4 h5
    obtain ⟨ot, cot, rfl⟩ := hr.shape
    obtain ⟨oa, coa, rfl⟩ := ha.shape
    obtain ⟨ob, cob, rfl⟩ := hb'.shape
    obtain ⟨W, hW⟩ : ∃ W, W = ((w.alloc (.cells #[.int .i64 t.kind, .int .i64 t.num, .slice ot t.sub.length cot] 24)).alloc (.cells #[.int .i64 a.kind, .int .i64 a.num, .slice oa a.sub.length coa] 24)).alloc (.cells #[.int .i64 b.kind, .int .i64 b.num, .slice ob b.sub.length cob] 24) := ⟨_, rfl⟩
    have hb0 : Below w.heap.size w W := by rw [hW]; exact ((((Below.refl _ _).alloc (Nat.le_refl _) _).alloc (by simp only [World.size_alloc]; omega) _).alloc (by simp only [World.size_alloc]; omega) _)
    have FB := Lib.hid hb0
    have Qt := Lib.hid (show W.heap[w.heap.size]? = some (.cells #[.int .i64 t.kind, .int .i64 t.num, .slice ot t.sub.length cot] 24) by rw [hW]; exact (Below.heap_alloc _ _ _ (by simp only [World.size_alloc]; omega)).trans ((Below.heap_alloc _ _ _ (by simp only [World.size_alloc]; omega)).trans (heap_new _ _ _ (by first | rfl | simp only [World.size_alloc]))))
    have Tt := Lib.hid (hr.on hb0)
    clear hr
    have Qa := Lib.hid (show W.heap[w.heap.size + 1]? = some (.cells #[.int .i64 a.kind, .int .i64 a.num, .slice oa a.sub.length coa] 24) by rw [hW]; exact (Below.heap_alloc _ _ _ (by simp only [World.size_alloc]; omega)).trans (heap_new _ _ _ (by first | rfl | simp only [World.size_alloc])))
    have Ta := Lib.hid (ha.on hb0)
    clear ha
    have Qb := Lib.hid (show W.heap[w.heap.size + 1 + 1]? = some (.cells #[.int .i64 b.kind, .int .i64 b.num, .slice ob b.sub.length cob] 24) by rw [hW]; exact heap_new _ _ _ (by first | rfl | simp only [World.size_alloc]))
    have Tb := Lib.hid (hb'.on hb0)
    clear hb'
    have HW := Lib.hid hW
    clear hb0 hW
    go_enter Try.func16, Try.ntmps16
    go_wp2_with fail
    rw [← HW.out]
    refine (One_q H1.out Ta.out Tt.out).mono ?_
    rintro e w1 ⟨k1, n1, ao1, m1, c1, rfl, hb, hr⟩
    obtain ⟨hb1, B1, R1, -⟩ := boxed hb hr
    clear hb hr
    replace FB := Lib.hid (FB.out.trans (hb1.mono FB.out.size))
    replace Qt := Lib.hid ((hb1.block _ (blt Qt.out)).trans Qt.out)
    replace Tt := Lib.hid (Tt.out.on hb1)
    replace Qa := Lib.hid ((hb1.block _ (blt Qa.out)).trans Qa.out)
    replace Ta := Lib.hid (Ta.out.on hb1)
    replace Qb := Lib.hid ((hb1.block _ (blt Qb.out)).trans Qb.out)
    replace Tb := Lib.hid (Tb.out.on hb1)
    replace B1 := Lib.hid B1
    replace R1 := Lib.hid R1
    clear hb1
    obtain ⟨B10, B11, B12, B1f, -⟩ := three B1.out
    obtain ⟨Qb0, Qb1, Qb2, Qbf, -⟩ := three Qb.out
    go_wp2_with fail
    clear B10 B11 B12 B1f Qb0 Qb1 Qb2 Qbf
    refine (One_q H2.out Tb.out R1.out).mono ?_
    rintro e w2 ⟨k2, n2, ao2, m2, c2, rfl, hb, hr⟩
    obtain ⟨hb2, B2, R2, -⟩ := boxed hb hr
    clear hb hr
    replace FB := Lib.hid (FB.out.trans (hb2.mono FB.out.size))
    replace Qt := Lib.hid ((hb2.block _ (blt Qt.out)).trans Qt.out)
    replace Tt := Lib.hid (Tt.out.on hb2)
    replace Qa := Lib.hid ((hb2.block _ (blt Qa.out)).trans Qa.out)
    replace Ta := Lib.hid (Ta.out.on hb2)
    replace Qb := Lib.hid ((hb2.block _ (blt Qb.out)).trans Qb.out)
    replace Tb := Lib.hid (Tb.out.on hb2)
    replace B1 := Lib.hid ((hb2.block _ (blt B1.out)).trans B1.out)
    replace R1 := Lib.hid (R1.out.on hb2)
    replace B2 := Lib.hid B2
    replace R2 := Lib.hid R2
    clear hb2
    obtain ⟨Qt0, Qt1, Qt2, Qtf, -⟩ := three Qt.out
    obtain ⟨Qb0, Qb1, Qb2, Qbf, -⟩ := three Qb.out
    go_wp2_with fail
    clear Qt0 Qt1 Qt2 Qtf Qb0 Qb1 Qb2 Qbf
    refine (At_q H3.out Tb.out Tt.out).mono ?_
    rintro e w3 ⟨k3, n3, ao3, m3, c3, rfl, hb, hr⟩
    obtain ⟨hb3, B3, R3, -⟩ := boxed hb hr
    clear hb hr
    replace FB := Lib.hid (FB.out.trans (hb3.mono FB.out.size))
    replace Qt := Lib.hid ((hb3.block _ (blt Qt.out)).trans Qt.out)
    replace Tt := Lib.hid (Tt.out.on hb3)
    replace Qa := Lib.hid ((hb3.block _ (blt Qa.out)).trans Qa.out)
    replace Ta := Lib.hid (Ta.out.on hb3)
    replace Qb := Lib.hid ((hb3.block _ (blt Qb.out)).trans Qb.out)
    replace Tb := Lib.hid (Tb.out.on hb3)
    replace B1 := Lib.hid ((hb3.block _ (blt B1.out)).trans B1.out)
    replace R1 := Lib.hid (R1.out.on hb3)
    replace B2 := Lib.hid ((hb3.block _ (blt B2.out)).trans B2.out)
    replace R2 := Lib.hid (R2.out.on hb3)
    replace B3 := Lib.hid B3
    replace R3 := Lib.hid R3
    clear hb3
    obtain ⟨Qa0, Qa1, Qa2, Qaf, -⟩ := three Qa.out
    obtain ⟨Qb0, Qb1, Qb2, Qbf, -⟩ := three Qb.out
    go_wp2_with fail
    clear Qa0 Qa1 Qa2 Qaf Qb0 Qb1 Qb2 Qbf
    refine (One_q H4.out Tb.out Ta.out).mono ?_
    rintro e w4 ⟨k4, n4, ao4, m4, c4, rfl, hb, hr⟩
    obtain ⟨hb4, B4, R4, -⟩ := boxed hb hr
    clear hb hr
    replace FB := Lib.hid (FB.out.trans (hb4.mono FB.out.size))
    replace Qt := Lib.hid ((hb4.block _ (blt Qt.out)).trans Qt.out)
    replace Tt := Lib.hid (Tt.out.on hb4)
    replace Qa := Lib.hid ((hb4.block _ (blt Qa.out)).trans Qa.out)
    replace Ta := Lib.hid (Ta.out.on hb4)
    replace Qb := Lib.hid ((hb4.block _ (blt Qb.out)).trans Qb.out)
    replace Tb := Lib.hid (Tb.out.on hb4)
    replace B1 := Lib.hid ((hb4.block _ (blt B1.out)).trans B1.out)
    replace R1 := Lib.hid (R1.out.on hb4)
    replace B2 := Lib.hid ((hb4.block _ (blt B2.out)).trans B2.out)
    replace R2 := Lib.hid (R2.out.on hb4)
    replace B3 := Lib.hid ((hb4.block _ (blt B3.out)).trans B3.out)
    replace R3 := Lib.hid (R3.out.on hb4)
    replace B4 := Lib.hid B4
    replace R4 := Lib.hid R4
    clear hb4
    obtain ⟨B30, B31, B32, B3f, -⟩ := three B3.out
    obtain ⟨B40, B41, B42, B4f, -⟩ := three B4.out
    go_wp2_with fail
    clear B30 B31 B32 B3f B40 B41 B42 B4f
    refine (One_q H5.out R4.out R3.out).mono ?_
    rintro e w5 ⟨k5, n5, ao5, m5, c5, rfl, hb, hr⟩
    obtain ⟨hb5, B5, R5, -⟩ := boxed hb hr
    clear hb hr
    replace FB := Lib.hid (FB.out.trans (hb5.mono FB.out.size))
    replace Qt := Lib.hid ((hb5.block _ (blt Qt.out)).trans Qt.out)
    replace Tt := Lib.hid (Tt.out.on hb5)
    replace Qa := Lib.hid ((hb5.block _ (blt Qa.out)).trans Qa.out)
    replace Ta := Lib.hid (Ta.out.on hb5)
    replace Qb := Lib.hid ((hb5.block _ (blt Qb.out)).trans Qb.out)
    replace Tb := Lib.hid (Tb.out.on hb5)
    replace B1 := Lib.hid ((hb5.block _ (blt B1.out)).trans B1.out)
    replace R1 := Lib.hid (R1.out.on hb5)
    replace B2 := Lib.hid ((hb5.block _ (blt B2.out)).trans B2.out)
    replace R2 := Lib.hid (R2.out.on hb5)
    replace B3 := Lib.hid ((hb5.block _ (blt B3.out)).trans B3.out)
    replace R3 := Lib.hid (R3.out.on hb5)
    replace B4 := Lib.hid ((hb5.block _ (blt B4.out)).trans B4.out)
    replace R4 := Lib.hid (R4.out.on hb5)
    replace B5 := Lib.hid B5
    replace R5 := Lib.hid R5
    clear hb5
    obtain ⟨B20, B21, B22, B2f, -⟩ := three B2.out
    obtain ⟨B50, B51, B52, B5f, -⟩ := three B5.out
    go_wp2_with fail
    clear B20 B21 B22 B2f B50 B51 B52 B5f
    refine (awake49_w _).mono ?_
    rintro e w6 ⟨rfl, hb⟩
    replace FB := Lib.hid (FB.out.trans (hb.mono FB.out.size))
    replace Qt := Lib.hid ((hb.block _ (blt Qt.out)).trans Qt.out)
    replace Tt := Lib.hid (Tt.out.on hb)
    replace Qa := Lib.hid ((hb.block _ (blt Qa.out)).trans Qa.out)
    replace Ta := Lib.hid (Ta.out.on hb)
    replace Qb := Lib.hid ((hb.block _ (blt Qb.out)).trans Qb.out)
    replace Tb := Lib.hid (Tb.out.on hb)
    replace B1 := Lib.hid ((hb.block _ (blt B1.out)).trans B1.out)
    replace R1 := Lib.hid (R1.out.on hb)
    replace B2 := Lib.hid ((hb.block _ (blt B2.out)).trans B2.out)
    replace R2 := Lib.hid (R2.out.on hb)
    replace B3 := Lib.hid ((hb.block _ (blt B3.out)).trans B3.out)
    replace R3 := Lib.hid (R3.out.on hb)
    replace B4 := Lib.hid ((hb.block _ (blt B4.out)).trans B4.out)
    replace R4 := Lib.hid (R4.out.on hb)
    replace B5 := Lib.hid ((hb.block _ (blt B5.out)).trans B5.out)
    replace R5 := Lib.hid (R5.out.on hb)
    clear hb
    go_wp2_with fail
    go_ret
    exact ⟨rfl, FB.out⟩
  subst hc
  by_cases hc : c5 = 0
  rotate_left
  · skip
    have hq : (c5 != 0) = true := by simp [hc]
    clear hc
    have H1 := Lib.hid h1
    have H2 := Lib.hid h2
    have H3 := Lib.hid h3
    have H4 := Lib.hid h4
    have H5 := Lib.hid h5
    clear h1 h2 h3 h4 h5
    obtain ⟨ot, cot, rfl⟩ := hr.shape
    obtain ⟨oa, coa, rfl⟩ := ha.shape
    obtain ⟨ob, cob, rfl⟩ := hb'.shape
    obtain ⟨W, hW⟩ : ∃ W, W = ((w.alloc (.cells #[.int .i64 t.kind, .int .i64 t.num, .slice ot t.sub.length cot] 24)).alloc (.cells #[.int .i64 a.kind, .int .i64 a.num, .slice oa a.sub.length coa] 24)).alloc (.cells #[.int .i64 b.kind, .int .i64 b.num, .slice ob b.sub.length cob] 24) := ⟨_, rfl⟩
    have hb0 : Below w.heap.size w W := by rw [hW]; exact ((((Below.refl _ _).alloc (Nat.le_refl _) _).alloc (by simp only [World.size_alloc]; omega) _).alloc (by simp only [World.size_alloc]; omega) _)
    have FB := Lib.hid hb0
    have Qt := Lib.hid (show W.heap[w.heap.size]? = some (.cells #[.int .i64 t.kind, .int .i64 t.num, .slice ot t.sub.length cot] 24) by rw [hW]; exact (Below.heap_alloc _ _ _ (by simp only [World.size_alloc]; omega)).trans ((Below.heap_alloc _ _ _ (by simp only [World.size_alloc]; omega)).trans (heap_new _ _ _ (by first | rfl | simp only [World.size_alloc]))))
    have Tt := Lib.hid (hr.on hb0)
    clear hr
    have Qa := Lib.hid (show W.heap[w.heap.size + 1]? = some (.cells #[.int .i64 a.kind, .int .i64 a.num, .slice oa a.sub.length coa] 24) by rw [hW]; exact (Below.heap_alloc _ _ _ (by simp only [World.size_alloc]; omega)).trans (heap_new _ _ _ (by first | rfl | simp only [World.size_alloc])))
    have Ta := Lib.hid (ha.on hb0)
    clear ha
    have Qb := Lib.hid (show W.heap[w.heap.size + 1 + 1]? = some (.cells #[.int .i64 b.kind, .int .i64 b.num, .slice ob b.sub.length cob] 24) by rw [hW]; exact heap_new _ _ _ (by first | rfl | simp only [World.size_alloc]))
    have Tb := Lib.hid (hb'.on hb0)
    clear hb'
    have HW := Lib.hid hW
    clear hb0 hW
    go_enter Try.func16, Try.ntmps16
    go_wp2_with fail
    rw [← HW.out]
    refine (One_q H1.out Ta.out Tt.out).mono ?_
    rintro e w1 ⟨k1, n1, ao1, m1, c1, rfl, hb, hr⟩
    obtain ⟨hb1, B1, R1, -⟩ := boxed hb hr
    clear hb hr
    replace FB := Lib.hid (FB.out.trans (hb1.mono FB.out.size))
    replace Qt := Lib.hid ((hb1.block _ (blt Qt.out)).trans Qt.out)
    replace Tt := Lib.hid (Tt.out.on hb1)
    replace Qa := Lib.hid ((hb1.block _ (blt Qa.out)).trans Qa.out)
    replace Ta := Lib.hid (Ta.out.on hb1)
    replace Qb := Lib.hid ((hb1.block _ (blt Qb.out)).trans Qb.out)
    replace Tb := Lib.hid (Tb.out.on hb1)
    replace B1 := Lib.hid B1
    replace R1 := Lib.hid R1
    clear hb1
    obtain ⟨B10, B11, B12, B1f, -⟩ := three B1.out
    obtain ⟨Qb0, Qb1, Qb2, Qbf, -⟩ := three Qb.out
    go_wp2_with fail
    clear B10 B11 B12 B1f Qb0 Qb1 Qb2 Qbf
    refine (One_q H2.out Tb.out R1.out).mono ?_
    rintro e w2 ⟨k2, n2, ao2, m2, c2, rfl, hb, hr⟩
    obtain ⟨hb2, B2, R2, -⟩ := boxed hb hr
    clear hb hr
    replace FB := Lib.hid (FB.out.trans (hb2.mono FB.out.size))
    replace Qt := Lib.hid ((hb2.block _ (blt Qt.out)).trans Qt.out)
    replace Tt := Lib.hid (Tt.out.on hb2)
    replace Qa := Lib.hid ((hb2.block _ (blt Qa.out)).trans Qa.out)
    replace Ta := Lib.hid (Ta.out.on hb2)
    replace Qb := Lib.hid ((hb2.block _ (blt Qb.out)).trans Qb.out)
    replace Tb := Lib.hid (Tb.out.on hb2)
    replace B1 := Lib.hid ((hb2.block _ (blt B1.out)).trans B1.out)
    replace R1 := Lib.hid (R1.out.on hb2)
    replace B2 := Lib.hid B2
    replace R2 := Lib.hid R2
    clear hb2
    obtain ⟨Qt0, Qt1, Qt2, Qtf, -⟩ := three Qt.out
    obtain ⟨Qb0, Qb1, Qb2, Qbf, -⟩ := three Qb.out
    go_wp2_with fail
    clear Qt0 Qt1 Qt2 Qtf Qb0 Qb1 Qb2 Qbf
    refine (At_q H3.out Tb.out Tt.out).mono ?_
    rintro e w3 ⟨k3, n3, ao3, m3, c3, rfl, hb, hr⟩
    obtain ⟨hb3, B3, R3, -⟩ := boxed hb hr
    clear hb hr
    replace FB := Lib.hid (FB.out.trans (hb3.mono FB.out.size))
    replace Qt := Lib.hid ((hb3.block _ (blt Qt.out)).trans Qt.out)
    replace Tt := Lib.hid (Tt.out.on hb3)
    replace Qa := Lib.hid ((hb3.block _ (blt Qa.out)).trans Qa.out)
    replace Ta := Lib.hid (Ta.out.on hb3)
    replace Qb := Lib.hid ((hb3.block _ (blt Qb.out)).trans Qb.out)
    replace Tb := Lib.hid (Tb.out.on hb3)
    replace B1 := Lib.hid ((hb3.block _ (blt B1.out)).trans B1.out)
    replace R1 := Lib.hid (R1.out.on hb3)
    replace B2 := Lib.hid ((hb3.block _ (blt B2.out)).trans B2.out)
    replace R2 := Lib.hid (R2.out.on hb3)
    replace B3 := Lib.hid B3
    replace R3 := Lib.hid R3
    clear hb3
    obtain ⟨Qa0, Qa1, Qa2, Qaf, -⟩ := three Qa.out
    obtain ⟨Qb0, Qb1, Qb2, Qbf, -⟩ := three Qb.out
    go_wp2_with fail
    clear Qa0 Qa1 Qa2 Qaf Qb0 Qb1 Qb2 Qbf
    refine (One_q H4.out Tb.out Ta.out).mono ?_
    rintro e w4 ⟨k4, n4, ao4, m4, c4, rfl, hb, hr⟩
    obtain ⟨hb4, B4, R4, -⟩ := boxed hb hr
    clear hb hr
    replace FB := Lib.hid (FB.out.trans (hb4.mono FB.out.size))
    replace Qt := Lib.hid ((hb4.block _ (blt Qt.out)).trans Qt.out)
    replace Tt := Lib.hid (Tt.out.on hb4)
    replace Qa := Lib.hid ((hb4.block _ (blt Qa.out)).trans Qa.out)
    replace Ta := Lib.hid (Ta.out.on hb4)
    replace Qb := Lib.hid ((hb4.block _ (blt Qb.out)).trans Qb.out)
    replace Tb := Lib.hid (Tb.out.on hb4)
    replace B1 := Lib.hid ((hb4.block _ (blt B1.out)).trans B1.out)
    replace R1 := Lib.hid (R1.out.on hb4)
    replace B2 := Lib.hid ((hb4.block _ (blt B2.out)).trans B2.out)
    replace R2 := Lib.hid (R2.out.on hb4)
    replace B3 := Lib.hid ((hb4.block _ (blt B3.out)).trans B3.out)
    replace R3 := Lib.hid (R3.out.on hb4)
    replace B4 := Lib.hid B4
    replace R4 := Lib.hid R4
    clear hb4
    obtain ⟨B30, B31, B32, B3f, -⟩ := three B3.out
    obtain ⟨B40, B41, B42, B4f, -⟩ := three B4.out
    go_wp2_with fail
    clear B30 B31 B32 B3f B40 B41 B42 B4f
    refine (One_q H5.out R4.out R3.out).mono ?_
    rintro e w5 ⟨k5, n5, ao5, m5, c5, rfl, hb, hr⟩
    obtain ⟨hb5, B5, R5, -⟩ := boxed hb hr
    clear hb hr
    replace FB := Lib.hid (FB.out.trans (hb5.mono FB.out.size))
    replace Qt := Lib.hid ((hb5.block _ (blt Qt.out)).trans Qt.out)
    replace Tt := Lib.hid (Tt.out.on hb5)
    replace Qa := Lib.hid ((hb5.block _ (blt Qa.out)).trans Qa.out)
    replace Ta := Lib.hid (Ta.out.on hb5)
    replace Qb := Lib.hid ((hb5.block _ (blt Qb.out)).trans Qb.out)
    replace Tb := Lib.hid (Tb.out.on hb5)
    replace B1 := Lib.hid ((hb5.block _ (blt B1.out)).trans B1.out)
    replace R1 := Lib.hid (R1.out.on hb5)
    replace B2 := Lib.hid ((hb5.block _ (blt B2.out)).trans B2.out)
    replace R2 := Lib.hid (R2.out.on hb5)
    replace B3 := Lib.hid ((hb5.block _ (blt B3.out)).trans B3.out)
    replace R3 := Lib.hid (R3.out.on hb5)
    replace B4 := Lib.hid ((hb5.block _ (blt B4.out)).trans B4.out)
    replace R4 := Lib.hid (R4.out.on hb5)
    replace B5 := Lib.hid B5
    replace R5 := Lib.hid R5
    clear hb5
    obtain ⟨B20, B21, B22, B2f, -⟩ := three B2.out
    obtain ⟨B50, B51, B52, B5f, -⟩ := three B5.out
    go_wp2_with fail
    clear B20 B21 B22 B2f B50 B51 B52 B5f
    refine (awake49_w _).mono ?_
    rintro e w6 ⟨rfl, hb⟩
    replace FB := Lib.hid (FB.out.trans (hb.mono FB.out.size))
    replace Qt := Lib.hid ((hb.block _ (blt Qt.out)).trans Qt.out)
    replace Tt := Lib.hid (Tt.out.on hb)
    replace Qa := Lib.hid ((hb.block _ (blt Qa.out)).trans Qa.out)
    replace Ta := Lib.hid (Ta.out.on hb)
    replace Qb := Lib.hid ((hb.block _ (blt Qb.out)).trans Qb.out)
    replace Tb := Lib.hid (Tb.out.on hb)
    replace B1 := Lib.hid ((hb.block _ (blt B1.out)).trans B1.out)
    replace R1 := Lib.hid (R1.out.on hb)
    replace B2 := Lib.hid ((hb.block _ (blt B2.out)).trans B2.out)
    replace R2 := Lib.hid (R2.out.on hb)
    replace B3 := Lib.hid ((hb.block _ (blt B3.out)).trans B3.out)
    replace R3 := Lib.hid (R3.out.on hb)
    replace B4 := Lib.hid ((hb.block _ (blt B4.out)).trans B4.out)
    replace R4 := Lib.hid (R4.out.on hb)
    replace B5 := Lib.hid ((hb.block _ (blt B5.out)).trans B5.out)
    replace R5 := Lib.hid (R5.out.on hb)
    clear hb
    go_wp2_with fail
    go_ret
    exact ⟨rfl, FB.out⟩
  subst hc
  have HE := Lib.hid (twice_same h1 h2 h3 h4 h5)
  have H1 := Lib.hid h1
  have H2 := Lib.hid h2
  have H3 := Lib.hid h3
  have H4 := Lib.hid h4
  have H5 := Lib.hid h5
  clear h1 h2 h3 h4 h5
  obtain ⟨ot, cot, rfl⟩ := hr.shape
  obtain ⟨oa, coa, rfl⟩ := ha.shape
  obtain ⟨ob, cob, rfl⟩ := hb'.shape
  obtain ⟨W, hW⟩ : ∃ W, W = ((w.alloc (.cells #[.int .i64 t.kind, .int .i64 t.num, .slice ot t.sub.length cot] 24)).alloc (.cells #[.int .i64 a.kind, .int .i64 a.num, .slice oa a.sub.length coa] 24)).alloc (.cells #[.int .i64 b.kind, .int .i64 b.num, .slice ob b.sub.length cob] 24) := ⟨_, rfl⟩
  have hb0 : Below w.heap.size w W := by rw [hW]; exact ((((Below.refl _ _).alloc (Nat.le_refl _) _).alloc (by simp only [World.size_alloc]; omega) _).alloc (by simp only [World.size_alloc]; omega) _)
  have FB := Lib.hid hb0
  have Qt := Lib.hid (show W.heap[w.heap.size]? = some (.cells #[.int .i64 t.kind, .int .i64 t.num, .slice ot t.sub.length cot] 24) by rw [hW]; exact (Below.heap_alloc _ _ _ (by simp only [World.size_alloc]; omega)).trans ((Below.heap_alloc _ _ _ (by simp only [World.size_alloc]; omega)).trans (heap_new _ _ _ (by first | rfl | simp only [World.size_alloc]))))
  have Tt := Lib.hid (hr.on hb0)
  clear hr
  have Qa := Lib.hid (show W.heap[w.heap.size + 1]? = some (.cells #[.int .i64 a.kind, .int .i64 a.num, .slice oa a.sub.length coa] 24) by rw [hW]; exact (Below.heap_alloc _ _ _ (by simp only [World.size_alloc]; omega)).trans (heap_new _ _ _ (by first | rfl | simp only [World.size_alloc])))
  have Ta := Lib.hid (ha.on hb0)
  clear ha
  have Qb := Lib.hid (show W.heap[w.heap.size + 1 + 1]? = some (.cells #[.int .i64 b.kind, .int .i64 b.num, .slice ob b.sub.length cob] 24) by rw [hW]; exact heap_new _ _ _ (by first | rfl | simp only [World.size_alloc]))
  have Tb := Lib.hid (hb'.on hb0)
  clear hb'
  have HW := Lib.hid hW
  clear hb0 hW
  go_enter Try.func16, Try.ntmps16
  go_wp2_with fail
  rw [← HW.out]
  refine (One_q H1.out Ta.out Tt.out).mono ?_
  rintro e w1 ⟨k1, n1, ao1, m1, c1, rfl, hb, hr⟩
  obtain ⟨hb1, B1, R1, -⟩ := boxed hb hr
  clear hb hr
  replace FB := Lib.hid (FB.out.trans (hb1.mono FB.out.size))
  replace Qt := Lib.hid ((hb1.block _ (blt Qt.out)).trans Qt.out)
  replace Tt := Lib.hid (Tt.out.on hb1)
  replace Qa := Lib.hid ((hb1.block _ (blt Qa.out)).trans Qa.out)
  replace Ta := Lib.hid (Ta.out.on hb1)
  replace Qb := Lib.hid ((hb1.block _ (blt Qb.out)).trans Qb.out)
  replace Tb := Lib.hid (Tb.out.on hb1)
  replace B1 := Lib.hid B1
  replace R1 := Lib.hid R1
  clear hb1
  obtain ⟨B10, B11, B12, B1f, -⟩ := three B1.out
  obtain ⟨Qb0, Qb1, Qb2, Qbf, -⟩ := three Qb.out
  go_wp2_with fail
  clear B10 B11 B12 B1f Qb0 Qb1 Qb2 Qbf
  refine (One_q H2.out Tb.out R1.out).mono ?_
  rintro e w2 ⟨k2, n2, ao2, m2, c2, rfl, hb, hr⟩
  obtain ⟨hb2, B2, R2, -⟩ := boxed hb hr
  clear hb hr
  replace FB := Lib.hid (FB.out.trans (hb2.mono FB.out.size))
  replace Qt := Lib.hid ((hb2.block _ (blt Qt.out)).trans Qt.out)
  replace Tt := Lib.hid (Tt.out.on hb2)
  replace Qa := Lib.hid ((hb2.block _ (blt Qa.out)).trans Qa.out)
  replace Ta := Lib.hid (Ta.out.on hb2)
  replace Qb := Lib.hid ((hb2.block _ (blt Qb.out)).trans Qb.out)
  replace Tb := Lib.hid (Tb.out.on hb2)
  replace B1 := Lib.hid ((hb2.block _ (blt B1.out)).trans B1.out)
  replace R1 := Lib.hid (R1.out.on hb2)
  replace B2 := Lib.hid B2
  replace R2 := Lib.hid R2
  clear hb2
  obtain ⟨Qt0, Qt1, Qt2, Qtf, -⟩ := three Qt.out
  obtain ⟨Qb0, Qb1, Qb2, Qbf, -⟩ := three Qb.out
  go_wp2_with fail
  clear Qt0 Qt1 Qt2 Qtf Qb0 Qb1 Qb2 Qbf
  refine (At_q H3.out Tb.out Tt.out).mono ?_
  rintro e w3 ⟨k3, n3, ao3, m3, c3, rfl, hb, hr⟩
  obtain ⟨hb3, B3, R3, -⟩ := boxed hb hr
  clear hb hr
  replace FB := Lib.hid (FB.out.trans (hb3.mono FB.out.size))
  replace Qt := Lib.hid ((hb3.block _ (blt Qt.out)).trans Qt.out)
  replace Tt := Lib.hid (Tt.out.on hb3)
  replace Qa := Lib.hid ((hb3.block _ (blt Qa.out)).trans Qa.out)
  replace Ta := Lib.hid (Ta.out.on hb3)
  replace Qb := Lib.hid ((hb3.block _ (blt Qb.out)).trans Qb.out)
  replace Tb := Lib.hid (Tb.out.on hb3)
  replace B1 := Lib.hid ((hb3.block _ (blt B1.out)).trans B1.out)
  replace R1 := Lib.hid (R1.out.on hb3)
  replace B2 := Lib.hid ((hb3.block _ (blt B2.out)).trans B2.out)
  replace R2 := Lib.hid (R2.out.on hb3)
  replace B3 := Lib.hid B3
  replace R3 := Lib.hid R3
  clear hb3
  obtain ⟨Qa0, Qa1, Qa2, Qaf, -⟩ := three Qa.out
  obtain ⟨Qb0, Qb1, Qb2, Qbf, -⟩ := three Qb.out
  go_wp2_with fail
  clear Qa0 Qa1 Qa2 Qaf Qb0 Qb1 Qb2 Qbf
  refine (One_q H4.out Tb.out Ta.out).mono ?_
  rintro e w4 ⟨k4, n4, ao4, m4, c4, rfl, hb, hr⟩
  obtain ⟨hb4, B4, R4, -⟩ := boxed hb hr
  clear hb hr
  replace FB := Lib.hid (FB.out.trans (hb4.mono FB.out.size))
  replace Qt := Lib.hid ((hb4.block _ (blt Qt.out)).trans Qt.out)
  replace Tt := Lib.hid (Tt.out.on hb4)
  replace Qa := Lib.hid ((hb4.block _ (blt Qa.out)).trans Qa.out)
  replace Ta := Lib.hid (Ta.out.on hb4)
  replace Qb := Lib.hid ((hb4.block _ (blt Qb.out)).trans Qb.out)
  replace Tb := Lib.hid (Tb.out.on hb4)
  replace B1 := Lib.hid ((hb4.block _ (blt B1.out)).trans B1.out)
  replace R1 := Lib.hid (R1.out.on hb4)
  replace B2 := Lib.hid ((hb4.block _ (blt B2.out)).trans B2.out)
  replace R2 := Lib.hid (R2.out.on hb4)
  replace B3 := Lib.hid ((hb4.block _ (blt B3.out)).trans B3.out)
  replace R3 := Lib.hid (R3.out.on hb4)
  replace B4 := Lib.hid B4
  replace R4 := Lib.hid R4
  clear hb4
  obtain ⟨B30, B31, B32, B3f, -⟩ := three B3.out
  obtain ⟨B40, B41, B42, B4f, -⟩ := three B4.out
  go_wp2_with fail
  clear B30 B31 B32 B3f B40 B41 B42 B4f
  refine (One_q H5.out R4.out R3.out).mono ?_
  rintro e w5 ⟨k5, n5, ao5, m5, c5, rfl, hb, hr⟩
  obtain ⟨hb5, B5, R5, -⟩ := boxed hb hr
  clear hb hr
  replace FB := Lib.hid (FB.out.trans (hb5.mono FB.out.size))
  replace Qt := Lib.hid ((hb5.block _ (blt Qt.out)).trans Qt.out)
  replace Tt := Lib.hid (Tt.out.on hb5)
  replace Qa := Lib.hid ((hb5.block _ (blt Qa.out)).trans Qa.out)
  replace Ta := Lib.hid (Ta.out.on hb5)
  replace Qb := Lib.hid ((hb5.block _ (blt Qb.out)).trans Qb.out)
  replace Tb := Lib.hid (Tb.out.on hb5)
  replace B1 := Lib.hid ((hb5.block _ (blt B1.out)).trans B1.out)
  replace R1 := Lib.hid (R1.out.on hb5)
  replace B2 := Lib.hid ((hb5.block _ (blt B2.out)).trans B2.out)
  replace R2 := Lib.hid (R2.out.on hb5)
  replace B3 := Lib.hid ((hb5.block _ (blt B3.out)).trans B3.out)
  replace R3 := Lib.hid (R3.out.on hb5)
  replace B4 := Lib.hid ((hb5.block _ (blt B4.out)).trans B4.out)
  replace R4 := Lib.hid (R4.out.on hb5)
  replace B5 := Lib.hid B5
  replace R5 := Lib.hid R5
  clear hb5
  obtain ⟨B20, B21, B22, B2f, -⟩ := three B2.out
  obtain ⟨B50, B51, B52, B5f, -⟩ := three B5.out
  go_wp2_with fail
  clear B20 B21 B22 B2f B50 B51 B52 B5f
  have hs := Equal_r R2.out R5.out
  rw [(eqT_iff _ _).mpr HE.out] at hs
  refine (hs).mono ?_
  rintro e w6 ⟨rfl, hb⟩
  replace FB := Lib.hid (FB.out.trans (hb.mono FB.out.size))
  replace Qt := Lib.hid ((hb.block _ (blt Qt.out)).trans Qt.out)
  replace Tt := Lib.hid (Tt.out.on hb)
  replace Qa := Lib.hid ((hb.block _ (blt Qa.out)).trans Qa.out)
  replace Ta := Lib.hid (Ta.out.on hb)
  replace Qb := Lib.hid ((hb.block _ (blt Qb.out)).trans Qb.out)
  replace Tb := Lib.hid (Tb.out.on hb)
  replace B1 := Lib.hid ((hb.block _ (blt B1.out)).trans B1.out)
  replace R1 := Lib.hid (R1.out.on hb)
  replace B2 := Lib.hid ((hb.block _ (blt B2.out)).trans B2.out)
  replace R2 := Lib.hid (R2.out.on hb)
  replace B3 := Lib.hid ((hb.block _ (blt B3.out)).trans B3.out)
  replace R3 := Lib.hid (R3.out.on hb)
  replace B4 := Lib.hid ((hb.block _ (blt B4.out)).trans B4.out)
  replace R4 := Lib.hid (R4.out.on hb)
  replace B5 := Lib.hid ((hb.block _ (blt B5.out)).trans B5.out)
  replace R5 := Lib.hid (R5.out.on hb)
  clear hb
  go_wp2_with fail
  refine (awake49_w _).mono ?_
  rintro e w7 ⟨rfl, hb⟩
  replace FB := Lib.hid (FB.out.trans (hb.mono FB.out.size))
  replace Qt := Lib.hid ((hb.block _ (blt Qt.out)).trans Qt.out)
  replace Tt := Lib.hid (Tt.out.on hb)
  replace Qa := Lib.hid ((hb.block _ (blt Qa.out)).trans Qa.out)
  replace Ta := Lib.hid (Ta.out.on hb)
  replace Qb := Lib.hid ((hb.block _ (blt Qb.out)).trans Qb.out)
  replace Tb := Lib.hid (Tb.out.on hb)
  replace B1 := Lib.hid ((hb.block _ (blt B1.out)).trans B1.out)
  replace R1 := Lib.hid (R1.out.on hb)
  replace B2 := Lib.hid ((hb.block _ (blt B2.out)).trans B2.out)
  replace R2 := Lib.hid (R2.out.on hb)
  replace B3 := Lib.hid ((hb.block _ (blt B3.out)).trans B3.out)
  replace R3 := Lib.hid (R3.out.on hb)
  replace B4 := Lib.hid ((hb.block _ (blt B4.out)).trans B4.out)
  replace R4 := Lib.hid (R4.out.on hb)
  replace B5 := Lib.hid ((hb.block _ (blt B5.out)).trans B5.out)
  replace R5 := Lib.hid (R5.out.on hb)
  clear hb
  go_wp2_with fail
  go_ret
  exact ⟨rfl, FB.out⟩
end Go.Proofs.Ythjlfjaciigfiaa
