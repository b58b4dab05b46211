/- GamutPlaces: the walk. -/
import Derived.Test.YtaobndijldidfaaDoorHd
import Derived.Test.YtaobndijldidfaaDoorGp
set_option linter.unusedSimpArgs false
set_option linter.unusedVariables false
namespace Go.Proofs.YtaobndijldidfaaDoor
open Go.RowKit

theorem places_same (s o a : Int) : ∃ n E : Int, (∀ w, Calls Tryd.prog 17 #[.agg #[.int .i64 s, .int .i64 o, .int .i64 a]] w fun e w' => e = .returned (.tuple #[.int .i64 n, .int .i64 E]) ∧ Kp w w') ∧ (∀ w, Calls Tryd.prog 18 #[.agg #[.int .i64 s, .int .i64 o, .int .i64 a]] w fun e w' => e = .returned (.tuple #[.int .i64 n, .int .i64 E]) ∧ Kp w w') := by
  by_cases h : Vp s o a
  · have h' := h
    obtain ⟨h1, h2, h3, h4, h5, h6⟩ := h'
    by_cases hr : 18 ≤ 7 * o + s ∧ 7 * o + s ≤ 37
    · exact ⟨_, _, fun w => gplace_ok s o a w h1 h2 h3 h4 h5 h6 hr.1 hr.2, fun w => rplace_ok s o a w h1 h2 h3 h4 h5 h6 hr.1 hr.2⟩
    · exact ⟨_, _, fun w => gplace_out s o a w h1 h2 h3 h4 h5 h6 (by omega), fun w => rplace_out s o a w h1 h2 h3 h4 h5 h6 (by omega)⟩
  · exact ⟨_, _, fun w => gplace_no s o a w h, fun w => rplace_no s o a w h⟩
theorem ways_same (x y z : Int) : ∃ (L : List Sy) (E : Int), L.length ≤ 7 ∧
    (∀ w, Tab w → Calls Tryd.prog 19 #[.agg #[.int .i64 x, .int .i64 y, .int .i64 z]] w fun e w' => (∃ A c, e = .returned (.tuple #[.slice A L.length c, .int .i64 E]) ∧ Sys w' A L.length L) ∧ Kp w w') ∧
    (∀ w, Calls Tryd.prog 20 #[.agg #[.int .i64 x, .int .i64 y, .int .i64 z]] w fun e w' => (∃ A c, e = .returned (.tuple #[.slice A L.length c, .int .i64 E]) ∧ Sys w' A L.length L) ∧ Kp w w') := by
  by_cases h : Vp x y z
  · have h' := h
    obtain ⟨h1, h2, h3, h4, h5, h6⟩ := h'
    refine ⟨wys (x, y, z), 0, wysTo_len _ _, fun w t => (gways_ok x y z w t h1 h2 h3 h4 h5 h6).mono ?_, fun w => rways_ok x y z w h⟩
    rintro e w' ⟨⟨A, c, e1, _, e2⟩, k⟩
    exact ⟨⟨A, c, e1, e2⟩, k⟩
  · refine ⟨[], 2, by simp, fun w _ => (gways_no x y z w h).mono ?_, fun w => (rways_no x y z w h).mono ?_⟩
    · rintro e w' ⟨e1, k⟩
      exact ⟨⟨none, 0, e1, sys_nil _ _⟩, k⟩
    · rintro e w' ⟨e1, k⟩
      exact ⟨⟨none, 0, e1, sys_nil _ _⟩, k⟩
theorem pitch_same (h s : Int) : ∃ x y z E : Int,
    (∀ w, Tab w → Calls Tryd.prog 21 #[.agg #[.int .i64 h, .int .i64 s]] w fun e w' => e = .returned (.tuple #[.agg #[.int .i64 x, .int .i64 y, .int .i64 z], .int .i64 E]) ∧ Kp w w') ∧
    (∀ w, Calls Tryd.prog 22 #[.agg #[.int .i64 h, .int .i64 s]] w fun e w' => e = .returned (.tuple #[.agg #[.int .i64 x, .int .i64 y, .int .i64 z], .int .i64 E]) ∧ Kp w w') := by
  by_cases hv : Vs h s
  · exact ⟨_, _, _, _, fun w t => gpitch_ok h s w t hv, fun w => rpitch_ok h s w hv⟩
  · exact ⟨_, _, _, _, fun w _ => gpitch_no h s w hv, fun w => rpitch_no h s w hv⟩
theorem name_same (n : Int) : ∃ (b : ByteArray) (E : Int),
    (∀ w, Tab w → Calls Tryd.prog 23 #[.int .i64 n] w fun e w' => e = .returned (.tuple #[.string b, .int .i64 E]) ∧ Kp w w') ∧
    (∀ w, Calls Tryd.prog 24 #[.int .i64 n] w fun e w' => e = .returned (.tuple #[.string b, .int .i64 E]) ∧ Kp w w') := by
  by_cases h : n < 0 ∨ 19 < n
  · refine ⟨_, _, fun w _ => (name_no n w h).mono ?_, fun w => rname_no n w h⟩
    rintro e w' ⟨e1, rfl⟩
    exact ⟨e1, Kp.refl _⟩
  · obtain ⟨m, rfl⟩ := Int.eq_ofNat_of_zero_le (show 0 ≤ n by omega)
    exact ⟨_, _, fun w t => name_ok m (by omega) w t, fun w => rname_ok m (by omega) w⟩
theorem word_same (n : Int) : ∃ (b : ByteArray) (E : Int),
    (∀ w, Tab w → Calls Tryd.prog 25 #[.int .i64 n] w fun e w' => e = .returned (.tuple #[.string b, .int .i64 E]) ∧ Kp w w') ∧
    (∀ w, Calls Tryd.prog 26 #[.int .i64 n] w fun e w' => e = .returned (.tuple #[.string b, .int .i64 E]) ∧ Kp w w') := by
  by_cases h : n < 1 ∨ 6 < n
  · refine ⟨_, _, fun w _ => (word_no n w h).mono ?_, fun w => rword_no n w h⟩
    rintro e w' ⟨e1, rfl⟩
    exact ⟨e1, Kp.refl _⟩
  · obtain ⟨m, rfl⟩ := Int.eq_ofNat_of_zero_le (show 0 ≤ n by omega)
    refine ⟨_, _, fun w t => (word_ok m w t (by omega) (by omega)).mono ?_, fun w => rword_ok m w (by omega) (by omega)⟩
    rintro e w' ⟨e1, rfl⟩
    exact ⟨e1, Kp.refl _⟩

set_option maxRecDepth 100000 in
set_option maxHeartbeats 4000000 in
theorem gplaces_walk (x y z h s n : Int) (w : World) (ht0 : Tab w) :
    Calls Tryd.prog 6 #[.agg #[.int .i64 x, .int .i64 y, .int .i64 z], .agg #[.int .i64 h, .int .i64 s], .int .i64 n] w fun e w' => e = .returned (.bool true) ∧ Kp w w' := by
  have HT := Lib.hid ht0
  clear ht0
  obtain ⟨pn, pE, cp1, cp2⟩ := places_same x y z
  obtain ⟨L, wE, hL, cw1, cw2⟩ := ways_same x y z
  obtain ⟨px, py, pz, qE, cq1, cq2⟩ := pitch_same h s
  obtain ⟨nb, nE, cn1, cn2⟩ := name_same n
  obtain ⟨wb, oE, co1, co2⟩ := word_same n
  have CP1 := Lib.hid cp1; have CP2 := Lib.hid cp2; have CW1 := Lib.hid cw1; have CW2 := Lib.hid cw2; have CQ1 := Lib.hid cq1; have CQ2 := Lib.hid cq2
  have CN1 := Lib.hid cn1; have CN2 := Lib.hid cn2; have CO1 := Lib.hid co1; have CO2 := Lib.hid co2
  obtain ⟨len, elen⟩ : ∃ len, len = L.length := ⟨_, rfl⟩
  rw [← elen] at CW1 CW2 hL
  clear cp1 cp2 cw1 cw2 cq1 cq2 cn1 cn2 co1 co2 elen
  go_enter Tryd.func6, Tryd.ntmps6
  go_wp2_with fail
  refine (CP1.out _).mono ?_
  rintro e w1 ⟨rfl, hb1⟩
  have Q1 : Kp w w1 := by repeat (first | exact Kp.refl _ | with_reducible assumption | with_reducible refine Kp.set ?_ _ _ ?_ | (dsimp only; omega) | with_reducible refine Kp.drew ?_ | with_reducible refine Kp.drewN ?_ _ | with_reducible refine Kp.al ?_ _ | with_reducible refine Kp.trans ?_ (by with_reducible assumption))
  have c1_0_1 := hb1.get (b := w.heap.size) (o := 0) (v := .int .i64 (x)) (by first | with_reducible assumption | (simp [go_sem]; done) | (simp [go_sem, *]; done))
  have c1_1_1 := hb1.get (b := w.heap.size) (o := 1) (v := .int .i64 (y)) (by first | with_reducible assumption | (simp [go_sem]; done) | (simp [go_sem, *]; done))
  have c1_2_1 := hb1.get (b := w.heap.size) (o := 2) (v := .int .i64 (z)) (by first | with_reducible assumption | (simp [go_sem]; done) | (simp [go_sem, *]; done))
  have l1_1 := cell_lt c1_0_1
  have c2_0_1 := hb1.get (b := w.heap.size + 1) (o := 0) (v := .int .i64 (h)) (by first | with_reducible assumption | (simp [go_sem]; done) | (simp [go_sem, *]; done))
  have c2_1_1 := hb1.get (b := w.heap.size + 1) (o := 1) (v := .int .i64 (s)) (by first | with_reducible assumption | (simp [go_sem]; done) | (simp [go_sem, *]; done))
  have l2_1 := cell_lt c2_0_1
  have K1 := Q1
  clear hb1 Q1
  go_wp2_with fail
  refine (CP2.out _).mono ?_
  rintro e w2 ⟨rfl, hb2⟩
  have Q2 : Kp w1 w2 := by repeat (first | exact Kp.refl _ | with_reducible assumption | with_reducible refine Kp.set ?_ _ _ ?_ | (dsimp only; omega) | with_reducible refine Kp.drew ?_ | with_reducible refine Kp.drewN ?_ _ | with_reducible refine Kp.al ?_ _ | with_reducible refine Kp.trans ?_ (by with_reducible assumption))
  have c1_0_2 := Q2.get c1_0_1
  have c1_1_2 := Q2.get c1_1_1
  have c1_2_2 := Q2.get c1_2_1
  have l1_2 := cell_lt c1_0_2
  have c2_0_2 := Q2.get c2_0_1
  have c2_1_2 := Q2.get c2_1_1
  have l2_2 := cell_lt c2_0_2
  have K2 := K1.trans Q2
  clear hb2 c1_0_1 c1_1_1 c1_2_1 l1_1 c2_0_1 c2_1_1 l2_1 K1 Q2
  go_wp2_with fail
  refine (CW1.out _ (HT.out.below (by repeat (first | exact Kp.refl _ | with_reducible assumption | with_reducible refine Kp.set ?_ _ _ ?_ | (dsimp only; omega) | with_reducible refine Kp.drew ?_ | with_reducible refine Kp.drewN ?_ _ | with_reducible refine Kp.al ?_ _ | with_reducible refine Kp.trans ?_ (by with_reducible assumption))))).mono ?_
  rintro e w3 ⟨⟨A1, c1, rfl, hs1⟩, hb3⟩
  have Q3 : Kp w2 w3 := by repeat (first | exact Kp.refl _ | with_reducible assumption | with_reducible refine Kp.set ?_ _ _ ?_ | (dsimp only; omega) | with_reducible refine Kp.drew ?_ | with_reducible refine Kp.drewN ?_ _ | with_reducible refine Kp.al ?_ _ | with_reducible refine Kp.trans ?_ (by with_reducible assumption))
  have c1_0_3 := Q3.get c1_0_2
  have c1_1_3 := Q3.get c1_1_2
  have c1_2_3 := Q3.get c1_2_2
  have l1_3 := cell_lt c1_0_3
  have c2_0_3 := Q3.get c2_0_2
  have c2_1_3 := Q3.get c2_1_2
  have l2_3 := cell_lt c2_0_3
  have K3 := K2.trans Q3
  clear hb3 c1_0_2 c1_1_2 c1_2_2 l1_2 c2_0_2 c2_1_2 l2_2 K2 Q3
  have HS1 := Lib.hid hs1; have KA := Lib.hid K3
  clear hs1
  go_wp2_with fail
  refine (CW2.out _).mono ?_
  rintro e w4 ⟨⟨A2, c2, rfl, hs2⟩, hb4⟩
  have u0 := hb4.get c2_0_3
  have u1 := hb4.get c2_1_3
  have ul := cell_lt u0
  have HS2 := Lib.hid hs2; have HS3 := Lib.hid (HS1.out.kp hb4); have KB := Lib.hid (KA.out.trans hb4); have HTB := Lib.hid (HT.out.below (KA.out.trans hb4))
  clear hs2 hb4 K3 c1_0_3 c1_1_3 c1_2_3 c2_0_3 c2_1_3 l1_3 l2_3
  go_wp2_with fail
  refine (same_t _ _ _ _ _ _ _ _ _ HS3.out HS2.out (by omega) (by omega) rfl).mono ?_
  rintro e w41 ⟨rfl, hb1⟩
  have Q1 : Kp w4 w41 := by repeat (first | exact Kp.refl _ | with_reducible assumption | with_reducible refine Kp.set ?_ _ _ ?_ | (dsimp only; omega) | with_reducible refine Kp.drew ?_ | with_reducible refine Kp.drewN ?_ _ | with_reducible refine Kp.al ?_ _ | with_reducible refine Kp.trans ?_ (by with_reducible assumption))
  have c1_0_1 := hb1.get (b := w.heap.size + 1) (o := 0) (v := .int .i64 (h)) (by first | with_reducible assumption | (simp [go_sem]; done) | (simp [go_sem, *]; done))
  have c1_1_1 := hb1.get (b := w.heap.size + 1) (o := 1) (v := .int .i64 (s)) (by first | with_reducible assumption | (simp [go_sem]; done) | (simp [go_sem, *]; done))
  have l1_1 := cell_lt c1_0_1
  have K1 := Q1
  clear hb1 Q1
  go_wp2_with fail
  refine (CQ1.out _ (HTB.out.below (by repeat (first | exact Kp.refl _ | with_reducible assumption | with_reducible refine Kp.set ?_ _ _ ?_ | (dsimp only; omega) | with_reducible refine Kp.drew ?_ | with_reducible refine Kp.drewN ?_ _ | with_reducible refine Kp.al ?_ _ | with_reducible refine Kp.trans ?_ (by with_reducible assumption))))).mono ?_
  rintro e w42 ⟨rfl, hb2⟩
  have Q2 : Kp w41 w42 := by repeat (first | exact Kp.refl _ | with_reducible assumption | with_reducible refine Kp.set ?_ _ _ ?_ | (dsimp only; omega) | with_reducible refine Kp.drew ?_ | with_reducible refine Kp.drewN ?_ _ | with_reducible refine Kp.al ?_ _ | with_reducible refine Kp.trans ?_ (by with_reducible assumption))
  have c1_0_2 := Q2.get c1_0_1
  have c1_1_2 := Q2.get c1_1_1
  have l1_2 := cell_lt c1_0_2
  have K2 := K1.trans Q2
  clear hb2 c1_0_1 c1_1_1 l1_1 K1 Q2
  go_wp2_with fail
  refine (CQ2.out _).mono ?_
  rintro e w43 ⟨rfl, hb3⟩
  have Q3 : Kp w42 w43 := by repeat (first | exact Kp.refl _ | with_reducible assumption | with_reducible refine Kp.set ?_ _ _ ?_ | (dsimp only; omega) | with_reducible refine Kp.drew ?_ | with_reducible refine Kp.drewN ?_ _ | with_reducible refine Kp.al ?_ _ | with_reducible refine Kp.trans ?_ (by with_reducible assumption))
  have c2_0_3 := hb3.get (b := w42.heap.size) (o := 0) (v := .int .i64 (px)) (by first | with_reducible assumption | (simp [go_sem]; done) | (simp [go_sem, *]; done))
  have c2_1_3 := hb3.get (b := w42.heap.size) (o := 1) (v := .int .i64 (py)) (by first | with_reducible assumption | (simp [go_sem]; done) | (simp [go_sem, *]; done))
  have c2_2_3 := hb3.get (b := w42.heap.size) (o := 2) (v := .int .i64 (pz)) (by first | with_reducible assumption | (simp [go_sem]; done) | (simp [go_sem, *]; done))
  have l2_3 := cell_lt c2_0_3
  have c1_0_3 := Q3.get c1_0_2
  have c1_1_3 := Q3.get c1_1_2
  have l1_3 := cell_lt c1_0_3
  have K3 := K2.trans Q3
  clear hb3 c1_0_2 c1_1_2 l1_2 K2 Q3
  go_wp2_with fail
  refine (CN1.out _ (HTB.out.below (by repeat (first | exact Kp.refl _ | with_reducible assumption | with_reducible refine Kp.set ?_ _ _ ?_ | (dsimp only; omega) | with_reducible refine Kp.drew ?_ | with_reducible refine Kp.drewN ?_ _ | with_reducible refine Kp.al ?_ _ | with_reducible refine Kp.trans ?_ (by with_reducible assumption))))).mono ?_
  rintro e w44 ⟨rfl, hb4⟩
  have Q4 : Kp w43 w44 := by repeat (first | exact Kp.refl _ | with_reducible assumption | with_reducible refine Kp.set ?_ _ _ ?_ | (dsimp only; omega) | with_reducible refine Kp.drew ?_ | with_reducible refine Kp.drewN ?_ _ | with_reducible refine Kp.al ?_ _ | with_reducible refine Kp.trans ?_ (by with_reducible assumption))
  have c3_0_4 := hb4.get (b := w43.heap.size) (o := 0) (v := .int .i64 (px)) (by first | with_reducible assumption | (simp [go_sem]; done) | (simp [go_sem, *]; done))
  have c3_1_4 := hb4.get (b := w43.heap.size) (o := 1) (v := .int .i64 (py)) (by first | with_reducible assumption | (simp [go_sem]; done) | (simp [go_sem, *]; done))
  have c3_2_4 := hb4.get (b := w43.heap.size) (o := 2) (v := .int .i64 (pz)) (by first | with_reducible assumption | (simp [go_sem]; done) | (simp [go_sem, *]; done))
  have l3_4 := cell_lt c3_0_4
  have c1_0_4 := Q4.get c1_0_3
  have c1_1_4 := Q4.get c1_1_3
  have l1_4 := cell_lt c1_0_4
  have c2_0_4 := Q4.get c2_0_3
  have c2_1_4 := Q4.get c2_1_3
  have c2_2_4 := Q4.get c2_2_3
  have l2_4 := cell_lt c2_0_4
  have K4 := K3.trans Q4
  clear hb4 c1_0_3 c1_1_3 l1_3 c2_0_3 c2_1_3 c2_2_3 l2_3 K3 Q4
  go_wp2_with fail
  refine (CN2.out _).mono ?_
  rintro e w45 ⟨rfl, hb5⟩
  have Q5 : Kp w44 w45 := by repeat (first | exact Kp.refl _ | with_reducible assumption | with_reducible refine Kp.set ?_ _ _ ?_ | (dsimp only; omega) | with_reducible refine Kp.drew ?_ | with_reducible refine Kp.drewN ?_ _ | with_reducible refine Kp.al ?_ _ | with_reducible refine Kp.trans ?_ (by with_reducible assumption))
  have c1_0_5 := Q5.get c1_0_4
  have c1_1_5 := Q5.get c1_1_4
  have l1_5 := cell_lt c1_0_5
  have c2_0_5 := Q5.get c2_0_4
  have c2_1_5 := Q5.get c2_1_4
  have c2_2_5 := Q5.get c2_2_4
  have l2_5 := cell_lt c2_0_5
  have c3_0_5 := Q5.get c3_0_4
  have c3_1_5 := Q5.get c3_1_4
  have c3_2_5 := Q5.get c3_2_4
  have l3_5 := cell_lt c3_0_5
  have K5 := K4.trans Q5
  clear hb5 c1_0_4 c1_1_4 l1_4 c2_0_4 c2_1_4 c2_2_4 l2_4 c3_0_4 c3_1_4 c3_2_4 l3_4 K4 Q5
  go_wp2_with fail
  refine (CO1.out _ (HTB.out.below (by repeat (first | exact Kp.refl _ | with_reducible assumption | with_reducible refine Kp.set ?_ _ _ ?_ | (dsimp only; omega) | with_reducible refine Kp.drew ?_ | with_reducible refine Kp.drewN ?_ _ | with_reducible refine Kp.al ?_ _ | with_reducible refine Kp.trans ?_ (by with_reducible assumption))))).mono ?_
  rintro e w46 ⟨rfl, hb6⟩
  have Q6 : Kp w45 w46 := by repeat (first | exact Kp.refl _ | with_reducible assumption | with_reducible refine Kp.set ?_ _ _ ?_ | (dsimp only; omega) | with_reducible refine Kp.drew ?_ | with_reducible refine Kp.drewN ?_ _ | with_reducible refine Kp.al ?_ _ | with_reducible refine Kp.trans ?_ (by with_reducible assumption))
  have c1_0_6 := Q6.get c1_0_5
  have c1_1_6 := Q6.get c1_1_5
  have l1_6 := cell_lt c1_0_6
  have c2_0_6 := Q6.get c2_0_5
  have c2_1_6 := Q6.get c2_1_5
  have c2_2_6 := Q6.get c2_2_5
  have l2_6 := cell_lt c2_0_6
  have c3_0_6 := Q6.get c3_0_5
  have c3_1_6 := Q6.get c3_1_5
  have c3_2_6 := Q6.get c3_2_5
  have l3_6 := cell_lt c3_0_6
  have K6 := K5.trans Q6
  clear hb6 c1_0_5 c1_1_5 l1_5 c2_0_5 c2_1_5 c2_2_5 l2_5 c3_0_5 c3_1_5 c3_2_5 l3_5 K5 Q6
  go_wp2_with fail
  refine (CO2.out _).mono ?_
  rintro e w47 ⟨rfl, hb7⟩
  have Q7 : Kp w46 w47 := by repeat (first | exact Kp.refl _ | with_reducible assumption | with_reducible refine Kp.set ?_ _ _ ?_ | (dsimp only; omega) | with_reducible refine Kp.drew ?_ | with_reducible refine Kp.drewN ?_ _ | with_reducible refine Kp.al ?_ _ | with_reducible refine Kp.trans ?_ (by with_reducible assumption))
  have c1_0_7 := Q7.get c1_0_6
  have c1_1_7 := Q7.get c1_1_6
  have l1_7 := cell_lt c1_0_7
  have c2_0_7 := Q7.get c2_0_6
  have c2_1_7 := Q7.get c2_1_6
  have c2_2_7 := Q7.get c2_2_6
  have l2_7 := cell_lt c2_0_7
  have c3_0_7 := Q7.get c3_0_6
  have c3_1_7 := Q7.get c3_1_6
  have c3_2_7 := Q7.get c3_2_6
  have l3_7 := cell_lt c3_0_7
  have K7 := K6.trans Q7
  clear hb7 c1_0_6 c1_1_6 l1_6 c2_0_6 c2_1_6 c2_2_6 l2_6 c3_0_6 c3_1_6 c3_2_6 l3_6 K6 Q7
  go_wp2_with fail
  refine (awake_ok _ (HTB.out.below (by repeat (first | exact Kp.refl _ | with_reducible assumption | with_reducible refine Kp.set ?_ _ _ ?_ | (dsimp only; omega) | with_reducible refine Kp.drew ?_ | with_reducible refine Kp.drewN ?_ _ | with_reducible refine Kp.al ?_ _ | with_reducible refine Kp.trans ?_ (by with_reducible assumption))))).mono ?_
  rintro e w48 ⟨rfl, hb8⟩
  have Q8 : Kp w47 w48 := by repeat (first | exact Kp.refl _ | with_reducible assumption | with_reducible refine Kp.set ?_ _ _ ?_ | (dsimp only; omega) | with_reducible refine Kp.drew ?_ | with_reducible refine Kp.drewN ?_ _ | with_reducible refine Kp.al ?_ _ | with_reducible refine Kp.trans ?_ (by with_reducible assumption))
  have c1_0_8 := Q8.get c1_0_7
  have c1_1_8 := Q8.get c1_1_7
  have l1_8 := cell_lt c1_0_8
  have c2_0_8 := Q8.get c2_0_7
  have c2_1_8 := Q8.get c2_1_7
  have c2_2_8 := Q8.get c2_2_7
  have l2_8 := cell_lt c2_0_8
  have c3_0_8 := Q8.get c3_0_7
  have c3_1_8 := Q8.get c3_1_7
  have c3_2_8 := Q8.get c3_2_7
  have l3_8 := cell_lt c3_0_8
  have K8 := K7.trans Q8
  clear hb8 c1_0_7 c1_1_7 l1_7 c2_0_7 c2_1_7 c2_2_7 l2_7 c3_0_7 c3_1_7 c3_2_7 l3_7 K7 Q8
  go_wp2_with fail
  go_ret
  exact ⟨rfl, KB.out.trans (by repeat (first | exact Kp.refl _ | with_reducible assumption | with_reducible refine Kp.set ?_ _ _ ?_ | (dsimp only; omega) | with_reducible refine Kp.drew ?_ | with_reducible refine Kp.drewN ?_ _ | with_reducible refine Kp.al ?_ _ | with_reducible refine Kp.trans ?_ (by with_reducible assumption)))⟩
end Go.Proofs.YtaobndijldidfaaDoor
