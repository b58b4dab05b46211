/- The walk of PitchCalls. -/
import Derived.Test.YtmmpjajjebljpaaDoorRb
import Derived.Test.YtmmpjajjebljpaaDoorPl
namespace Go.Proofs.YtmmpjajjebljpaaDoor
open Go.RowKit

theorem numbers_same (s o a : Int) : ∃ x er y fr z : Int, ∀ w : World, Tab w →
    (Calls Tryd.prog 17 #[.agg #[.int .i64 s, .int .i64 o, .int .i64 a]] w fun e w' => e = .returned (.tuple #[.int .i64 x, .int .i64 er]) ∧ Kp w w') ∧
    (Calls Tryd.prog 25 #[.agg #[.int .i64 s, .int .i64 o, .int .i64 a]] w fun e w' => e = .returned (.tuple #[.int .i64 x, .int .i64 er]) ∧ Kp w w') ∧
    (Calls Tryd.prog 22 #[.agg #[.int .i64 s, .int .i64 o, .int .i64 a]] w fun e w' => e = .returned (.tuple #[.int .i64 y, .int .i64 fr]) ∧ Kp w w') ∧
    (Calls Tryd.prog 26 #[.agg #[.int .i64 s, .int .i64 o, .int .i64 a]] w fun e w' => e = .returned (.tuple #[.int .i64 y, .int .i64 fr]) ∧ Kp w w') ∧
    (Calls Tryd.prog 27 #[.agg #[.int .i64 s, .int .i64 o, .int .i64 a]] w fun e w' => e = .returned (.int .i64 z) ∧ Kp w w') ∧
    (Calls Tryd.prog 28 #[.agg #[.int .i64 s, .int .i64 o, .int .i64 a]] w fun e w' => e = .returned (.int .i64 z) ∧ Kp w w') := by
  by_cases h : Vp s o a
  · obtain ⟨h1, h2, h3, h4, h5, h6⟩ := h
    exact ⟨_, _, _, _, _, fun w T => ⟨number_ok s o a w h1 h2 h3 h4 h5 h6, rnumber_ok s o a w h1 h2 h3 h4 h5 h6, height_ok s o a w T h1 h2 h3 h4 h5 h6, rheight_ok s o a w h1 h2 h3 h4 h5 h6, check_any s o a w, rcheck_any s o a w⟩⟩
  · exact ⟨_, _, _, _, _, fun w _ => ⟨number_no s o a w h, rnumber_no s o a w h, height_no s o a w h, rheight_no s o a w h, check_any s o a w, rcheck_any s o a w⟩⟩
theorem ofs_same (n k : Int) : ∃ x y z er : Int, ∀ w : World,
    (Calls Tryd.prog 18 #[.int .i64 n, .int .i64 k] w fun e w' => e = .returned (.tuple #[.agg #[.int .i64 x, .int .i64 y, .int .i64 z], .int .i64 er]) ∧ Kp w w') ∧
    (Calls Tryd.prog 29 #[.int .i64 n, .int .i64 k] w fun e w' => e = .returned (.tuple #[.agg #[.int .i64 x, .int .i64 y, .int .i64 z], .int .i64 er]) ∧ Kp w w') := by
  by_cases h : 0 ≤ n ∧ n ≤ 62 ∧ -1 ≤ k ∧ k ≤ 1
  · obtain ⟨h1, h2, h3, h4⟩ := h
    exact ⟨_, _, _, _, fun w => ⟨Of_ok n k w h1 h2 h3 h4, rOf_ok n k w h1 h2 h3 h4⟩⟩
  · exact ⟨_, _, _, _, fun w => ⟨Of_no n k w h, rOf_no n k w h⟩⟩
theorem moves_same (s o a n : Int) : ∃ x y z er : Int, ∀ w : World,
    (Calls Tryd.prog 21 #[.agg #[.int .i64 s, .int .i64 o, .int .i64 a], .int .i64 n] w fun e w' => e = .returned (.tuple #[.agg #[.int .i64 x, .int .i64 y, .int .i64 z], .int .i64 er]) ∧ Kp w w') ∧
    (Calls Tryd.prog 30 #[.agg #[.int .i64 s, .int .i64 o, .int .i64 a], .int .i64 n] w fun e w' => e = .returned (.tuple #[.agg #[.int .i64 x, .int .i64 y, .int .i64 z], .int .i64 er]) ∧ Kp w w') := by
  by_cases h : Vp s o a
  · obtain ⟨h1, h2, h3, h4, h5, h6⟩ := h
    by_cases hin : 0 ≤ 7 * o + s + n ∧ 7 * o + s + n ≤ 62
    · exact ⟨_, _, _, _, fun w => ⟨move_ok s o a n w h1 h2 h3 h4 h5 h6 hin.1 hin.2, rmove_ok s o a n w h1 h2 h3 h4 h5 h6 hin.1 hin.2⟩⟩
    · by_cases hf : n < -62 ∨ 62 < n
      · exact ⟨_, _, _, _, fun w => ⟨move_far s o a n w h1 h2 h3 h4 h5 h6 hf, rmove_out s o a n w h1 h2 h3 h4 h5 h6 (by omega)⟩⟩
      · exact ⟨_, _, _, _, fun w => ⟨move_out s o a n w h1 h2 h3 h4 h5 h6 (by omega) (by omega) (by omega), rmove_out s o a n w h1 h2 h3 h4 h5 h6 (by omega)⟩⟩
  · exact ⟨_, _, _, _, fun w => ⟨move_no s o a n w h, rmove_no s o a n w h⟩⟩
theorem mirrors_same (s o a s' o' a' : Int) : ∃ x y z er : Int, ∀ w : World,
    (Calls Tryd.prog 19 #[.agg #[.int .i64 s, .int .i64 o, .int .i64 a], .agg #[.int .i64 s', .int .i64 o', .int .i64 a']] w fun e w' => e = .returned (.tuple #[.agg #[.int .i64 x, .int .i64 y, .int .i64 z], .int .i64 er]) ∧ Kp w w') ∧
    (Calls Tryd.prog 31 #[.agg #[.int .i64 s, .int .i64 o, .int .i64 a], .agg #[.int .i64 s', .int .i64 o', .int .i64 a']] w fun e w' => e = .returned (.tuple #[.agg #[.int .i64 x, .int .i64 y, .int .i64 z], .int .i64 er]) ∧ Kp w w') := by
  by_cases h : Vp s o a
  · by_cases h' : Vp s' o' a'
    · obtain ⟨h1, h2, h3, h4, h5, h6⟩ := h
      obtain ⟨k1, k2, k3, k4, k5, k6⟩ := h'
      by_cases hin : 0 ≤ 2 * (7 * o' + s') - (7 * o + s) ∧ 2 * (7 * o' + s') - (7 * o + s) ≤ 62
      · exact ⟨_, _, _, _, fun w => ⟨mirror_gen s o a s' o' a' _ _ _ _ w h1 h2 h3 h4 h5 h6 k1 k2 k3 k4 k5 k6 (fun w => tpitch_ok _ _ w hin.1 hin.2 (by omega) (by omega)),
          rmirror_gen s o a s' o' a' _ _ _ _ w h1 h2 h3 h4 h5 h6 k1 k2 k3 k4 k5 k6 (fun w => rOf_ok _ _ w hin.1 hin.2 (by omega) (by omega))⟩⟩
      · exact ⟨_, _, _, _, fun w => ⟨mirror_gen s o a s' o' a' _ _ _ _ w h1 h2 h3 h4 h5 h6 k1 k2 k3 k4 k5 k6 (fun w => tpitch_no _ _ w (by omega)),
          rmirror_gen s o a s' o' a' _ _ _ _ w h1 h2 h3 h4 h5 h6 k1 k2 k3 k4 k5 k6 (fun w => rOf_no _ _ w (by omega))⟩⟩
    · exact ⟨_, _, _, _, fun w => ⟨mirror_no2 s o a s' o' a' w h h', rmirror_no2 s o a s' o' a' w h h'⟩⟩
  · exact ⟨_, _, _, _, fun w => ⟨mirror_no1 s o a s' o' a' w h, rmirror_no1 s o a s' o' a' w h⟩⟩
theorem betweens_same (s o a s' o' a' : Int) : ∃ x y er : Int, ∀ w : World, Tab w →
    (Calls Tryd.prog 16 #[.agg #[.int .i64 s, .int .i64 o, .int .i64 a], .agg #[.int .i64 s', .int .i64 o', .int .i64 a']] w fun e w' => e = .returned (.tuple #[.agg #[.int .i64 x, .int .i64 y], .int .i64 er]) ∧ Kp w w') ∧
    (Calls Tryd.prog 32 #[.agg #[.int .i64 s, .int .i64 o, .int .i64 a], .agg #[.int .i64 s', .int .i64 o', .int .i64 a']] w fun e w' => e = .returned (.tuple #[.agg #[.int .i64 x, .int .i64 y], .int .i64 er]) ∧ Kp w w') := by
  by_cases h : Vp s o a
  · by_cases h' : Vp s' o' a'
    · obtain ⟨h1, h2, h3, h4, h5, h6⟩ := h
      obtain ⟨k1, k2, k3, k4, k5, k6⟩ := h'
      exact ⟨_, _, _, fun w T => ⟨between_ok s o a s' o' a' w T h1 h2 h3 h4 h5 h6 k1 k2 k3 k4 k5 k6, rbetween_ok s o a s' o' a' w h1 h2 h3 h4 h5 h6 k1 k2 k3 k4 k5 k6⟩⟩
    · exact ⟨_, _, _, fun w _ => ⟨between_no2 s o a s' o' a' w h h', rbetween_no2 s o a s' o' a' w h h'⟩⟩
  · exact ⟨_, _, _, fun w _ => ⟨between_no1 s o a s' o' a' w h, rbetween_no1 s o a s' o' a' w h⟩⟩

set_option maxRecDepth 100000 in
set_option maxHeartbeats 2000000 in
theorem calls_walk (s o a s' o' a' n k : Int) (w : World) (ht0 : Tab w) :
    Calls Tryd.prog 9 #[.agg #[.int .i64 s, .int .i64 o, .int .i64 a], .agg #[.int .i64 s', .int .i64 o', .int .i64 a'], .int .i64 n, .int .i64 k] w fun e w' => e = .returned (.bool true) ∧ Kp w w' := by
  obtain ⟨x, er, y, fr, z, c1⟩ := numbers_same s o a
  obtain ⟨x2, y2, z2, er2, c2⟩ := ofs_same n k
  obtain ⟨x3, y3, z3, er3, c3⟩ := moves_same s o a n
  obtain ⟨x4, y4, z4, er4, c4⟩ := mirrors_same s o a s' o' a'
  obtain ⟨x5, y5, er5, c5⟩ := betweens_same s o a s' o' a'
  have C1 := Lib.hid c1; have C2 := Lib.hid c2; have C3 := Lib.hid c3; have C4 := Lib.hid c4; have C5 := Lib.hid c5; have HT := Lib.hid ht0
  clear c1 c2 c3 c4 c5 ht0
  go_enter Tryd.func9, Tryd.ntmps9
  go_wp2_with fail
  refine ((C1.out _ (HT.out.below (by repeat (first | exact Kp.refl _ | with_reducible assumption | with_reducible refine Kp.set ?_ _ _ ?_ | (dsimp only; omega) | with_reducible refine Kp.drew ?_ | with_reducible refine Kp.drewN ?_ _ | with_reducible refine Kp.al ?_ _ | with_reducible refine Kp.trans ?_ (by with_reducible assumption))))).1).mono ?_
  rintro e w1 ⟨rfl, hb1⟩
  have Q1 : Kp w w1 := by repeat (first | exact Kp.refl _ | with_reducible assumption | with_reducible refine Kp.set ?_ _ _ ?_ | (dsimp only; omega) | with_reducible refine Kp.drew ?_ | with_reducible refine Kp.drewN ?_ _ | with_reducible refine Kp.al ?_ _ | with_reducible refine Kp.trans ?_ (by with_reducible assumption))
  have c1_0_1 := hb1.get (b := w.heap.size) (o := 0) (v := .int .i64 (s)) (by first | with_reducible assumption | (simp [go_sem]; done) | (simp [go_sem, *]; done))
  have c1_1_1 := hb1.get (b := w.heap.size) (o := 1) (v := .int .i64 (o)) (by first | with_reducible assumption | (simp [go_sem]; done) | (simp [go_sem, *]; done))
  have c1_2_1 := hb1.get (b := w.heap.size) (o := 2) (v := .int .i64 (a)) (by first | with_reducible assumption | (simp [go_sem]; done) | (simp [go_sem, *]; done))
  have l1_1 := cell_lt c1_0_1
  have c2_0_1 := hb1.get (b := w.heap.size + 1) (o := 0) (v := .int .i64 (s')) (by first | with_reducible assumption | (simp [go_sem]; done) | (simp [go_sem, *]; done))
  have c2_1_1 := hb1.get (b := w.heap.size + 1) (o := 1) (v := .int .i64 (o')) (by first | with_reducible assumption | (simp [go_sem]; done) | (simp [go_sem, *]; done))
  have c2_2_1 := hb1.get (b := w.heap.size + 1) (o := 2) (v := .int .i64 (a')) (by first | with_reducible assumption | (simp [go_sem]; done) | (simp [go_sem, *]; done))
  have l2_1 := cell_lt c2_0_1
  have K1 := Q1
  clear hb1 Q1
  go_wp2_with fail
  refine ((C1.out _ (HT.out.below (by repeat (first | exact Kp.refl _ | with_reducible assumption | with_reducible refine Kp.set ?_ _ _ ?_ | (dsimp only; omega) | with_reducible refine Kp.drew ?_ | with_reducible refine Kp.drewN ?_ _ | with_reducible refine Kp.al ?_ _ | with_reducible refine Kp.trans ?_ (by with_reducible assumption))))).2.1).mono ?_
  rintro e w2 ⟨rfl, hb2⟩
  have Q2 : Kp w1 w2 := by repeat (first | exact Kp.refl _ | with_reducible assumption | with_reducible refine Kp.set ?_ _ _ ?_ | (dsimp only; omega) | with_reducible refine Kp.drew ?_ | with_reducible refine Kp.drewN ?_ _ | with_reducible refine Kp.al ?_ _ | with_reducible refine Kp.trans ?_ (by with_reducible assumption))
  have c1_0_2 := Q2.get c1_0_1
  have c1_1_2 := Q2.get c1_1_1
  have c1_2_2 := Q2.get c1_2_1
  have l1_2 := cell_lt c1_0_2
  have c2_0_2 := Q2.get c2_0_1
  have c2_1_2 := Q2.get c2_1_1
  have c2_2_2 := Q2.get c2_2_1
  have l2_2 := cell_lt c2_0_2
  have K2 := K1.trans Q2
  clear hb2 c1_0_1 c1_1_1 c1_2_1 l1_1 c2_0_1 c2_1_1 c2_2_1 l2_1 K1 Q2
  go_wp2_with fail
  refine ((C1.out _ (HT.out.below (by repeat (first | exact Kp.refl _ | with_reducible assumption | with_reducible refine Kp.set ?_ _ _ ?_ | (dsimp only; omega) | with_reducible refine Kp.drew ?_ | with_reducible refine Kp.drewN ?_ _ | with_reducible refine Kp.al ?_ _ | with_reducible refine Kp.trans ?_ (by with_reducible assumption))))).2.2.1).mono ?_
  rintro e w3 ⟨rfl, hb3⟩
  have Q3 : Kp w2 w3 := by repeat (first | exact Kp.refl _ | with_reducible assumption | with_reducible refine Kp.set ?_ _ _ ?_ | (dsimp only; omega) | with_reducible refine Kp.drew ?_ | with_reducible refine Kp.drewN ?_ _ | with_reducible refine Kp.al ?_ _ | with_reducible refine Kp.trans ?_ (by with_reducible assumption))
  have c1_0_3 := Q3.get c1_0_2
  have c1_1_3 := Q3.get c1_1_2
  have c1_2_3 := Q3.get c1_2_2
  have l1_3 := cell_lt c1_0_3
  have c2_0_3 := Q3.get c2_0_2
  have c2_1_3 := Q3.get c2_1_2
  have c2_2_3 := Q3.get c2_2_2
  have l2_3 := cell_lt c2_0_3
  have K3 := K2.trans Q3
  clear hb3 c1_0_2 c1_1_2 c1_2_2 l1_2 c2_0_2 c2_1_2 c2_2_2 l2_2 K2 Q3
  go_wp2_with fail
  refine ((C1.out _ (HT.out.below (by repeat (first | exact Kp.refl _ | with_reducible assumption | with_reducible refine Kp.set ?_ _ _ ?_ | (dsimp only; omega) | with_reducible refine Kp.drew ?_ | with_reducible refine Kp.drewN ?_ _ | with_reducible refine Kp.al ?_ _ | with_reducible refine Kp.trans ?_ (by with_reducible assumption))))).2.2.2.1).mono ?_
  rintro e w4 ⟨rfl, hb4⟩
  have Q4 : Kp w3 w4 := by repeat (first | exact Kp.refl _ | with_reducible assumption | with_reducible refine Kp.set ?_ _ _ ?_ | (dsimp only; omega) | with_reducible refine Kp.drew ?_ | with_reducible refine Kp.drewN ?_ _ | with_reducible refine Kp.al ?_ _ | with_reducible refine Kp.trans ?_ (by with_reducible assumption))
  have c1_0_4 := Q4.get c1_0_3
  have c1_1_4 := Q4.get c1_1_3
  have c1_2_4 := Q4.get c1_2_3
  have l1_4 := cell_lt c1_0_4
  have c2_0_4 := Q4.get c2_0_3
  have c2_1_4 := Q4.get c2_1_3
  have c2_2_4 := Q4.get c2_2_3
  have l2_4 := cell_lt c2_0_4
  have K4 := K3.trans Q4
  clear hb4 c1_0_3 c1_1_3 c1_2_3 l1_3 c2_0_3 c2_1_3 c2_2_3 l2_3 K3 Q4
  go_wp2_with fail
  go_region_held3 (fun w' => w'.cell? ⟨w.heap.size, 0, none⟩ = some (.int .i64 s) ∧ w'.cell? ⟨w.heap.size, 1, none⟩ = some (.int .i64 o) ∧ w'.cell? ⟨w.heap.size, 2, none⟩ = some (.int .i64 a))
    (((try dsimp only); (repeat' apply And.intro) <;> (repeat (first | with_reducible assumption | with_reducible refine cell_drew ?_ | with_reducible refine cell_drewN ?_ | with_reducible refine Kp.get (by with_reducible assumption) ?_))))
    (first | (go_at_call 27; refine (check_any _ _ _ _).mono ?_; rintro e wx ⟨rfl, hkx⟩) | (go_at_call 28; refine (rcheck_any _ _ _ _).mono ?_; rintro e wy ⟨rfl, hky⟩))
  have K4y : Kp w4 wy := by repeat (first | exact Kp.refl _ | with_reducible assumption | with_reducible refine Kp.set ?_ _ _ ?_ | (dsimp only; omega) | with_reducible refine Kp.drew ?_ | with_reducible refine Kp.drewN ?_ _ | with_reducible refine Kp.al ?_ _ | with_reducible refine Kp.trans ?_ (by with_reducible assumption))
  have q0 := K4y.get c1_0_4
  have q1 := K4y.get c1_1_4
  have q2 := K4y.get c1_2_4
  have ql := cell_lt q0
  have r0 := K4y.get c2_0_4
  have r1 := K4y.get c2_1_4
  have r2 := K4y.get c2_2_4
  have rl := cell_lt r0
  have KY := K4.trans K4y
  clear c1_0_4 c1_1_4 c1_2_4 l1_4 c2_0_4 c2_1_4 c2_2_4 l2_4 K4y hkx hky K4
  go_wp2_with fail
  refine ((C2.out _).1).mono ?_
  rintro e wy1 ⟨rfl, hb1⟩
  have Q1 : Kp wy wy1 := by repeat (first | exact Kp.refl _ | with_reducible assumption | with_reducible refine Kp.set ?_ _ _ ?_ | (dsimp only; omega) | with_reducible refine Kp.drew ?_ | with_reducible refine Kp.drewN ?_ _ | with_reducible refine Kp.al ?_ _ | with_reducible refine Kp.trans ?_ (by with_reducible assumption))
  have c1_0_1 := hb1.get (b := w.heap.size) (o := 0) (v := .int .i64 (s)) (by first | with_reducible assumption | (simp [go_sem]; done) | (simp [go_sem, *]; done))
  have c1_1_1 := hb1.get (b := w.heap.size) (o := 1) (v := .int .i64 (o)) (by first | with_reducible assumption | (simp [go_sem]; done) | (simp [go_sem, *]; done))
  have c1_2_1 := hb1.get (b := w.heap.size) (o := 2) (v := .int .i64 (a)) (by first | with_reducible assumption | (simp [go_sem]; done) | (simp [go_sem, *]; done))
  have l1_1 := cell_lt c1_0_1
  have c2_0_1 := hb1.get (b := w.heap.size + 1) (o := 0) (v := .int .i64 (s')) (by first | with_reducible assumption | (simp [go_sem]; done) | (simp [go_sem, *]; done))
  have c2_1_1 := hb1.get (b := w.heap.size + 1) (o := 1) (v := .int .i64 (o')) (by first | with_reducible assumption | (simp [go_sem]; done) | (simp [go_sem, *]; done))
  have c2_2_1 := hb1.get (b := w.heap.size + 1) (o := 2) (v := .int .i64 (a')) (by first | with_reducible assumption | (simp [go_sem]; done) | (simp [go_sem, *]; done))
  have l2_1 := cell_lt c2_0_1
  have K1 := Q1
  clear hb1 Q1
  have s3 : wy.heap.size ≤ wy1.heap.size := by have := K1.low; omega
  have n3_1 : ¬ wy1.heap.size = w.heap.size := by omega
  have n1_3 : ¬ w.heap.size = wy1.heap.size := by omega
  have n3_2 : ¬ wy1.heap.size = w.heap.size + 1 := by omega
  have n2_3 : ¬ w.heap.size + 1 = wy1.heap.size := by omega
  go_wp2_with fail
  refine ((C2.out _).2).mono ?_
  rintro e wy2 ⟨rfl, hb2⟩
  have Q2 : Kp wy1 wy2 := by repeat (first | exact Kp.refl _ | with_reducible assumption | with_reducible refine Kp.set ?_ _ _ ?_ | (dsimp only; omega) | with_reducible refine Kp.drew ?_ | with_reducible refine Kp.drewN ?_ _ | with_reducible refine Kp.al ?_ _ | with_reducible refine Kp.trans ?_ (by with_reducible assumption))
  have c3_0_2 := hb2.get (b := wy1.heap.size) (o := 0) (v := .int .i64 (x2)) (by first | with_reducible assumption | (simp [go_sem]; done) | (simp [go_sem, *]; done))
  have f3_0_2 := hb2.free (b := wy1.heap.size) (o := 0) (v := .int .i64 (x2)) (by first | with_reducible assumption | (simp [go_sem]; done) | (simp [go_sem, *]; done)) (by first | with_reducible assumption | (simp [go_sem]; done) | (simp [go_sem, *]; done))
  have c3_1_2 := hb2.get (b := wy1.heap.size) (o := 1) (v := .int .i64 (y2)) (by first | with_reducible assumption | (simp [go_sem]; done) | (simp [go_sem, *]; done))
  have f3_1_2 := hb2.free (b := wy1.heap.size) (o := 1) (v := .int .i64 (y2)) (by first | with_reducible assumption | (simp [go_sem]; done) | (simp [go_sem, *]; done)) (by first | with_reducible assumption | (simp [go_sem]; done) | (simp [go_sem, *]; done))
  have c3_2_2 := hb2.get (b := wy1.heap.size) (o := 2) (v := .int .i64 (z2)) (by first | with_reducible assumption | (simp [go_sem]; done) | (simp [go_sem, *]; done))
  have f3_2_2 := hb2.free (b := wy1.heap.size) (o := 2) (v := .int .i64 (z2)) (by first | with_reducible assumption | (simp [go_sem]; done) | (simp [go_sem, *]; done)) (by first | with_reducible assumption | (simp [go_sem]; done) | (simp [go_sem, *]; done))
  have l3_2 := cell_lt c3_0_2
  have c1_0_2 := Q2.get c1_0_1
  have c1_1_2 := Q2.get c1_1_1
  have c1_2_2 := Q2.get c1_2_1
  have l1_2 := cell_lt c1_0_2
  have c2_0_2 := Q2.get c2_0_1
  have c2_1_2 := Q2.get c2_1_1
  have c2_2_2 := Q2.get c2_2_1
  have l2_2 := cell_lt c2_0_2
  have K2 := K1.trans Q2
  clear hb2 c1_0_1 c1_1_1 c1_2_1 l1_1 c2_0_1 c2_1_1 c2_2_1 l2_1 K1 Q2
  have s4 : wy.heap.size ≤ wy2.heap.size := by have := K2.low; omega
  have n4_1 : ¬ wy2.heap.size = w.heap.size := by omega
  have n1_4 : ¬ w.heap.size = wy2.heap.size := by omega
  have n4_2 : ¬ wy2.heap.size = w.heap.size + 1 := by omega
  have n2_4 : ¬ w.heap.size + 1 = wy2.heap.size := by omega
  have n4_3 : ¬ wy2.heap.size = wy1.heap.size := by omega
  have n3_4 : ¬ wy1.heap.size = wy2.heap.size := by omega
  go_wp2_with fail
  refine ((C3.out _).1).mono ?_
  rintro e wy3 ⟨rfl, hb3⟩
  have Q3 : Kp wy2 wy3 := by repeat (first | exact Kp.refl _ | with_reducible assumption | with_reducible refine Kp.set ?_ _ _ ?_ | (dsimp only; omega) | with_reducible refine Kp.drew ?_ | with_reducible refine Kp.drewN ?_ _ | with_reducible refine Kp.al ?_ _ | with_reducible refine Kp.trans ?_ (by with_reducible assumption))
  have c4_0_3 := hb3.get (b := wy2.heap.size) (o := 0) (v := .int .i64 (x2)) (by first | with_reducible assumption | (simp [go_sem]; done) | (simp [go_sem, *]; done))
  have f4_0_3 := hb3.free (b := wy2.heap.size) (o := 0) (v := .int .i64 (x2)) (by first | with_reducible assumption | (simp [go_sem]; done) | (simp [go_sem, *]; done)) (by first | with_reducible assumption | (simp [go_sem]; done) | (simp [go_sem, *]; done))
  have c4_1_3 := hb3.get (b := wy2.heap.size) (o := 1) (v := .int .i64 (y2)) (by first | with_reducible assumption | (simp [go_sem]; done) | (simp [go_sem, *]; done))
  have f4_1_3 := hb3.free (b := wy2.heap.size) (o := 1) (v := .int .i64 (y2)) (by first | with_reducible assumption | (simp [go_sem]; done) | (simp [go_sem, *]; done)) (by first | with_reducible assumption | (simp [go_sem]; done) | (simp [go_sem, *]; done))
  have c4_2_3 := hb3.get (b := wy2.heap.size) (o := 2) (v := .int .i64 (z2)) (by first | with_reducible assumption | (simp [go_sem]; done) | (simp [go_sem, *]; done))
  have f4_2_3 := hb3.free (b := wy2.heap.size) (o := 2) (v := .int .i64 (z2)) (by first | with_reducible assumption | (simp [go_sem]; done) | (simp [go_sem, *]; done)) (by first | with_reducible assumption | (simp [go_sem]; done) | (simp [go_sem, *]; done))
  have l4_3 := cell_lt c4_0_3
  have c1_0_3 := Q3.get c1_0_2
  have c1_1_3 := Q3.get c1_1_2
  have c1_2_3 := Q3.get c1_2_2
  have l1_3 := cell_lt c1_0_3
  have c2_0_3 := Q3.get c2_0_2
  have c2_1_3 := Q3.get c2_1_2
  have c2_2_3 := Q3.get c2_2_2
  have l2_3 := cell_lt c2_0_3
  have f3_0_3 := Q3.free c3_0_2 f3_0_2
  have f3_1_3 := Q3.free c3_1_2 f3_1_2
  have f3_2_3 := Q3.free c3_2_2 f3_2_2
  have c3_0_3 := Q3.get c3_0_2
  have c3_1_3 := Q3.get c3_1_2
  have c3_2_3 := Q3.get c3_2_2
  have l3_3 := cell_lt c3_0_3
  have K3 := K2.trans Q3
  clear hb3 c1_0_2 c1_1_2 c1_2_2 l1_2 c2_0_2 c2_1_2 c2_2_2 l2_2 f3_0_2 f3_1_2 f3_2_2 c3_0_2 c3_1_2 c3_2_2 l3_2 K2 Q3
  go_wp2_with fail
  refine ((C3.out _).2).mono ?_
  rintro e wy4 ⟨rfl, hb4⟩
  have K4 : Kp wy wy4 := by repeat (first | exact Kp.refl _ | with_reducible assumption | with_reducible refine Kp.set ?_ _ _ ?_ | (dsimp only; omega) | with_reducible refine Kp.drew ?_ | with_reducible refine Kp.drewN ?_ _ | with_reducible refine Kp.al ?_ _ | with_reducible refine Kp.trans ?_ (by with_reducible assumption))
  have c3_0_4 := hb4.get (b := wy1.heap.size) (o := 0) (v := .int .i64 (x3)) (by first | with_reducible assumption | (simp [go_sem]; done) | (simp [go_sem, *]; done))
  have f3_0_4 := hb4.free (b := wy1.heap.size) (o := 0) (v := .int .i64 (x3)) (by first | with_reducible assumption | (simp [go_sem]; done) | (simp [go_sem, *]; done)) (by first | with_reducible assumption | (simp [go_sem]; done) | (simp [go_sem, *]; done))
  have c3_1_4 := hb4.get (b := wy1.heap.size) (o := 1) (v := .int .i64 (y3)) (by first | with_reducible assumption | (simp [go_sem]; done) | (simp [go_sem, *]; done))
  have f3_1_4 := hb4.free (b := wy1.heap.size) (o := 1) (v := .int .i64 (y3)) (by first | with_reducible assumption | (simp [go_sem]; done) | (simp [go_sem, *]; done)) (by first | with_reducible assumption | (simp [go_sem]; done) | (simp [go_sem, *]; done))
  have c3_2_4 := hb4.get (b := wy1.heap.size) (o := 2) (v := .int .i64 (z3)) (by first | with_reducible assumption | (simp [go_sem]; done) | (simp [go_sem, *]; done))
  have f3_2_4 := hb4.free (b := wy1.heap.size) (o := 2) (v := .int .i64 (z3)) (by first | with_reducible assumption | (simp [go_sem]; done) | (simp [go_sem, *]; done)) (by first | with_reducible assumption | (simp [go_sem]; done) | (simp [go_sem, *]; done))
  have l3_4 := cell_lt c3_0_4
  have c1_0_4 := hb4.get (b := w.heap.size) (o := 0) (v := .int .i64 (s)) (by first | with_reducible assumption | (simp [go_sem]; done) | (simp [go_sem, *]; done))
  have c1_1_4 := hb4.get (b := w.heap.size) (o := 1) (v := .int .i64 (o)) (by first | with_reducible assumption | (simp [go_sem]; done) | (simp [go_sem, *]; done))
  have c1_2_4 := hb4.get (b := w.heap.size) (o := 2) (v := .int .i64 (a)) (by first | with_reducible assumption | (simp [go_sem]; done) | (simp [go_sem, *]; done))
  have l1_4 := cell_lt c1_0_4
  have c2_0_4 := hb4.get (b := w.heap.size + 1) (o := 0) (v := .int .i64 (s')) (by first | with_reducible assumption | (simp [go_sem]; done) | (simp [go_sem, *]; done))
  have c2_1_4 := hb4.get (b := w.heap.size + 1) (o := 1) (v := .int .i64 (o')) (by first | with_reducible assumption | (simp [go_sem]; done) | (simp [go_sem, *]; done))
  have c2_2_4 := hb4.get (b := w.heap.size + 1) (o := 2) (v := .int .i64 (a')) (by first | with_reducible assumption | (simp [go_sem]; done) | (simp [go_sem, *]; done))
  have l2_4 := cell_lt c2_0_4
  have c4_0_4 := hb4.get (b := wy2.heap.size) (o := 0) (v := .int .i64 (x2)) (by first | with_reducible assumption | (simp [go_sem]; done) | (simp [go_sem, *]; done))
  have f4_0_4 := hb4.free (b := wy2.heap.size) (o := 0) (v := .int .i64 (x2)) (by first | with_reducible assumption | (simp [go_sem]; done) | (simp [go_sem, *]; done)) (by first | with_reducible assumption | (simp [go_sem]; done) | (simp [go_sem, *]; done))
  have c4_1_4 := hb4.get (b := wy2.heap.size) (o := 1) (v := .int .i64 (y2)) (by first | with_reducible assumption | (simp [go_sem]; done) | (simp [go_sem, *]; done))
  have f4_1_4 := hb4.free (b := wy2.heap.size) (o := 1) (v := .int .i64 (y2)) (by first | with_reducible assumption | (simp [go_sem]; done) | (simp [go_sem, *]; done)) (by first | with_reducible assumption | (simp [go_sem]; done) | (simp [go_sem, *]; done))
  have c4_2_4 := hb4.get (b := wy2.heap.size) (o := 2) (v := .int .i64 (z2)) (by first | with_reducible assumption | (simp [go_sem]; done) | (simp [go_sem, *]; done))
  have f4_2_4 := hb4.free (b := wy2.heap.size) (o := 2) (v := .int .i64 (z2)) (by first | with_reducible assumption | (simp [go_sem]; done) | (simp [go_sem, *]; done)) (by first | with_reducible assumption | (simp [go_sem]; done) | (simp [go_sem, *]; done))
  have l4_4 := cell_lt c4_0_4
  clear hb4 c3_0_3 c3_1_3 c3_2_3 f3_0_3 f3_1_3 f3_2_3 c1_0_3 c1_1_3 c1_2_3 l1_3 c2_0_3 c2_1_3 c2_2_3 l2_3 c4_0_3 c4_1_3 c4_2_3 f4_0_3 f4_1_3 f4_2_3 l4_3 K3
  go_wp2_with fail
  refine ((C4.out _).1).mono ?_
  rintro e wy5 ⟨rfl, hb5⟩
  have K5 : Kp wy wy5 := by repeat (first | exact Kp.refl _ | with_reducible assumption | with_reducible refine Kp.set ?_ _ _ ?_ | (dsimp only; omega) | with_reducible refine Kp.drew ?_ | with_reducible refine Kp.drewN ?_ _ | with_reducible refine Kp.al ?_ _ | with_reducible refine Kp.trans ?_ (by with_reducible assumption))
  have c4_0_5 := hb5.get (b := wy2.heap.size) (o := 0) (v := .int .i64 (x3)) (by first | with_reducible assumption | (simp [go_sem]; done) | (simp [go_sem, *]; done))
  have f4_0_5 := hb5.free (b := wy2.heap.size) (o := 0) (v := .int .i64 (x3)) (by first | with_reducible assumption | (simp [go_sem]; done) | (simp [go_sem, *]; done)) (by first | with_reducible assumption | (simp [go_sem]; done) | (simp [go_sem, *]; done))
  have c4_1_5 := hb5.get (b := wy2.heap.size) (o := 1) (v := .int .i64 (y3)) (by first | with_reducible assumption | (simp [go_sem]; done) | (simp [go_sem, *]; done))
  have f4_1_5 := hb5.free (b := wy2.heap.size) (o := 1) (v := .int .i64 (y3)) (by first | with_reducible assumption | (simp [go_sem]; done) | (simp [go_sem, *]; done)) (by first | with_reducible assumption | (simp [go_sem]; done) | (simp [go_sem, *]; done))
  have c4_2_5 := hb5.get (b := wy2.heap.size) (o := 2) (v := .int .i64 (z3)) (by first | with_reducible assumption | (simp [go_sem]; done) | (simp [go_sem, *]; done))
  have f4_2_5 := hb5.free (b := wy2.heap.size) (o := 2) (v := .int .i64 (z3)) (by first | with_reducible assumption | (simp [go_sem]; done) | (simp [go_sem, *]; done)) (by first | with_reducible assumption | (simp [go_sem]; done) | (simp [go_sem, *]; done))
  have l4_5 := cell_lt c4_0_5
  have c3_0_5 := hb5.get (b := wy1.heap.size) (o := 0) (v := .int .i64 (x3)) (by first | with_reducible assumption | (simp [go_sem]; done) | (simp [go_sem, *]; done))
  have f3_0_5 := hb5.free (b := wy1.heap.size) (o := 0) (v := .int .i64 (x3)) (by first | with_reducible assumption | (simp [go_sem]; done) | (simp [go_sem, *]; done)) (by first | with_reducible assumption | (simp [go_sem]; done) | (simp [go_sem, *]; done))
  have c3_1_5 := hb5.get (b := wy1.heap.size) (o := 1) (v := .int .i64 (y3)) (by first | with_reducible assumption | (simp [go_sem]; done) | (simp [go_sem, *]; done))
  have f3_1_5 := hb5.free (b := wy1.heap.size) (o := 1) (v := .int .i64 (y3)) (by first | with_reducible assumption | (simp [go_sem]; done) | (simp [go_sem, *]; done)) (by first | with_reducible assumption | (simp [go_sem]; done) | (simp [go_sem, *]; done))
  have c3_2_5 := hb5.get (b := wy1.heap.size) (o := 2) (v := .int .i64 (z3)) (by first | with_reducible assumption | (simp [go_sem]; done) | (simp [go_sem, *]; done))
  have f3_2_5 := hb5.free (b := wy1.heap.size) (o := 2) (v := .int .i64 (z3)) (by first | with_reducible assumption | (simp [go_sem]; done) | (simp [go_sem, *]; done)) (by first | with_reducible assumption | (simp [go_sem]; done) | (simp [go_sem, *]; done))
  have l3_5 := cell_lt c3_0_5
  have c1_0_5 := hb5.get (b := w.heap.size) (o := 0) (v := .int .i64 (s)) (by first | with_reducible assumption | (simp [go_sem]; done) | (simp [go_sem, *]; done))
  have c1_1_5 := hb5.get (b := w.heap.size) (o := 1) (v := .int .i64 (o)) (by first | with_reducible assumption | (simp [go_sem]; done) | (simp [go_sem, *]; done))
  have c1_2_5 := hb5.get (b := w.heap.size) (o := 2) (v := .int .i64 (a)) (by first | with_reducible assumption | (simp [go_sem]; done) | (simp [go_sem, *]; done))
  have l1_5 := cell_lt c1_0_5
  have c2_0_5 := hb5.get (b := w.heap.size + 1) (o := 0) (v := .int .i64 (s')) (by first | with_reducible assumption | (simp [go_sem]; done) | (simp [go_sem, *]; done))
  have c2_1_5 := hb5.get (b := w.heap.size + 1) (o := 1) (v := .int .i64 (o')) (by first | with_reducible assumption | (simp [go_sem]; done) | (simp [go_sem, *]; done))
  have c2_2_5 := hb5.get (b := w.heap.size + 1) (o := 2) (v := .int .i64 (a')) (by first | with_reducible assumption | (simp [go_sem]; done) | (simp [go_sem, *]; done))
  have l2_5 := cell_lt c2_0_5
  clear hb5 c4_0_4 c4_1_4 c4_2_4 f4_0_4 f4_1_4 f4_2_4 c3_0_4 c3_1_4 c3_2_4 f3_0_4 f3_1_4 f3_2_4 l3_4 c1_0_4 c1_1_4 c1_2_4 l1_4 c2_0_4 c2_1_4 c2_2_4 l2_4 K4
  go_wp2_with fail
  refine ((C4.out _).2).mono ?_
  rintro e wy6 ⟨rfl, hb6⟩
  have K6 : Kp wy wy6 := by repeat (first | exact Kp.refl _ | with_reducible assumption | with_reducible refine Kp.set ?_ _ _ ?_ | (dsimp only; omega) | with_reducible refine Kp.drew ?_ | with_reducible refine Kp.drewN ?_ _ | with_reducible refine Kp.al ?_ _ | with_reducible refine Kp.trans ?_ (by with_reducible assumption))
  have c3_0_6 := hb6.get (b := wy1.heap.size) (o := 0) (v := .int .i64 (x4)) (by first | with_reducible assumption | (simp [go_sem]; done) | (simp [go_sem, *]; done))
  have f3_0_6 := hb6.free (b := wy1.heap.size) (o := 0) (v := .int .i64 (x4)) (by first | with_reducible assumption | (simp [go_sem]; done) | (simp [go_sem, *]; done)) (by first | with_reducible assumption | (simp [go_sem]; done) | (simp [go_sem, *]; done))
  have c3_1_6 := hb6.get (b := wy1.heap.size) (o := 1) (v := .int .i64 (y4)) (by first | with_reducible assumption | (simp [go_sem]; done) | (simp [go_sem, *]; done))
  have f3_1_6 := hb6.free (b := wy1.heap.size) (o := 1) (v := .int .i64 (y4)) (by first | with_reducible assumption | (simp [go_sem]; done) | (simp [go_sem, *]; done)) (by first | with_reducible assumption | (simp [go_sem]; done) | (simp [go_sem, *]; done))
  have c3_2_6 := hb6.get (b := wy1.heap.size) (o := 2) (v := .int .i64 (z4)) (by first | with_reducible assumption | (simp [go_sem]; done) | (simp [go_sem, *]; done))
  have f3_2_6 := hb6.free (b := wy1.heap.size) (o := 2) (v := .int .i64 (z4)) (by first | with_reducible assumption | (simp [go_sem]; done) | (simp [go_sem, *]; done)) (by first | with_reducible assumption | (simp [go_sem]; done) | (simp [go_sem, *]; done))
  have l3_6 := cell_lt c3_0_6
  have c4_0_6 := hb6.get (b := wy2.heap.size) (o := 0) (v := .int .i64 (x3)) (by first | with_reducible assumption | (simp [go_sem]; done) | (simp [go_sem, *]; done))
  have f4_0_6 := hb6.free (b := wy2.heap.size) (o := 0) (v := .int .i64 (x3)) (by first | with_reducible assumption | (simp [go_sem]; done) | (simp [go_sem, *]; done)) (by first | with_reducible assumption | (simp [go_sem]; done) | (simp [go_sem, *]; done))
  have c4_1_6 := hb6.get (b := wy2.heap.size) (o := 1) (v := .int .i64 (y3)) (by first | with_reducible assumption | (simp [go_sem]; done) | (simp [go_sem, *]; done))
  have f4_1_6 := hb6.free (b := wy2.heap.size) (o := 1) (v := .int .i64 (y3)) (by first | with_reducible assumption | (simp [go_sem]; done) | (simp [go_sem, *]; done)) (by first | with_reducible assumption | (simp [go_sem]; done) | (simp [go_sem, *]; done))
  have c4_2_6 := hb6.get (b := wy2.heap.size) (o := 2) (v := .int .i64 (z3)) (by first | with_reducible assumption | (simp [go_sem]; done) | (simp [go_sem, *]; done))
  have f4_2_6 := hb6.free (b := wy2.heap.size) (o := 2) (v := .int .i64 (z3)) (by first | with_reducible assumption | (simp [go_sem]; done) | (simp [go_sem, *]; done)) (by first | with_reducible assumption | (simp [go_sem]; done) | (simp [go_sem, *]; done))
  have l4_6 := cell_lt c4_0_6
  have c1_0_6 := hb6.get (b := w.heap.size) (o := 0) (v := .int .i64 (s)) (by first | with_reducible assumption | (simp [go_sem]; done) | (simp [go_sem, *]; done))
  have c1_1_6 := hb6.get (b := w.heap.size) (o := 1) (v := .int .i64 (o)) (by first | with_reducible assumption | (simp [go_sem]; done) | (simp [go_sem, *]; done))
  have c1_2_6 := hb6.get (b := w.heap.size) (o := 2) (v := .int .i64 (a)) (by first | with_reducible assumption | (simp [go_sem]; done) | (simp [go_sem, *]; done))
  have l1_6 := cell_lt c1_0_6
  have c2_0_6 := hb6.get (b := w.heap.size + 1) (o := 0) (v := .int .i64 (s')) (by first | with_reducible assumption | (simp [go_sem]; done) | (simp [go_sem, *]; done))
  have c2_1_6 := hb6.get (b := w.heap.size + 1) (o := 1) (v := .int .i64 (o')) (by first | with_reducible assumption | (simp [go_sem]; done) | (simp [go_sem, *]; done))
  have c2_2_6 := hb6.get (b := w.heap.size + 1) (o := 2) (v := .int .i64 (a')) (by first | with_reducible assumption | (simp [go_sem]; done) | (simp [go_sem, *]; done))
  have l2_6 := cell_lt c2_0_6
  clear hb6 c3_0_5 c3_1_5 c3_2_5 f3_0_5 f3_1_5 f3_2_5 c4_0_5 c4_1_5 c4_2_5 f4_0_5 f4_1_5 f4_2_5 l4_5 c1_0_5 c1_1_5 c1_2_5 l1_5 c2_0_5 c2_1_5 c2_2_5 l2_5 K5
  go_wp2_with fail
  refine ((C5.out _ (HT.out.below (by repeat (first | exact Kp.refl _ | with_reducible assumption | with_reducible refine Kp.set ?_ _ _ ?_ | (dsimp only; omega) | with_reducible refine Kp.drew ?_ | with_reducible refine Kp.drewN ?_ _ | with_reducible refine Kp.al ?_ _ | with_reducible refine Kp.trans ?_ (by with_reducible assumption))))).1).mono ?_
  rintro e wy7 ⟨rfl, hb7⟩
  have K7 : Kp wy wy7 := by repeat (first | exact Kp.refl _ | with_reducible assumption | with_reducible refine Kp.set ?_ _ _ ?_ | (dsimp only; omega) | with_reducible refine Kp.drew ?_ | with_reducible refine Kp.drewN ?_ _ | with_reducible refine Kp.al ?_ _ | with_reducible refine Kp.trans ?_ (by with_reducible assumption))
  have c4_0_7 := hb7.get (b := wy2.heap.size) (o := 0) (v := .int .i64 (x4)) (by first | with_reducible assumption | (simp [go_sem]; done) | (simp [go_sem, *]; done))
  have f4_0_7 := hb7.free (b := wy2.heap.size) (o := 0) (v := .int .i64 (x4)) (by first | with_reducible assumption | (simp [go_sem]; done) | (simp [go_sem, *]; done)) (by first | with_reducible assumption | (simp [go_sem]; done) | (simp [go_sem, *]; done))
  have c4_1_7 := hb7.get (b := wy2.heap.size) (o := 1) (v := .int .i64 (y4)) (by first | with_reducible assumption | (simp [go_sem]; done) | (simp [go_sem, *]; done))
  have f4_1_7 := hb7.free (b := wy2.heap.size) (o := 1) (v := .int .i64 (y4)) (by first | with_reducible assumption | (simp [go_sem]; done) | (simp [go_sem, *]; done)) (by first | with_reducible assumption | (simp [go_sem]; done) | (simp [go_sem, *]; done))
  have c4_2_7 := hb7.get (b := wy2.heap.size) (o := 2) (v := .int .i64 (z4)) (by first | with_reducible assumption | (simp [go_sem]; done) | (simp [go_sem, *]; done))
  have f4_2_7 := hb7.free (b := wy2.heap.size) (o := 2) (v := .int .i64 (z4)) (by first | with_reducible assumption | (simp [go_sem]; done) | (simp [go_sem, *]; done)) (by first | with_reducible assumption | (simp [go_sem]; done) | (simp [go_sem, *]; done))
  have l4_7 := cell_lt c4_0_7
  have c3_0_7 := hb7.get (b := wy1.heap.size) (o := 0) (v := .int .i64 (x4)) (by first | with_reducible assumption | (simp [go_sem]; done) | (simp [go_sem, *]; done))
  have f3_0_7 := hb7.free (b := wy1.heap.size) (o := 0) (v := .int .i64 (x4)) (by first | with_reducible assumption | (simp [go_sem]; done) | (simp [go_sem, *]; done)) (by first | with_reducible assumption | (simp [go_sem]; done) | (simp [go_sem, *]; done))
  have c3_1_7 := hb7.get (b := wy1.heap.size) (o := 1) (v := .int .i64 (y4)) (by first | with_reducible assumption | (simp [go_sem]; done) | (simp [go_sem, *]; done))
  have f3_1_7 := hb7.free (b := wy1.heap.size) (o := 1) (v := .int .i64 (y4)) (by first | with_reducible assumption | (simp [go_sem]; done) | (simp [go_sem, *]; done)) (by first | with_reducible assumption | (simp [go_sem]; done) | (simp [go_sem, *]; done))
  have c3_2_7 := hb7.get (b := wy1.heap.size) (o := 2) (v := .int .i64 (z4)) (by first | with_reducible assumption | (simp [go_sem]; done) | (simp [go_sem, *]; done))
  have f3_2_7 := hb7.free (b := wy1.heap.size) (o := 2) (v := .int .i64 (z4)) (by first | with_reducible assumption | (simp [go_sem]; done) | (simp [go_sem, *]; done)) (by first | with_reducible assumption | (simp [go_sem]; done) | (simp [go_sem, *]; done))
  have l3_7 := cell_lt c3_0_7
  have c1_0_7 := hb7.get (b := w.heap.size) (o := 0) (v := .int .i64 (s)) (by first | with_reducible assumption | (simp [go_sem]; done) | (simp [go_sem, *]; done))
  have c1_1_7 := hb7.get (b := w.heap.size) (o := 1) (v := .int .i64 (o)) (by first | with_reducible assumption | (simp [go_sem]; done) | (simp [go_sem, *]; done))
  have c1_2_7 := hb7.get (b := w.heap.size) (o := 2) (v := .int .i64 (a)) (by first | with_reducible assumption | (simp [go_sem]; done) | (simp [go_sem, *]; done))
  have l1_7 := cell_lt c1_0_7
  have c2_0_7 := hb7.get (b := w.heap.size + 1) (o := 0) (v := .int .i64 (s')) (by first | with_reducible assumption | (simp [go_sem]; done) | (simp [go_sem, *]; done))
  have c2_1_7 := hb7.get (b := w.heap.size + 1) (o := 1) (v := .int .i64 (o')) (by first | with_reducible assumption | (simp [go_sem]; done) | (simp [go_sem, *]; done))
  have c2_2_7 := hb7.get (b := w.heap.size + 1) (o := 2) (v := .int .i64 (a')) (by first | with_reducible assumption | (simp [go_sem]; done) | (simp [go_sem, *]; done))
  have l2_7 := cell_lt c2_0_7
  clear hb7 c4_0_6 c4_1_6 c4_2_6 f4_0_6 f4_1_6 f4_2_6 c3_0_6 c3_1_6 c3_2_6 f3_0_6 f3_1_6 f3_2_6 l3_6 c1_0_6 c1_1_6 c1_2_6 l1_6 c2_0_6 c2_1_6 c2_2_6 l2_6 K6
  go_wp2_with fail
  refine ((C5.out _ (HT.out.below (by repeat (first | exact Kp.refl _ | with_reducible assumption | with_reducible refine Kp.set ?_ _ _ ?_ | (dsimp only; omega) | with_reducible refine Kp.drew ?_ | with_reducible refine Kp.drewN ?_ _ | with_reducible refine Kp.al ?_ _ | with_reducible refine Kp.trans ?_ (by with_reducible assumption))))).2).mono ?_
  rintro e wy8 ⟨rfl, hb8⟩
  have Q8 : Kp wy7 wy8 := by repeat (first | exact Kp.refl _ | with_reducible assumption | with_reducible refine Kp.set ?_ _ _ ?_ | (dsimp only; omega) | with_reducible refine Kp.drew ?_ | with_reducible refine Kp.drewN ?_ _ | with_reducible refine Kp.al ?_ _ | with_reducible refine Kp.trans ?_ (by with_reducible assumption))
  have c5_0_8 := hb8.get (b := wy7.heap.size) (o := 0) (v := .int .i64 (x5)) (by first | with_reducible assumption | (simp [go_sem]; done) | (simp [go_sem, *]; done))
  have c5_1_8 := hb8.get (b := wy7.heap.size) (o := 1) (v := .int .i64 (y5)) (by first | with_reducible assumption | (simp [go_sem]; done) | (simp [go_sem, *]; done))
  have l5_8 := cell_lt c5_0_8
  have c1_0_8 := Q8.get c1_0_7
  have c1_1_8 := Q8.get c1_1_7
  have c1_2_8 := Q8.get c1_2_7
  have l1_8 := cell_lt c1_0_8
  have c2_0_8 := Q8.get c2_0_7
  have c2_1_8 := Q8.get c2_1_7
  have c2_2_8 := Q8.get c2_2_7
  have l2_8 := cell_lt c2_0_8
  have K8 := K7.trans Q8
  clear hb8 c1_0_7 c1_1_7 c1_2_7 l1_7 c2_0_7 c2_1_7 c2_2_7 l2_7 K7 Q8
  go_wp2_with fail
  refine (awake_ok _ (HT.out.below (by repeat (first | exact Kp.refl _ | with_reducible assumption | with_reducible refine Kp.set ?_ _ _ ?_ | (dsimp only; omega) | with_reducible refine Kp.drew ?_ | with_reducible refine Kp.drewN ?_ _ | with_reducible refine Kp.al ?_ _ | with_reducible refine Kp.trans ?_ (by with_reducible assumption))))).mono ?_
  rintro e wy9 ⟨rfl, hb9⟩
  have Q9 : Kp wy8 wy9 := by repeat (first | exact Kp.refl _ | with_reducible assumption | with_reducible refine Kp.set ?_ _ _ ?_ | (dsimp only; omega) | with_reducible refine Kp.drew ?_ | with_reducible refine Kp.drewN ?_ _ | with_reducible refine Kp.al ?_ _ | with_reducible refine Kp.trans ?_ (by with_reducible assumption))
  have c6_0_9 := hb9.get (b := wy8.heap.size) (o := 0) (v := .int .i64 (x5)) (by first | with_reducible assumption | (simp [go_sem]; done) | (simp [go_sem, *]; done))
  have c6_1_9 := hb9.get (b := wy8.heap.size) (o := 1) (v := .int .i64 (y5)) (by first | with_reducible assumption | (simp [go_sem]; done) | (simp [go_sem, *]; done))
  have l6_9 := cell_lt c6_0_9
  have c5_0_9 := Q9.get c5_0_8
  have c5_1_9 := Q9.get c5_1_8
  have l5_9 := cell_lt c5_0_9
  have K9 := K8.trans Q9
  clear hb9 c5_0_8 c5_1_8 l5_8 K8 Q9
  go_wp2_with fail
  go_ret
  exact ⟨rfl, by repeat (first | exact Kp.refl _ | with_reducible assumption | with_reducible refine Kp.set ?_ _ _ ?_ | (dsimp only; omega) | with_reducible refine Kp.drew ?_ | with_reducible refine Kp.drewN ?_ _ | with_reducible refine Kp.al ?_ _ | with_reducible refine Kp.trans ?_ (by with_reducible assumption))⟩
end Go.Proofs.YtmmpjajjebljpaaDoor
