/- The walk of ClefKnown. -/
import Derived.Test.YtgajdmefflndmaaBo
namespace Go.Proofs.Ytgajdmefflndmaa
open Go.RowKit

theorem pts_none (w : World) : Pts w none 0 [] := ⟨rfl, fun k hk => absurd hk (by omega)⟩
theorem pts_two {w : World} {g : Nat} {s o a s' o' a' : Int} (h0 : w.cell? ⟨g, 0, none⟩ = some (.int .i64 s)) (h1 : w.cell? ⟨g, 1, none⟩ = some (.int .i64 o)) (h2 : w.cell? ⟨g, 2, none⟩ = some (.int .i64 a))
    (h3 : w.cell? ⟨g, 3, none⟩ = some (.int .i64 s')) (h4 : w.cell? ⟨g, 4, none⟩ = some (.int .i64 o')) (h5 : w.cell? ⟨g, 5, none⟩ = some (.int .i64 a')) : Pts w (some ⟨g, 0, none⟩) 2 [(s, o, a), (s', o', a')] :=
  ⟨rfl, fun k hk => by
    have : k = 0 ∨ k = 1 := by omega
    rcases this with rfl | rfl
    · exact ⟨g, 0, rfl, h0, h1, h2⟩
    · exact ⟨g, 0, rfl, h3, h4, h5⟩⟩
theorem best_nil : bestC (nums []) = ((0, 1), 0) := by decide +kernel
theorem best_far : (bestC (nums [(0, 3, 0), (0, 6, 0)])).2 < 0 := by decide +kernel
theorem kn_place (w : World) : Calls Try.prog 10 #[.agg #[.int .i64 4, .int .i64 2], .int .i64 0, .agg #[.int .i64 0, .int .i64 2, .int .i64 0]] w fun e w' => e = .returned (.tuple #[.int .i64 0, .int .i64 0, .int .i64 2]) ∧ Kp w w' := cplace_e3 4 2 0 0 2 0 w (by decide) (by omega) (by omega) (by omega) (by omega) (by omega) (by omega) (by omega) (by omega) (by decide)
theorem kn_p6 (w : World) : Calls Try.prog 15 #[.agg #[.int .i64 0, .int .i64 6], .int .i64 0, .int .i64 0, .int .i64 0] w fun e w' => e = .returned (.tuple #[.agg #[.int .i64 0, .int .i64 0, .int .i64 0], .int .i64 2]) ∧ Kp w w' := cpitch_e1 0 6 0 0 0 w (by decide)
theorem kn_p3 (w : World) : Calls Try.prog 15 #[.agg #[.int .i64 0, .int .i64 3], .int .i64 3, .int .i64 0, .int .i64 0] w fun e w' => e = .returned (.tuple #[.agg #[.int .i64 0, .int .i64 0, .int .i64 0], .int .i64 2]) ∧ Kp w w' := cpitch_e1 0 3 3 0 0 w (by decide)
theorem kn_p13 (w : World) : Calls Try.prog 15 #[.agg #[.int .i64 0, .int .i64 3], .int .i64 0, .int .i64 13, .int .i64 9] w fun e w' => e = .returned (.tuple #[.agg #[.int .i64 0, .int .i64 0, .int .i64 0], .int .i64 2]) ∧ Kp w w' := cpitch_e2 0 3 0 13 9 w (by decide) (by omega) (by omega) (by omega)
theorem kn_m1 (w : World) : Calls Try.prog 21 #[.agg #[.int .i64 0, .int .i64 1], .agg #[.int .i64 0, .int .i64 3], .int .i64 0] w fun e w' => e = .returned (.tuple #[.int .i64 4, .int .i64 0]) ∧ Kp w w' := moved_ok 0 1 0 3 0 w (by decide) (by decide) (by omega) (by omega) (by decide) (by decide)
theorem kn_m2 (w : World) : Calls Try.prog 21 #[.agg #[.int .i64 0, .int .i64 3], .agg #[.int .i64 0, .int .i64 1], .int .i64 4] w fun e w' => e = .returned (.tuple #[.int .i64 0, .int .i64 0]) ∧ Kp w w' := moved_ok 0 3 0 1 4 w (by decide) (by decide) (by omega) (by omega) (by decide) (by decide)
theorem kn_m3 (w : World) : Calls Try.prog 21 #[.agg #[.int .i64 0, .int .i64 1], .agg #[.int .i64 3, .int .i64 5], .int .i64 12] w fun e w' => e = .returned (.tuple #[.int .i64 0, .int .i64 2]) ∧ Kp w w' := moved_e4 0 1 3 5 12 w (by decide) (by decide) (by omega) (by omega) (by decide)

set_option maxRecDepth 100000 in
set_option maxHeartbeats 2000000 in
theorem known_walk (w : World) :
    Calls Try.prog 6 #[] w fun e w' => e = .returned (.bool true) ∧ Kp w w' := by
  go_enter Try.func6, Try.ntmps6
  go_wp2_with fail
  refine (at_ok _ _ _ _ _ _ _ _ _ (by decide) (by omega) (by omega) (by omega) (by omega) (by omega) (by omega) (by decide)).mono ?_
  rintro e w1 ⟨rfl, hb1⟩
  have Q1 : Kp w w1 := by repeat (first | exact Kp.refl _ | with_reducible assumption | with_reducible refine Kp.set ?_ _ _ ?_ | (dsimp only; omega) | with_reducible refine Kp.drew ?_ | with_reducible refine Kp.drewN ?_ _ | with_reducible refine Kp.al ?_ _ | with_reducible refine Kp.trans ?_ (by with_reducible assumption))
  have c1_0_1 := hb1.get (b := w.heap.size) (o := 0) (v := .int .i64 (0)) (by first | with_reducible assumption | (simp [go_sem]; done) | (simp [go_sem, *]; done))
  have c1_1_1 := hb1.get (b := w.heap.size) (o := 1) (v := .int .i64 (1)) (by first | with_reducible assumption | (simp [go_sem]; done) | (simp [go_sem, *]; done))
  have l1_1 := cell_lt c1_0_1
  have c2_0_1 := hb1.get (b := w.heap.size + 1) (o := 0) (v := .int .i64 (0)) (by first | with_reducible assumption | (simp [go_sem]; done) | (simp [go_sem, *]; done))
  have c2_1_1 := hb1.get (b := w.heap.size + 1) (o := 1) (v := .int .i64 (3)) (by first | with_reducible assumption | (simp [go_sem]; done) | (simp [go_sem, *]; done))
  have l2_1 := cell_lt c2_0_1
  have c3_0_1 := hb1.get (b := w.heap.size + 1 + 1) (o := 0) (v := .int .i64 (4)) (by first | with_reducible assumption | (simp [go_sem]; done) | (simp [go_sem, *]; done))
  have c3_1_1 := hb1.get (b := w.heap.size + 1 + 1) (o := 1) (v := .int .i64 (2)) (by first | with_reducible assumption | (simp [go_sem]; done) | (simp [go_sem, *]; done))
  have l3_1 := cell_lt c3_0_1
  have c4_0_1 := hb1.get (b := w.heap.size + 1 + 1 + 1) (o := 0) (v := .int .i64 (3)) (by first | with_reducible assumption | (simp [go_sem]; done) | (simp [go_sem, *]; done))
  have c4_1_1 := hb1.get (b := w.heap.size + 1 + 1 + 1) (o := 1) (v := .int .i64 (5)) (by first | with_reducible assumption | (simp [go_sem]; done) | (simp [go_sem, *]; done))
  have l4_1 := cell_lt c4_0_1
  have K1 := Q1
  clear hb1 Q1
  go_wp2_with fail
  refine (at_ok _ _ _ _ _ _ _ _ _ (by decide) (by omega) (by omega) (by omega) (by omega) (by omega) (by omega) (by decide)).mono ?_
  rintro e w2 ⟨rfl, hb2⟩
  have Q2 : Kp w1 w2 := by repeat (first | exact Kp.refl _ | with_reducible assumption | with_reducible refine Kp.set ?_ _ _ ?_ | (dsimp only; omega) | with_reducible refine Kp.drew ?_ | with_reducible refine Kp.drewN ?_ _ | with_reducible refine Kp.al ?_ _ | with_reducible refine Kp.trans ?_ (by with_reducible assumption))
  have c1_0_2 := Q2.get c1_0_1
  have c1_1_2 := Q2.get c1_1_1
  have l1_2 := cell_lt c1_0_2
  have c2_0_2 := Q2.get c2_0_1
  have c2_1_2 := Q2.get c2_1_1
  have l2_2 := cell_lt c2_0_2
  have c3_0_2 := Q2.get c3_0_1
  have c3_1_2 := Q2.get c3_1_1
  have l3_2 := cell_lt c3_0_2
  have c4_0_2 := Q2.get c4_0_1
  have c4_1_2 := Q2.get c4_1_1
  have l4_2 := cell_lt c4_0_2
  have K2 := K1.trans Q2
  clear hb2 c1_0_1 c1_1_1 l1_1 c2_0_1 c2_1_1 l2_1 c3_0_1 c3_1_1 l3_1 c4_0_1 c4_1_1 l4_1 K1 Q2
  go_wp2_with fail
  refine (at_ok _ _ _ _ _ _ _ _ _ (by decide) (by omega) (by omega) (by omega) (by omega) (by omega) (by omega) (by decide)).mono ?_
  rintro e w3 ⟨rfl, hb3⟩
  have Q3 : Kp w2 w3 := by repeat (first | exact Kp.refl _ | with_reducible assumption | with_reducible refine Kp.set ?_ _ _ ?_ | (dsimp only; omega) | with_reducible refine Kp.drew ?_ | with_reducible refine Kp.drewN ?_ _ | with_reducible refine Kp.al ?_ _ | with_reducible refine Kp.trans ?_ (by with_reducible assumption))
  have c1_0_3 := Q3.get c1_0_2
  have c1_1_3 := Q3.get c1_1_2
  have l1_3 := cell_lt c1_0_3
  have c2_0_3 := Q3.get c2_0_2
  have c2_1_3 := Q3.get c2_1_2
  have l2_3 := cell_lt c2_0_3
  have c3_0_3 := Q3.get c3_0_2
  have c3_1_3 := Q3.get c3_1_2
  have l3_3 := cell_lt c3_0_3
  have c4_0_3 := Q3.get c4_0_2
  have c4_1_3 := Q3.get c4_1_2
  have l4_3 := cell_lt c4_0_3
  have K3 := K2.trans Q3
  clear hb3 c1_0_2 c1_1_2 l1_2 c2_0_2 c2_1_2 l2_2 c3_0_2 c3_1_2 l3_2 c4_0_2 c4_1_2 l4_2 K2 Q3
  go_wp2_with fail
  refine (at_ok _ _ _ _ _ _ _ _ _ (by decide) (by omega) (by omega) (by omega) (by omega) (by omega) (by omega) (by decide)).mono ?_
  rintro e w4 ⟨rfl, hb4⟩
  have Q4 : Kp w3 w4 := by repeat (first | exact Kp.refl _ | with_reducible assumption | with_reducible refine Kp.set ?_ _ _ ?_ | (dsimp only; omega) | with_reducible refine Kp.drew ?_ | with_reducible refine Kp.drewN ?_ _ | with_reducible refine Kp.al ?_ _ | with_reducible refine Kp.trans ?_ (by with_reducible assumption))
  have c1_0_4 := Q4.get c1_0_3
  have c1_1_4 := Q4.get c1_1_3
  have l1_4 := cell_lt c1_0_4
  have c2_0_4 := Q4.get c2_0_3
  have c2_1_4 := Q4.get c2_1_3
  have l2_4 := cell_lt c2_0_4
  have c3_0_4 := Q4.get c3_0_3
  have c3_1_4 := Q4.get c3_1_3
  have l3_4 := cell_lt c3_0_4
  have c4_0_4 := Q4.get c4_0_3
  have c4_1_4 := Q4.get c4_1_3
  have l4_4 := cell_lt c4_0_4
  have K4 := K3.trans Q4
  clear hb4 c1_0_3 c1_1_3 l1_3 c2_0_3 c2_1_3 l2_3 c3_0_3 c3_1_3 l3_3 c4_0_3 c4_1_3 l4_3 K3 Q4
  go_wp2_with fail
  refine (on_ok _ _ _ _ _ _ _ _ _ (by decide) (by omega) (by omega) (by omega) (by omega) (by omega) (by omega) (by omega) (by omega) (by decide) (by decide) (by decide)).mono ?_
  rintro e w5 ⟨rfl, hb5⟩
  have Q5 : Kp w4 w5 := by repeat (first | exact Kp.refl _ | with_reducible assumption | with_reducible refine Kp.set ?_ _ _ ?_ | (dsimp only; omega) | with_reducible refine Kp.drew ?_ | with_reducible refine Kp.drewN ?_ _ | with_reducible refine Kp.al ?_ _ | with_reducible refine Kp.trans ?_ (by with_reducible assumption))
  have c1_0_5 := Q5.get c1_0_4
  have c1_1_5 := Q5.get c1_1_4
  have l1_5 := cell_lt c1_0_5
  have c2_0_5 := Q5.get c2_0_4
  have c2_1_5 := Q5.get c2_1_4
  have l2_5 := cell_lt c2_0_5
  have c3_0_5 := Q5.get c3_0_4
  have c3_1_5 := Q5.get c3_1_4
  have l3_5 := cell_lt c3_0_5
  have c4_0_5 := Q5.get c4_0_4
  have c4_1_5 := Q5.get c4_1_4
  have l4_5 := cell_lt c4_0_5
  have K5 := K4.trans Q5
  clear hb5 c1_0_4 c1_1_4 l1_4 c2_0_4 c2_1_4 l2_4 c3_0_4 c3_1_4 l3_4 c4_0_4 c4_1_4 l4_4 K4 Q5
  go_wp2_with fail
  refine (on_ok _ _ _ _ _ _ _ _ _ (by decide) (by omega) (by omega) (by omega) (by omega) (by omega) (by omega) (by omega) (by omega) (by decide) (by decide) (by decide)).mono ?_
  rintro e w6 ⟨rfl, hb6⟩
  have Q6 : Kp w5 w6 := by repeat (first | exact Kp.refl _ | with_reducible assumption | with_reducible refine Kp.set ?_ _ _ ?_ | (dsimp only; omega) | with_reducible refine Kp.drew ?_ | with_reducible refine Kp.drewN ?_ _ | with_reducible refine Kp.al ?_ _ | with_reducible refine Kp.trans ?_ (by with_reducible assumption))
  have c1_0_6 := Q6.get c1_0_5
  have c1_1_6 := Q6.get c1_1_5
  have l1_6 := cell_lt c1_0_6
  have c2_0_6 := Q6.get c2_0_5
  have c2_1_6 := Q6.get c2_1_5
  have l2_6 := cell_lt c2_0_6
  have c3_0_6 := Q6.get c3_0_5
  have c3_1_6 := Q6.get c3_1_5
  have l3_6 := cell_lt c3_0_6
  have c4_0_6 := Q6.get c4_0_5
  have c4_1_6 := Q6.get c4_1_5
  have l4_6 := cell_lt c4_0_6
  have K6 := K5.trans Q6
  clear hb6 c1_0_5 c1_1_5 l1_5 c2_0_5 c2_1_5 l2_5 c3_0_5 c3_1_5 l3_5 c4_0_5 c4_1_5 l4_5 K5 Q6
  go_wp2_with fail
  refine (kn_place _).mono ?_
  rintro e w7 ⟨rfl, hb7⟩
  have Q7 : Kp w6 w7 := by repeat (first | exact Kp.refl _ | with_reducible assumption | with_reducible refine Kp.set ?_ _ _ ?_ | (dsimp only; omega) | with_reducible refine Kp.drew ?_ | with_reducible refine Kp.drewN ?_ _ | with_reducible refine Kp.al ?_ _ | with_reducible refine Kp.trans ?_ (by with_reducible assumption))
  have c1_0_7 := Q7.get c1_0_6
  have c1_1_7 := Q7.get c1_1_6
  have l1_7 := cell_lt c1_0_7
  have c2_0_7 := Q7.get c2_0_6
  have c2_1_7 := Q7.get c2_1_6
  have l2_7 := cell_lt c2_0_7
  have c3_0_7 := Q7.get c3_0_6
  have c3_1_7 := Q7.get c3_1_6
  have l3_7 := cell_lt c3_0_7
  have c4_0_7 := Q7.get c4_0_6
  have c4_1_7 := Q7.get c4_1_6
  have l4_7 := cell_lt c4_0_7
  have K7 := K6.trans Q7
  clear hb7 c1_0_6 c1_1_6 l1_6 c2_0_6 c2_1_6 l2_6 c3_0_6 c3_1_6 l3_6 c4_0_6 c4_1_6 l4_6 K6 Q7
  go_wp2_with fail
  refine (kn_p6 _).mono ?_
  rintro e w8 ⟨rfl, hb8⟩
  have Q8 : Kp w7 w8 := by repeat (first | exact Kp.refl _ | with_reducible assumption | with_reducible refine Kp.set ?_ _ _ ?_ | (dsimp only; omega) | with_reducible refine Kp.drew ?_ | with_reducible refine Kp.drewN ?_ _ | with_reducible refine Kp.al ?_ _ | with_reducible refine Kp.trans ?_ (by with_reducible assumption))
  have c1_0_8 := Q8.get c1_0_7
  have c1_1_8 := Q8.get c1_1_7
  have l1_8 := cell_lt c1_0_8
  have c2_0_8 := Q8.get c2_0_7
  have c2_1_8 := Q8.get c2_1_7
  have l2_8 := cell_lt c2_0_8
  have c4_0_8 := Q8.get c4_0_7
  have c4_1_8 := Q8.get c4_1_7
  have l4_8 := cell_lt c4_0_8
  have K8 := K7.trans Q8
  clear hb8 c1_0_7 c1_1_7 l1_7 c2_0_7 c2_1_7 l2_7 c4_0_7 c4_1_7 l4_7 K7 Q8
  go_wp2_with fail
  refine (kn_p3 _).mono ?_
  rintro e w9 ⟨rfl, hb9⟩
  have Q9 : Kp w8 w9 := by repeat (first | exact Kp.refl _ | with_reducible assumption | with_reducible refine Kp.set ?_ _ _ ?_ | (dsimp only; omega) | with_reducible refine Kp.drew ?_ | with_reducible refine Kp.drewN ?_ _ | with_reducible refine Kp.al ?_ _ | with_reducible refine Kp.trans ?_ (by with_reducible assumption))
  have c1_0_9 := Q9.get c1_0_8
  have c1_1_9 := Q9.get c1_1_8
  have l1_9 := cell_lt c1_0_9
  have c2_0_9 := Q9.get c2_0_8
  have c2_1_9 := Q9.get c2_1_8
  have l2_9 := cell_lt c2_0_9
  have c4_0_9 := Q9.get c4_0_8
  have c4_1_9 := Q9.get c4_1_8
  have l4_9 := cell_lt c4_0_9
  have K9 := K8.trans Q9
  clear hb9 c1_0_8 c1_1_8 l1_8 c2_0_8 c2_1_8 l2_8 c4_0_8 c4_1_8 l4_8 K8 Q9
  go_wp2_with fail
  refine (kn_p13 _).mono ?_
  rintro e w10 ⟨rfl, hb10⟩
  have Q10 : Kp w9 w10 := by repeat (first | exact Kp.refl _ | with_reducible assumption | with_reducible refine Kp.set ?_ _ _ ?_ | (dsimp only; omega) | with_reducible refine Kp.drew ?_ | with_reducible refine Kp.drewN ?_ _ | with_reducible refine Kp.al ?_ _ | with_reducible refine Kp.trans ?_ (by with_reducible assumption))
  have c1_0_10 := Q10.get c1_0_9
  have c1_1_10 := Q10.get c1_1_9
  have l1_10 := cell_lt c1_0_10
  have c2_0_10 := Q10.get c2_0_9
  have c2_1_10 := Q10.get c2_1_9
  have l2_10 := cell_lt c2_0_10
  have c4_0_10 := Q10.get c4_0_9
  have c4_1_10 := Q10.get c4_1_9
  have l4_10 := cell_lt c4_0_10
  have K10 := K9.trans Q10
  clear hb10 c1_0_9 c1_1_9 l1_9 c2_0_9 c2_1_9 l2_9 c4_0_9 c4_1_9 l4_9 K9 Q10
  go_wp2_with fail
  refine (kn_m1 _).mono ?_
  rintro e w11 ⟨rfl, hb11⟩
  have Q11 : Kp w10 w11 := by repeat (first | exact Kp.refl _ | with_reducible assumption | with_reducible refine Kp.set ?_ _ _ ?_ | (dsimp only; omega) | with_reducible refine Kp.drew ?_ | with_reducible refine Kp.drewN ?_ _ | with_reducible refine Kp.al ?_ _ | with_reducible refine Kp.trans ?_ (by with_reducible assumption))
  have c1_0_11 := Q11.get c1_0_10
  have c1_1_11 := Q11.get c1_1_10
  have l1_11 := cell_lt c1_0_11
  have c2_0_11 := Q11.get c2_0_10
  have c2_1_11 := Q11.get c2_1_10
  have l2_11 := cell_lt c2_0_11
  have c4_0_11 := Q11.get c4_0_10
  have c4_1_11 := Q11.get c4_1_10
  have l4_11 := cell_lt c4_0_11
  have K11 := K10.trans Q11
  clear hb11 c1_0_10 c1_1_10 l1_10 c2_0_10 c2_1_10 l2_10 c4_0_10 c4_1_10 l4_10 K10 Q11
  go_wp2_with fail
  refine (kn_m2 _).mono ?_
  rintro e w12 ⟨rfl, hb12⟩
  have Q12 : Kp w11 w12 := by repeat (first | exact Kp.refl _ | with_reducible assumption | with_reducible refine Kp.set ?_ _ _ ?_ | (dsimp only; omega) | with_reducible refine Kp.drew ?_ | with_reducible refine Kp.drewN ?_ _ | with_reducible refine Kp.al ?_ _ | with_reducible refine Kp.trans ?_ (by with_reducible assumption))
  have c1_0_12 := Q12.get c1_0_11
  have c1_1_12 := Q12.get c1_1_11
  have l1_12 := cell_lt c1_0_12
  have c2_0_12 := Q12.get c2_0_11
  have c2_1_12 := Q12.get c2_1_11
  have l2_12 := cell_lt c2_0_12
  have c4_0_12 := Q12.get c4_0_11
  have c4_1_12 := Q12.get c4_1_11
  have l4_12 := cell_lt c4_0_12
  have K12 := K11.trans Q12
  clear hb12 c1_0_11 c1_1_11 l1_11 c2_0_11 c2_1_11 l2_11 c4_0_11 c4_1_11 l4_11 K11 Q12
  go_wp2_with fail
  refine (kn_m3 _).mono ?_
  rintro e w13 ⟨rfl, hb13⟩
  have Q13 : Kp w12 w13 := by repeat (first | exact Kp.refl _ | with_reducible assumption | with_reducible refine Kp.set ?_ _ _ ?_ | (dsimp only; omega) | with_reducible refine Kp.drew ?_ | with_reducible refine Kp.drewN ?_ _ | with_reducible refine Kp.al ?_ _ | with_reducible refine Kp.trans ?_ (by with_reducible assumption))
  have c1_0_13 := Q13.get c1_0_12
  have c1_1_13 := Q13.get c1_1_12
  have l1_13 := cell_lt c1_0_13
  have c4_0_13 := Q13.get c4_0_12
  have c4_1_13 := Q13.get c4_1_12
  have l4_13 := cell_lt c4_0_13
  have K13 := K12.trans Q13
  clear hb13 c1_0_12 c1_1_12 l1_12 c4_0_12 c4_1_12 l4_12 K12 Q13
  go_wp2_with fail
  refine (best_is 0 _ 0 _ [] _ (by omega) (by omega) (pts_none _) (by omega) (fun k hk => absurd hk (by omega)) 0 1 0 best_nil (by omega)).mono ?_
  rintro e w14 ⟨rfl, hb14⟩
  have Q14 : Kp w13 w14 := by repeat (first | exact Kp.refl _ | with_reducible assumption | with_reducible refine Kp.set ?_ _ _ ?_ | (dsimp only; omega) | with_reducible refine Kp.drew ?_ | with_reducible refine Kp.drewN ?_ _ | with_reducible refine Kp.al ?_ _ | with_reducible refine Kp.trans ?_ (by with_reducible assumption))
  have c1_0_14 := Q14.get c1_0_13
  have c1_1_14 := Q14.get c1_1_13
  have l1_14 := cell_lt c1_0_14
  have K14 := K13.trans Q14
  clear hb14 c1_0_13 c1_1_13 l1_13 K13 Q14
  go_wp2_with fail
  refine (best_none 0 _ 2 _ [(0, 3, 0), (0, 6, 0)] _ (by omega) (by omega) (pts_two (by simp [go_sem]) (by simp [go_sem]) (by simp [go_sem]) (by simp [go_sem]) (by simp [go_sem]) (by simp [go_sem])) (by omega) (by decide) best_far).mono ?_
  rintro e w15 ⟨rfl, hb15⟩
  have Q15 : Kp w14 w15 := by repeat (first | exact Kp.refl _ | with_reducible assumption | with_reducible refine Kp.set ?_ _ _ ?_ | (dsimp only; omega) | with_reducible refine Kp.drew ?_ | with_reducible refine Kp.drewN ?_ _ | with_reducible refine Kp.al ?_ _ | with_reducible refine Kp.trans ?_ (by with_reducible assumption))
  have c5_0_15 := hb15.get (b := w14.heap.size) (o := 0) (v := .int .i64 (0)) (by first | with_reducible assumption | (simp [go_sem]; done) | (simp [go_sem, *]; done))
  have c5_1_15 := hb15.get (b := w14.heap.size) (o := 1) (v := .int .i64 (1)) (by first | with_reducible assumption | (simp [go_sem]; done) | (simp [go_sem, *]; done))
  have l5_15 := cell_lt c5_0_15
  have c1_0_15 := Q15.get c1_0_14
  have c1_1_15 := Q15.get c1_1_14
  have l1_15 := cell_lt c1_0_15
  have K15 := K14.trans Q15
  clear hb15 c1_0_14 c1_1_14 l1_14 K14 Q15
  go_wp2_with fail
  refine (awake_ok _).mono ?_
  rintro e w16 ⟨rfl, hb16⟩
  have Q16 : Kp w15 w16 := by repeat (first | exact Kp.refl _ | with_reducible assumption | with_reducible refine Kp.set ?_ _ _ ?_ | (dsimp only; omega) | with_reducible refine Kp.drew ?_ | with_reducible refine Kp.drewN ?_ _ | with_reducible refine Kp.al ?_ _ | with_reducible refine Kp.trans ?_ (by with_reducible assumption))
  have c1_0_16 := Q16.get c1_0_15
  have c1_1_16 := Q16.get c1_1_15
  have l1_16 := cell_lt c1_0_16
  have c5_0_16 := Q16.get c5_0_15
  have c5_1_16 := Q16.get c5_1_15
  have l5_16 := cell_lt c5_0_16
  have K16 := K15.trans Q16
  clear hb16 c1_0_15 c1_1_15 l1_15 c5_0_15 c5_1_15 l5_15 K15 Q16
  go_wp2_with fail
  refine (lled_ok _ _ _ (by omega) (by omega) (by decide)).mono ?_
  rintro e _ ⟨rfl, rfl⟩
  go_wp2_with fail
  refine (lled_ok _ _ _ (by omega) (by omega) (by decide)).mono ?_
  rintro e _ ⟨rfl, rfl⟩
  go_wp2_with fail
  refine (lled_ok _ _ _ (by omega) (by omega) (by decide)).mono ?_
  rintro e _ ⟨rfl, rfl⟩
  go_wp2_with fail
  refine (lled_ok _ _ _ (by omega) (by omega) (by decide)).mono ?_
  rintro e _ ⟨rfl, rfl⟩
  go_wp2_with fail
  refine (lled_ok _ _ _ (by omega) (by omega) (by decide)).mono ?_
  rintro e _ ⟨rfl, rfl⟩
  go_wp2_with fail
  go_ret
  exact ⟨rfl, by repeat (first | exact Kp.refl _ | with_reducible assumption | with_reducible refine Kp.set ?_ _ _ ?_ | (dsimp only; omega) | with_reducible refine Kp.drew ?_ | with_reducible refine Kp.drewN ?_ _ | with_reducible refine Kp.al ?_ _ | with_reducible refine Kp.trans ?_ (by with_reducible assumption))⟩
end Go.Proofs.Ytgajdmefflndmaa
