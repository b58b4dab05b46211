/- The walk of PitchKnown. -/
import Derived.Test.YtmmpjajjebljpaaDoorPl
namespace Go.Proofs.YtmmpjajjebljpaaDoor
open Go.RowKit

theorem noText_of (b : ByteArray) (h : ((List.range 7).all fun s => (List.range 9).all fun o => (List.range 3).all fun a => decide (¬ b.data.toList = (ptx s o ((a : Int) - 1)).data.toList)) = true) : NoText b := by
  intro s o a h1 h2 h3 h4 h5 h6 e
  obtain ⟨s, rfl⟩ := Int.eq_ofNat_of_zero_le h1
  obtain ⟨o, rfl⟩ := Int.eq_ofNat_of_zero_le h3
  obtain ⟨k, hk⟩ := Int.eq_ofNat_of_zero_le (show 0 ≤ a + 1 by omega)
  obtain rfl : a = (k : Int) - 1 := by omega
  have := List.all_eq_true.1 (List.all_eq_true.1 (List.all_eq_true.1 h s (by simp; omega)) o (by simp; omega)) k (by simp; omega)
  simp [e] at this
theorem no_h3 : NoText ⟨#[104, 51]⟩ := noText_of _ (by decide +kernel)
theorem no_cs : NoText ⟨#[99, 35]⟩ := noText_of _ (by decide +kernel)
theorem no_c9 : NoText ⟨#[99, 57]⟩ := noText_of _ (by decide +kernel)
theorem tx_eb4 : (⟨#[101, 98, 52]⟩ : ByteArray) = ptx 2 4 (-1) := rfl
theorem tx_as3 : (⟨#[97, 35, 51]⟩ : ByteArray) = ptx 5 3 1 := rfl
theorem tx_c5 : (⟨#[99, 53]⟩ : ByteArray) = ptx 0 5 0 := rfl
theorem tx_bs4 : (⟨#[98, 35, 52]⟩ : ByteArray) = ptx 6 4 1 := rfl
theorem tx_b3 : (⟨#[98, 51]⟩ : ByteArray) = ptx 6 3 0 := rfl
theorem of_no' (n a : Int) (w : World) (h : ¬ (0 ≤ n ∧ n ≤ 62 ∧ -1 ≤ a ∧ a ≤ 1)) :
    Calls Tryd.prog 18 #[.int .i64 n, .int .i64 a] w fun e w' => e = .returned (.tuple #[.agg #[.int .i64 0, .int .i64 0, .int .i64 0], .int .i64 2]) ∧ Kp w w' := Of_no n a w h
theorem number_c (w : World) : Calls Tryd.prog 17 #[.agg #[.int .i64 0, .int .i64 4, .int .i64 0]] w fun e w' => e = .returned (.tuple #[.int .i64 28, .int .i64 0]) ∧ Kp w w' := number_ok 0 4 0 w (by omega) (by omega) (by omega) (by omega) (by omega) (by omega)
theorem height_c (w : World) (T : Tab w) : Calls Tryd.prog 22 #[.agg #[.int .i64 0, .int .i64 4, .int .i64 0]] w fun e w' => e = .returned (.tuple #[.int .i64 48, .int .i64 0]) ∧ Kp w w' := height_ok 0 4 0 w T (by omega) (by omega) (by omega) (by omega) (by omega) (by omega)
theorem height_low (w : World) (T : Tab w) : Calls Tryd.prog 22 #[.agg #[.int .i64 0, .int .i64 0, .int .i64 (-1)]] w fun e w' => e = .returned (.tuple #[.int .i64 (-1), .int .i64 0]) ∧ Kp w w' := height_ok 0 0 (-1) w T (by omega) (by omega) (by omega) (by omega) (by omega) (by omega)
theorem of_eb (w : World) : Calls Tryd.prog 18 #[.int .i64 30, .int .i64 (-1)] w fun e w' => e = .returned (.tuple #[.agg #[.int .i64 2, .int .i64 4, .int .i64 (-1)], .int .i64 0]) ∧ Kp w w' := Of_ok 30 (-1) w (by omega) (by omega) (by omega) (by omega)
theorem btw_cg (w : World) (T : Tab w) : Calls Tryd.prog 16 #[.agg #[.int .i64 0, .int .i64 4, .int .i64 0], .agg #[.int .i64 4, .int .i64 4, .int .i64 0]] w fun e w' => e = .returned (.tuple #[.agg #[.int .i64 4, .int .i64 7], .int .i64 0]) ∧ Kp w w' := between_ok 0 4 0 4 4 0 w T (by omega) (by omega) (by omega) (by omega) (by omega) (by omega) (by omega) (by omega) (by omega) (by omega) (by omega) (by omega)
theorem btw_ec (w : World) (T : Tab w) : Calls Tryd.prog 16 #[.agg #[.int .i64 2, .int .i64 4, .int .i64 0], .agg #[.int .i64 0, .int .i64 4, .int .i64 0]] w fun e w' => e = .returned (.tuple #[.agg #[.int .i64 (-2), .int .i64 (-4)], .int .i64 0]) ∧ Kp w w' := between_ok 2 4 0 0 4 0 w T (by omega) (by omega) (by omega) (by omega) (by omega) (by omega) (by omega) (by omega) (by omega) (by omega) (by omega) (by omega)

set_option maxRecDepth 100000 in
set_option maxHeartbeats 1000000 in
theorem known_walk (w : World) (ht0 : Tab w) :
    Calls Tryd.prog 8 #[] w fun e w' => e = .returned (.bool true) ∧ Kp w w' := by
  have HT := Lib.hid ht0
  clear ht0
  go_enter Tryd.func8, Tryd.ntmps8
  go_wp2_with fail
  refine (number_c _).mono ?_
  rintro e w1 ⟨rfl, hb1⟩
  have Q1 : Kp w w1 := by repeat (first | exact Kp.refl _ | with_reducible assumption | with_reducible refine Kp.set ?_ _ _ ?_ | (dsimp only; omega) | with_reducible refine Kp.drew ?_ | with_reducible refine Kp.drewN ?_ _ | with_reducible refine Kp.al ?_ _ | with_reducible refine Kp.trans ?_ (by with_reducible assumption))
  have c1_0_1 := hb1.get (b := w.heap.size) (o := 0) (v := .int .i64 (0)) (by first | with_reducible assumption | (simp [go_sem]; done) | (simp [go_sem, *]; done))
  have c1_1_1 := hb1.get (b := w.heap.size) (o := 1) (v := .int .i64 (4)) (by first | with_reducible assumption | (simp [go_sem]; done) | (simp [go_sem, *]; done))
  have c1_2_1 := hb1.get (b := w.heap.size) (o := 2) (v := .int .i64 (0)) (by first | with_reducible assumption | (simp [go_sem]; done) | (simp [go_sem, *]; done))
  have l1_1 := cell_lt c1_0_1
  have c2_0_1 := hb1.get (b := w.heap.size + 1) (o := 0) (v := .int .i64 (4)) (by first | with_reducible assumption | (simp [go_sem]; done) | (simp [go_sem, *]; done))
  have c2_1_1 := hb1.get (b := w.heap.size + 1) (o := 1) (v := .int .i64 (4)) (by first | with_reducible assumption | (simp [go_sem]; done) | (simp [go_sem, *]; done))
  have c2_2_1 := hb1.get (b := w.heap.size + 1) (o := 2) (v := .int .i64 (0)) (by first | with_reducible assumption | (simp [go_sem]; done) | (simp [go_sem, *]; done))
  have l2_1 := cell_lt c2_0_1
  have K1 := Q1
  clear hb1 Q1
  go_wp2_with fail
  refine (height_c _ (HT.out.below (by repeat (first | exact Kp.refl _ | with_reducible assumption | with_reducible refine Kp.set ?_ _ _ ?_ | (dsimp only; omega) | with_reducible refine Kp.drew ?_ | with_reducible refine Kp.drewN ?_ _ | with_reducible refine Kp.al ?_ _ | with_reducible refine Kp.trans ?_ (by with_reducible assumption))))).mono ?_
  rintro e w2 ⟨rfl, hb2⟩
  have Q2 : Kp w1 w2 := by repeat (first | exact Kp.refl _ | with_reducible assumption | with_reducible refine Kp.set ?_ _ _ ?_ | (dsimp only; omega) | with_reducible refine Kp.drew ?_ | with_reducible refine Kp.drewN ?_ _ | with_reducible refine Kp.al ?_ _ | with_reducible refine Kp.trans ?_ (by with_reducible assumption))
  have c1_0_2 := Q2.get c1_0_1
  have c1_1_2 := Q2.get c1_1_1
  have c1_2_2 := Q2.get c1_2_1
  have l1_2 := cell_lt c1_0_2
  have c2_0_2 := Q2.get c2_0_1
  have c2_1_2 := Q2.get c2_1_1
  have c2_2_2 := Q2.get c2_2_1
  have l2_2 := cell_lt c2_0_2
  have K2 := K1.trans Q2
  clear hb2 c1_0_1 c1_1_1 c1_2_1 l1_1 c2_0_1 c2_1_1 c2_2_1 l2_1 K1 Q2
  go_wp2_with fail
  refine (height_low _ (HT.out.below (by repeat (first | exact Kp.refl _ | with_reducible assumption | with_reducible refine Kp.set ?_ _ _ ?_ | (dsimp only; omega) | with_reducible refine Kp.drew ?_ | with_reducible refine Kp.drewN ?_ _ | with_reducible refine Kp.al ?_ _ | with_reducible refine Kp.trans ?_ (by with_reducible assumption))))).mono ?_
  rintro e w3 ⟨rfl, hb3⟩
  have Q3 : Kp w2 w3 := by repeat (first | exact Kp.refl _ | with_reducible assumption | with_reducible refine Kp.set ?_ _ _ ?_ | (dsimp only; omega) | with_reducible refine Kp.drew ?_ | with_reducible refine Kp.drewN ?_ _ | with_reducible refine Kp.al ?_ _ | with_reducible refine Kp.trans ?_ (by with_reducible assumption))
  have c1_0_3 := Q3.get c1_0_2
  have c1_1_3 := Q3.get c1_1_2
  have c1_2_3 := Q3.get c1_2_2
  have l1_3 := cell_lt c1_0_3
  have c2_0_3 := Q3.get c2_0_2
  have c2_1_3 := Q3.get c2_1_2
  have c2_2_3 := Q3.get c2_2_2
  have l2_3 := cell_lt c2_0_3
  have K3 := K2.trans Q3
  clear hb3 c1_0_2 c1_1_2 c1_2_2 l1_2 c2_0_2 c2_1_2 c2_2_2 l2_2 K2 Q3
  go_wp2_with fail
  refine (of_eb _).mono ?_
  rintro e w4 ⟨rfl, hb4⟩
  have Q4 : Kp w3 w4 := by repeat (first | exact Kp.refl _ | with_reducible assumption | with_reducible refine Kp.set ?_ _ _ ?_ | (dsimp only; omega) | with_reducible refine Kp.drew ?_ | with_reducible refine Kp.drewN ?_ _ | with_reducible refine Kp.al ?_ _ | with_reducible refine Kp.trans ?_ (by with_reducible assumption))
  have c1_0_4 := Q4.get c1_0_3
  have c1_1_4 := Q4.get c1_1_3
  have c1_2_4 := Q4.get c1_2_3
  have l1_4 := cell_lt c1_0_4
  have c2_0_4 := Q4.get c2_0_3
  have c2_1_4 := Q4.get c2_1_3
  have c2_2_4 := Q4.get c2_2_3
  have l2_4 := cell_lt c2_0_4
  have K4 := K3.trans Q4
  clear hb4 c1_0_3 c1_1_3 c1_2_3 l1_3 c2_0_3 c2_1_3 c2_2_3 l2_3 K3 Q4
  have s3 : w.heap.size ≤ w4.heap.size := by have := K4.low; omega
  have n3_1 : ¬ w4.heap.size = w.heap.size := by omega
  have n1_3 : ¬ w.heap.size = w4.heap.size := by omega
  have n3_2 : ¬ w4.heap.size = w.heap.size + 1 := by omega
  have n2_3 : ¬ w.heap.size + 1 = w4.heap.size := by omega
  go_wp2_with fail
  refine (of_no' _ _ _ (by omega)).mono ?_
  rintro e w5 ⟨rfl, hb5⟩
  have Q5 : Kp w4 w5 := by repeat (first | exact Kp.refl _ | with_reducible assumption | with_reducible refine Kp.set ?_ _ _ ?_ | (dsimp only; omega) | with_reducible refine Kp.drew ?_ | with_reducible refine Kp.drewN ?_ _ | with_reducible refine Kp.al ?_ _ | with_reducible refine Kp.trans ?_ (by with_reducible assumption))
  have c3_0_5 := hb5.get (b := w4.heap.size) (o := 0) (v := .int .i64 (2)) (by first | with_reducible assumption | (simp [go_sem]; done) | (simp [go_sem, *]; done))
  have f3_0_5 := hb5.free (b := w4.heap.size) (o := 0) (v := .int .i64 (2)) (by first | with_reducible assumption | (simp [go_sem]; done) | (simp [go_sem, *]; done)) (by first | with_reducible assumption | (simp [go_sem]; done) | (simp [go_sem, *]; done))
  have c3_1_5 := hb5.get (b := w4.heap.size) (o := 1) (v := .int .i64 (4)) (by first | with_reducible assumption | (simp [go_sem]; done) | (simp [go_sem, *]; done))
  have f3_1_5 := hb5.free (b := w4.heap.size) (o := 1) (v := .int .i64 (4)) (by first | with_reducible assumption | (simp [go_sem]; done) | (simp [go_sem, *]; done)) (by first | with_reducible assumption | (simp [go_sem]; done) | (simp [go_sem, *]; done))
  have c3_2_5 := hb5.get (b := w4.heap.size) (o := 2) (v := .int .i64 (-1)) (by first | with_reducible assumption | (simp [go_sem]; done) | (simp [go_sem, *]; done))
  have f3_2_5 := hb5.free (b := w4.heap.size) (o := 2) (v := .int .i64 (-1)) (by first | with_reducible assumption | (simp [go_sem]; done) | (simp [go_sem, *]; done)) (by first | with_reducible assumption | (simp [go_sem]; done) | (simp [go_sem, *]; done))
  have l3_5 := cell_lt c3_0_5
  have c1_0_5 := Q5.get c1_0_4
  have c1_1_5 := Q5.get c1_1_4
  have c1_2_5 := Q5.get c1_2_4
  have l1_5 := cell_lt c1_0_5
  have c2_0_5 := Q5.get c2_0_4
  have c2_1_5 := Q5.get c2_1_4
  have c2_2_5 := Q5.get c2_2_4
  have l2_5 := cell_lt c2_0_5
  have K5 := K4.trans Q5
  clear hb5 c1_0_4 c1_1_4 c1_2_4 l1_4 c2_0_4 c2_1_4 c2_2_4 l2_4 K4 Q5
  go_wp2_with fail
  refine (of_no' _ _ _ (by omega)).mono ?_
  rintro e w6 ⟨rfl, hb6⟩
  have Q6 : Kp w5 w6 := by repeat (first | exact Kp.refl _ | with_reducible assumption | with_reducible refine Kp.set ?_ _ _ ?_ | (dsimp only; omega) | with_reducible refine Kp.drew ?_ | with_reducible refine Kp.drewN ?_ _ | with_reducible refine Kp.al ?_ _ | with_reducible refine Kp.trans ?_ (by with_reducible assumption))
  have c1_0_6 := Q6.get c1_0_5
  have c1_1_6 := Q6.get c1_1_5
  have c1_2_6 := Q6.get c1_2_5
  have l1_6 := cell_lt c1_0_6
  have c2_0_6 := Q6.get c2_0_5
  have c2_1_6 := Q6.get c2_1_5
  have c2_2_6 := Q6.get c2_2_5
  have l2_6 := cell_lt c2_0_6
  have f3_0_6 := Q6.free c3_0_5 f3_0_5
  have f3_1_6 := Q6.free c3_1_5 f3_1_5
  have f3_2_6 := Q6.free c3_2_5 f3_2_5
  have c3_0_6 := Q6.get c3_0_5
  have c3_1_6 := Q6.get c3_1_5
  have c3_2_6 := Q6.get c3_2_5
  have l3_6 := cell_lt c3_0_6
  have K6 := K5.trans Q6
  clear hb6 c1_0_5 c1_1_5 c1_2_5 l1_5 c2_0_5 c2_1_5 c2_2_5 l2_5 f3_0_5 f3_1_5 f3_2_5 c3_0_5 c3_1_5 c3_2_5 l3_5 K5 Q6
  go_wp2_with fail
  rw [tx_eb4]
  go_wp2_with fail
  refine (is_ok _ _ _ _ (by omega) (by omega) (by omega) (by omega) (by omega) (by omega)).mono ?_
  rintro e w7 ⟨rfl, hb7⟩
  have Q7 : Kp w6 w7 := by repeat (first | exact Kp.refl _ | with_reducible assumption | with_reducible refine Kp.set ?_ _ _ ?_ | (dsimp only; omega) | with_reducible refine Kp.drew ?_ | with_reducible refine Kp.drewN ?_ _ | with_reducible refine Kp.al ?_ _ | with_reducible refine Kp.trans ?_ (by with_reducible assumption))
  have c1_0_7 := Q7.get c1_0_6
  have c1_1_7 := Q7.get c1_1_6
  have c1_2_7 := Q7.get c1_2_6
  have l1_7 := cell_lt c1_0_7
  have c2_0_7 := Q7.get c2_0_6
  have c2_1_7 := Q7.get c2_1_6
  have c2_2_7 := Q7.get c2_2_6
  have l2_7 := cell_lt c2_0_7
  have f3_0_7 := Q7.free c3_0_6 f3_0_6
  have f3_1_7 := Q7.free c3_1_6 f3_1_6
  have f3_2_7 := Q7.free c3_2_6 f3_2_6
  have c3_0_7 := Q7.get c3_0_6
  have c3_1_7 := Q7.get c3_1_6
  have c3_2_7 := Q7.get c3_2_6
  have l3_7 := cell_lt c3_0_7
  have K7 := K6.trans Q7
  clear hb7 c1_0_6 c1_1_6 c1_2_6 l1_6 c2_0_6 c2_1_6 c2_2_6 l2_6 f3_0_6 f3_1_6 f3_2_6 c3_0_6 c3_1_6 c3_2_6 l3_6 K6 Q7
  go_wp2_with fail
  refine (move_to _ _ _ _ 5 3 _ (by omega) (by omega) (by omega) (by omega) (by omega) (by omega) (by omega) (by omega) (by omega) (by omega) (by omega)).mono ?_
  rintro e w8 ⟨rfl, hb8⟩
  have Q8 : Kp w7 w8 := by repeat (first | exact Kp.refl _ | with_reducible assumption | with_reducible refine Kp.set ?_ _ _ ?_ | (dsimp only; omega) | with_reducible refine Kp.drew ?_ | with_reducible refine Kp.drewN ?_ _ | with_reducible refine Kp.al ?_ _ | with_reducible refine Kp.trans ?_ (by with_reducible assumption))
  have c1_0_8 := Q8.get c1_0_7
  have c1_1_8 := Q8.get c1_1_7
  have c1_2_8 := Q8.get c1_2_7
  have l1_8 := cell_lt c1_0_8
  have c2_0_8 := Q8.get c2_0_7
  have c2_1_8 := Q8.get c2_1_7
  have c2_2_8 := Q8.get c2_2_7
  have l2_8 := cell_lt c2_0_8
  have f3_0_8 := Q8.free c3_0_7 f3_0_7
  have f3_1_8 := Q8.free c3_1_7 f3_1_7
  have f3_2_8 := Q8.free c3_2_7 f3_2_7
  have c3_0_8 := Q8.get c3_0_7
  have c3_1_8 := Q8.get c3_1_7
  have c3_2_8 := Q8.get c3_2_7
  have l3_8 := cell_lt c3_0_8
  have K8 := K7.trans Q8
  clear hb8 c1_0_7 c1_1_7 c1_2_7 l1_7 c2_0_7 c2_1_7 c2_2_7 l2_7 f3_0_7 f3_1_7 f3_2_7 c3_0_7 c3_1_7 c3_2_7 l3_7 K7 Q8
  go_wp2_with fail
  refine (mirror_to _ _ _ _ _ _ 0 5 _ (by omega) (by omega) (by omega) (by omega) (by omega) (by omega) (by omega) (by omega) (by omega) (by omega) (by omega) (by omega) (by omega) (by omega) (by omega) (by omega) (by omega)).mono ?_
  rintro e w9 ⟨rfl, hb9⟩
  have K9 : Kp w w9 := by repeat (first | exact Kp.refl _ | with_reducible assumption | with_reducible refine Kp.set ?_ _ _ ?_ | (dsimp only; omega) | with_reducible refine Kp.drew ?_ | with_reducible refine Kp.drewN ?_ _ | with_reducible refine Kp.al ?_ _ | with_reducible refine Kp.trans ?_ (by with_reducible assumption))
  have c3_0_9 := hb9.get (b := w4.heap.size) (o := 0) (v := .int .i64 (5)) (by first | with_reducible assumption | (simp [go_sem]; done) | (simp [go_sem, *]; done))
  have f3_0_9 := hb9.free (b := w4.heap.size) (o := 0) (v := .int .i64 (5)) (by first | with_reducible assumption | (simp [go_sem]; done) | (simp [go_sem, *]; done)) (by first | with_reducible assumption | (simp [go_sem]; done) | (simp [go_sem, *]; done))
  have c3_1_9 := hb9.get (b := w4.heap.size) (o := 1) (v := .int .i64 (3)) (by first | with_reducible assumption | (simp [go_sem]; done) | (simp [go_sem, *]; done))
  have f3_1_9 := hb9.free (b := w4.heap.size) (o := 1) (v := .int .i64 (3)) (by first | with_reducible assumption | (simp [go_sem]; done) | (simp [go_sem, *]; done)) (by first | with_reducible assumption | (simp [go_sem]; done) | (simp [go_sem, *]; done))
  have c3_2_9 := hb9.get (b := w4.heap.size) (o := 2) (v := .int .i64 (1)) (by first | with_reducible assumption | (simp [go_sem]; done) | (simp [go_sem, *]; done))
  have f3_2_9 := hb9.free (b := w4.heap.size) (o := 2) (v := .int .i64 (1)) (by first | with_reducible assumption | (simp [go_sem]; done) | (simp [go_sem, *]; done)) (by first | with_reducible assumption | (simp [go_sem]; done) | (simp [go_sem, *]; done))
  have l3_9 := cell_lt c3_0_9
  have c1_0_9 := hb9.get (b := w.heap.size) (o := 0) (v := .int .i64 (0)) (by first | with_reducible assumption | (simp [go_sem]; done) | (simp [go_sem, *]; done))
  have c1_1_9 := hb9.get (b := w.heap.size) (o := 1) (v := .int .i64 (4)) (by first | with_reducible assumption | (simp [go_sem]; done) | (simp [go_sem, *]; done))
  have c1_2_9 := hb9.get (b := w.heap.size) (o := 2) (v := .int .i64 (0)) (by first | with_reducible assumption | (simp [go_sem]; done) | (simp [go_sem, *]; done))
  have l1_9 := cell_lt c1_0_9
  have c2_0_9 := hb9.get (b := w.heap.size + 1) (o := 0) (v := .int .i64 (4)) (by first | with_reducible assumption | (simp [go_sem]; done) | (simp [go_sem, *]; done))
  have c2_1_9 := hb9.get (b := w.heap.size + 1) (o := 1) (v := .int .i64 (4)) (by first | with_reducible assumption | (simp [go_sem]; done) | (simp [go_sem, *]; done))
  have c2_2_9 := hb9.get (b := w.heap.size + 1) (o := 2) (v := .int .i64 (0)) (by first | with_reducible assumption | (simp [go_sem]; done) | (simp [go_sem, *]; done))
  have l2_9 := cell_lt c2_0_9
  clear hb9 c3_0_8 c3_1_8 c3_2_8 f3_0_8 f3_1_8 f3_2_8 c1_0_8 c1_1_8 c1_2_8 l1_8 c2_0_8 c2_1_8 c2_2_8 l2_8 K8
  have n4_3 : ¬ w9.heap.size = w4.heap.size := by omega
  have n3_4 : ¬ w4.heap.size = w9.heap.size := by omega
  go_wp2_with fail
  refine (mirror_to _ _ _ _ _ _ 6 4 _ (by omega) (by omega) (by omega) (by omega) (by omega) (by omega) (by omega) (by omega) (by omega) (by omega) (by omega) (by omega) (by omega) (by omega) (by omega) (by omega) (by omega)).mono ?_
  rintro e w10 ⟨rfl, hb10⟩
  have Q10 : Kp w9 w10 := by repeat (first | exact Kp.refl _ | with_reducible assumption | with_reducible refine Kp.set ?_ _ _ ?_ | (dsimp only; omega) | with_reducible refine Kp.drew ?_ | with_reducible refine Kp.drewN ?_ _ | with_reducible refine Kp.al ?_ _ | with_reducible refine Kp.trans ?_ (by with_reducible assumption))
  have c4_0_10 := hb10.get (b := w9.heap.size) (o := 0) (v := .int .i64 (0)) (by first | with_reducible assumption | (simp [go_sem]; done) | (simp [go_sem, *]; done))
  have c4_1_10 := hb10.get (b := w9.heap.size) (o := 1) (v := .int .i64 (5)) (by first | with_reducible assumption | (simp [go_sem]; done) | (simp [go_sem, *]; done))
  have c4_2_10 := hb10.get (b := w9.heap.size) (o := 2) (v := .int .i64 (0)) (by first | with_reducible assumption | (simp [go_sem]; done) | (simp [go_sem, *]; done))
  have l4_10 := cell_lt c4_0_10
  have f3_0_10 := Q10.free c3_0_9 f3_0_9
  have f3_1_10 := Q10.free c3_1_9 f3_1_9
  have f3_2_10 := Q10.free c3_2_9 f3_2_9
  have c3_0_10 := Q10.get c3_0_9
  have c3_1_10 := Q10.get c3_1_9
  have c3_2_10 := Q10.get c3_2_9
  have l3_10 := cell_lt c3_0_10
  have c1_0_10 := Q10.get c1_0_9
  have c1_1_10 := Q10.get c1_1_9
  have c1_2_10 := Q10.get c1_2_9
  have l1_10 := cell_lt c1_0_10
  have c2_0_10 := Q10.get c2_0_9
  have c2_1_10 := Q10.get c2_1_9
  have c2_2_10 := Q10.get c2_2_9
  have l2_10 := cell_lt c2_0_10
  have K10 := K9.trans Q10
  clear hb10 f3_0_9 f3_1_9 f3_2_9 c3_0_9 c3_1_9 c3_2_9 l3_9 c1_0_9 c1_1_9 c1_2_9 l1_9 c2_0_9 c2_1_9 c2_2_9 l2_9 K9 Q10
  have n5_3 : ¬ w10.heap.size = w4.heap.size := by omega
  have n3_5 : ¬ w4.heap.size = w10.heap.size := by omega
  go_wp2_with fail
  rw [tx_as3]
  go_wp2_with fail
  refine (is_ok _ _ _ _ (by omega) (by omega) (by omega) (by omega) (by omega) (by omega)).mono ?_
  rintro e w11 ⟨rfl, hb11⟩
  have Q11 : Kp w10 w11 := by repeat (first | exact Kp.refl _ | with_reducible assumption | with_reducible refine Kp.set ?_ _ _ ?_ | (dsimp only; omega) | with_reducible refine Kp.drew ?_ | with_reducible refine Kp.drewN ?_ _ | with_reducible refine Kp.al ?_ _ | with_reducible refine Kp.trans ?_ (by with_reducible assumption))
  have c5_0_11 := hb11.get (b := w10.heap.size) (o := 0) (v := .int .i64 (6)) (by first | with_reducible assumption | (simp [go_sem]; done) | (simp [go_sem, *]; done))
  have c5_1_11 := hb11.get (b := w10.heap.size) (o := 1) (v := .int .i64 (4)) (by first | with_reducible assumption | (simp [go_sem]; done) | (simp [go_sem, *]; done))
  have c5_2_11 := hb11.get (b := w10.heap.size) (o := 2) (v := .int .i64 (1)) (by first | with_reducible assumption | (simp [go_sem]; done) | (simp [go_sem, *]; done))
  have l5_11 := cell_lt c5_0_11
  have f3_0_11 := Q11.free c3_0_10 f3_0_10
  have f3_1_11 := Q11.free c3_1_10 f3_1_10
  have f3_2_11 := Q11.free c3_2_10 f3_2_10
  have c3_0_11 := Q11.get c3_0_10
  have c3_1_11 := Q11.get c3_1_10
  have c3_2_11 := Q11.get c3_2_10
  have l3_11 := cell_lt c3_0_11
  have c1_0_11 := Q11.get c1_0_10
  have c1_1_11 := Q11.get c1_1_10
  have c1_2_11 := Q11.get c1_2_10
  have l1_11 := cell_lt c1_0_11
  have c2_0_11 := Q11.get c2_0_10
  have c2_1_11 := Q11.get c2_1_10
  have c2_2_11 := Q11.get c2_2_10
  have l2_11 := cell_lt c2_0_11
  have c4_0_11 := Q11.get c4_0_10
  have c4_1_11 := Q11.get c4_1_10
  have c4_2_11 := Q11.get c4_2_10
  have l4_11 := cell_lt c4_0_11
  have K11 := K10.trans Q11
  clear hb11 f3_0_10 f3_1_10 f3_2_10 c3_0_10 c3_1_10 c3_2_10 l3_10 c1_0_10 c1_1_10 c1_2_10 l1_10 c2_0_10 c2_1_10 c2_2_10 l2_10 c4_0_10 c4_1_10 c4_2_10 l4_10 K10 Q11
  go_wp2_with fail
  rw [tx_c5]
  go_wp2_with fail
  refine (is_ok _ _ _ _ (by omega) (by omega) (by omega) (by omega) (by omega) (by omega)).mono ?_
  rintro e w12 ⟨rfl, hb12⟩
  have Q12 : Kp w11 w12 := by repeat (first | exact Kp.refl _ | with_reducible assumption | with_reducible refine Kp.set ?_ _ _ ?_ | (dsimp only; omega) | with_reducible refine Kp.drew ?_ | with_reducible refine Kp.drewN ?_ _ | with_reducible refine Kp.al ?_ _ | with_reducible refine Kp.trans ?_ (by with_reducible assumption))
  have f3_0_12 := Q12.free c3_0_11 f3_0_11
  have f3_1_12 := Q12.free c3_1_11 f3_1_11
  have f3_2_12 := Q12.free c3_2_11 f3_2_11
  have c3_0_12 := Q12.get c3_0_11
  have c3_1_12 := Q12.get c3_1_11
  have c3_2_12 := Q12.get c3_2_11
  have l3_12 := cell_lt c3_0_12
  have c1_0_12 := Q12.get c1_0_11
  have c1_1_12 := Q12.get c1_1_11
  have c1_2_12 := Q12.get c1_2_11
  have l1_12 := cell_lt c1_0_12
  have c2_0_12 := Q12.get c2_0_11
  have c2_1_12 := Q12.get c2_1_11
  have c2_2_12 := Q12.get c2_2_11
  have l2_12 := cell_lt c2_0_12
  have c4_0_12 := Q12.get c4_0_11
  have c4_1_12 := Q12.get c4_1_11
  have c4_2_12 := Q12.get c4_2_11
  have l4_12 := cell_lt c4_0_12
  have c5_0_12 := Q12.get c5_0_11
  have c5_1_12 := Q12.get c5_1_11
  have c5_2_12 := Q12.get c5_2_11
  have l5_12 := cell_lt c5_0_12
  have K12 := K11.trans Q12
  clear hb12 f3_0_11 f3_1_11 f3_2_11 c3_0_11 c3_1_11 c3_2_11 l3_11 c1_0_11 c1_1_11 c1_2_11 l1_11 c2_0_11 c2_1_11 c2_2_11 l2_11 c4_0_11 c4_1_11 c4_2_11 l4_11 c5_0_11 c5_1_11 c5_2_11 l5_11 K11 Q12
  go_wp2_with fail
  rw [tx_bs4]
  go_wp2_with fail
  refine (is_ok _ _ _ _ (by omega) (by omega) (by omega) (by omega) (by omega) (by omega)).mono ?_
  rintro e w13 ⟨rfl, hb13⟩
  have Q13 : Kp w12 w13 := by repeat (first | exact Kp.refl _ | with_reducible assumption | with_reducible refine Kp.set ?_ _ _ ?_ | (dsimp only; omega) | with_reducible refine Kp.drew ?_ | with_reducible refine Kp.drewN ?_ _ | with_reducible refine Kp.al ?_ _ | with_reducible refine Kp.trans ?_ (by with_reducible assumption))
  have f3_0_13 := Q13.free c3_0_12 f3_0_12
  have f3_1_13 := Q13.free c3_1_12 f3_1_12
  have f3_2_13 := Q13.free c3_2_12 f3_2_12
  have c3_0_13 := Q13.get c3_0_12
  have c3_1_13 := Q13.get c3_1_12
  have c3_2_13 := Q13.get c3_2_12
  have l3_13 := cell_lt c3_0_13
  have c1_0_13 := Q13.get c1_0_12
  have c1_1_13 := Q13.get c1_1_12
  have c1_2_13 := Q13.get c1_2_12
  have l1_13 := cell_lt c1_0_13
  have c2_0_13 := Q13.get c2_0_12
  have c2_1_13 := Q13.get c2_1_12
  have c2_2_13 := Q13.get c2_2_12
  have l2_13 := cell_lt c2_0_13
  have c4_0_13 := Q13.get c4_0_12
  have c4_1_13 := Q13.get c4_1_12
  have c4_2_13 := Q13.get c4_2_12
  have l4_13 := cell_lt c4_0_13
  have c5_0_13 := Q13.get c5_0_12
  have c5_1_13 := Q13.get c5_1_12
  have c5_2_13 := Q13.get c5_2_12
  have l5_13 := cell_lt c5_0_13
  have K13 := K12.trans Q13
  clear hb13 f3_0_12 f3_1_12 f3_2_12 c3_0_12 c3_1_12 c3_2_12 l3_12 c1_0_12 c1_1_12 c1_2_12 l1_12 c2_0_12 c2_1_12 c2_2_12 l2_12 c4_0_12 c4_1_12 c4_2_12 l4_12 c5_0_12 c5_1_12 c5_2_12 l5_12 K12 Q13
  go_wp2_with fail
  refine (move_out _ _ _ _ _ (by omega) (by omega) (by omega) (by omega) (by omega) (by omega) (by omega) (by omega) (by omega)).mono ?_
  rintro e w14 ⟨rfl, hb14⟩
  have Q14 : Kp w13 w14 := by repeat (first | exact Kp.refl _ | with_reducible assumption | with_reducible refine Kp.set ?_ _ _ ?_ | (dsimp only; omega) | with_reducible refine Kp.drew ?_ | with_reducible refine Kp.drewN ?_ _ | with_reducible refine Kp.al ?_ _ | with_reducible refine Kp.trans ?_ (by with_reducible assumption))
  have c1_0_14 := Q14.get c1_0_13
  have c1_1_14 := Q14.get c1_1_13
  have c1_2_14 := Q14.get c1_2_13
  have l1_14 := cell_lt c1_0_14
  have c2_0_14 := Q14.get c2_0_13
  have c2_1_14 := Q14.get c2_1_13
  have c2_2_14 := Q14.get c2_2_13
  have l2_14 := cell_lt c2_0_14
  have K14 := K13.trans Q14
  clear hb14 c1_0_13 c1_1_13 c1_2_13 l1_13 c2_0_13 c2_1_13 c2_2_13 l2_13 K13 Q14
  go_wp2_with fail
  refine (btw_cg _ (HT.out.below (by repeat (first | exact Kp.refl _ | with_reducible assumption | with_reducible refine Kp.set ?_ _ _ ?_ | (dsimp only; omega) | with_reducible refine Kp.drew ?_ | with_reducible refine Kp.drewN ?_ _ | with_reducible refine Kp.al ?_ _ | with_reducible refine Kp.trans ?_ (by with_reducible assumption))))).mono ?_
  rintro e w15 ⟨rfl, hb15⟩
  have Q15 : Kp w14 w15 := by repeat (first | exact Kp.refl _ | with_reducible assumption | with_reducible refine Kp.set ?_ _ _ ?_ | (dsimp only; omega) | with_reducible refine Kp.drew ?_ | with_reducible refine Kp.drewN ?_ _ | with_reducible refine Kp.al ?_ _ | with_reducible refine Kp.trans ?_ (by with_reducible assumption))
  have c1_0_15 := Q15.get c1_0_14
  have c1_1_15 := Q15.get c1_1_14
  have c1_2_15 := Q15.get c1_2_14
  have l1_15 := cell_lt c1_0_15
  have c2_0_15 := Q15.get c2_0_14
  have c2_1_15 := Q15.get c2_1_14
  have c2_2_15 := Q15.get c2_2_14
  have l2_15 := cell_lt c2_0_15
  have K15 := K14.trans Q15
  clear hb15 c1_0_14 c1_1_14 c1_2_14 l1_14 c2_0_14 c2_1_14 c2_2_14 l2_14 K14 Q15
  go_wp2_with fail
  refine (btw_ec _ (HT.out.below (by repeat (first | exact Kp.refl _ | with_reducible assumption | with_reducible refine Kp.set ?_ _ _ ?_ | (dsimp only; omega) | with_reducible refine Kp.drew ?_ | with_reducible refine Kp.drewN ?_ _ | with_reducible refine Kp.al ?_ _ | with_reducible refine Kp.trans ?_ (by with_reducible assumption))))).mono ?_
  rintro e w16 ⟨rfl, hb16⟩
  have Q16 : Kp w15 w16 := by repeat (first | exact Kp.refl _ | with_reducible assumption | with_reducible refine Kp.set ?_ _ _ ?_ | (dsimp only; omega) | with_reducible refine Kp.drew ?_ | with_reducible refine Kp.drewN ?_ _ | with_reducible refine Kp.al ?_ _ | with_reducible refine Kp.trans ?_ (by with_reducible assumption))
  have c6_0_16 := hb16.get (b := w15.heap.size) (o := 0) (v := .int .i64 (4)) (by first | with_reducible assumption | (simp [go_sem]; done) | (simp [go_sem, *]; done))
  have c6_1_16 := hb16.get (b := w15.heap.size) (o := 1) (v := .int .i64 (7)) (by first | with_reducible assumption | (simp [go_sem]; done) | (simp [go_sem, *]; done))
  have l6_16 := cell_lt c6_0_16
  have c1_0_16 := Q16.get c1_0_15
  have c1_1_16 := Q16.get c1_1_15
  have c1_2_16 := Q16.get c1_2_15
  have l1_16 := cell_lt c1_0_16
  have c2_0_16 := Q16.get c2_0_15
  have c2_1_16 := Q16.get c2_1_15
  have c2_2_16 := Q16.get c2_2_15
  have l2_16 := cell_lt c2_0_16
  have K16 := K15.trans Q16
  clear hb16 c1_0_15 c1_1_15 c1_2_15 l1_15 c2_0_15 c2_1_15 c2_2_15 l2_15 K15 Q16
  go_wp2_with fail
  refine (parse_no _ _ (by decide) no_h3).mono ?_
  rintro e w17 ⟨rfl, hb17⟩
  have Q17 : Kp w16 w17 := by repeat (first | exact Kp.refl _ | with_reducible assumption | with_reducible refine Kp.set ?_ _ _ ?_ | (dsimp only; omega) | with_reducible refine Kp.drew ?_ | with_reducible refine Kp.drewN ?_ _ | with_reducible refine Kp.al ?_ _ | with_reducible refine Kp.trans ?_ (by with_reducible assumption))
  have c7_0_17 := hb17.get (b := w16.heap.size) (o := 0) (v := .int .i64 (-2)) (by first | with_reducible assumption | (simp [go_sem]; done) | (simp [go_sem, *]; done))
  have c7_1_17 := hb17.get (b := w16.heap.size) (o := 1) (v := .int .i64 (-4)) (by first | with_reducible assumption | (simp [go_sem]; done) | (simp [go_sem, *]; done))
  have l7_17 := cell_lt c7_0_17
  have c6_0_17 := Q17.get c6_0_16
  have c6_1_17 := Q17.get c6_1_16
  have l6_17 := cell_lt c6_0_17
  have K17 := K16.trans Q17
  clear hb17 c6_0_16 c6_1_16 l6_16 K16 Q17
  go_wp2_with fail
  refine (parse_no _ _ (by decide) no_cs).mono ?_
  rintro e w18 ⟨rfl, hb18⟩
  have Q18 : Kp w17 w18 := by repeat (first | exact Kp.refl _ | with_reducible assumption | with_reducible refine Kp.set ?_ _ _ ?_ | (dsimp only; omega) | with_reducible refine Kp.drew ?_ | with_reducible refine Kp.drewN ?_ _ | with_reducible refine Kp.al ?_ _ | with_reducible refine Kp.trans ?_ (by with_reducible assumption))
  have K18 := K17.trans Q18
  clear hb18 K17 Q18
  go_wp2_with fail
  refine (parse_no _ _ (by decide) no_c9).mono ?_
  rintro e w19 ⟨rfl, hb19⟩
  have Q19 : Kp w18 w19 := by repeat (first | exact Kp.refl _ | with_reducible assumption | with_reducible refine Kp.set ?_ _ _ ?_ | (dsimp only; omega) | with_reducible refine Kp.drew ?_ | with_reducible refine Kp.drewN ?_ _ | with_reducible refine Kp.al ?_ _ | with_reducible refine Kp.trans ?_ (by with_reducible assumption))
  have K19 := K18.trans Q19
  clear hb19 K18 Q19
  go_wp2_with fail
  rw [tx_b3]
  go_wp2_with fail
  refine (reads_ok _ _ _ _ (by omega) (by omega) (by omega) (by omega) (by omega) (by omega)).mono ?_
  rintro e w20 ⟨rfl, hb20⟩
  have Q20 : Kp w19 w20 := by repeat (first | exact Kp.refl _ | with_reducible assumption | with_reducible refine Kp.set ?_ _ _ ?_ | (dsimp only; omega) | with_reducible refine Kp.drew ?_ | with_reducible refine Kp.drewN ?_ _ | with_reducible refine Kp.al ?_ _ | with_reducible refine Kp.trans ?_ (by with_reducible assumption))
  have K20 := K19.trans Q20
  clear hb20 K19 Q20
  go_wp2_with fail
  refine (awake_ok _ (HT.out.below (by repeat (first | exact Kp.refl _ | with_reducible assumption | with_reducible refine Kp.set ?_ _ _ ?_ | (dsimp only; omega) | with_reducible refine Kp.drew ?_ | with_reducible refine Kp.drewN ?_ _ | with_reducible refine Kp.al ?_ _ | with_reducible refine Kp.trans ?_ (by with_reducible assumption))))).mono ?_
  rintro e w21 ⟨rfl, hb21⟩
  have Q21 : Kp w20 w21 := by repeat (first | exact Kp.refl _ | with_reducible assumption | with_reducible refine Kp.set ?_ _ _ ?_ | (dsimp only; omega) | with_reducible refine Kp.drew ?_ | with_reducible refine Kp.drewN ?_ _ | with_reducible refine Kp.al ?_ _ | with_reducible refine Kp.trans ?_ (by with_reducible assumption))
  have K21 := K20.trans Q21
  clear hb21 K20 Q21
  go_wp2_with fail
  go_ret
  exact ⟨rfl, by repeat (first | exact Kp.refl _ | with_reducible assumption | with_reducible refine Kp.set ?_ _ _ ?_ | (dsimp only; omega) | with_reducible refine Kp.drew ?_ | with_reducible refine Kp.drewN ?_ _ | with_reducible refine Kp.al ?_ _ | with_reducible refine Kp.trans ?_ (by with_reducible assumption))⟩
end Go.Proofs.YtmmpjajjebljpaaDoor
