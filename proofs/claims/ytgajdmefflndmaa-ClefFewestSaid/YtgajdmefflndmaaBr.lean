/- The walk of ClefMoved. -/
import Derived.Test.YtgajdmefflndmaaBq
namespace Go.Proofs.Ytgajdmefflndmaa
open Go.RowKit

set_option maxRecDepth 100000 in
set_option maxHeartbeats 2000000 in
theorem moved_walk (m n a b : Int) (w : World) :
    Calls Try.prog 8 #[.int .i64 m, .int .i64 n, .int .i64 a, .int .i64 b] w fun e w' => e = .returned (.bool true) ∧ Kp w w' := by
  obtain ⟨st, ln, hc, cc⟩ := all_ex m
  obtain ⟨su, lu, hd, cd⟩ := all_ex n
  obtain ⟨p, p1, p2, cp⟩ := mod_ex a 17 (by omega) (by omega)
  obtain ⟨q, q1, q2, cq⟩ := mod_ex b 17 (by omega) (by omega)
  obtain ⟨b1, b2⟩ := low_bd hc
  obtain ⟨d1, d2⟩ := low_bd hd
  have CC := Lib.hid cc; have CD := Lib.hid cd; have CP := Lib.hid cp; have CQ := Lib.hid cq
  clear cc cd cp cq
  by_cases hin : -4 ≤ p - 4 + low st ln - low su lu ∧ p - 4 + low st ln - low su lu ≤ 12
  · obtain ⟨x, ex⟩ : ∃ x, x = p - 4 + low st ln - low su lu := ⟨_, rfl⟩
    have c1 := fun w => moved_ok st ln su lu (p - 4) w hc hd (by omega) (by omega) hin.1 hin.2
    rw [← ex] at c1
    have c2 := fun w => moved_ok su lu st ln x w hd hc (by omega) (by omega) (by omega) (by omega)
    have e2 : x + low su lu - low st ln = p - 4 := by omega
    rw [e2] at c2
    have c3 := fun w => cpitch_ok st ln 0 (p - 4) 0 w hc (by omega) (by omega) (by omega) (by omega) (by omega) (by omega)
    have c4 := fun w => cpitch_ok su lu 0 x 0 w hd (by omega) (by omega) (by omega) (by omega) (by omega) (by omega)
    have e4 : low su lu + x = low st ln + (p - 4) := by omega
    rw [e4] at c4
    obtain ⟨s, es⟩ : ∃ s, s = (low st ln + (p - 4)) % 7 := ⟨_, rfl⟩
    obtain ⟨o, eo⟩ : ∃ o, o = (low st ln + (p - 4)) / 7 := ⟨_, rfl⟩
    rw [← es, ← eo] at c3 c4
    obtain ⟨al, eal⟩ : ∃ al, al = alt 0 0 s := ⟨_, rfl⟩
    rw [← eal] at c3 c4
    have x1 : -4 ≤ x := by omega
    have x2 : x ≤ 12 := by omega
    have EX := Lib.hid ex
    have C1 := Lib.hid c1; have C2 := Lib.hid c2; have C3 := Lib.hid c3; have C4 := Lib.hid c4
    clear c1 c2 c3 c4 e2 e4 es eo eal ex hin
    by_cases hin2 : -4 ≤ q - 4 + low st ln - low su lu ∧ q - 4 + low st ln - low su lu ≤ 12
    · have c5 := fun w => moved_ok st ln su lu (q - 4) w hc hd (by omega) (by omega) hin2.1 hin2.2
      obtain ⟨y, ey⟩ : ∃ y, y = q - 4 + low st ln - low su lu := ⟨_, rfl⟩
      rw [← ey] at c5
      have y1 : -4 ≤ y := by omega
      have y2 : y ≤ 12 := by omega
      have hxy : (y - (q - 4) == x - (p - 4)) = true := by rw [beq_iff_eq]; have := EX.out; omega
      have C5 := Lib.hid c5
      clear c5 ey hin2 hc hd
      go_enter Try.func8, Try.ntmps8
      go_wp2_with fail
      refine (known_walk _).mono ?_
      rintro e w1 ⟨rfl, hb1⟩
      have Q1 : Kp w w1 := by repeat (first | exact Kp.refl _ | with_reducible assumption | with_reducible refine Kp.set ?_ _ _ ?_ | (dsimp only; omega) | with_reducible refine Kp.drew ?_ | with_reducible refine Kp.drewN ?_ _ | with_reducible refine Kp.al ?_ _ | with_reducible refine Kp.trans ?_ (by with_reducible assumption))
      have K1 := Q1
      clear hb1 Q1
      go_wp2_with fail
      refine (CC.out _).mono ?_
      rintro e w2 ⟨rfl, hb2⟩
      have Q2 : Kp w1 w2 := by repeat (first | exact Kp.refl _ | with_reducible assumption | with_reducible refine Kp.set ?_ _ _ ?_ | (dsimp only; omega) | with_reducible refine Kp.drew ?_ | with_reducible refine Kp.drewN ?_ _ | with_reducible refine Kp.al ?_ _ | with_reducible refine Kp.trans ?_ (by with_reducible assumption))
      have K2 := K1.trans Q2
      clear hb2 K1 Q2
      go_wp2_with fail
      refine (CD.out _).mono ?_
      rintro e w3 ⟨rfl, hb3⟩
      have Q3 : Kp w2 w3 := by repeat (first | exact Kp.refl _ | with_reducible assumption | with_reducible refine Kp.set ?_ _ _ ?_ | (dsimp only; omega) | with_reducible refine Kp.drew ?_ | with_reducible refine Kp.drewN ?_ _ | with_reducible refine Kp.al ?_ _ | with_reducible refine Kp.trans ?_ (by with_reducible assumption))
      have K3 := K2.trans Q3
      clear hb3 K2 Q3
      go_wp2_with fail
      refine (CP.out _).mono ?_
      rintro e _ ⟨rfl, rfl⟩
      go_wp2_with fail
      refine (CQ.out _).mono ?_
      rintro e _ ⟨rfl, rfl⟩
      go_wp2_with fail
      refine (C1.out _).mono ?_
      rintro e w4 ⟨rfl, hb4⟩
      have Q4 : Kp w3 w4 := by repeat (first | exact Kp.refl _ | with_reducible assumption | with_reducible refine Kp.set ?_ _ _ ?_ | (dsimp only; omega) | with_reducible refine Kp.drew ?_ | with_reducible refine Kp.drewN ?_ _ | with_reducible refine Kp.al ?_ _ | with_reducible refine Kp.trans ?_ (by with_reducible assumption))
      have c1_0_4 := hb4.get (b := w3.heap.size) (o := 0) (v := .int .i64 (st)) (by first | with_reducible assumption | (simp [go_sem]; done) | (simp [go_sem, *]; done))
      have c1_1_4 := hb4.get (b := w3.heap.size) (o := 1) (v := .int .i64 (ln)) (by first | with_reducible assumption | (simp [go_sem]; done) | (simp [go_sem, *]; done))
      have l1_4 := cell_lt c1_0_4
      have c2_0_4 := hb4.get (b := w3.heap.size + 1) (o := 0) (v := .int .i64 (su)) (by first | with_reducible assumption | (simp [go_sem]; done) | (simp [go_sem, *]; done))
      have c2_1_4 := hb4.get (b := w3.heap.size + 1) (o := 1) (v := .int .i64 (lu)) (by first | with_reducible assumption | (simp [go_sem]; done) | (simp [go_sem, *]; done))
      have l2_4 := cell_lt c2_0_4
      have K4 := K3.trans Q4
      clear hb4 K3 Q4
      go_wp2_with fail
      refine (C2.out _).mono ?_
      rintro e w5 ⟨rfl, hb5⟩
      have Q5 : Kp w4 w5 := by repeat (first | exact Kp.refl _ | with_reducible assumption | with_reducible refine Kp.set ?_ _ _ ?_ | (dsimp only; omega) | with_reducible refine Kp.drew ?_ | with_reducible refine Kp.drewN ?_ _ | with_reducible refine Kp.al ?_ _ | with_reducible refine Kp.trans ?_ (by with_reducible assumption))
      have c1_0_5 := Q5.get c1_0_4
      have c1_1_5 := Q5.get c1_1_4
      have l1_5 := cell_lt c1_0_5
      have c2_0_5 := Q5.get c2_0_4
      have c2_1_5 := Q5.get c2_1_4
      have l2_5 := cell_lt c2_0_5
      have K5 := K4.trans Q5
      clear hb5 c1_0_4 c1_1_4 l1_4 c2_0_4 c2_1_4 l2_4 K4 Q5
      go_wp2_with fail
      refine (C3.out _).mono ?_
      rintro e w6 ⟨rfl, hb6⟩
      have Q6 : Kp w5 w6 := by repeat (first | exact Kp.refl _ | with_reducible assumption | with_reducible refine Kp.set ?_ _ _ ?_ | (dsimp only; omega) | with_reducible refine Kp.drew ?_ | with_reducible refine Kp.drewN ?_ _ | with_reducible refine Kp.al ?_ _ | with_reducible refine Kp.trans ?_ (by with_reducible assumption))
      have c1_0_6 := Q6.get c1_0_5
      have c1_1_6 := Q6.get c1_1_5
      have l1_6 := cell_lt c1_0_6
      have c2_0_6 := Q6.get c2_0_5
      have c2_1_6 := Q6.get c2_1_5
      have l2_6 := cell_lt c2_0_6
      have K6 := K5.trans Q6
      clear hb6 c1_0_5 c1_1_5 l1_5 c2_0_5 c2_1_5 l2_5 K5 Q6
      go_wp2_with fail
      refine (C4.out _).mono ?_
      rintro e w7 ⟨rfl, hb7⟩
      have Q7 : Kp w6 w7 := by repeat (first | exact Kp.refl _ | with_reducible assumption | with_reducible refine Kp.set ?_ _ _ ?_ | (dsimp only; omega) | with_reducible refine Kp.drew ?_ | with_reducible refine Kp.drewN ?_ _ | with_reducible refine Kp.al ?_ _ | with_reducible refine Kp.trans ?_ (by with_reducible assumption))
      have c3_0_7 := hb7.get (b := w6.heap.size) (o := 0) (v := .int .i64 (s)) (by first | with_reducible assumption | (simp [go_sem]; done) | (simp [go_sem, *]; done))
      have c3_1_7 := hb7.get (b := w6.heap.size) (o := 1) (v := .int .i64 (o)) (by first | with_reducible assumption | (simp [go_sem]; done) | (simp [go_sem, *]; done))
      have c3_2_7 := hb7.get (b := w6.heap.size) (o := 2) (v := .int .i64 (al)) (by first | with_reducible assumption | (simp [go_sem]; done) | (simp [go_sem, *]; done))
      have l3_7 := cell_lt c3_0_7
      have c1_0_7 := Q7.get c1_0_6
      have c1_1_7 := Q7.get c1_1_6
      have l1_7 := cell_lt c1_0_7
      have c2_0_7 := Q7.get c2_0_6
      have c2_1_7 := Q7.get c2_1_6
      have l2_7 := cell_lt c2_0_7
      have K7 := K6.trans Q7
      clear hb7 c1_0_6 c1_1_6 l1_6 c2_0_6 c2_1_6 l2_6 K6 Q7
      go_wp2_with fail
      refine (C5.out _).mono ?_
      rintro e w8 ⟨rfl, hb8⟩
      have Q8 : Kp w7 w8 := by repeat (first | exact Kp.refl _ | with_reducible assumption | with_reducible refine Kp.set ?_ _ _ ?_ | (dsimp only; omega) | with_reducible refine Kp.drew ?_ | with_reducible refine Kp.drewN ?_ _ | with_reducible refine Kp.al ?_ _ | with_reducible refine Kp.trans ?_ (by with_reducible assumption))
      have c4_0_8 := hb8.get (b := w7.heap.size) (o := 0) (v := .int .i64 (s)) (by first | with_reducible assumption | (simp [go_sem]; done) | (simp [go_sem, *]; done))
      have c4_1_8 := hb8.get (b := w7.heap.size) (o := 1) (v := .int .i64 (o)) (by first | with_reducible assumption | (simp [go_sem]; done) | (simp [go_sem, *]; done))
      have c4_2_8 := hb8.get (b := w7.heap.size) (o := 2) (v := .int .i64 (al)) (by first | with_reducible assumption | (simp [go_sem]; done) | (simp [go_sem, *]; done))
      have l4_8 := cell_lt c4_0_8
      have c1_0_8 := Q8.get c1_0_7
      have c1_1_8 := Q8.get c1_1_7
      have l1_8 := cell_lt c1_0_8
      have c2_0_8 := Q8.get c2_0_7
      have c2_1_8 := Q8.get c2_1_7
      have l2_8 := cell_lt c2_0_8
      have c3_0_8 := Q8.get c3_0_7
      have c3_1_8 := Q8.get c3_1_7
      have c3_2_8 := Q8.get c3_2_7
      have l3_8 := cell_lt c3_0_8
      have K8 := K7.trans Q8
      clear hb8 c1_0_7 c1_1_7 l1_7 c2_0_7 c2_1_7 l2_7 c3_0_7 c3_1_7 c3_2_7 l3_7 K7 Q8
      go_wp2_with fail
      go_ret
      exact ⟨rfl, by repeat (first | exact Kp.refl _ | with_reducible assumption | with_reducible refine Kp.set ?_ _ _ ?_ | (dsimp only; omega) | with_reducible refine Kp.drew ?_ | with_reducible refine Kp.drewN ?_ _ | with_reducible refine Kp.al ?_ _ | with_reducible refine Kp.trans ?_ (by with_reducible assumption))⟩
    · have c5 := fun w => moved_e4 st ln su lu (q - 4) w hc hd (by omega) (by omega) (by omega)
      have C5 := Lib.hid c5
      clear c5 hin2 hc hd
      go_enter Try.func8, Try.ntmps8
      go_wp2_with fail
      refine (known_walk _).mono ?_
      rintro e w1 ⟨rfl, hb1⟩
      have Q1 : Kp w w1 := by repeat (first | exact Kp.refl _ | with_reducible assumption | with_reducible refine Kp.set ?_ _ _ ?_ | (dsimp only; omega) | with_reducible refine Kp.drew ?_ | with_reducible refine Kp.drewN ?_ _ | with_reducible refine Kp.al ?_ _ | with_reducible refine Kp.trans ?_ (by with_reducible assumption))
      have K1 := Q1
      clear hb1 Q1
      go_wp2_with fail
      refine (CC.out _).mono ?_
      rintro e w2 ⟨rfl, hb2⟩
      have Q2 : Kp w1 w2 := by repeat (first | exact Kp.refl _ | with_reducible assumption | with_reducible refine Kp.set ?_ _ _ ?_ | (dsimp only; omega) | with_reducible refine Kp.drew ?_ | with_reducible refine Kp.drewN ?_ _ | with_reducible refine Kp.al ?_ _ | with_reducible refine Kp.trans ?_ (by with_reducible assumption))
      have K2 := K1.trans Q2
      clear hb2 K1 Q2
      go_wp2_with fail
      refine (CD.out _).mono ?_
      rintro e w3 ⟨rfl, hb3⟩
      have Q3 : Kp w2 w3 := by repeat (first | exact Kp.refl _ | with_reducible assumption | with_reducible refine Kp.set ?_ _ _ ?_ | (dsimp only; omega) | with_reducible refine Kp.drew ?_ | with_reducible refine Kp.drewN ?_ _ | with_reducible refine Kp.al ?_ _ | with_reducible refine Kp.trans ?_ (by with_reducible assumption))
      have K3 := K2.trans Q3
      clear hb3 K2 Q3
      go_wp2_with fail
      refine (CP.out _).mono ?_
      rintro e _ ⟨rfl, rfl⟩
      go_wp2_with fail
      refine (CQ.out _).mono ?_
      rintro e _ ⟨rfl, rfl⟩
      go_wp2_with fail
      refine (C1.out _).mono ?_
      rintro e w4 ⟨rfl, hb4⟩
      have Q4 : Kp w3 w4 := by repeat (first | exact Kp.refl _ | with_reducible assumption | with_reducible refine Kp.set ?_ _ _ ?_ | (dsimp only; omega) | with_reducible refine Kp.drew ?_ | with_reducible refine Kp.drewN ?_ _ | with_reducible refine Kp.al ?_ _ | with_reducible refine Kp.trans ?_ (by with_reducible assumption))
      have c1_0_4 := hb4.get (b := w3.heap.size) (o := 0) (v := .int .i64 (st)) (by first | with_reducible assumption | (simp [go_sem]; done) | (simp [go_sem, *]; done))
      have c1_1_4 := hb4.get (b := w3.heap.size) (o := 1) (v := .int .i64 (ln)) (by first | with_reducible assumption | (simp [go_sem]; done) | (simp [go_sem, *]; done))
      have l1_4 := cell_lt c1_0_4
      have c2_0_4 := hb4.get (b := w3.heap.size + 1) (o := 0) (v := .int .i64 (su)) (by first | with_reducible assumption | (simp [go_sem]; done) | (simp [go_sem, *]; done))
      have c2_1_4 := hb4.get (b := w3.heap.size + 1) (o := 1) (v := .int .i64 (lu)) (by first | with_reducible assumption | (simp [go_sem]; done) | (simp [go_sem, *]; done))
      have l2_4 := cell_lt c2_0_4
      have K4 := K3.trans Q4
      clear hb4 K3 Q4
      go_wp2_with fail
      refine (C2.out _).mono ?_
      rintro e w5 ⟨rfl, hb5⟩
      have Q5 : Kp w4 w5 := by repeat (first | exact Kp.refl _ | with_reducible assumption | with_reducible refine Kp.set ?_ _ _ ?_ | (dsimp only; omega) | with_reducible refine Kp.drew ?_ | with_reducible refine Kp.drewN ?_ _ | with_reducible refine Kp.al ?_ _ | with_reducible refine Kp.trans ?_ (by with_reducible assumption))
      have c1_0_5 := Q5.get c1_0_4
      have c1_1_5 := Q5.get c1_1_4
      have l1_5 := cell_lt c1_0_5
      have c2_0_5 := Q5.get c2_0_4
      have c2_1_5 := Q5.get c2_1_4
      have l2_5 := cell_lt c2_0_5
      have K5 := K4.trans Q5
      clear hb5 c1_0_4 c1_1_4 l1_4 c2_0_4 c2_1_4 l2_4 K4 Q5
      go_wp2_with fail
      refine (C3.out _).mono ?_
      rintro e w6 ⟨rfl, hb6⟩
      have Q6 : Kp w5 w6 := by repeat (first | exact Kp.refl _ | with_reducible assumption | with_reducible refine Kp.set ?_ _ _ ?_ | (dsimp only; omega) | with_reducible refine Kp.drew ?_ | with_reducible refine Kp.drewN ?_ _ | with_reducible refine Kp.al ?_ _ | with_reducible refine Kp.trans ?_ (by with_reducible assumption))
      have c1_0_6 := Q6.get c1_0_5
      have c1_1_6 := Q6.get c1_1_5
      have l1_6 := cell_lt c1_0_6
      have c2_0_6 := Q6.get c2_0_5
      have c2_1_6 := Q6.get c2_1_5
      have l2_6 := cell_lt c2_0_6
      have K6 := K5.trans Q6
      clear hb6 c1_0_5 c1_1_5 l1_5 c2_0_5 c2_1_5 l2_5 K5 Q6
      go_wp2_with fail
      refine (C4.out _).mono ?_
      rintro e w7 ⟨rfl, hb7⟩
      have Q7 : Kp w6 w7 := by repeat (first | exact Kp.refl _ | with_reducible assumption | with_reducible refine Kp.set ?_ _ _ ?_ | (dsimp only; omega) | with_reducible refine Kp.drew ?_ | with_reducible refine Kp.drewN ?_ _ | with_reducible refine Kp.al ?_ _ | with_reducible refine Kp.trans ?_ (by with_reducible assumption))
      have c3_0_7 := hb7.get (b := w6.heap.size) (o := 0) (v := .int .i64 (s)) (by first | with_reducible assumption | (simp [go_sem]; done) | (simp [go_sem, *]; done))
      have c3_1_7 := hb7.get (b := w6.heap.size) (o := 1) (v := .int .i64 (o)) (by first | with_reducible assumption | (simp [go_sem]; done) | (simp [go_sem, *]; done))
      have c3_2_7 := hb7.get (b := w6.heap.size) (o := 2) (v := .int .i64 (al)) (by first | with_reducible assumption | (simp [go_sem]; done) | (simp [go_sem, *]; done))
      have l3_7 := cell_lt c3_0_7
      have c1_0_7 := Q7.get c1_0_6
      have c1_1_7 := Q7.get c1_1_6
      have l1_7 := cell_lt c1_0_7
      have c2_0_7 := Q7.get c2_0_6
      have c2_1_7 := Q7.get c2_1_6
      have l2_7 := cell_lt c2_0_7
      have K7 := K6.trans Q7
      clear hb7 c1_0_6 c1_1_6 l1_6 c2_0_6 c2_1_6 l2_6 K6 Q7
      go_wp2_with fail
      refine (C5.out _).mono ?_
      rintro e w8 ⟨rfl, hb8⟩
      have Q8 : Kp w7 w8 := by repeat (first | exact Kp.refl _ | with_reducible assumption | with_reducible refine Kp.set ?_ _ _ ?_ | (dsimp only; omega) | with_reducible refine Kp.drew ?_ | with_reducible refine Kp.drewN ?_ _ | with_reducible refine Kp.al ?_ _ | with_reducible refine Kp.trans ?_ (by with_reducible assumption))
      have c4_0_8 := hb8.get (b := w7.heap.size) (o := 0) (v := .int .i64 (s)) (by first | with_reducible assumption | (simp [go_sem]; done) | (simp [go_sem, *]; done))
      have c4_1_8 := hb8.get (b := w7.heap.size) (o := 1) (v := .int .i64 (o)) (by first | with_reducible assumption | (simp [go_sem]; done) | (simp [go_sem, *]; done))
      have c4_2_8 := hb8.get (b := w7.heap.size) (o := 2) (v := .int .i64 (al)) (by first | with_reducible assumption | (simp [go_sem]; done) | (simp [go_sem, *]; done))
      have l4_8 := cell_lt c4_0_8
      have c1_0_8 := Q8.get c1_0_7
      have c1_1_8 := Q8.get c1_1_7
      have l1_8 := cell_lt c1_0_8
      have c2_0_8 := Q8.get c2_0_7
      have c2_1_8 := Q8.get c2_1_7
      have l2_8 := cell_lt c2_0_8
      have c3_0_8 := Q8.get c3_0_7
      have c3_1_8 := Q8.get c3_1_7
      have c3_2_8 := Q8.get c3_2_7
      have l3_8 := cell_lt c3_0_8
      have K8 := K7.trans Q8
      clear hb8 c1_0_7 c1_1_7 l1_7 c2_0_7 c2_1_7 l2_7 c3_0_7 c3_1_7 c3_2_7 l3_7 K7 Q8
      go_wp2_with fail
      go_ret
      exact ⟨rfl, by repeat (first | exact Kp.refl _ | with_reducible assumption | with_reducible refine Kp.set ?_ _ _ ?_ | (dsimp only; omega) | with_reducible refine Kp.drew ?_ | with_reducible refine Kp.drewN ?_ _ | with_reducible refine Kp.al ?_ _ | with_reducible refine Kp.trans ?_ (by with_reducible assumption))⟩
  · have c1 := fun w => moved_e4 st ln su lu (p - 4) w hc hd (by omega) (by omega) (by omega)
    have C1 := Lib.hid c1
    clear c1 hin hc hd
    go_enter Try.func8, Try.ntmps8
    go_wp2_with fail
    refine (known_walk _).mono ?_
    rintro e w1 ⟨rfl, hb1⟩
    have Q1 : Kp w w1 := by repeat (first | exact Kp.refl _ | with_reducible assumption | with_reducible refine Kp.set ?_ _ _ ?_ | (dsimp only; omega) | with_reducible refine Kp.drew ?_ | with_reducible refine Kp.drewN ?_ _ | with_reducible refine Kp.al ?_ _ | with_reducible refine Kp.trans ?_ (by with_reducible assumption))
    have K1 := Q1
    clear hb1 Q1
    go_wp2_with fail
    refine (CC.out _).mono ?_
    rintro e w2 ⟨rfl, hb2⟩
    have Q2 : Kp w1 w2 := by repeat (first | exact Kp.refl _ | with_reducible assumption | with_reducible refine Kp.set ?_ _ _ ?_ | (dsimp only; omega) | with_reducible refine Kp.drew ?_ | with_reducible refine Kp.drewN ?_ _ | with_reducible refine Kp.al ?_ _ | with_reducible refine Kp.trans ?_ (by with_reducible assumption))
    have K2 := K1.trans Q2
    clear hb2 K1 Q2
    go_wp2_with fail
    refine (CD.out _).mono ?_
    rintro e w3 ⟨rfl, hb3⟩
    have Q3 : Kp w2 w3 := by repeat (first | exact Kp.refl _ | with_reducible assumption | with_reducible refine Kp.set ?_ _ _ ?_ | (dsimp only; omega) | with_reducible refine Kp.drew ?_ | with_reducible refine Kp.drewN ?_ _ | with_reducible refine Kp.al ?_ _ | with_reducible refine Kp.trans ?_ (by with_reducible assumption))
    have K3 := K2.trans Q3
    clear hb3 K2 Q3
    go_wp2_with fail
    refine (CP.out _).mono ?_
    rintro e _ ⟨rfl, rfl⟩
    go_wp2_with fail
    refine (CQ.out _).mono ?_
    rintro e _ ⟨rfl, rfl⟩
    go_wp2_with fail
    refine (C1.out _).mono ?_
    rintro e w4 ⟨rfl, hb4⟩
    have Q4 : Kp w3 w4 := by repeat (first | exact Kp.refl _ | with_reducible assumption | with_reducible refine Kp.set ?_ _ _ ?_ | (dsimp only; omega) | with_reducible refine Kp.drew ?_ | with_reducible refine Kp.drewN ?_ _ | with_reducible refine Kp.al ?_ _ | with_reducible refine Kp.trans ?_ (by with_reducible assumption))
    have c1_0_4 := hb4.get (b := w3.heap.size) (o := 0) (v := .int .i64 (st)) (by first | with_reducible assumption | (simp [go_sem]; done) | (simp [go_sem, *]; done))
    have c1_1_4 := hb4.get (b := w3.heap.size) (o := 1) (v := .int .i64 (ln)) (by first | with_reducible assumption | (simp [go_sem]; done) | (simp [go_sem, *]; done))
    have l1_4 := cell_lt c1_0_4
    have c2_0_4 := hb4.get (b := w3.heap.size + 1) (o := 0) (v := .int .i64 (su)) (by first | with_reducible assumption | (simp [go_sem]; done) | (simp [go_sem, *]; done))
    have c2_1_4 := hb4.get (b := w3.heap.size + 1) (o := 1) (v := .int .i64 (lu)) (by first | with_reducible assumption | (simp [go_sem]; done) | (simp [go_sem, *]; done))
    have l2_4 := cell_lt c2_0_4
    have K4 := K3.trans Q4
    clear hb4 K3 Q4
    go_wp2_with fail
    go_ret
    exact ⟨rfl, by repeat (first | exact Kp.refl _ | with_reducible assumption | with_reducible refine Kp.set ?_ _ _ ?_ | (dsimp only; omega) | with_reducible refine Kp.drew ?_ | with_reducible refine Kp.drewN ?_ _ | with_reducible refine Kp.al ?_ _ | with_reducible refine Kp.trans ?_ (by with_reducible assumption))⟩
end Go.Proofs.Ytgajdmefflndmaa
