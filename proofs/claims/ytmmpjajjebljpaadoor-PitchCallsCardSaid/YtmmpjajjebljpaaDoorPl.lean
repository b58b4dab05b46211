/- The walk of PitchMirrors. -/
import Derived.Test.YtmmpjajjebljpaaDoorPk
namespace Go.Proofs.YtmmpjajjebljpaaDoor
open Go.RowKit

theorem mirror_to (s o a s' o' a' s1 o1 : Int) (w : World) (h1 : 0 ≤ s) (h2 : s ≤ 6) (h3 : 0 ≤ o) (h4 : o ≤ 8) (h5 : -1 ≤ a) (h6 : a ≤ 1)
    (k1 : 0 ≤ s') (k2 : s' ≤ 6) (k3 : 0 ≤ o') (k4 : o' ≤ 8) (k5 : -1 ≤ a') (k6 : a' ≤ 1) (j1 : 0 ≤ s1) (j2 : s1 ≤ 6) (j3 : 0 ≤ o1) (j4 : o1 ≤ 8) (e : 7 * o1 + s1 = 2 * (7 * o' + s') - (7 * o + s)) :
    Calls Tryd.prog 19 #[.agg #[.int .i64 s, .int .i64 o, .int .i64 a], .agg #[.int .i64 s', .int .i64 o', .int .i64 a']] w fun e w' => e = .returned (.tuple #[.agg #[.int .i64 s1, .int .i64 o1, .int .i64 (-a)], .int .i64 0]) ∧ Kp w w' := by
  refine mirror_gen s o a s' o' a' s1 o1 (-a) 0 w h1 h2 h3 h4 h5 h6 k1 k2 k3 k4 k5 k6 fun w => ?_
  have H := tpitch_ok (2 * (7 * o' + s') - (7 * o + s)) (-a) w (by omega) (by omega) (by omega) (by omega)
  have e1 : (2 * (7 * o' + s') - (7 * o + s)) % 7 = s1 := by omega
  have e2 : (2 * (7 * o' + s') - (7 * o + s)) / 7 = o1 := by omega
  rwa [e1, e2] at H
theorem mirror_out (s o a s' o' a' : Int) (w : World) (h1 : 0 ≤ s) (h2 : s ≤ 6) (h3 : 0 ≤ o) (h4 : o ≤ 8) (h5 : -1 ≤ a) (h6 : a ≤ 1)
    (k1 : 0 ≤ s') (k2 : s' ≤ 6) (k3 : 0 ≤ o') (k4 : o' ≤ 8) (k5 : -1 ≤ a') (k6 : a' ≤ 1) (h : ¬ (0 ≤ 2 * (7 * o' + s') - (7 * o + s) ∧ 2 * (7 * o' + s') - (7 * o + s) ≤ 62)) :
    Calls Tryd.prog 19 #[.agg #[.int .i64 s, .int .i64 o, .int .i64 a], .agg #[.int .i64 s', .int .i64 o', .int .i64 a']] w fun e w' => e = .returned (.tuple #[.agg #[.int .i64 0, .int .i64 0, .int .i64 0], .int .i64 2]) ∧ Kp w w' :=
  mirror_gen s o a s' o' a' 0 0 0 2 w h1 h2 h3 h4 h5 h6 k1 k2 k3 k4 k5 k6 fun w => tpitch_no _ _ w (by omega)
/-- Mirror at valid pitches, whatever comes of it: the numbers x0, x1, x2 and the error er. -/
def Mir (s o a s' o' a' x0 x1 x2 er : Int) : Prop := ∀ w : World, Calls Tryd.prog 19 #[.agg #[.int .i64 s, .int .i64 o, .int .i64 a], .agg #[.int .i64 s', .int .i64 o', .int .i64 a']] w fun e w' => e = .returned (.tuple #[.agg #[.int .i64 x0, .int .i64 x1, .int .i64 x2], .int .i64 er]) ∧ Kp w w'

theorem mirrors_out (n m k s o a s' o' a' s'' o'' a'' x0 x1 x2 er y0 y1 y2 fr : Int) (w : World) (ht0 : Tab w)
    (ca : ∀ w : World, Calls Tryd.prog 15 #[.int .i64 n] w fun e w' => e = .returned (.agg #[.int .i64 s, .int .i64 o, .int .i64 a]) ∧ Kp w w')
    (cb : ∀ w : World, Calls Tryd.prog 15 #[.int .i64 m] w fun e w' => e = .returned (.agg #[.int .i64 s', .int .i64 o', .int .i64 a']) ∧ Kp w w')
    (cc : ∀ w : World, Calls Tryd.prog 15 #[.int .i64 k] w fun e w' => e = .returned (.agg #[.int .i64 s'', .int .i64 o'', .int .i64 a'']) ∧ Kp w w')
    (m1 : Mir s o a s'' o'' a'' x0 x1 x2 er) (m2 : Mir s' o' a' s'' o'' a'' y0 y1 y2 fr) (h : (er == 2) = true ∨ ((er == 2) = false ∧ (fr == 2) = true)) :
    Calls Tryd.prog 6 #[.int .i64 n, .int .i64 m, .int .i64 k] w fun e w' => e = .returned (.bool true) ∧ Kp w w' := by
  have CA := Lib.hid ca; have CB := Lib.hid cb; have CC := Lib.hid cc; have HT := Lib.hid ht0; have M1 := Lib.hid m1; have M2 := Lib.hid m2
  clear ca cb cc ht0 m1 m2
  rcases h with h | ⟨h, h'⟩
  all_goals
    go_enter Tryd.func6, Tryd.ntmps6
    go_wp2_with fail
    refine (CA.out _).mono ?_
    rintro e w1 ⟨rfl, hb1⟩
    have Q1 : Kp w w1 := by repeat (first | exact Kp.refl _ | with_reducible assumption | with_reducible refine Kp.set ?_ _ _ ?_ | (dsimp only; omega) | with_reducible refine Kp.drew ?_ | with_reducible refine Kp.drewN ?_ _ | with_reducible refine Kp.al ?_ _ | with_reducible refine Kp.trans ?_ (by with_reducible assumption))
    have K1 := Q1
    clear hb1 Q1
    go_wp2_with fail
    refine (CB.out _).mono ?_
    rintro e w2 ⟨rfl, hb2⟩
    have Q2 : Kp w1 w2 := by repeat (first | exact Kp.refl _ | with_reducible assumption | with_reducible refine Kp.set ?_ _ _ ?_ | (dsimp only; omega) | with_reducible refine Kp.drew ?_ | with_reducible refine Kp.drewN ?_ _ | with_reducible refine Kp.al ?_ _ | with_reducible refine Kp.trans ?_ (by with_reducible assumption))
    have K2 := K1.trans Q2
    clear hb2 K1 Q2
    go_wp2_with fail
    refine (CC.out _).mono ?_
    rintro e w3 ⟨rfl, hb3⟩
    have Q3 : Kp w2 w3 := by repeat (first | exact Kp.refl _ | with_reducible assumption | with_reducible refine Kp.set ?_ _ _ ?_ | (dsimp only; omega) | with_reducible refine Kp.drew ?_ | with_reducible refine Kp.drewN ?_ _ | with_reducible refine Kp.al ?_ _ | with_reducible refine Kp.trans ?_ (by with_reducible assumption))
    have K3 := K2.trans Q3
    clear hb3 K2 Q3
    go_wp2_with fail
    refine (M1.out _).mono ?_
    rintro e w4 ⟨rfl, hb4⟩
    have Q4 : Kp w3 w4 := by repeat (first | exact Kp.refl _ | with_reducible assumption | with_reducible refine Kp.set ?_ _ _ ?_ | (dsimp only; omega) | with_reducible refine Kp.drew ?_ | with_reducible refine Kp.drewN ?_ _ | with_reducible refine Kp.al ?_ _ | with_reducible refine Kp.trans ?_ (by with_reducible assumption))
    have c1_0_4 := hb4.get (b := w3.heap.size) (o := 0) (v := .int .i64 (s)) (by first | with_reducible assumption | (simp [go_sem]; done) | (simp [go_sem, *]; done))
    have c1_1_4 := hb4.get (b := w3.heap.size) (o := 1) (v := .int .i64 (o)) (by first | with_reducible assumption | (simp [go_sem]; done) | (simp [go_sem, *]; done))
    have c1_2_4 := hb4.get (b := w3.heap.size) (o := 2) (v := .int .i64 (a)) (by first | with_reducible assumption | (simp [go_sem]; done) | (simp [go_sem, *]; done))
    have l1_4 := cell_lt c1_0_4
    have c2_0_4 := hb4.get (b := w3.heap.size + 1) (o := 0) (v := .int .i64 (s')) (by first | with_reducible assumption | (simp [go_sem]; done) | (simp [go_sem, *]; done))
    have c2_1_4 := hb4.get (b := w3.heap.size + 1) (o := 1) (v := .int .i64 (o')) (by first | with_reducible assumption | (simp [go_sem]; done) | (simp [go_sem, *]; done))
    have c2_2_4 := hb4.get (b := w3.heap.size + 1) (o := 2) (v := .int .i64 (a')) (by first | with_reducible assumption | (simp [go_sem]; done) | (simp [go_sem, *]; done))
    have l2_4 := cell_lt c2_0_4
    have c3_0_4 := hb4.get (b := w3.heap.size + 1 + 1) (o := 0) (v := .int .i64 (s'')) (by first | with_reducible assumption | (simp [go_sem]; done) | (simp [go_sem, *]; done))
    have c3_1_4 := hb4.get (b := w3.heap.size + 1 + 1) (o := 1) (v := .int .i64 (o'')) (by first | with_reducible assumption | (simp [go_sem]; done) | (simp [go_sem, *]; done))
    have c3_2_4 := hb4.get (b := w3.heap.size + 1 + 1) (o := 2) (v := .int .i64 (a'')) (by first | with_reducible assumption | (simp [go_sem]; done) | (simp [go_sem, *]; done))
    have l3_4 := cell_lt c3_0_4
    have K4 := K3.trans Q4
    clear hb4 K3 Q4
    go_wp2_with fail
    refine (M2.out _).mono ?_
    rintro e w5 ⟨rfl, hb5⟩
    have Q5 : Kp w4 w5 := by repeat (first | exact Kp.refl _ | with_reducible assumption | with_reducible refine Kp.set ?_ _ _ ?_ | (dsimp only; omega) | with_reducible refine Kp.drew ?_ | with_reducible refine Kp.drewN ?_ _ | with_reducible refine Kp.al ?_ _ | with_reducible refine Kp.trans ?_ (by with_reducible assumption))
    have c1_0_5 := Q5.get c1_0_4
    have c1_1_5 := Q5.get c1_1_4
    have c1_2_5 := Q5.get c1_2_4
    have l1_5 := cell_lt c1_0_5
    have c2_0_5 := Q5.get c2_0_4
    have c2_1_5 := Q5.get c2_1_4
    have c2_2_5 := Q5.get c2_2_4
    have l2_5 := cell_lt c2_0_5
    have c3_0_5 := Q5.get c3_0_4
    have c3_1_5 := Q5.get c3_1_4
    have c3_2_5 := Q5.get c3_2_4
    have l3_5 := cell_lt c3_0_5
    have K5 := K4.trans Q5
    clear hb5 c1_0_4 c1_1_4 c1_2_4 l1_4 c2_0_4 c2_1_4 c2_2_4 l2_4 c3_0_4 c3_1_4 c3_2_4 l3_4 K4 Q5
    go_wp2_with fail
    refine (awake_ok _ (HT.out.below (by repeat (first | exact Kp.refl _ | with_reducible assumption | with_reducible refine Kp.set ?_ _ _ ?_ | (dsimp only; omega) | with_reducible refine Kp.drew ?_ | with_reducible refine Kp.drewN ?_ _ | with_reducible refine Kp.al ?_ _ | with_reducible refine Kp.trans ?_ (by with_reducible assumption))))).mono ?_
    rintro e w6 ⟨rfl, hb6⟩
    have Q6 : Kp w5 w6 := by repeat (first | exact Kp.refl _ | with_reducible assumption | with_reducible refine Kp.set ?_ _ _ ?_ | (dsimp only; omega) | with_reducible refine Kp.drew ?_ | with_reducible refine Kp.drewN ?_ _ | with_reducible refine Kp.al ?_ _ | with_reducible refine Kp.trans ?_ (by with_reducible assumption))
    have c1_0_6 := Q6.get c1_0_5
    have c1_1_6 := Q6.get c1_1_5
    have c1_2_6 := Q6.get c1_2_5
    have l1_6 := cell_lt c1_0_6
    have c2_0_6 := Q6.get c2_0_5
    have c2_1_6 := Q6.get c2_1_5
    have c2_2_6 := Q6.get c2_2_5
    have l2_6 := cell_lt c2_0_6
    have c3_0_6 := Q6.get c3_0_5
    have c3_1_6 := Q6.get c3_1_5
    have c3_2_6 := Q6.get c3_2_5
    have l3_6 := cell_lt c3_0_6
    have K6 := K5.trans Q6
    clear hb6 c1_0_5 c1_1_5 c1_2_5 l1_5 c2_0_5 c2_1_5 c2_2_5 l2_5 c3_0_5 c3_1_5 c3_2_5 l3_5 K5 Q6
    go_wp2_with fail
    go_ret
    exact ⟨rfl, by repeat (first | exact Kp.refl _ | with_reducible assumption | with_reducible refine Kp.set ?_ _ _ ?_ | (dsimp only; omega) | with_reducible refine Kp.drew ?_ | with_reducible refine Kp.drewN ?_ _ | with_reducible refine Kp.al ?_ _ | with_reducible refine Kp.trans ?_ (by with_reducible assumption))⟩

theorem mirrors_in (n m k s o a s' o' a' s'' o'' a'' s1 o1 s2 o2 : Int) (w : World) (ht0 : Tab w)
    (ca : ∀ w : World, Calls Tryd.prog 15 #[.int .i64 n] w fun e w' => e = .returned (.agg #[.int .i64 s, .int .i64 o, .int .i64 a]) ∧ Kp w w')
    (cb : ∀ w : World, Calls Tryd.prog 15 #[.int .i64 m] w fun e w' => e = .returned (.agg #[.int .i64 s', .int .i64 o', .int .i64 a']) ∧ Kp w w')
    (cc : ∀ w : World, Calls Tryd.prog 15 #[.int .i64 k] w fun e w' => e = .returned (.agg #[.int .i64 s'', .int .i64 o'', .int .i64 a'']) ∧ Kp w w')
    (a1 : 0 ≤ s) (a2 : s ≤ 6) (a3 : 0 ≤ o) (a4 : o ≤ 8) (a5 : -1 ≤ a) (a6 : a ≤ 1)
    (b1 : 0 ≤ s') (b2 : s' ≤ 6) (b3 : 0 ≤ o') (b4 : o' ≤ 8) (b5 : -1 ≤ a') (b6 : a' ≤ 1)
    (c1 : 0 ≤ s'') (c2 : s'' ≤ 6) (c3 : 0 ≤ o'') (c4 : o'' ≤ 8) (c5 : -1 ≤ a'') (c6 : a'' ≤ 1)
    (d1 : 0 ≤ s1) (d2 : s1 ≤ 6) (d3 : 0 ≤ o1) (d4 : o1 ≤ 8) (e1 : 7 * o1 + s1 = 2 * (7 * o'' + s'') - (7 * o + s))
    (f1 : 0 ≤ s2) (f2 : s2 ≤ 6) (f3 : 0 ≤ o2) (f4 : o2 ≤ 8) (e2 : 7 * o2 + s2 = 2 * (7 * o'' + s'') - (7 * o' + s')) :
    Calls Tryd.prog 6 #[.int .i64 n, .int .i64 m, .int .i64 k] w fun e w' => e = .returned (.bool true) ∧ Kp w w' := by
  have m1 : Mir s o a s'' o'' a'' s1 o1 (-a) 0 := fun w => mirror_to _ _ _ _ _ _ _ _ w a1 a2 a3 a4 a5 a6 c1 c2 c3 c4 c5 c6 d1 d2 d3 d4 e1
  have m2 : Mir s' o' a' s'' o'' a'' s2 o2 (-a') 0 := fun w => mirror_to _ _ _ _ _ _ _ _ w b1 b2 b3 b4 b5 b6 c1 c2 c3 c4 c5 c6 f1 f2 f3 f4 e2
  have m3 : Mir s1 o1 (-a) s'' o'' a'' s o a 0 := fun w => by
    have := mirror_to s1 o1 (-a) s'' o'' a'' s o w d1 d2 d3 d4 (by omega) (by omega) c1 c2 c3 c4 c5 c6 a1 a2 a3 a4 (by omega)
    rwa [Int.neg_neg] at this
  obtain ⟨x, ex⟩ : ∃ x, x = 7 * o' + s' - (7 * o + s) := ⟨_, rfl⟩
  obtain ⟨y, ey⟩ : ∃ y, y = ht s' o' a' - ht s o a := ⟨_, rfl⟩
  obtain ⟨z, ez⟩ : ∃ z, z = ht s2 o2 (-a') - ht s1 o1 (-a) := ⟨_, rfl⟩
  have b1' := fun (w : World) (T : Tab w) => between_ok s o a s' o' a' w T a1 a2 a3 a4 a5 a6 b1 b2 b3 b4 b5 b6
  have b2' := fun (w : World) (T : Tab w) => between_ok s1 o1 (-a) s2 o2 (-a') w T d1 d2 d3 d4 (by omega) (by omega) f1 f2 f3 f4 (by omega) (by omega)
  have ex2 : 7 * o2 + s2 - (7 * o1 + s1) = -x := by omega
  rw [← ex, ← ey] at b1'
  rw [ex2, ← ez] at b2'
  have u1 : -100 ≤ x := by omega
  have u2 : x ≤ 100 := by omega
  clear ex ey ez ex2 e1 e2
  have CA := Lib.hid ca; have CB := Lib.hid cb; have CC := Lib.hid cc; have HT := Lib.hid ht0; have M1 := Lib.hid m1; have M2 := Lib.hid m2; have M3 := Lib.hid m3; have B1 := Lib.hid b1'; have B2 := Lib.hid b2'
  clear ca cb cc ht0 m1 m2 m3 b1' b2'
  go_enter Tryd.func6, Tryd.ntmps6
  go_wp2_with fail
  refine (CA.out _).mono ?_
  rintro e w1 ⟨rfl, hb1⟩
  have Q1 : Kp w w1 := by repeat (first | exact Kp.refl _ | with_reducible assumption | with_reducible refine Kp.set ?_ _ _ ?_ | (dsimp only; omega) | with_reducible refine Kp.drew ?_ | with_reducible refine Kp.drewN ?_ _ | with_reducible refine Kp.al ?_ _ | with_reducible refine Kp.trans ?_ (by with_reducible assumption))
  have K1 := Q1
  clear hb1 Q1
  go_wp2_with fail
  refine (CB.out _).mono ?_
  rintro e w2 ⟨rfl, hb2⟩
  have Q2 : Kp w1 w2 := by repeat (first | exact Kp.refl _ | with_reducible assumption | with_reducible refine Kp.set ?_ _ _ ?_ | (dsimp only; omega) | with_reducible refine Kp.drew ?_ | with_reducible refine Kp.drewN ?_ _ | with_reducible refine Kp.al ?_ _ | with_reducible refine Kp.trans ?_ (by with_reducible assumption))
  have K2 := K1.trans Q2
  clear hb2 K1 Q2
  go_wp2_with fail
  refine (CC.out _).mono ?_
  rintro e w3 ⟨rfl, hb3⟩
  have Q3 : Kp w2 w3 := by repeat (first | exact Kp.refl _ | with_reducible assumption | with_reducible refine Kp.set ?_ _ _ ?_ | (dsimp only; omega) | with_reducible refine Kp.drew ?_ | with_reducible refine Kp.drewN ?_ _ | with_reducible refine Kp.al ?_ _ | with_reducible refine Kp.trans ?_ (by with_reducible assumption))
  have K3 := K2.trans Q3
  clear hb3 K2 Q3
  go_wp2_with fail
  refine (M1.out _).mono ?_
  rintro e w4 ⟨rfl, hb4⟩
  have Q4 : Kp w3 w4 := by repeat (first | exact Kp.refl _ | with_reducible assumption | with_reducible refine Kp.set ?_ _ _ ?_ | (dsimp only; omega) | with_reducible refine Kp.drew ?_ | with_reducible refine Kp.drewN ?_ _ | with_reducible refine Kp.al ?_ _ | with_reducible refine Kp.trans ?_ (by with_reducible assumption))
  have c1_0_4 := hb4.get (b := w3.heap.size) (o := 0) (v := .int .i64 (s)) (by first | with_reducible assumption | (simp [go_sem]; done) | (simp [go_sem, *]; done))
  have c1_1_4 := hb4.get (b := w3.heap.size) (o := 1) (v := .int .i64 (o)) (by first | with_reducible assumption | (simp [go_sem]; done) | (simp [go_sem, *]; done))
  have c1_2_4 := hb4.get (b := w3.heap.size) (o := 2) (v := .int .i64 (a)) (by first | with_reducible assumption | (simp [go_sem]; done) | (simp [go_sem, *]; done))
  have l1_4 := cell_lt c1_0_4
  have c2_0_4 := hb4.get (b := w3.heap.size + 1) (o := 0) (v := .int .i64 (s')) (by first | with_reducible assumption | (simp [go_sem]; done) | (simp [go_sem, *]; done))
  have c2_1_4 := hb4.get (b := w3.heap.size + 1) (o := 1) (v := .int .i64 (o')) (by first | with_reducible assumption | (simp [go_sem]; done) | (simp [go_sem, *]; done))
  have c2_2_4 := hb4.get (b := w3.heap.size + 1) (o := 2) (v := .int .i64 (a')) (by first | with_reducible assumption | (simp [go_sem]; done) | (simp [go_sem, *]; done))
  have l2_4 := cell_lt c2_0_4
  have c3_0_4 := hb4.get (b := w3.heap.size + 1 + 1) (o := 0) (v := .int .i64 (s'')) (by first | with_reducible assumption | (simp [go_sem]; done) | (simp [go_sem, *]; done))
  have c3_1_4 := hb4.get (b := w3.heap.size + 1 + 1) (o := 1) (v := .int .i64 (o'')) (by first | with_reducible assumption | (simp [go_sem]; done) | (simp [go_sem, *]; done))
  have c3_2_4 := hb4.get (b := w3.heap.size + 1 + 1) (o := 2) (v := .int .i64 (a'')) (by first | with_reducible assumption | (simp [go_sem]; done) | (simp [go_sem, *]; done))
  have l3_4 := cell_lt c3_0_4
  have K4 := K3.trans Q4
  clear hb4 K3 Q4
  go_wp2_with fail
  refine (M2.out _).mono ?_
  rintro e w5 ⟨rfl, hb5⟩
  have Q5 : Kp w4 w5 := by repeat (first | exact Kp.refl _ | with_reducible assumption | with_reducible refine Kp.set ?_ _ _ ?_ | (dsimp only; omega) | with_reducible refine Kp.drew ?_ | with_reducible refine Kp.drewN ?_ _ | with_reducible refine Kp.al ?_ _ | with_reducible refine Kp.trans ?_ (by with_reducible assumption))
  have c4_0_5 := hb5.get (b := w4.heap.size) (o := 0) (v := .int .i64 (s1)) (by first | with_reducible assumption | (simp [go_sem]; done) | (simp [go_sem, *]; done))
  have c4_1_5 := hb5.get (b := w4.heap.size) (o := 1) (v := .int .i64 (o1)) (by first | with_reducible assumption | (simp [go_sem]; done) | (simp [go_sem, *]; done))
  have c4_2_5 := hb5.get (b := w4.heap.size) (o := 2) (v := .int .i64 (-a)) (by first | with_reducible assumption | (simp [go_sem]; done) | (simp [go_sem, *]; done))
  have l4_5 := cell_lt c4_0_5
  have c1_0_5 := Q5.get c1_0_4
  have c1_1_5 := Q5.get c1_1_4
  have c1_2_5 := Q5.get c1_2_4
  have l1_5 := cell_lt c1_0_5
  have c2_0_5 := Q5.get c2_0_4
  have c2_1_5 := Q5.get c2_1_4
  have c2_2_5 := Q5.get c2_2_4
  have l2_5 := cell_lt c2_0_5
  have c3_0_5 := Q5.get c3_0_4
  have c3_1_5 := Q5.get c3_1_4
  have c3_2_5 := Q5.get c3_2_4
  have l3_5 := cell_lt c3_0_5
  have K5 := K4.trans Q5
  clear hb5 c1_0_4 c1_1_4 c1_2_4 l1_4 c2_0_4 c2_1_4 c2_2_4 l2_4 c3_0_4 c3_1_4 c3_2_4 l3_4 K4 Q5
  go_wp2_with fail
  refine (M3.out _).mono ?_
  rintro e w6 ⟨rfl, hb6⟩
  have Q6 : Kp w5 w6 := by repeat (first | exact Kp.refl _ | with_reducible assumption | with_reducible refine Kp.set ?_ _ _ ?_ | (dsimp only; omega) | with_reducible refine Kp.drew ?_ | with_reducible refine Kp.drewN ?_ _ | with_reducible refine Kp.al ?_ _ | with_reducible refine Kp.trans ?_ (by with_reducible assumption))
  have c5_0_6 := hb6.get (b := w5.heap.size) (o := 0) (v := .int .i64 (s2)) (by first | with_reducible assumption | (simp [go_sem]; done) | (simp [go_sem, *]; done))
  have c5_1_6 := hb6.get (b := w5.heap.size) (o := 1) (v := .int .i64 (o2)) (by first | with_reducible assumption | (simp [go_sem]; done) | (simp [go_sem, *]; done))
  have c5_2_6 := hb6.get (b := w5.heap.size) (o := 2) (v := .int .i64 (-a')) (by first | with_reducible assumption | (simp [go_sem]; done) | (simp [go_sem, *]; done))
  have l5_6 := cell_lt c5_0_6
  have c1_0_6 := Q6.get c1_0_5
  have c1_1_6 := Q6.get c1_1_5
  have c1_2_6 := Q6.get c1_2_5
  have l1_6 := cell_lt c1_0_6
  have c2_0_6 := Q6.get c2_0_5
  have c2_1_6 := Q6.get c2_1_5
  have c2_2_6 := Q6.get c2_2_5
  have l2_6 := cell_lt c2_0_6
  have c3_0_6 := Q6.get c3_0_5
  have c3_1_6 := Q6.get c3_1_5
  have c3_2_6 := Q6.get c3_2_5
  have l3_6 := cell_lt c3_0_6
  have c4_0_6 := Q6.get c4_0_5
  have c4_1_6 := Q6.get c4_1_5
  have c4_2_6 := Q6.get c4_2_5
  have l4_6 := cell_lt c4_0_6
  have K6 := K5.trans Q6
  clear hb6 c1_0_5 c1_1_5 c1_2_5 l1_5 c2_0_5 c2_1_5 c2_2_5 l2_5 c3_0_5 c3_1_5 c3_2_5 l3_5 c4_0_5 c4_1_5 c4_2_5 l4_5 K5 Q6
  go_wp2_with fail
  refine (B1.out _ (HT.out.below (by repeat (first | exact Kp.refl _ | with_reducible assumption | with_reducible refine Kp.set ?_ _ _ ?_ | (dsimp only; omega) | with_reducible refine Kp.drew ?_ | with_reducible refine Kp.drewN ?_ _ | with_reducible refine Kp.al ?_ _ | with_reducible refine Kp.trans ?_ (by with_reducible assumption))))).mono ?_
  rintro e w7 ⟨rfl, hb7⟩
  have Q7 : Kp w6 w7 := by repeat (first | exact Kp.refl _ | with_reducible assumption | with_reducible refine Kp.set ?_ _ _ ?_ | (dsimp only; omega) | with_reducible refine Kp.drew ?_ | with_reducible refine Kp.drewN ?_ _ | with_reducible refine Kp.al ?_ _ | with_reducible refine Kp.trans ?_ (by with_reducible assumption))
  have c6_0_7 := hb7.get (b := w6.heap.size) (o := 0) (v := .int .i64 (s)) (by first | with_reducible assumption | (simp [go_sem]; done) | (simp [go_sem, *]; done))
  have c6_1_7 := hb7.get (b := w6.heap.size) (o := 1) (v := .int .i64 (o)) (by first | with_reducible assumption | (simp [go_sem]; done) | (simp [go_sem, *]; done))
  have c6_2_7 := hb7.get (b := w6.heap.size) (o := 2) (v := .int .i64 (a)) (by first | with_reducible assumption | (simp [go_sem]; done) | (simp [go_sem, *]; done))
  have l6_7 := cell_lt c6_0_7
  have c1_0_7 := Q7.get c1_0_6
  have c1_1_7 := Q7.get c1_1_6
  have c1_2_7 := Q7.get c1_2_6
  have l1_7 := cell_lt c1_0_7
  have c2_0_7 := Q7.get c2_0_6
  have c2_1_7 := Q7.get c2_1_6
  have c2_2_7 := Q7.get c2_2_6
  have l2_7 := cell_lt c2_0_7
  have c3_0_7 := Q7.get c3_0_6
  have c3_1_7 := Q7.get c3_1_6
  have c3_2_7 := Q7.get c3_2_6
  have l3_7 := cell_lt c3_0_7
  have c4_0_7 := Q7.get c4_0_6
  have c4_1_7 := Q7.get c4_1_6
  have c4_2_7 := Q7.get c4_2_6
  have l4_7 := cell_lt c4_0_7
  have c5_0_7 := Q7.get c5_0_6
  have c5_1_7 := Q7.get c5_1_6
  have c5_2_7 := Q7.get c5_2_6
  have l5_7 := cell_lt c5_0_7
  have K7 := K6.trans Q7
  clear hb7 c1_0_6 c1_1_6 c1_2_6 l1_6 c2_0_6 c2_1_6 c2_2_6 l2_6 c3_0_6 c3_1_6 c3_2_6 l3_6 c4_0_6 c4_1_6 c4_2_6 l4_6 c5_0_6 c5_1_6 c5_2_6 l5_6 K6 Q7
  go_wp2_with fail
  refine (B2.out _ (HT.out.below (by repeat (first | exact Kp.refl _ | with_reducible assumption | with_reducible refine Kp.set ?_ _ _ ?_ | (dsimp only; omega) | with_reducible refine Kp.drew ?_ | with_reducible refine Kp.drewN ?_ _ | with_reducible refine Kp.al ?_ _ | with_reducible refine Kp.trans ?_ (by with_reducible assumption))))).mono ?_
  rintro e w8 ⟨rfl, hb8⟩
  have Q8 : Kp w7 w8 := by repeat (first | exact Kp.refl _ | with_reducible assumption | with_reducible refine Kp.set ?_ _ _ ?_ | (dsimp only; omega) | with_reducible refine Kp.drew ?_ | with_reducible refine Kp.drewN ?_ _ | with_reducible refine Kp.al ?_ _ | with_reducible refine Kp.trans ?_ (by with_reducible assumption))
  have c7_0_8 := hb8.get (b := w7.heap.size) (o := 0) (v := .int .i64 (x)) (by first | with_reducible assumption | (simp [go_sem]; done) | (simp [go_sem, *]; done))
  have c7_1_8 := hb8.get (b := w7.heap.size) (o := 1) (v := .int .i64 (y)) (by first | with_reducible assumption | (simp [go_sem]; done) | (simp [go_sem, *]; done))
  have l7_8 := cell_lt c7_0_8
  have c1_0_8 := Q8.get c1_0_7
  have c1_1_8 := Q8.get c1_1_7
  have c1_2_8 := Q8.get c1_2_7
  have l1_8 := cell_lt c1_0_8
  have c4_0_8 := Q8.get c4_0_7
  have c4_1_8 := Q8.get c4_1_7
  have c4_2_8 := Q8.get c4_2_7
  have l4_8 := cell_lt c4_0_8
  have c5_0_8 := Q8.get c5_0_7
  have c5_1_8 := Q8.get c5_1_7
  have c5_2_8 := Q8.get c5_2_7
  have l5_8 := cell_lt c5_0_8
  have c6_0_8 := Q8.get c6_0_7
  have c6_1_8 := Q8.get c6_1_7
  have c6_2_8 := Q8.get c6_2_7
  have l6_8 := cell_lt c6_0_8
  have K8 := K7.trans Q8
  clear hb8 c1_0_7 c1_1_7 c1_2_7 l1_7 c4_0_7 c4_1_7 c4_2_7 l4_7 c5_0_7 c5_1_7 c5_2_7 l5_7 c6_0_7 c6_1_7 c6_2_7 l6_7 K7 Q8
  go_wp2_with fail
  refine (awake_ok _ (HT.out.below (by repeat (first | exact Kp.refl _ | with_reducible assumption | with_reducible refine Kp.set ?_ _ _ ?_ | (dsimp only; omega) | with_reducible refine Kp.drew ?_ | with_reducible refine Kp.drewN ?_ _ | with_reducible refine Kp.al ?_ _ | with_reducible refine Kp.trans ?_ (by with_reducible assumption))))).mono ?_
  rintro e w9 ⟨rfl, hb9⟩
  have Q9 : Kp w8 w9 := by repeat (first | exact Kp.refl _ | with_reducible assumption | with_reducible refine Kp.set ?_ _ _ ?_ | (dsimp only; omega) | with_reducible refine Kp.drew ?_ | with_reducible refine Kp.drewN ?_ _ | with_reducible refine Kp.al ?_ _ | with_reducible refine Kp.trans ?_ (by with_reducible assumption))
  have c8_0_9 := hb9.get (b := w8.heap.size) (o := 0) (v := .int .i64 (-x)) (by first | with_reducible assumption | (simp [go_sem]; done) | (simp [go_sem, *]; done))
  have c8_1_9 := hb9.get (b := w8.heap.size) (o := 1) (v := .int .i64 (z)) (by first | with_reducible assumption | (simp [go_sem]; done) | (simp [go_sem, *]; done))
  have l8_9 := cell_lt c8_0_9
  have c1_0_9 := Q9.get c1_0_8
  have c1_1_9 := Q9.get c1_1_8
  have c1_2_9 := Q9.get c1_2_8
  have l1_9 := cell_lt c1_0_9
  have c6_0_9 := Q9.get c6_0_8
  have c6_1_9 := Q9.get c6_1_8
  have c6_2_9 := Q9.get c6_2_8
  have l6_9 := cell_lt c6_0_9
  have c7_0_9 := Q9.get c7_0_8
  have c7_1_9 := Q9.get c7_1_8
  have l7_9 := cell_lt c7_0_9
  have K9 := K8.trans Q9
  clear hb9 c1_0_8 c1_1_8 c1_2_8 l1_8 c6_0_8 c6_1_8 c6_2_8 l6_8 c7_0_8 c7_1_8 l7_8 K8 Q9
  go_wp2_with fail
  go_ret
  exact ⟨rfl, by repeat (first | exact Kp.refl _ | with_reducible assumption | with_reducible refine Kp.set ?_ _ _ ?_ | (dsimp only; omega) | with_reducible refine Kp.drew ?_ | with_reducible refine Kp.drewN ?_ _ | with_reducible refine Kp.al ?_ _ | with_reducible refine Kp.trans ?_ (by with_reducible assumption))⟩

theorem mirrors_walk (n m k : Int) (w : World) (ht0 : Tab w) :
    Calls Tryd.prog 6 #[.int .i64 n, .int .i64 m, .int .i64 k] w fun e w' => e = .returned (.bool true) ∧ Kp w w' := by
  obtain ⟨s, o, a, ⟨a1, a2, a3, a4, a5, a6⟩, ca⟩ := kpitch_ex n
  obtain ⟨s', o', a', ⟨b1, b2, b3, b4, b5, b6⟩, cb⟩ := kpitch_ex m
  obtain ⟨s'', o'', a'', ⟨c1, c2, c3, c4, c5, c6⟩, cc⟩ := kpitch_ex k
  by_cases h1 : 0 ≤ 2 * (7 * o'' + s'') - (7 * o + s) ∧ 2 * (7 * o'' + s'') - (7 * o + s) ≤ 62
  · obtain ⟨s1, o1, d1, d2, d3, d4, e1⟩ := at_num _ h1.1 h1.2
    have m1 : Mir s o a s'' o'' a'' s1 o1 (-a) 0 := fun w => mirror_to _ _ _ _ _ _ _ _ w a1 a2 a3 a4 a5 a6 c1 c2 c3 c4 c5 c6 d1 d2 d3 d4 e1
    by_cases h2 : 0 ≤ 2 * (7 * o'' + s'') - (7 * o' + s') ∧ 2 * (7 * o'' + s'') - (7 * o' + s') ≤ 62
    · obtain ⟨s2, o2, f1, f2, f3, f4, e2⟩ := at_num _ h2.1 h2.2
      exact mirrors_in n m k s o a s' o' a' s'' o'' a'' s1 o1 s2 o2 w ht0 ca cb cc a1 a2 a3 a4 a5 a6 b1 b2 b3 b4 b5 b6 c1 c2 c3 c4 c5 c6 d1 d2 d3 d4 e1 f1 f2 f3 f4 e2
    · exact mirrors_out n m k s o a s' o' a' s'' o'' a'' _ _ _ _ _ _ _ _ w ht0 ca cb cc m1 (fun w => mirror_out _ _ _ _ _ _ w b1 b2 b3 b4 b5 b6 c1 c2 c3 c4 c5 c6 h2) (.inr ⟨rfl, rfl⟩)
  · have m1 : Mir s o a s'' o'' a'' 0 0 0 2 := fun w => mirror_out _ _ _ _ _ _ w a1 a2 a3 a4 a5 a6 c1 c2 c3 c4 c5 c6 h1
    by_cases h2 : 0 ≤ 2 * (7 * o'' + s'') - (7 * o' + s') ∧ 2 * (7 * o'' + s'') - (7 * o' + s') ≤ 62
    · obtain ⟨s2, o2, f1, f2, f3, f4, e2⟩ := at_num _ h2.1 h2.2
      exact mirrors_out n m k s o a s' o' a' s'' o'' a'' _ _ _ _ _ _ _ _ w ht0 ca cb cc m1 (fun w => mirror_to _ _ _ _ _ _ _ _ w b1 b2 b3 b4 b5 b6 c1 c2 c3 c4 c5 c6 f1 f2 f3 f4 e2) (.inl rfl)
    · exact mirrors_out n m k s o a s' o' a' s'' o'' a'' _ _ _ _ _ _ _ _ w ht0 ca cb cc m1 (fun w => mirror_out _ _ _ _ _ _ w b1 b2 b3 b4 b5 b6 c1 c2 c3 c4 c5 c6 h2) (.inl rfl)
end Go.Proofs.YtmmpjajjebljpaaDoor
