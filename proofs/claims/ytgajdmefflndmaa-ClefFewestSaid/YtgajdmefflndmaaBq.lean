/- The walks of ClefBack and ClefMoved. -/
import Derived.Test.YtgajdmefflndmaaBp
namespace Go.Proofs.Ytgajdmefflndmaa
open Go.RowKit

theorem all_any (n : Int) (w : World) :
    Calls Try.prog 26 #[.int .i64 n] w fun e w' => e = .returned (.agg #[.int .i64 (clefAt (n % 15).toNat).1, .int .i64 (clefAt (n % 15).toNat).2]) ∧ Kp w w' := by
  obtain ⟨m, em⟩ : ∃ m : Int, m = n % 15 := ⟨_, rfl⟩
  have hM := fun w => mod_any n 15 w (by omega) (by omega)
  rw [← em] at hM ⊢
  have m1 : 0 ≤ m := by omega
  have m2 : m ≤ 14 := by omega
  clear em
  have HM := Lib.hid hM
  clear hM
  have hl : (clefAt m.toNat).2 = 1 + m % 5 := by simp only [clefAt]; omega
  have hc : (m / 5 = 0 ∧ (clefAt m.toNat).1 = 0) ∨ (m / 5 = 1 ∧ (clefAt m.toNat).1 = 3) ∨ (m / 5 = 2 ∧ (clefAt m.toNat).1 = 4) := by
    simp only [clefAt]
    have : m / 5 = 0 ∨ m / 5 = 1 ∨ m / 5 = 2 := by omega
    rcases this with h | h | h
    · left; refine ⟨h, ?_⟩; rw [if_pos (by omega)]
    · right; left; refine ⟨h, ?_⟩; rw [if_neg (by omega), if_pos (by omega)]
    · right; right; refine ⟨h, ?_⟩; rw [if_neg (by omega), if_neg (by omega)]
  rw [hl]
  clear hl
  rcases hc with ⟨h5, e⟩ | ⟨h5, e⟩ | ⟨h5, e⟩
  all_goals
    rw [e]
    clear e
    go_enter Try.func26, Try.ntmps26
    go_wp2_with fail
    refine (HM.out _).mono ?_
    rintro e _ ⟨rfl, rfl⟩
    go_wp2_with fail
    first | exact bodyPost_ret (v := .agg #[.int .i64 0, .int .i64 (1 + m % 5)]) (by simp [results, Try.results26, go_sem]) rfl ⟨rfl, by repeat (first | exact Kp.refl _ | with_reducible assumption | with_reducible refine Kp.set ?_ _ _ ?_ | (dsimp only; omega) | with_reducible refine Kp.drew ?_ | with_reducible refine Kp.drewN ?_ _ | with_reducible refine Kp.al ?_ _ | with_reducible refine Kp.trans ?_ (by with_reducible assumption))⟩ | exact bodyPost_ret (v := .agg #[.int .i64 3, .int .i64 (1 + m % 5)]) (by simp [results, Try.results26, go_sem]) rfl ⟨rfl, by repeat (first | exact Kp.refl _ | with_reducible assumption | with_reducible refine Kp.set ?_ _ _ ?_ | (dsimp only; omega) | with_reducible refine Kp.drew ?_ | with_reducible refine Kp.drewN ?_ _ | with_reducible refine Kp.al ?_ _ | with_reducible refine Kp.trans ?_ (by with_reducible assumption))⟩ | exact bodyPost_ret (v := .agg #[.int .i64 4, .int .i64 (1 + m % 5)]) (by simp [results, Try.results26, go_sem]) rfl ⟨rfl, by repeat (first | exact Kp.refl _ | with_reducible assumption | with_reducible refine Kp.set ?_ _ _ ?_ | (dsimp only; omega) | with_reducible refine Kp.drew ?_ | with_reducible refine Kp.drewN ?_ _ | with_reducible refine Kp.al ?_ _ | with_reducible refine Kp.trans ?_ (by with_reducible assumption))⟩
theorem all_ex (n : Int) : ∃ st ln : Int, Vc st ln ∧ ∀ w : World, Calls Try.prog 26 #[.int .i64 n] w fun e w' => e = .returned (.agg #[.int .i64 st, .int .i64 ln]) ∧ Kp w w' :=
  ⟨_, _, clefAt_ok _, fun w => all_any n w⟩
theorem mod_ex (n m : Int) (h1 : 1 ≤ m) (h2 : m ≤ 1000) : ∃ x : Int, 0 ≤ x ∧ x < m ∧ ∀ w : World, Calls Try.prog 27 #[.int .i64 n, .int .i64 m] w fun e w' => e = .returned (.int .i64 x) ∧ w = w' :=
  ⟨n % m, Int.emod_nonneg _ (by omega), Int.emod_lt_of_pos _ (by omega), fun w => mod_any n m w h1 h2⟩
theorem alt_acc (key s a : Int) (h1 : -1 ≤ a) (h2 : a ≤ 1) : alt key (accOf key s a) s = a := by
  unfold alt accOf
  by_cases e : a = pl key s
  · rw [if_pos e, if_pos rfl]; exact e.symm
  · rw [if_neg e]
    by_cases e0 : a = 0
    · rw [if_pos e0, if_neg (by omega), if_pos rfl]; exact e0.symm
    · rw [if_neg e0, if_neg e0, if_neg (by omega)]
theorem acc_bd (key s a : Int) (h1 : -1 ≤ a) (h2 : a ≤ 1) : -1 ≤ accOf key s a ∧ accOf key s a ≤ 2 := by
  unfold accOf; split <;> (try split) <;> omega
theorem alt_bd (key acc s : Int) (h1 : -1 ≤ acc) (h2 : acc ≤ 2) : -1 ≤ alt key acc s ∧ alt key acc s ≤ 1 := by
  have := pl_bd key s
  unfold alt; split <;> (try split) <;> omega

set_option maxRecDepth 100000 in
set_option maxHeartbeats 2000000 in
theorem back_walk (n key place acc : Int) (w : World) :
    Calls Try.prog 7 #[.int .i64 n, .int .i64 key, .int .i64 place, .int .i64 acc] w fun e w' => e = .returned (.bool true) ∧ Kp w w' := by
  obtain ⟨st, ln, hc, ca⟩ := all_ex n
  obtain ⟨k, k1, k2, ck⟩ := mod_ex key 3 (by omega) (by omega)
  obtain ⟨p, p1, p2, cp⟩ := mod_ex place 17 (by omega) (by omega)
  obtain ⟨a, a1, a2, cc⟩ := mod_ex acc 4 (by omega) (by omega)
  obtain ⟨b1, b2⟩ := low_bd hc
  obtain ⟨s, o, s1, s2, o1, o2, eN⟩ : ∃ s o : Int, 0 ≤ s ∧ s ≤ 6 ∧ 0 ≤ o ∧ o ≤ 8 ∧ 7 * o + s = low st ln + (p - 4) := ⟨(low st ln + (p - 4)) % 7, (low st ln + (p - 4)) / 7, by omega, by omega, by omega, by omega, by omega⟩
  have es : (low st ln + (p - 4)) % 7 = s := by omega
  have eo : (low st ln + (p - 4)) / 7 = o := by omega
  have c1 := fun w => cpitch_ok st ln k (p - 4) (a - 1) w hc k1 (by omega) (by omega) (by omega) (by omega) (by omega)
  rw [es, eo] at c1
  obtain ⟨al, eal⟩ : ∃ al, al = alt k (a - 1) s := ⟨_, rfl⟩
  obtain ⟨g1, g2⟩ := alt_bd k (a - 1) s (by omega) (by omega)
  rw [← eal] at c1 g1 g2
  have epl : 7 * o + s - low st ln = p - 4 := by omega
  have c2 := fun w => cplace_ok st ln k s o al w hc k1 (by omega) s1 s2 o1 o2 g1 g2 (by omega) (by omega)
  have c2' := fun (x : Int) (x1 : -1 ≤ x) (x2 : x ≤ 1) w => cplace_ok st ln k s o x w hc k1 (by omega) s1 s2 o1 o2 x1 x2 (by omega) (by omega)
  rw [epl] at c2
  simp only [epl] at c2'
  obtain ⟨h1, h2⟩ := acc_bd k s al g1 g2
  have c3 := fun w => cpitch_ok st ln k (p - 4) (accOf k s al) w hc k1 (by omega) (by omega) (by omega) h1 h2
  rw [es, eo, alt_acc k s al g1 g2] at c3
  obtain ⟨ac, eac⟩ : ∃ ac, ac = accOf k s al := ⟨_, rfl⟩
  rw [← eac] at c2 c3
  have CA := Lib.hid ca; have CK := Lib.hid ck; have CP := Lib.hid cp; have CC := Lib.hid cc; have C1 := Lib.hid c1; have C2 := Lib.hid c2; have C3 := Lib.hid c3; have C2' := Lib.hid c2'
  clear ca ck cp cc c1 c2 c3 c2' es eo eal epl eac eN hc h1 h2
  have q0 : decide ((-1 : Int) ≤ 1) = true := by decide
  go_enter Try.func7, Try.ntmps7
  go_wp2_with fail
  refine (known_walk _).mono ?_
  rintro e w1 ⟨rfl, hb1⟩
  have Q1 : Kp w w1 := by repeat (first | exact Kp.refl _ | with_reducible assumption | with_reducible refine Kp.set ?_ _ _ ?_ | (dsimp only; omega) | with_reducible refine Kp.drew ?_ | with_reducible refine Kp.drewN ?_ _ | with_reducible refine Kp.al ?_ _ | with_reducible refine Kp.trans ?_ (by with_reducible assumption))
  have K1 := Q1
  clear hb1 Q1
  go_wp2_with fail
  refine (CA.out _).mono ?_
  rintro e w2 ⟨rfl, hb2⟩
  have Q2 : Kp w1 w2 := by repeat (first | exact Kp.refl _ | with_reducible assumption | with_reducible refine Kp.set ?_ _ _ ?_ | (dsimp only; omega) | with_reducible refine Kp.drew ?_ | with_reducible refine Kp.drewN ?_ _ | with_reducible refine Kp.al ?_ _ | with_reducible refine Kp.trans ?_ (by with_reducible assumption))
  have K2 := K1.trans Q2
  clear hb2 K1 Q2
  go_wp2_with fail
  refine (CK.out _).mono ?_
  rintro e _ ⟨rfl, rfl⟩
  go_wp2_with fail
  refine (CP.out _).mono ?_
  rintro e _ ⟨rfl, rfl⟩
  go_wp2_with fail
  refine (CC.out _).mono ?_
  rintro e _ ⟨rfl, rfl⟩
  go_wp2_with fail
  refine (C1.out _).mono ?_
  rintro e w3 ⟨rfl, hb3⟩
  have Q3 : Kp w2 w3 := by repeat (first | exact Kp.refl _ | with_reducible assumption | with_reducible refine Kp.set ?_ _ _ ?_ | (dsimp only; omega) | with_reducible refine Kp.drew ?_ | with_reducible refine Kp.drewN ?_ _ | with_reducible refine Kp.al ?_ _ | with_reducible refine Kp.trans ?_ (by with_reducible assumption))
  have c1_0_3 := hb3.get (b := w2.heap.size) (o := 0) (v := .int .i64 (st)) (by first | with_reducible assumption | (simp [go_sem]; done) | (simp [go_sem, *]; done))
  have c1_1_3 := hb3.get (b := w2.heap.size) (o := 1) (v := .int .i64 (ln)) (by first | with_reducible assumption | (simp [go_sem]; done) | (simp [go_sem, *]; done))
  have l1_3 := cell_lt c1_0_3
  have K3 := K2.trans Q3
  clear hb3 K2 Q3
  have s2 : w.heap.size ≤ w3.heap.size := by have := K3.low; omega
  have n2_1 : ¬ w3.heap.size = w2.heap.size := by omega
  have n1_2 : ¬ w2.heap.size = w3.heap.size := by omega
  go_wp2_with fail
  refine (C2.out _).mono ?_
  rintro e w4 ⟨rfl, hb4⟩
  have Q4 : Kp w3 w4 := by repeat (first | exact Kp.refl _ | with_reducible assumption | with_reducible refine Kp.set ?_ _ _ ?_ | (dsimp only; omega) | with_reducible refine Kp.drew ?_ | with_reducible refine Kp.drewN ?_ _ | with_reducible refine Kp.al ?_ _ | with_reducible refine Kp.trans ?_ (by with_reducible assumption))
  have c2_0_4 := hb4.get (b := w3.heap.size) (o := 0) (v := .int .i64 (s)) (by first | with_reducible assumption | (simp [go_sem]; done) | (simp [go_sem, *]; done))
  have f2_0_4 := hb4.free (b := w3.heap.size) (o := 0) (v := .int .i64 (s)) (by first | with_reducible assumption | (simp [go_sem]; done) | (simp [go_sem, *]; done)) (by first | with_reducible assumption | (simp [go_sem]; done) | (simp [go_sem, *]; done))
  have c2_1_4 := hb4.get (b := w3.heap.size) (o := 1) (v := .int .i64 (o)) (by first | with_reducible assumption | (simp [go_sem]; done) | (simp [go_sem, *]; done))
  have f2_1_4 := hb4.free (b := w3.heap.size) (o := 1) (v := .int .i64 (o)) (by first | with_reducible assumption | (simp [go_sem]; done) | (simp [go_sem, *]; done)) (by first | with_reducible assumption | (simp [go_sem]; done) | (simp [go_sem, *]; done))
  have c2_2_4 := hb4.get (b := w3.heap.size) (o := 2) (v := .int .i64 (al)) (by first | with_reducible assumption | (simp [go_sem]; done) | (simp [go_sem, *]; done))
  have f2_2_4 := hb4.free (b := w3.heap.size) (o := 2) (v := .int .i64 (al)) (by first | with_reducible assumption | (simp [go_sem]; done) | (simp [go_sem, *]; done)) (by first | with_reducible assumption | (simp [go_sem]; done) | (simp [go_sem, *]; done))
  have l2_4 := cell_lt c2_0_4
  have c1_0_4 := Q4.get c1_0_3
  have c1_1_4 := Q4.get c1_1_3
  have l1_4 := cell_lt c1_0_4
  have K4 := K3.trans Q4
  clear hb4 c1_0_3 c1_1_3 l1_3 K3 Q4
  go_wp2_with fail
  refine (C3.out _).mono ?_
  rintro e w5 ⟨rfl, hb5⟩
  have Q5 : Kp w4 w5 := by repeat (first | exact Kp.refl _ | with_reducible assumption | with_reducible refine Kp.set ?_ _ _ ?_ | (dsimp only; omega) | with_reducible refine Kp.drew ?_ | with_reducible refine Kp.drewN ?_ _ | with_reducible refine Kp.al ?_ _ | with_reducible refine Kp.trans ?_ (by with_reducible assumption))
  have c1_0_5 := Q5.get c1_0_4
  have c1_1_5 := Q5.get c1_1_4
  have l1_5 := cell_lt c1_0_5
  have f2_0_5 := Q5.free c2_0_4 f2_0_4
  have f2_1_5 := Q5.free c2_1_4 f2_1_4
  have f2_2_5 := Q5.free c2_2_4 f2_2_4
  have c2_0_5 := Q5.get c2_0_4
  have c2_1_5 := Q5.get c2_1_4
  have c2_2_5 := Q5.get c2_2_4
  have l2_5 := cell_lt c2_0_5
  have K5 := K4.trans Q5
  clear hb5 c1_0_4 c1_1_4 l1_4 f2_0_4 f2_1_4 f2_2_4 c2_0_4 c2_1_4 c2_2_4 l2_4 K4 Q5
  go_wp2_with fail
  refine wp_loop_rounds 4 ?_
  rw [rounds_succ]
  go_wp2_with fail
  refine (C2'.out (-1) (by omega) (by omega) _).mono ?_
  rintro e w6 ⟨rfl, hb6⟩
  have K6 : Kp w w6 := by repeat (first | exact Kp.refl _ | with_reducible assumption | with_reducible refine Kp.set ?_ _ _ ?_ | (dsimp only; omega) | with_reducible refine Kp.drew ?_ | with_reducible refine Kp.drewN ?_ _ | with_reducible refine Kp.al ?_ _ | with_reducible refine Kp.trans ?_ (by with_reducible assumption))
  have c2_0_6 := hb6.get (b := w3.heap.size) (o := 0) (v := .int .i64 (s)) (by first | with_reducible assumption | (simp [go_sem]; done) | (simp [go_sem, *]; done))
  have f2_0_6 := hb6.free (b := w3.heap.size) (o := 0) (v := .int .i64 (s)) (by first | with_reducible assumption | (simp [go_sem]; done) | (simp [go_sem, *]; done)) (by first | with_reducible assumption | (simp [go_sem]; done) | (simp [go_sem, *]; done))
  have c2_1_6 := hb6.get (b := w3.heap.size) (o := 1) (v := .int .i64 (o)) (by first | with_reducible assumption | (simp [go_sem]; done) | (simp [go_sem, *]; done))
  have f2_1_6 := hb6.free (b := w3.heap.size) (o := 1) (v := .int .i64 (o)) (by first | with_reducible assumption | (simp [go_sem]; done) | (simp [go_sem, *]; done)) (by first | with_reducible assumption | (simp [go_sem]; done) | (simp [go_sem, *]; done))
  have c2_2_6 := hb6.get (b := w3.heap.size) (o := 2) (v := .int .i64 (-1)) (by first | with_reducible assumption | (simp [go_sem]; done) | (simp [go_sem, *]; done))
  have f2_2_6 := hb6.free (b := w3.heap.size) (o := 2) (v := .int .i64 (-1)) (by first | with_reducible assumption | (simp [go_sem]; done) | (simp [go_sem, *]; done)) (by first | with_reducible assumption | (simp [go_sem]; done) | (simp [go_sem, *]; done))
  have l2_6 := cell_lt c2_0_6
  have c1_0_6 := hb6.get (b := w2.heap.size) (o := 0) (v := .int .i64 (st)) (by first | with_reducible assumption | (simp [go_sem]; done) | (simp [go_sem, *]; done))
  have c1_1_6 := hb6.get (b := w2.heap.size) (o := 1) (v := .int .i64 (ln)) (by first | with_reducible assumption | (simp [go_sem]; done) | (simp [go_sem, *]; done))
  have l1_6 := cell_lt c1_0_6
  clear hb6 c2_0_5 c2_1_5 c2_2_5 f2_0_5 f2_1_5 f2_2_5 c1_0_5 c1_1_5 l1_5 K5
  go_wp2_with fail
  rw [rounds_succ]
  go_wp2_with fail
  refine (C2'.out 0 (by omega) (by omega) _).mono ?_
  rintro e w7 ⟨rfl, hb7⟩
  have K7 : Kp w w7 := by repeat (first | exact Kp.refl _ | with_reducible assumption | with_reducible refine Kp.set ?_ _ _ ?_ | (dsimp only; omega) | with_reducible refine Kp.drew ?_ | with_reducible refine Kp.drewN ?_ _ | with_reducible refine Kp.al ?_ _ | with_reducible refine Kp.trans ?_ (by with_reducible assumption))
  have c2_0_7 := hb7.get (b := w3.heap.size) (o := 0) (v := .int .i64 (s)) (by first | with_reducible assumption | (simp [go_sem]; done) | (simp [go_sem, *]; done))
  have f2_0_7 := hb7.free (b := w3.heap.size) (o := 0) (v := .int .i64 (s)) (by first | with_reducible assumption | (simp [go_sem]; done) | (simp [go_sem, *]; done)) (by first | with_reducible assumption | (simp [go_sem]; done) | (simp [go_sem, *]; done))
  have c2_1_7 := hb7.get (b := w3.heap.size) (o := 1) (v := .int .i64 (o)) (by first | with_reducible assumption | (simp [go_sem]; done) | (simp [go_sem, *]; done))
  have f2_1_7 := hb7.free (b := w3.heap.size) (o := 1) (v := .int .i64 (o)) (by first | with_reducible assumption | (simp [go_sem]; done) | (simp [go_sem, *]; done)) (by first | with_reducible assumption | (simp [go_sem]; done) | (simp [go_sem, *]; done))
  have c2_2_7 := hb7.get (b := w3.heap.size) (o := 2) (v := .int .i64 (0)) (by first | with_reducible assumption | (simp [go_sem]; done) | (simp [go_sem, *]; done))
  have f2_2_7 := hb7.free (b := w3.heap.size) (o := 2) (v := .int .i64 (0)) (by first | with_reducible assumption | (simp [go_sem]; done) | (simp [go_sem, *]; done)) (by first | with_reducible assumption | (simp [go_sem]; done) | (simp [go_sem, *]; done))
  have l2_7 := cell_lt c2_0_7
  have c1_0_7 := hb7.get (b := w2.heap.size) (o := 0) (v := .int .i64 (st)) (by first | with_reducible assumption | (simp [go_sem]; done) | (simp [go_sem, *]; done))
  have c1_1_7 := hb7.get (b := w2.heap.size) (o := 1) (v := .int .i64 (ln)) (by first | with_reducible assumption | (simp [go_sem]; done) | (simp [go_sem, *]; done))
  have l1_7 := cell_lt c1_0_7
  clear hb7 c2_0_6 c2_1_6 c2_2_6 f2_0_6 f2_1_6 f2_2_6 c1_0_6 c1_1_6 l1_6 K6
  go_wp2_with fail
  rw [rounds_succ]
  go_wp2_with fail
  refine (C2'.out 1 (by omega) (by omega) _).mono ?_
  rintro e w8 ⟨rfl, hb8⟩
  have K8 : Kp w w8 := by repeat (first | exact Kp.refl _ | with_reducible assumption | with_reducible refine Kp.set ?_ _ _ ?_ | (dsimp only; omega) | with_reducible refine Kp.drew ?_ | with_reducible refine Kp.drewN ?_ _ | with_reducible refine Kp.al ?_ _ | with_reducible refine Kp.trans ?_ (by with_reducible assumption))
  have c2_0_8 := hb8.get (b := w3.heap.size) (o := 0) (v := .int .i64 (s)) (by first | with_reducible assumption | (simp [go_sem]; done) | (simp [go_sem, *]; done))
  have f2_0_8 := hb8.free (b := w3.heap.size) (o := 0) (v := .int .i64 (s)) (by first | with_reducible assumption | (simp [go_sem]; done) | (simp [go_sem, *]; done)) (by first | with_reducible assumption | (simp [go_sem]; done) | (simp [go_sem, *]; done))
  have c2_1_8 := hb8.get (b := w3.heap.size) (o := 1) (v := .int .i64 (o)) (by first | with_reducible assumption | (simp [go_sem]; done) | (simp [go_sem, *]; done))
  have f2_1_8 := hb8.free (b := w3.heap.size) (o := 1) (v := .int .i64 (o)) (by first | with_reducible assumption | (simp [go_sem]; done) | (simp [go_sem, *]; done)) (by first | with_reducible assumption | (simp [go_sem]; done) | (simp [go_sem, *]; done))
  have c2_2_8 := hb8.get (b := w3.heap.size) (o := 2) (v := .int .i64 (1)) (by first | with_reducible assumption | (simp [go_sem]; done) | (simp [go_sem, *]; done))
  have f2_2_8 := hb8.free (b := w3.heap.size) (o := 2) (v := .int .i64 (1)) (by first | with_reducible assumption | (simp [go_sem]; done) | (simp [go_sem, *]; done)) (by first | with_reducible assumption | (simp [go_sem]; done) | (simp [go_sem, *]; done))
  have l2_8 := cell_lt c2_0_8
  have c1_0_8 := hb8.get (b := w2.heap.size) (o := 0) (v := .int .i64 (st)) (by first | with_reducible assumption | (simp [go_sem]; done) | (simp [go_sem, *]; done))
  have c1_1_8 := hb8.get (b := w2.heap.size) (o := 1) (v := .int .i64 (ln)) (by first | with_reducible assumption | (simp [go_sem]; done) | (simp [go_sem, *]; done))
  have l1_8 := cell_lt c1_0_8
  clear hb8 c2_0_7 c2_1_7 c2_2_7 f2_0_7 f2_1_7 f2_2_7 c1_0_7 c1_1_7 l1_7 K7
  go_wp2_with fail
  rw [rounds_succ]
  go_wp2_with fail
  go_ret
  exact ⟨rfl, by repeat (first | exact Kp.refl _ | with_reducible assumption | with_reducible refine Kp.set ?_ _ _ ?_ | (dsimp only; omega) | with_reducible refine Kp.drew ?_ | with_reducible refine Kp.drewN ?_ _ | with_reducible refine Kp.al ?_ _ | with_reducible refine Kp.trans ?_ (by with_reducible assumption))⟩
end Go.Proofs.Ytgajdmefflndmaa
