/- Contracts of tactusref03: Check, Number, Of, Move, Mirror, Height, Between. -/
import Derived.Test.YtmmpjajjebljpaaDoorPh
import Derived.ChangeAlike
namespace Go.Proofs.YtmmpjajjebljpaaDoor
open Go.RowKit

theorem rcheck_any (s o a : Int) (w : World) :
    Calls Tryd.prog 28 #[.agg #[.int .i64 s, .int .i64 o, .int .i64 a]] w fun e w' => e = .returned (.int .i64 (chk s o a)) ∧ Kp w w' := by
  go_enter Tryd.func28, Tryd.ntmps28
  go_wp2
  all_goals go_ret
  all_goals
    refine ⟨ret_int ?_, (Kp.refl _).al _⟩
    unfold chk
    first | rw [if_neg (by omega)] | rw [if_pos (by omega)]
theorem rcheck_ok (s o a : Int) (w : World) (h1 : 0 ≤ s) (h2 : s ≤ 6) (h3 : 0 ≤ o) (h4 : o ≤ 8) (h5 : -1 ≤ a) (h6 : a ≤ 1) :
    Calls Tryd.prog 28 #[.agg #[.int .i64 s, .int .i64 o, .int .i64 a]] w fun e w' => e = .returned (.int .i64 0) ∧ Kp w w' := by
  have := rcheck_any s o a w
  unfold chk at this
  rwa [if_pos (by omega)] at this
theorem rcheck_no (s o a : Int) (w : World) (h : ¬ Vp s o a) :
    Calls Tryd.prog 28 #[.agg #[.int .i64 s, .int .i64 o, .int .i64 a]] w fun e w' => e = .returned (.int .i64 2) ∧ Kp w w' := by
  have := rcheck_any s o a w
  unfold chk at this
  unfold Vp at h
  rwa [if_neg h] at this
theorem rnumber_ok (s o a : Int) (w : World) (h1 : 0 ≤ s) (h2 : s ≤ 6) (h3 : 0 ≤ o) (h4 : o ≤ 8) (h5 : -1 ≤ a) (h6 : a ≤ 1) :
    Calls Tryd.prog 25 #[.agg #[.int .i64 s, .int .i64 o, .int .i64 a]] w fun e w' => e = .returned (.tuple #[.int .i64 (7 * o + s), .int .i64 0]) ∧ Kp w w' := by
  go_enter Tryd.func25, Tryd.ntmps25
  go_wp2_with fail
  refine (rcheck_ok _ _ _ _ h1 h2 h3 h4 h5 h6).mono ?_
  rintro e w1 ⟨rfl, hb1⟩
  have Q1 : Kp w w1 := by repeat (first | exact Kp.refl _ | with_reducible assumption | with_reducible refine Kp.set ?_ _ _ ?_ | (dsimp only; omega) | with_reducible refine Kp.drew ?_ | with_reducible refine Kp.drewN ?_ _ | with_reducible refine Kp.al ?_ _ | with_reducible refine Kp.trans ?_ (by with_reducible assumption))
  have c1_0_1 := hb1.get (b := w.heap.size) (o := 0) (v := .int .i64 (s)) (by first | with_reducible assumption | (simp [go_sem]; done) | (simp [go_sem, *]; done))
  have c1_1_1 := hb1.get (b := w.heap.size) (o := 1) (v := .int .i64 (o)) (by first | with_reducible assumption | (simp [go_sem]; done) | (simp [go_sem, *]; done))
  have c1_2_1 := hb1.get (b := w.heap.size) (o := 2) (v := .int .i64 (a)) (by first | with_reducible assumption | (simp [go_sem]; done) | (simp [go_sem, *]; done))
  have l1_1 := cell_lt c1_0_1
  have K1 := Q1
  clear hb1 Q1
  go_wp2_with fail
  go_ret2
  exact ⟨rfl, by repeat (first | exact Kp.refl _ | with_reducible assumption | with_reducible refine Kp.set ?_ _ _ ?_ | (dsimp only; omega) | with_reducible refine Kp.drew ?_ | with_reducible refine Kp.drewN ?_ _ | with_reducible refine Kp.al ?_ _ | with_reducible refine Kp.trans ?_ (by with_reducible assumption))⟩
theorem rnumber_no (s o a : Int) (w : World) (h : ¬ Vp s o a) :
    Calls Tryd.prog 25 #[.agg #[.int .i64 s, .int .i64 o, .int .i64 a]] w fun e w' => e = .returned (.tuple #[.int .i64 0, .int .i64 2]) ∧ Kp w w' := by
  have H := Lib.hid h; clear h
  go_enter Tryd.func25, Tryd.ntmps25
  go_wp2_with fail
  refine (rcheck_no _ _ _ _ H.out).mono ?_
  rintro e w1 ⟨rfl, hb1⟩
  have Q1 : Kp w w1 := by repeat (first | exact Kp.refl _ | with_reducible assumption | with_reducible refine Kp.set ?_ _ _ ?_ | (dsimp only; omega) | with_reducible refine Kp.drew ?_ | with_reducible refine Kp.drewN ?_ _ | with_reducible refine Kp.al ?_ _ | with_reducible refine Kp.trans ?_ (by with_reducible assumption))
  have K1 := Q1
  clear hb1 Q1
  go_wp2_with fail
  go_ret2
  exact ⟨rfl, by repeat (first | exact Kp.refl _ | with_reducible assumption | with_reducible refine Kp.set ?_ _ _ ?_ | (dsimp only; omega) | with_reducible refine Kp.drew ?_ | with_reducible refine Kp.drewN ?_ _ | with_reducible refine Kp.al ?_ _ | with_reducible refine Kp.trans ?_ (by with_reducible assumption))⟩
theorem rOf_ok (n a : Int) (w : World) (h1 : 0 ≤ n) (h2 : n ≤ 62) (h3 : -1 ≤ a) (h4 : a ≤ 1) :
    Calls Tryd.prog 29 #[.int .i64 n, .int .i64 a] w fun e w' => e = .returned (.tuple #[.agg #[.int .i64 (n % 7), .int .i64 (n / 7), .int .i64 a], .int .i64 0]) ∧ Kp w w' := by
  go_enter Tryd.func29, Tryd.ntmps29
  go_wp2
  exact bodyPost_ret (v := .tuple #[.agg #[.int .i64 (n % 7), .int .i64 (n / 7), .int .i64 a], .int .i64 0]) (by simp [results, Tryd.results29, go_sem]) rfl ⟨rfl, by repeat (first | exact Kp.refl _ | with_reducible assumption | with_reducible refine Kp.set ?_ _ _ ?_ | (dsimp only; omega) | with_reducible refine Kp.drew ?_ | with_reducible refine Kp.drewN ?_ _ | with_reducible refine Kp.al ?_ _ | with_reducible refine Kp.trans ?_ (by with_reducible assumption))⟩
theorem rOf_no (n a : Int) (w : World) (h : ¬ (0 ≤ n ∧ n ≤ 62 ∧ -1 ≤ a ∧ a ≤ 1)) :
    Calls Tryd.prog 29 #[.int .i64 n, .int .i64 a] w fun e w' => e = .returned (.tuple #[.agg #[.int .i64 0, .int .i64 0, .int .i64 0], .int .i64 2]) ∧ Kp w w' := by
  have H := Lib.hid h; clear h
  go_enter Tryd.func29, Tryd.ntmps29
  go_wp2
  all_goals first | (exfalso; have := H.out; omega) | exact bodyPost_ret (v := .tuple #[.agg #[.int .i64 0, .int .i64 0, .int .i64 0], .int .i64 2]) (by simp [results, Tryd.results29, go_sem]) rfl ⟨rfl, by repeat (first | exact Kp.refl _ | with_reducible assumption | with_reducible refine Kp.set ?_ _ _ ?_ | (dsimp only; omega) | with_reducible refine Kp.drew ?_ | with_reducible refine Kp.drewN ?_ _ | with_reducible refine Kp.al ?_ _ | with_reducible refine Kp.trans ?_ (by with_reducible assumption))⟩

theorem rmove_ok (s o a n : Int) (w : World) (h1 : 0 ≤ s) (h2 : s ≤ 6) (h3 : 0 ≤ o) (h4 : o ≤ 8) (h5 : -1 ≤ a) (h6 : a ≤ 1) (h9 : 0 ≤ 7 * o + s + n) (h10 : 7 * o + s + n ≤ 62) :
    Calls Tryd.prog 30 #[.agg #[.int .i64 s, .int .i64 o, .int .i64 a], .int .i64 n] w fun e w' => e = .returned (.tuple #[.agg #[.int .i64 ((7 * o + s + n) % 7), .int .i64 ((7 * o + s + n) / 7), .int .i64 a], .int .i64 0]) ∧ Kp w w' := by
  go_enter Tryd.func30, Tryd.ntmps30
  have s2 : w.heap.size ≤ w.heap.size + 1 := by omega
  have n2_1 : ¬ w.heap.size + 1 = w.heap.size := by omega
  have n1_2 : ¬ w.heap.size = w.heap.size + 1 := by omega
  go_wp2_with fail
  refine (rnumber_ok _ _ _ _ h1 h2 h3 h4 h5 h6).mono ?_
  rintro e w1 ⟨rfl, hb1⟩
  have Q1 : Kp w w1 := by repeat (first | exact Kp.refl _ | with_reducible assumption | with_reducible refine Kp.set ?_ _ _ ?_ | (dsimp only; omega) | with_reducible refine Kp.drew ?_ | with_reducible refine Kp.drewN ?_ _ | with_reducible refine Kp.al ?_ _ | with_reducible refine Kp.trans ?_ (by with_reducible assumption))
  have c1_0_1 := hb1.get (b := w.heap.size) (o := 0) (v := .int .i64 (s)) (by first | with_reducible assumption | (simp [go_sem]; done) | (simp [go_sem, *]; done))
  have c1_1_1 := hb1.get (b := w.heap.size) (o := 1) (v := .int .i64 (o)) (by first | with_reducible assumption | (simp [go_sem]; done) | (simp [go_sem, *]; done))
  have c1_2_1 := hb1.get (b := w.heap.size) (o := 2) (v := .int .i64 (a)) (by first | with_reducible assumption | (simp [go_sem]; done) | (simp [go_sem, *]; done))
  have l1_1 := cell_lt c1_0_1
  have c2_0_1 := hb1.get (b := w.heap.size + 1) (o := 0) (v := .int .i64 (0)) (by first | with_reducible assumption | (simp [go_sem]; done) | (simp [go_sem, *]; done))
  have f2_0_1 := hb1.free (b := w.heap.size + 1) (o := 0) (v := .int .i64 (0)) (by first | with_reducible assumption | (simp [go_sem]; done) | (simp [go_sem, *]; done)) (by first | with_reducible assumption | (simp [go_sem]; done) | (simp [go_sem, *]; done))
  have c2_1_1 := hb1.get (b := w.heap.size + 1) (o := 1) (v := .int .i64 (0)) (by first | with_reducible assumption | (simp [go_sem]; done) | (simp [go_sem, *]; done))
  have f2_1_1 := hb1.free (b := w.heap.size + 1) (o := 1) (v := .int .i64 (0)) (by first | with_reducible assumption | (simp [go_sem]; done) | (simp [go_sem, *]; done)) (by first | with_reducible assumption | (simp [go_sem]; done) | (simp [go_sem, *]; done))
  have c2_2_1 := hb1.get (b := w.heap.size + 1) (o := 2) (v := .int .i64 (0)) (by first | with_reducible assumption | (simp [go_sem]; done) | (simp [go_sem, *]; done))
  have f2_2_1 := hb1.free (b := w.heap.size + 1) (o := 2) (v := .int .i64 (0)) (by first | with_reducible assumption | (simp [go_sem]; done) | (simp [go_sem, *]; done)) (by first | with_reducible assumption | (simp [go_sem]; done) | (simp [go_sem, *]; done))
  have l2_1 := cell_lt c2_0_1
  have K1 := Q1
  clear hb1 Q1
  go_wp2_with fail
  refine (rOf_ok _ _ _ h9 h10 h5 h6).mono ?_
  rintro e w2 ⟨rfl, hb2⟩
  have Q2 : Kp w1 w2 := by repeat (first | exact Kp.refl _ | with_reducible assumption | with_reducible refine Kp.set ?_ _ _ ?_ | (dsimp only; omega) | with_reducible refine Kp.drew ?_ | with_reducible refine Kp.drewN ?_ _ | with_reducible refine Kp.al ?_ _ | with_reducible refine Kp.trans ?_ (by with_reducible assumption))
  have c1_0_2 := Q2.get c1_0_1
  have c1_1_2 := Q2.get c1_1_1
  have c1_2_2 := Q2.get c1_2_1
  have l1_2 := cell_lt c1_0_2
  have f2_0_2 := Q2.free c2_0_1 f2_0_1
  have f2_1_2 := Q2.free c2_1_1 f2_1_1
  have f2_2_2 := Q2.free c2_2_1 f2_2_1
  have c2_0_2 := Q2.get c2_0_1
  have c2_1_2 := Q2.get c2_1_1
  have c2_2_2 := Q2.get c2_2_1
  have l2_2 := cell_lt c2_0_2
  have K2 := K1.trans Q2
  clear hb2 c1_0_1 c1_1_1 c1_2_1 l1_1 f2_0_1 f2_1_1 f2_2_1 c2_0_1 c2_1_1 c2_2_1 l2_1 K1 Q2
  go_wp2_with fail
  exact bodyPost_ret (v := .tuple #[.agg #[.int .i64 ((7 * o + s + n) % 7), .int .i64 ((7 * o + s + n) / 7), .int .i64 a], .int .i64 0]) (by simp [results, Tryd.results30, go_sem, c2_0_2, c2_1_2, c2_2_2]) rfl ⟨rfl, by repeat (first | exact Kp.refl _ | with_reducible assumption | with_reducible refine Kp.set ?_ _ _ ?_ | (dsimp only; omega) | with_reducible refine Kp.drew ?_ | with_reducible refine Kp.drewN ?_ _ | with_reducible refine Kp.al ?_ _ | with_reducible refine Kp.trans ?_ (by with_reducible assumption))⟩
theorem rmove_out (s o a n : Int) (w : World) (h1 : 0 ≤ s) (h2 : s ≤ 6) (h3 : 0 ≤ o) (h4 : o ≤ 8) (h5 : -1 ≤ a) (h6 : a ≤ 1) (h : 7 * o + s + n < 0 ∨ 62 < 7 * o + s + n) :
    Calls Tryd.prog 30 #[.agg #[.int .i64 s, .int .i64 o, .int .i64 a], .int .i64 n] w fun e w' => e = .returned (.tuple #[.agg #[.int .i64 0, .int .i64 0, .int .i64 0], .int .i64 2]) ∧ Kp w w' := by
  rcases h with h | h
  all_goals
    go_enter Tryd.func30, Tryd.ntmps30
    have s1 : w.heap.size ≤ w.heap.size + 1 := by omega
    go_wp2_with fail
    refine (rnumber_ok _ _ _ _ h1 h2 h3 h4 h5 h6).mono ?_
    rintro e w1 ⟨rfl, hb1⟩
    have Q1 : Kp w w1 := by repeat (first | exact Kp.refl _ | with_reducible assumption | with_reducible refine Kp.set ?_ _ _ ?_ | (dsimp only; omega) | with_reducible refine Kp.drew ?_ | with_reducible refine Kp.drewN ?_ _ | with_reducible refine Kp.al ?_ _ | with_reducible refine Kp.trans ?_ (by with_reducible assumption))
    have c1_0_1 := hb1.get (b := w.heap.size + 1) (o := 0) (v := .int .i64 (0)) (by first | with_reducible assumption | (simp [go_sem]; done) | (simp [go_sem, *]; done))
    have f1_0_1 := hb1.free (b := w.heap.size + 1) (o := 0) (v := .int .i64 (0)) (by first | with_reducible assumption | (simp [go_sem]; done) | (simp [go_sem, *]; done)) (by first | with_reducible assumption | (simp [go_sem]; done) | (simp [go_sem, *]; done))
    have c1_1_1 := hb1.get (b := w.heap.size + 1) (o := 1) (v := .int .i64 (0)) (by first | with_reducible assumption | (simp [go_sem]; done) | (simp [go_sem, *]; done))
    have f1_1_1 := hb1.free (b := w.heap.size + 1) (o := 1) (v := .int .i64 (0)) (by first | with_reducible assumption | (simp [go_sem]; done) | (simp [go_sem, *]; done)) (by first | with_reducible assumption | (simp [go_sem]; done) | (simp [go_sem, *]; done))
    have c1_2_1 := hb1.get (b := w.heap.size + 1) (o := 2) (v := .int .i64 (0)) (by first | with_reducible assumption | (simp [go_sem]; done) | (simp [go_sem, *]; done))
    have f1_2_1 := hb1.free (b := w.heap.size + 1) (o := 2) (v := .int .i64 (0)) (by first | with_reducible assumption | (simp [go_sem]; done) | (simp [go_sem, *]; done)) (by first | with_reducible assumption | (simp [go_sem]; done) | (simp [go_sem, *]; done))
    have l1_1 := cell_lt c1_0_1
    have K1 := Q1
    clear hb1 Q1
    go_wp2_with fail
    exact bodyPost_ret (v := .tuple #[.agg #[.int .i64 0, .int .i64 0, .int .i64 0], .int .i64 2]) (by simp [results, Tryd.results30, go_sem, c1_0_1, c1_1_1, c1_2_1]) rfl ⟨rfl, by repeat (first | exact Kp.refl _ | with_reducible assumption | with_reducible refine Kp.set ?_ _ _ ?_ | (dsimp only; omega) | with_reducible refine Kp.drew ?_ | with_reducible refine Kp.drewN ?_ _ | with_reducible refine Kp.al ?_ _ | with_reducible refine Kp.trans ?_ (by with_reducible assumption))⟩
theorem rmove_no (s o a n : Int) (w : World) (h : ¬ Vp s o a) :
    Calls Tryd.prog 30 #[.agg #[.int .i64 s, .int .i64 o, .int .i64 a], .int .i64 n] w fun e w' => e = .returned (.tuple #[.agg #[.int .i64 0, .int .i64 0, .int .i64 0], .int .i64 2]) ∧ Kp w w' := by
  have H := Lib.hid h; clear h
  go_enter Tryd.func30, Tryd.ntmps30
  have s1 : w.heap.size ≤ w.heap.size + 1 := by omega
  go_wp2_with fail
  refine (rnumber_no _ _ _ _ H.out).mono ?_
  rintro e w1 ⟨rfl, hb1⟩
  have Q1 : Kp w w1 := by repeat (first | exact Kp.refl _ | with_reducible assumption | with_reducible refine Kp.set ?_ _ _ ?_ | (dsimp only; omega) | with_reducible refine Kp.drew ?_ | with_reducible refine Kp.drewN ?_ _ | with_reducible refine Kp.al ?_ _ | with_reducible refine Kp.trans ?_ (by with_reducible assumption))
  have c1_0_1 := hb1.get (b := w.heap.size + 1) (o := 0) (v := .int .i64 (0)) (by first | with_reducible assumption | (simp [go_sem]; done) | (simp [go_sem, *]; done))
  have f1_0_1 := hb1.free (b := w.heap.size + 1) (o := 0) (v := .int .i64 (0)) (by first | with_reducible assumption | (simp [go_sem]; done) | (simp [go_sem, *]; done)) (by first | with_reducible assumption | (simp [go_sem]; done) | (simp [go_sem, *]; done))
  have c1_1_1 := hb1.get (b := w.heap.size + 1) (o := 1) (v := .int .i64 (0)) (by first | with_reducible assumption | (simp [go_sem]; done) | (simp [go_sem, *]; done))
  have f1_1_1 := hb1.free (b := w.heap.size + 1) (o := 1) (v := .int .i64 (0)) (by first | with_reducible assumption | (simp [go_sem]; done) | (simp [go_sem, *]; done)) (by first | with_reducible assumption | (simp [go_sem]; done) | (simp [go_sem, *]; done))
  have c1_2_1 := hb1.get (b := w.heap.size + 1) (o := 2) (v := .int .i64 (0)) (by first | with_reducible assumption | (simp [go_sem]; done) | (simp [go_sem, *]; done))
  have f1_2_1 := hb1.free (b := w.heap.size + 1) (o := 2) (v := .int .i64 (0)) (by first | with_reducible assumption | (simp [go_sem]; done) | (simp [go_sem, *]; done)) (by first | with_reducible assumption | (simp [go_sem]; done) | (simp [go_sem, *]; done))
  have l1_1 := cell_lt c1_0_1
  have K1 := Q1
  clear hb1 Q1
  go_wp2_with fail
  exact bodyPost_ret (v := .tuple #[.agg #[.int .i64 0, .int .i64 0, .int .i64 0], .int .i64 2]) (by simp [results, Tryd.results30, go_sem, c1_0_1, c1_1_1, c1_2_1]) rfl ⟨rfl, by repeat (first | exact Kp.refl _ | with_reducible assumption | with_reducible refine Kp.set ?_ _ _ ?_ | (dsimp only; omega) | with_reducible refine Kp.drew ?_ | with_reducible refine Kp.drewN ?_ _ | with_reducible refine Kp.al ?_ _ | with_reducible refine Kp.trans ?_ (by with_reducible assumption))⟩

theorem rmirror_no1 (s o a s' o' a' : Int) (w : World) (h : ¬ Vp s o a) :
    Calls Tryd.prog 31 #[.agg #[.int .i64 s, .int .i64 o, .int .i64 a], .agg #[.int .i64 s', .int .i64 o', .int .i64 a']] w fun e w' => e = .returned (.tuple #[.agg #[.int .i64 0, .int .i64 0, .int .i64 0], .int .i64 2]) ∧ Kp w w' := by
  have H := Lib.hid h; clear h
  go_enter Tryd.func31, Tryd.ntmps31
  have s1 : w.heap.size ≤ w.heap.size + 1 + 1 := by omega
  go_wp2_with fail
  refine (rnumber_no _ _ _ _ H.out).mono ?_
  rintro e w1 ⟨rfl, hb1⟩
  have Q1 : Kp w w1 := by repeat (first | exact Kp.refl _ | with_reducible assumption | with_reducible refine Kp.set ?_ _ _ ?_ | (dsimp only; omega) | with_reducible refine Kp.drew ?_ | with_reducible refine Kp.drewN ?_ _ | with_reducible refine Kp.al ?_ _ | with_reducible refine Kp.trans ?_ (by with_reducible assumption))
  have c1_0_1 := hb1.get (b := w.heap.size + 1 + 1) (o := 0) (v := .int .i64 (0)) (by first | with_reducible assumption | (simp [go_sem]; done) | (simp [go_sem, *]; done))
  have f1_0_1 := hb1.free (b := w.heap.size + 1 + 1) (o := 0) (v := .int .i64 (0)) (by first | with_reducible assumption | (simp [go_sem]; done) | (simp [go_sem, *]; done)) (by first | with_reducible assumption | (simp [go_sem]; done) | (simp [go_sem, *]; done))
  have c1_1_1 := hb1.get (b := w.heap.size + 1 + 1) (o := 1) (v := .int .i64 (0)) (by first | with_reducible assumption | (simp [go_sem]; done) | (simp [go_sem, *]; done))
  have f1_1_1 := hb1.free (b := w.heap.size + 1 + 1) (o := 1) (v := .int .i64 (0)) (by first | with_reducible assumption | (simp [go_sem]; done) | (simp [go_sem, *]; done)) (by first | with_reducible assumption | (simp [go_sem]; done) | (simp [go_sem, *]; done))
  have c1_2_1 := hb1.get (b := w.heap.size + 1 + 1) (o := 2) (v := .int .i64 (0)) (by first | with_reducible assumption | (simp [go_sem]; done) | (simp [go_sem, *]; done))
  have f1_2_1 := hb1.free (b := w.heap.size + 1 + 1) (o := 2) (v := .int .i64 (0)) (by first | with_reducible assumption | (simp [go_sem]; done) | (simp [go_sem, *]; done)) (by first | with_reducible assumption | (simp [go_sem]; done) | (simp [go_sem, *]; done))
  have l1_1 := cell_lt c1_0_1
  have K1 := Q1
  clear hb1 Q1
  go_wp2_with fail
  exact bodyPost_ret (v := .tuple #[.agg #[.int .i64 0, .int .i64 0, .int .i64 0], .int .i64 2]) (by simp [results, Tryd.results31, go_sem, c1_0_1, c1_1_1, c1_2_1]) rfl ⟨rfl, by repeat (first | exact Kp.refl _ | with_reducible assumption | with_reducible refine Kp.set ?_ _ _ ?_ | (dsimp only; omega) | with_reducible refine Kp.drew ?_ | with_reducible refine Kp.drewN ?_ _ | with_reducible refine Kp.al ?_ _ | with_reducible refine Kp.trans ?_ (by with_reducible assumption))⟩
theorem rmirror_no2 (s o a s' o' a' : Int) (w : World) (h : Vp s o a) (h' : ¬ Vp s' o' a') :
    Calls Tryd.prog 31 #[.agg #[.int .i64 s, .int .i64 o, .int .i64 a], .agg #[.int .i64 s', .int .i64 o', .int .i64 a']] w fun e w' => e = .returned (.tuple #[.agg #[.int .i64 0, .int .i64 0, .int .i64 0], .int .i64 2]) ∧ Kp w w' := by
  obtain ⟨h1, h2, h3, h4, h5, h6⟩ := h
  have H := Lib.hid h'; clear h'
  go_enter Tryd.func31, Tryd.ntmps31
  have s2 : w.heap.size ≤ w.heap.size + 1 + 1 := by omega
  have n2_1 : ¬ w.heap.size + 1 + 1 = w.heap.size + 1 := by omega
  have n1_2 : ¬ w.heap.size + 1 = w.heap.size + 1 + 1 := by omega
  go_wp2_with fail
  refine (rnumber_ok _ _ _ _ h1 h2 h3 h4 h5 h6).mono ?_
  rintro e w1 ⟨rfl, hb1⟩
  have Q1 : Kp w w1 := by repeat (first | exact Kp.refl _ | with_reducible assumption | with_reducible refine Kp.set ?_ _ _ ?_ | (dsimp only; omega) | with_reducible refine Kp.drew ?_ | with_reducible refine Kp.drewN ?_ _ | with_reducible refine Kp.al ?_ _ | with_reducible refine Kp.trans ?_ (by with_reducible assumption))
  have c1_0_1 := hb1.get (b := w.heap.size + 1) (o := 0) (v := .int .i64 (s')) (by first | with_reducible assumption | (simp [go_sem]; done) | (simp [go_sem, *]; done))
  have c1_1_1 := hb1.get (b := w.heap.size + 1) (o := 1) (v := .int .i64 (o')) (by first | with_reducible assumption | (simp [go_sem]; done) | (simp [go_sem, *]; done))
  have c1_2_1 := hb1.get (b := w.heap.size + 1) (o := 2) (v := .int .i64 (a')) (by first | with_reducible assumption | (simp [go_sem]; done) | (simp [go_sem, *]; done))
  have l1_1 := cell_lt c1_0_1
  have c2_0_1 := hb1.get (b := w.heap.size + 1 + 1) (o := 0) (v := .int .i64 (0)) (by first | with_reducible assumption | (simp [go_sem]; done) | (simp [go_sem, *]; done))
  have f2_0_1 := hb1.free (b := w.heap.size + 1 + 1) (o := 0) (v := .int .i64 (0)) (by first | with_reducible assumption | (simp [go_sem]; done) | (simp [go_sem, *]; done)) (by first | with_reducible assumption | (simp [go_sem]; done) | (simp [go_sem, *]; done))
  have c2_1_1 := hb1.get (b := w.heap.size + 1 + 1) (o := 1) (v := .int .i64 (0)) (by first | with_reducible assumption | (simp [go_sem]; done) | (simp [go_sem, *]; done))
  have f2_1_1 := hb1.free (b := w.heap.size + 1 + 1) (o := 1) (v := .int .i64 (0)) (by first | with_reducible assumption | (simp [go_sem]; done) | (simp [go_sem, *]; done)) (by first | with_reducible assumption | (simp [go_sem]; done) | (simp [go_sem, *]; done))
  have c2_2_1 := hb1.get (b := w.heap.size + 1 + 1) (o := 2) (v := .int .i64 (0)) (by first | with_reducible assumption | (simp [go_sem]; done) | (simp [go_sem, *]; done))
  have f2_2_1 := hb1.free (b := w.heap.size + 1 + 1) (o := 2) (v := .int .i64 (0)) (by first | with_reducible assumption | (simp [go_sem]; done) | (simp [go_sem, *]; done)) (by first | with_reducible assumption | (simp [go_sem]; done) | (simp [go_sem, *]; done))
  have l2_1 := cell_lt c2_0_1
  have K1 := Q1
  clear hb1 Q1
  go_wp2_with fail
  refine (rnumber_no _ _ _ _ H.out).mono ?_
  rintro e w2 ⟨rfl, hb2⟩
  have Q2 : Kp w1 w2 := by repeat (first | exact Kp.refl _ | with_reducible assumption | with_reducible refine Kp.set ?_ _ _ ?_ | (dsimp only; omega) | with_reducible refine Kp.drew ?_ | with_reducible refine Kp.drewN ?_ _ | with_reducible refine Kp.al ?_ _ | with_reducible refine Kp.trans ?_ (by with_reducible assumption))
  have c1_0_2 := Q2.get c1_0_1
  have c1_1_2 := Q2.get c1_1_1
  have c1_2_2 := Q2.get c1_2_1
  have l1_2 := cell_lt c1_0_2
  have f2_0_2 := Q2.free c2_0_1 f2_0_1
  have f2_1_2 := Q2.free c2_1_1 f2_1_1
  have f2_2_2 := Q2.free c2_2_1 f2_2_1
  have c2_0_2 := Q2.get c2_0_1
  have c2_1_2 := Q2.get c2_1_1
  have c2_2_2 := Q2.get c2_2_1
  have l2_2 := cell_lt c2_0_2
  have K2 := K1.trans Q2
  clear hb2 c1_0_1 c1_1_1 c1_2_1 l1_1 f2_0_1 f2_1_1 f2_2_1 c2_0_1 c2_1_1 c2_2_1 l2_1 K1 Q2
  go_wp2_with fail
  exact bodyPost_ret (v := .tuple #[.agg #[.int .i64 0, .int .i64 0, .int .i64 0], .int .i64 2]) (by simp [results, Tryd.results31, go_sem, c2_0_2, c2_1_2, c2_2_2]) rfl ⟨rfl, by repeat (first | exact Kp.refl _ | with_reducible assumption | with_reducible refine Kp.set ?_ _ _ ?_ | (dsimp only; omega) | with_reducible refine Kp.drew ?_ | with_reducible refine Kp.drewN ?_ _ | with_reducible refine Kp.al ?_ _ | with_reducible refine Kp.trans ?_ (by with_reducible assumption))⟩
theorem rmirror_gen (s o a s' o' a' x0 x1 x2 er : Int) (w : World) (h1 : 0 ≤ s) (h2 : s ≤ 6) (h3 : 0 ≤ o) (h4 : o ≤ 8) (h5 : -1 ≤ a) (h6 : a ≤ 1)
    (k1 : 0 ≤ s') (k2 : s' ≤ 6) (k3 : 0 ≤ o') (k4 : o' ≤ 8) (k5 : -1 ≤ a') (k6 : a' ≤ 1)
    (C : ∀ w, Calls Tryd.prog 29 #[.int .i64 (2 * (7 * o' + s') - (7 * o + s)), .int .i64 (-a)] w fun e w' => e = .returned (.tuple #[.agg #[.int .i64 x0, .int .i64 x1, .int .i64 x2], .int .i64 er]) ∧ Kp w w') :
    Calls Tryd.prog 31 #[.agg #[.int .i64 s, .int .i64 o, .int .i64 a], .agg #[.int .i64 s', .int .i64 o', .int .i64 a']] w fun e w' => e = .returned (.tuple #[.agg #[.int .i64 x0, .int .i64 x1, .int .i64 x2], .int .i64 er]) ∧ Kp w w' := by
  have HC := Lib.hid C; clear C
  go_enter Tryd.func31, Tryd.ntmps31
  have s3 : w.heap.size ≤ w.heap.size + 1 + 1 := by omega
  have n3_1 : ¬ w.heap.size + 1 + 1 = w.heap.size := by omega
  have n1_3 : ¬ w.heap.size = w.heap.size + 1 + 1 := by omega
  have n3_2 : ¬ w.heap.size + 1 + 1 = w.heap.size + 1 := by omega
  have n2_3 : ¬ w.heap.size + 1 = w.heap.size + 1 + 1 := by omega
  go_wp2_with fail
  refine (rnumber_ok _ _ _ _ h1 h2 h3 h4 h5 h6).mono ?_
  rintro e w1 ⟨rfl, hb1⟩
  have Q1 : Kp w w1 := by repeat (first | exact Kp.refl _ | with_reducible assumption | with_reducible refine Kp.set ?_ _ _ ?_ | (dsimp only; omega) | with_reducible refine Kp.drew ?_ | with_reducible refine Kp.drewN ?_ _ | with_reducible refine Kp.al ?_ _ | with_reducible refine Kp.trans ?_ (by with_reducible assumption))
  have c1_0_1 := hb1.get (b := w.heap.size) (o := 0) (v := .int .i64 (s)) (by first | with_reducible assumption | (simp [go_sem]; done) | (simp [go_sem, *]; done))
  have c1_1_1 := hb1.get (b := w.heap.size) (o := 1) (v := .int .i64 (o)) (by first | with_reducible assumption | (simp [go_sem]; done) | (simp [go_sem, *]; done))
  have c1_2_1 := hb1.get (b := w.heap.size) (o := 2) (v := .int .i64 (a)) (by first | with_reducible assumption | (simp [go_sem]; done) | (simp [go_sem, *]; done))
  have l1_1 := cell_lt c1_0_1
  have c2_0_1 := hb1.get (b := w.heap.size + 1) (o := 0) (v := .int .i64 (s')) (by first | with_reducible assumption | (simp [go_sem]; done) | (simp [go_sem, *]; done))
  have c2_1_1 := hb1.get (b := w.heap.size + 1) (o := 1) (v := .int .i64 (o')) (by first | with_reducible assumption | (simp [go_sem]; done) | (simp [go_sem, *]; done))
  have c2_2_1 := hb1.get (b := w.heap.size + 1) (o := 2) (v := .int .i64 (a')) (by first | with_reducible assumption | (simp [go_sem]; done) | (simp [go_sem, *]; done))
  have l2_1 := cell_lt c2_0_1
  have c3_0_1 := hb1.get (b := w.heap.size + 1 + 1) (o := 0) (v := .int .i64 (0)) (by first | with_reducible assumption | (simp [go_sem]; done) | (simp [go_sem, *]; done))
  have f3_0_1 := hb1.free (b := w.heap.size + 1 + 1) (o := 0) (v := .int .i64 (0)) (by first | with_reducible assumption | (simp [go_sem]; done) | (simp [go_sem, *]; done)) (by first | with_reducible assumption | (simp [go_sem]; done) | (simp [go_sem, *]; done))
  have c3_1_1 := hb1.get (b := w.heap.size + 1 + 1) (o := 1) (v := .int .i64 (0)) (by first | with_reducible assumption | (simp [go_sem]; done) | (simp [go_sem, *]; done))
  have f3_1_1 := hb1.free (b := w.heap.size + 1 + 1) (o := 1) (v := .int .i64 (0)) (by first | with_reducible assumption | (simp [go_sem]; done) | (simp [go_sem, *]; done)) (by first | with_reducible assumption | (simp [go_sem]; done) | (simp [go_sem, *]; done))
  have c3_2_1 := hb1.get (b := w.heap.size + 1 + 1) (o := 2) (v := .int .i64 (0)) (by first | with_reducible assumption | (simp [go_sem]; done) | (simp [go_sem, *]; done))
  have f3_2_1 := hb1.free (b := w.heap.size + 1 + 1) (o := 2) (v := .int .i64 (0)) (by first | with_reducible assumption | (simp [go_sem]; done) | (simp [go_sem, *]; done)) (by first | with_reducible assumption | (simp [go_sem]; done) | (simp [go_sem, *]; done))
  have l3_1 := cell_lt c3_0_1
  have K1 := Q1
  clear hb1 Q1
  go_wp2_with fail
  refine (rnumber_ok _ _ _ _ k1 k2 k3 k4 k5 k6).mono ?_
  rintro e w2 ⟨rfl, hb2⟩
  have Q2 : Kp w1 w2 := by repeat (first | exact Kp.refl _ | with_reducible assumption | with_reducible refine Kp.set ?_ _ _ ?_ | (dsimp only; omega) | with_reducible refine Kp.drew ?_ | with_reducible refine Kp.drewN ?_ _ | with_reducible refine Kp.al ?_ _ | with_reducible refine Kp.trans ?_ (by with_reducible assumption))
  have c1_0_2 := Q2.get c1_0_1
  have c1_1_2 := Q2.get c1_1_1
  have c1_2_2 := Q2.get c1_2_1
  have l1_2 := cell_lt c1_0_2
  have c2_0_2 := Q2.get c2_0_1
  have c2_1_2 := Q2.get c2_1_1
  have c2_2_2 := Q2.get c2_2_1
  have l2_2 := cell_lt c2_0_2
  have f3_0_2 := Q2.free c3_0_1 f3_0_1
  have f3_1_2 := Q2.free c3_1_1 f3_1_1
  have f3_2_2 := Q2.free c3_2_1 f3_2_1
  have c3_0_2 := Q2.get c3_0_1
  have c3_1_2 := Q2.get c3_1_1
  have c3_2_2 := Q2.get c3_2_1
  have l3_2 := cell_lt c3_0_2
  have K2 := K1.trans Q2
  clear hb2 c1_0_1 c1_1_1 c1_2_1 l1_1 c2_0_1 c2_1_1 c2_2_1 l2_1 f3_0_1 f3_1_1 f3_2_1 c3_0_1 c3_1_1 c3_2_1 l3_1 K1 Q2
  go_wp2_with fail
  refine (HC.out _).mono ?_
  rintro e w3 ⟨rfl, hb3⟩
  have Q3 : Kp w2 w3 := by repeat (first | exact Kp.refl _ | with_reducible assumption | with_reducible refine Kp.set ?_ _ _ ?_ | (dsimp only; omega) | with_reducible refine Kp.drew ?_ | with_reducible refine Kp.drewN ?_ _ | with_reducible refine Kp.al ?_ _ | with_reducible refine Kp.trans ?_ (by with_reducible assumption))
  have c1_0_3 := Q3.get c1_0_2
  have c1_1_3 := Q3.get c1_1_2
  have c1_2_3 := Q3.get c1_2_2
  have l1_3 := cell_lt c1_0_3
  have c2_0_3 := Q3.get c2_0_2
  have c2_1_3 := Q3.get c2_1_2
  have c2_2_3 := Q3.get c2_2_2
  have l2_3 := cell_lt c2_0_3
  have f3_0_3 := Q3.free c3_0_2 f3_0_2
  have f3_1_3 := Q3.free c3_1_2 f3_1_2
  have f3_2_3 := Q3.free c3_2_2 f3_2_2
  have c3_0_3 := Q3.get c3_0_2
  have c3_1_3 := Q3.get c3_1_2
  have c3_2_3 := Q3.get c3_2_2
  have l3_3 := cell_lt c3_0_3
  have K3 := K2.trans Q3
  clear hb3 c1_0_2 c1_1_2 c1_2_2 l1_2 c2_0_2 c2_1_2 c2_2_2 l2_2 f3_0_2 f3_1_2 f3_2_2 c3_0_2 c3_1_2 c3_2_2 l3_2 K2 Q3
  go_wp2_with fail
  exact bodyPost_ret (v := .tuple #[.agg #[.int .i64 x0, .int .i64 x1, .int .i64 x2], .int .i64 er]) (by simp [results, Tryd.results31, go_sem, c3_0_3, c3_1_3, c3_2_3]) rfl ⟨rfl, by repeat (first | exact Kp.refl _ | with_reducible assumption | with_reducible refine Kp.set ?_ _ _ ?_ | (dsimp only; omega) | with_reducible refine Kp.drew ?_ | with_reducible refine Kp.drewN ?_ _ | with_reducible refine Kp.al ?_ _ | with_reducible refine Kp.trans ?_ (by with_reducible assumption))⟩
set_option maxHeartbeats 2000000 in
theorem rheight_ok (s o a : Int) (w : World) (h1 : 0 ≤ s) (h2 : s ≤ 6) (h3 : 0 ≤ o) (h4 : o ≤ 8) (h5 : -1 ≤ a) (h6 : a ≤ 1) :
    Calls Tryd.prog 26 #[.agg #[.int .i64 s, .int .i64 o, .int .i64 a]] w fun e w' => e = .returned (.tuple #[.int .i64 (ht s o a), .int .i64 0]) ∧ Kp w w' := by
  have e0 : 12 * o + a = ht 0 o a := by simp [ht, halfOf]
  have E0 := Lib.hid e0
  clear e0
  have hs : s = 0 ∨ s = 1 ∨ s = 2 ∨ s = 3 ∨ s = 4 ∨ s = 5 ∨ s = 6 := by omega
  rcases hs with rfl | rfl | rfl | rfl | rfl | rfl | rfl
  all_goals
    go_enter Tryd.func26, Tryd.ntmps26
    go_wp2_with fail
    refine (rcheck_ok _ _ _ _ h1 h2 h3 h4 h5 h6).mono ?_
    rintro e w1 ⟨rfl, hb1⟩
    obtain ⟨hc1, hf1⟩ := hb1.cells
    have z1 := hb1.lt
    go_wp2_with fail
    go_region
    all_goals
      go_wp2_with fail
      go_ret2
      refine ⟨?_, by repeat (first | exact Kp.refl _ | with_reducible assumption | with_reducible refine Kp.set ?_ _ _ ?_ | (dsimp only; omega) | with_reducible refine Kp.drew ?_ | with_reducible refine Kp.drewN ?_ _ | with_reducible refine Kp.al ?_ _ | with_reducible refine Kp.trans ?_ (by with_reducible assumption))⟩
      first | rfl | exact congrArg (fun z => Ending.returned (.tuple #[.int .i64 z, .int .i64 0])) E0.out
theorem rheight_no (s o a : Int) (w : World) (h : ¬ Vp s o a) :
    Calls Tryd.prog 26 #[.agg #[.int .i64 s, .int .i64 o, .int .i64 a]] w fun e w' => e = .returned (.tuple #[.int .i64 0, .int .i64 2]) ∧ Kp w w' := by
  have H := Lib.hid h; clear h
  go_enter Tryd.func26, Tryd.ntmps26
  go_wp2_with fail
  refine (rcheck_no _ _ _ _ H.out).mono ?_
  rintro e w1 ⟨rfl, hb1⟩
  have Q1 : Kp w w1 := by repeat (first | exact Kp.refl _ | with_reducible assumption | with_reducible refine Kp.set ?_ _ _ ?_ | (dsimp only; omega) | with_reducible refine Kp.drew ?_ | with_reducible refine Kp.drewN ?_ _ | with_reducible refine Kp.al ?_ _ | with_reducible refine Kp.trans ?_ (by with_reducible assumption))
  have K1 := Q1
  clear hb1 Q1
  go_wp2_with fail
  go_ret2
  exact ⟨rfl, by repeat (first | exact Kp.refl _ | with_reducible assumption | with_reducible refine Kp.set ?_ _ _ ?_ | (dsimp only; omega) | with_reducible refine Kp.drew ?_ | with_reducible refine Kp.drewN ?_ _ | with_reducible refine Kp.al ?_ _ | with_reducible refine Kp.trans ?_ (by with_reducible assumption))⟩
end Go.Proofs.YtmmpjajjebljpaaDoor
