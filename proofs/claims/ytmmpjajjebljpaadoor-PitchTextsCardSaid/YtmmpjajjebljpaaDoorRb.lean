/- Contracts of tactusref03: Between. -/
import Derived.Test.YtmmpjajjebljpaaDoorRa
import Derived.Test.YtmmpjajjebljpaaDoorPj
namespace Go.Proofs.YtmmpjajjebljpaaDoor
open Go.RowKit

theorem rbetween_ok (s o a s' o' a' : Int) (w : World) (h1 : 0 ≤ s) (h2 : s ≤ 6) (h3 : 0 ≤ o) (h4 : o ≤ 8) (h5 : -1 ≤ a) (h6 : a ≤ 1)
    (k1 : 0 ≤ s') (k2 : s' ≤ 6) (k3 : 0 ≤ o') (k4 : o' ≤ 8) (k5 : -1 ≤ a') (k6 : a' ≤ 1) :
    Calls Tryd.prog 32 #[.agg #[.int .i64 s, .int .i64 o, .int .i64 a], .agg #[.int .i64 s', .int .i64 o', .int .i64 a']] w fun e w' => e = .returned (.tuple #[.agg #[.int .i64 (7 * o' + s' - (7 * o + s)), .int .i64 (ht s' o' a' - ht s o a)], .int .i64 0]) ∧ Kp w w' := by
  obtain ⟨u1, u2⟩ := ht_bd s o a h1 h2 h3 h4 h5 h6
  obtain ⟨u3, u4⟩ := ht_bd s' o' a' k1 k2 k3 k4 k5 k6
  go_enter Tryd.func32, Tryd.ntmps32
  have s3 : w.heap.size ≤ w.heap.size + 1 + 1 := by omega
  have n3_1 : ¬ w.heap.size + 1 + 1 = w.heap.size := by omega
  have n1_3 : ¬ w.heap.size = w.heap.size + 1 + 1 := by omega
  have n3_2 : ¬ w.heap.size + 1 + 1 = w.heap.size + 1 := by omega
  have n2_3 : ¬ w.heap.size + 1 = w.heap.size + 1 + 1 := by omega
  go_wp2_with fail
  refine (rnumber_ok _ _ _ _ h1 h2 h3 h4 h5 h6).mono ?_
  rintro e w1 ⟨rfl, hb1⟩
  have Q1 : Kp w w1 := by repeat (first | exact Kp.refl _ | with_reducible assumption | with_reducible refine Kp.set ?_ _ _ ?_ | (dsimp only; omega) | with_reducible refine Kp.drew ?_ | with_reducible refine Kp.drewN ?_ _ | with_reducible refine Kp.al ?_ _ | with_reducible refine Kp.trans ?_ (by with_reducible assumption))
  have c1_0_1 := hb1.get (b := w.heap.size) (o := 0) (v := .int .i64 (s)) (by first | with_reducible assumption | (simp [go_sem]; done) | (simp [go_sem, *]; done))
  have c1_1_1 := hb1.get (b := w.heap.size) (o := 1) (v := .int .i64 (o)) (by first | with_reducible assumption | (simp [go_sem]; done) | (simp [go_sem, *]; done))
  have c1_2_1 := hb1.get (b := w.heap.size) (o := 2) (v := .int .i64 (a)) (by first | with_reducible assumption | (simp [go_sem]; done) | (simp [go_sem, *]; done))
  have l1_1 := cell_lt c1_0_1
  have c2_0_1 := hb1.get (b := w.heap.size + 1) (o := 0) (v := .int .i64 (s')) (by first | with_reducible assumption | (simp [go_sem]; done) | (simp [go_sem, *]; done))
  have c2_1_1 := hb1.get (b := w.heap.size + 1) (o := 1) (v := .int .i64 (o')) (by first | with_reducible assumption | (simp [go_sem]; done) | (simp [go_sem, *]; done))
  have c2_2_1 := hb1.get (b := w.heap.size + 1) (o := 2) (v := .int .i64 (a')) (by first | with_reducible assumption | (simp [go_sem]; done) | (simp [go_sem, *]; done))
  have l2_1 := cell_lt c2_0_1
  have c3_0_1 := hb1.get (b := w.heap.size + 1 + 1) (o := 0) (v := .int .i64 (0)) (by first | with_reducible assumption | (simp [go_sem]; done) | (simp [go_sem, *]; done))
  have f3_0_1 := hb1.free (b := w.heap.size + 1 + 1) (o := 0) (v := .int .i64 (0)) (by first | with_reducible assumption | (simp [go_sem]; done) | (simp [go_sem, *]; done)) (by first | with_reducible assumption | (simp [go_sem]; done) | (simp [go_sem, *]; done))
  have c3_1_1 := hb1.get (b := w.heap.size + 1 + 1) (o := 1) (v := .int .i64 (0)) (by first | with_reducible assumption | (simp [go_sem]; done) | (simp [go_sem, *]; done))
  have f3_1_1 := hb1.free (b := w.heap.size + 1 + 1) (o := 1) (v := .int .i64 (0)) (by first | with_reducible assumption | (simp [go_sem]; done) | (simp [go_sem, *]; done)) (by first | with_reducible assumption | (simp [go_sem]; done) | (simp [go_sem, *]; done))
  have l3_1 := cell_lt c3_0_1
  have K1 := Q1
  clear hb1 Q1
  go_wp2_with fail
  refine (rnumber_ok _ _ _ _ k1 k2 k3 k4 k5 k6).mono ?_
  rintro e w2 ⟨rfl, hb2⟩
  have Q2 : Kp w1 w2 := by repeat (first | exact Kp.refl _ | with_reducible assumption | with_reducible refine Kp.set ?_ _ _ ?_ | (dsimp only; omega) | with_reducible refine Kp.drew ?_ | with_reducible refine Kp.drewN ?_ _ | with_reducible refine Kp.al ?_ _ | with_reducible refine Kp.trans ?_ (by with_reducible assumption))
  have c1_0_2 := Q2.get c1_0_1
  have c1_1_2 := Q2.get c1_1_1
  have c1_2_2 := Q2.get c1_2_1
  have l1_2 := cell_lt c1_0_2
  have c2_0_2 := Q2.get c2_0_1
  have c2_1_2 := Q2.get c2_1_1
  have c2_2_2 := Q2.get c2_2_1
  have l2_2 := cell_lt c2_0_2
  have f3_0_2 := Q2.free c3_0_1 f3_0_1
  have f3_1_2 := Q2.free c3_1_1 f3_1_1
  have c3_0_2 := Q2.get c3_0_1
  have c3_1_2 := Q2.get c3_1_1
  have l3_2 := cell_lt c3_0_2
  have K2 := K1.trans Q2
  clear hb2 c1_0_1 c1_1_1 c1_2_1 l1_1 c2_0_1 c2_1_1 c2_2_1 l2_1 f3_0_1 f3_1_1 c3_0_1 c3_1_1 l3_1 K1 Q2
  go_wp2_with fail
  refine (rheight_ok _ _ _ _ h1 h2 h3 h4 h5 h6).mono ?_
  rintro e w3 ⟨rfl, hb3⟩
  have Q3 : Kp w2 w3 := by repeat (first | exact Kp.refl _ | with_reducible assumption | with_reducible refine Kp.set ?_ _ _ ?_ | (dsimp only; omega) | with_reducible refine Kp.drew ?_ | with_reducible refine Kp.drewN ?_ _ | with_reducible refine Kp.al ?_ _ | with_reducible refine Kp.trans ?_ (by with_reducible assumption))
  have c1_0_3 := Q3.get c1_0_2
  have c1_1_3 := Q3.get c1_1_2
  have c1_2_3 := Q3.get c1_2_2
  have l1_3 := cell_lt c1_0_3
  have c2_0_3 := Q3.get c2_0_2
  have c2_1_3 := Q3.get c2_1_2
  have c2_2_3 := Q3.get c2_2_2
  have l2_3 := cell_lt c2_0_3
  have f3_0_3 := Q3.free c3_0_2 f3_0_2
  have f3_1_3 := Q3.free c3_1_2 f3_1_2
  have c3_0_3 := Q3.get c3_0_2
  have c3_1_3 := Q3.get c3_1_2
  have l3_3 := cell_lt c3_0_3
  have K3 := K2.trans Q3
  clear hb3 c1_0_2 c1_1_2 c1_2_2 l1_2 c2_0_2 c2_1_2 c2_2_2 l2_2 f3_0_2 f3_1_2 c3_0_2 c3_1_2 l3_2 K2 Q3
  go_wp2_with fail
  refine (rheight_ok _ _ _ _ k1 k2 k3 k4 k5 k6).mono ?_
  rintro e w4 ⟨rfl, hb4⟩
  have Q4 : Kp w3 w4 := by repeat (first | exact Kp.refl _ | with_reducible assumption | with_reducible refine Kp.set ?_ _ _ ?_ | (dsimp only; omega) | with_reducible refine Kp.drew ?_ | with_reducible refine Kp.drewN ?_ _ | with_reducible refine Kp.al ?_ _ | with_reducible refine Kp.trans ?_ (by with_reducible assumption))
  have c1_0_4 := Q4.get c1_0_3
  have c1_1_4 := Q4.get c1_1_3
  have c1_2_4 := Q4.get c1_2_3
  have l1_4 := cell_lt c1_0_4
  have c2_0_4 := Q4.get c2_0_3
  have c2_1_4 := Q4.get c2_1_3
  have c2_2_4 := Q4.get c2_2_3
  have l2_4 := cell_lt c2_0_4
  have f3_0_4 := Q4.free c3_0_3 f3_0_3
  have f3_1_4 := Q4.free c3_1_3 f3_1_3
  have c3_0_4 := Q4.get c3_0_3
  have c3_1_4 := Q4.get c3_1_3
  have l3_4 := cell_lt c3_0_4
  have K4 := K3.trans Q4
  clear hb4 c1_0_3 c1_1_3 c1_2_3 l1_3 c2_0_3 c2_1_3 c2_2_3 l2_3 f3_0_3 f3_1_3 c3_0_3 c3_1_3 l3_3 K3 Q4
  go_wp2_with fail
  exact bodyPost_ret (v := .tuple #[.agg #[.int .i64 (7 * o' + s' - (7 * o + s)), .int .i64 (ht s' o' a' - ht s o a)], .int .i64 0]) (by simp [results, Tryd.results32, go_sem, c3_0_4, c3_1_4]) rfl ⟨rfl, by repeat (first | exact Kp.refl _ | with_reducible assumption | with_reducible refine Kp.set ?_ _ _ ?_ | (dsimp only; omega) | with_reducible refine Kp.drew ?_ | with_reducible refine Kp.drewN ?_ _ | with_reducible refine Kp.al ?_ _ | with_reducible refine Kp.trans ?_ (by with_reducible assumption))⟩
theorem rbetween_no1 (s o a s' o' a' : Int) (w : World) (h : ¬ Vp s o a) :
    Calls Tryd.prog 32 #[.agg #[.int .i64 s, .int .i64 o, .int .i64 a], .agg #[.int .i64 s', .int .i64 o', .int .i64 a']] w fun e w' => e = .returned (.tuple #[.agg #[.int .i64 0, .int .i64 0], .int .i64 2]) ∧ Kp w w' := by
  have H := Lib.hid h; clear h
  go_enter Tryd.func32, Tryd.ntmps32
  have s1 : w.heap.size ≤ w.heap.size + 1 + 1 := by omega
  go_wp2_with fail
  refine (rnumber_no _ _ _ _ H.out).mono ?_
  rintro e w1 ⟨rfl, hb1⟩
  have Q1 : Kp w w1 := by repeat (first | exact Kp.refl _ | with_reducible assumption | with_reducible refine Kp.set ?_ _ _ ?_ | (dsimp only; omega) | with_reducible refine Kp.drew ?_ | with_reducible refine Kp.drewN ?_ _ | with_reducible refine Kp.al ?_ _ | with_reducible refine Kp.trans ?_ (by with_reducible assumption))
  have c1_0_1 := hb1.get (b := w.heap.size + 1 + 1) (o := 0) (v := .int .i64 (0)) (by first | with_reducible assumption | (simp [go_sem]; done) | (simp [go_sem, *]; done))
  have f1_0_1 := hb1.free (b := w.heap.size + 1 + 1) (o := 0) (v := .int .i64 (0)) (by first | with_reducible assumption | (simp [go_sem]; done) | (simp [go_sem, *]; done)) (by first | with_reducible assumption | (simp [go_sem]; done) | (simp [go_sem, *]; done))
  have c1_1_1 := hb1.get (b := w.heap.size + 1 + 1) (o := 1) (v := .int .i64 (0)) (by first | with_reducible assumption | (simp [go_sem]; done) | (simp [go_sem, *]; done))
  have f1_1_1 := hb1.free (b := w.heap.size + 1 + 1) (o := 1) (v := .int .i64 (0)) (by first | with_reducible assumption | (simp [go_sem]; done) | (simp [go_sem, *]; done)) (by first | with_reducible assumption | (simp [go_sem]; done) | (simp [go_sem, *]; done))
  have l1_1 := cell_lt c1_0_1
  have K1 := Q1
  clear hb1 Q1
  go_wp2_with fail
  exact bodyPost_ret (v := .tuple #[.agg #[.int .i64 0, .int .i64 0], .int .i64 2]) (by simp [results, Tryd.results32, go_sem, c1_0_1, c1_1_1]) rfl ⟨rfl, by repeat (first | exact Kp.refl _ | with_reducible assumption | with_reducible refine Kp.set ?_ _ _ ?_ | (dsimp only; omega) | with_reducible refine Kp.drew ?_ | with_reducible refine Kp.drewN ?_ _ | with_reducible refine Kp.al ?_ _ | with_reducible refine Kp.trans ?_ (by with_reducible assumption))⟩
theorem rbetween_no2 (s o a s' o' a' : Int) (w : World) (h : Vp s o a) (h' : ¬ Vp s' o' a') :
    Calls Tryd.prog 32 #[.agg #[.int .i64 s, .int .i64 o, .int .i64 a], .agg #[.int .i64 s', .int .i64 o', .int .i64 a']] w fun e w' => e = .returned (.tuple #[.agg #[.int .i64 0, .int .i64 0], .int .i64 2]) ∧ Kp w w' := by
  obtain ⟨h1, h2, h3, h4, h5, h6⟩ := h
  have H := Lib.hid h'; clear h'
  go_enter Tryd.func32, Tryd.ntmps32
  have s2 : w.heap.size ≤ w.heap.size + 1 + 1 := by omega
  have n2_1 : ¬ w.heap.size + 1 + 1 = w.heap.size + 1 := by omega
  have n1_2 : ¬ w.heap.size + 1 = w.heap.size + 1 + 1 := by omega
  go_wp2_with fail
  refine (rnumber_ok _ _ _ _ h1 h2 h3 h4 h5 h6).mono ?_
  rintro e w1 ⟨rfl, hb1⟩
  have Q1 : Kp w w1 := by repeat (first | exact Kp.refl _ | with_reducible assumption | with_reducible refine Kp.set ?_ _ _ ?_ | (dsimp only; omega) | with_reducible refine Kp.drew ?_ | with_reducible refine Kp.drewN ?_ _ | with_reducible refine Kp.al ?_ _ | with_reducible refine Kp.trans ?_ (by with_reducible assumption))
  have c1_0_1 := hb1.get (b := w.heap.size + 1) (o := 0) (v := .int .i64 (s')) (by first | with_reducible assumption | (simp [go_sem]; done) | (simp [go_sem, *]; done))
  have c1_1_1 := hb1.get (b := w.heap.size + 1) (o := 1) (v := .int .i64 (o')) (by first | with_reducible assumption | (simp [go_sem]; done) | (simp [go_sem, *]; done))
  have c1_2_1 := hb1.get (b := w.heap.size + 1) (o := 2) (v := .int .i64 (a')) (by first | with_reducible assumption | (simp [go_sem]; done) | (simp [go_sem, *]; done))
  have l1_1 := cell_lt c1_0_1
  have c2_0_1 := hb1.get (b := w.heap.size + 1 + 1) (o := 0) (v := .int .i64 (0)) (by first | with_reducible assumption | (simp [go_sem]; done) | (simp [go_sem, *]; done))
  have f2_0_1 := hb1.free (b := w.heap.size + 1 + 1) (o := 0) (v := .int .i64 (0)) (by first | with_reducible assumption | (simp [go_sem]; done) | (simp [go_sem, *]; done)) (by first | with_reducible assumption | (simp [go_sem]; done) | (simp [go_sem, *]; done))
  have c2_1_1 := hb1.get (b := w.heap.size + 1 + 1) (o := 1) (v := .int .i64 (0)) (by first | with_reducible assumption | (simp [go_sem]; done) | (simp [go_sem, *]; done))
  have f2_1_1 := hb1.free (b := w.heap.size + 1 + 1) (o := 1) (v := .int .i64 (0)) (by first | with_reducible assumption | (simp [go_sem]; done) | (simp [go_sem, *]; done)) (by first | with_reducible assumption | (simp [go_sem]; done) | (simp [go_sem, *]; done))
  have l2_1 := cell_lt c2_0_1
  have K1 := Q1
  clear hb1 Q1
  go_wp2_with fail
  refine (rnumber_no _ _ _ _ H.out).mono ?_
  rintro e w2 ⟨rfl, hb2⟩
  have Q2 : Kp w1 w2 := by repeat (first | exact Kp.refl _ | with_reducible assumption | with_reducible refine Kp.set ?_ _ _ ?_ | (dsimp only; omega) | with_reducible refine Kp.drew ?_ | with_reducible refine Kp.drewN ?_ _ | with_reducible refine Kp.al ?_ _ | with_reducible refine Kp.trans ?_ (by with_reducible assumption))
  have c1_0_2 := Q2.get c1_0_1
  have c1_1_2 := Q2.get c1_1_1
  have c1_2_2 := Q2.get c1_2_1
  have l1_2 := cell_lt c1_0_2
  have f2_0_2 := Q2.free c2_0_1 f2_0_1
  have f2_1_2 := Q2.free c2_1_1 f2_1_1
  have c2_0_2 := Q2.get c2_0_1
  have c2_1_2 := Q2.get c2_1_1
  have l2_2 := cell_lt c2_0_2
  have K2 := K1.trans Q2
  clear hb2 c1_0_1 c1_1_1 c1_2_1 l1_1 f2_0_1 f2_1_1 c2_0_1 c2_1_1 l2_1 K1 Q2
  go_wp2_with fail
  exact bodyPost_ret (v := .tuple #[.agg #[.int .i64 0, .int .i64 0], .int .i64 2]) (by simp [results, Tryd.results32, go_sem, c2_0_2, c2_1_2]) rfl ⟨rfl, by repeat (first | exact Kp.refl _ | with_reducible assumption | with_reducible refine Kp.set ?_ _ _ ?_ | (dsimp only; omega) | with_reducible refine Kp.drew ?_ | with_reducible refine Kp.drewN ?_ _ | with_reducible refine Kp.al ?_ _ | with_reducible refine Kp.trans ?_ (by with_reducible assumption))⟩
end Go.Proofs.YtmmpjajjebljpaaDoor
