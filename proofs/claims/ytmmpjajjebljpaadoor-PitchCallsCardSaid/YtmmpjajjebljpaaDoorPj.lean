/- The walks of PitchAdds, PitchBack. -/
import Derived.Test.YtmmpjajjebljpaaDoorPi
namespace Go.Proofs.YtmmpjajjebljpaaDoor
open Go.RowKit

/-- tactuskit.Pitch gives a valid pitch. -/
theorem kpitch_ex (n : Int) : ∃ s o a : Int, (0 ≤ s ∧ s ≤ 6 ∧ 0 ≤ o ∧ o ≤ 8 ∧ -1 ≤ a ∧ a ≤ 1) ∧ ∀ w : World,
    Calls Tryd.prog 15 #[.int .i64 n] w fun e w' => e = .returned (.agg #[.int .i64 s, .int .i64 o, .int .i64 a]) ∧ Kp w w' :=
  ⟨_, _, _, by omega, fun w => kpitch_any n w⟩

theorem ht_bd (s o a : Int) (_h1 : 0 ≤ s) (_h2 : s ≤ 6) (h3 : 0 ≤ o) (h4 : o ≤ 8) (h5 : -1 ≤ a) (h6 : a ≤ 1) : -1 ≤ ht s o a ∧ ht s o a ≤ 200 := by
  unfold ht halfOf; omega

theorem adds_walk (n m k : Int) (w : World) (ht0 : Tab w) :
    Calls Tryd.prog 4 #[.int .i64 n, .int .i64 m, .int .i64 k] w fun e w' => e = .returned (.bool true) ∧ Kp w w' := by
  obtain ⟨s, o, a, ⟨a1, a2, a3, a4, a5, a6⟩, ca⟩ := kpitch_ex n
  obtain ⟨s', o', a', ⟨b1, b2, b3, b4, b5, b6⟩, cb⟩ := kpitch_ex m
  obtain ⟨s'', o'', a'', ⟨c1, c2, c3, c4, c5, c6⟩, cc⟩ := kpitch_ex k
  have CA := Lib.hid ca; have CB := Lib.hid cb; have CC := Lib.hid cc; have HT := Lib.hid ht0
  clear ca cb cc ht0
  go_enter Tryd.func4, Tryd.ntmps4
  go_wp2_with fail
  refine (CA.out _).mono ?_
  rintro e w1 ⟨rfl, hb1⟩
  go_wp2_with fail
  refine (CB.out _).mono ?_
  rintro e w2 ⟨rfl, hb2⟩
  go_wp2_with fail
  refine (CC.out _).mono ?_
  rintro e w3 ⟨rfl, hb3⟩
  have K3 : Kp w w3 := by repeat (first | exact Kp.refl _ | with_reducible assumption | with_reducible refine Kp.set ?_ _ _ ?_ | (dsimp only; omega) | with_reducible refine Kp.drew ?_ | with_reducible refine Kp.drewN ?_ _ | with_reducible refine Kp.al ?_ _ | with_reducible refine Kp.trans ?_ (by with_reducible assumption))
  clear hb1 hb2 hb3
  go_wp2_with fail
  refine (between_ok _ _ _ _ _ _ _ (HT.out.below (by repeat (first | exact Kp.refl _ | with_reducible assumption | with_reducible refine Kp.set ?_ _ _ ?_ | (dsimp only; omega) | with_reducible refine Kp.drew ?_ | with_reducible refine Kp.drewN ?_ _ | with_reducible refine Kp.al ?_ _ | with_reducible refine Kp.trans ?_ (by with_reducible assumption)))) a1 a2 a3 a4 a5 a6 b1 b2 b3 b4 b5 b6).mono ?_
  rintro e w4 ⟨rfl, hb4⟩
  have K4 : Kp w w4 := by repeat (first | exact Kp.refl _ | with_reducible assumption | with_reducible refine Kp.set ?_ _ _ ?_ | (dsimp only; omega) | with_reducible refine Kp.drew ?_ | with_reducible refine Kp.drewN ?_ _ | with_reducible refine Kp.al ?_ _ | with_reducible refine Kp.trans ?_ (by with_reducible assumption))
  have px := hb4.get (b := w3.heap.size) (o := 0) (v := .int .i64 (s)) (by first | with_reducible assumption | (simp [go_sem]; done) | (simp [go_sem, *]; done)); have py := hb4.get (b := w3.heap.size) (o := 1) (v := .int .i64 (o)) (by first | with_reducible assumption | (simp [go_sem]; done) | (simp [go_sem, *]; done)); have pz := hb4.get (b := w3.heap.size) (o := 2) (v := .int .i64 (a)) (by first | with_reducible assumption | (simp [go_sem]; done) | (simp [go_sem, *]; done)); have pl := cell_lt px
  have qx := hb4.get (b := w3.heap.size + 1) (o := 0) (v := .int .i64 (s')) (by first | with_reducible assumption | (simp [go_sem]; done) | (simp [go_sem, *]; done)); have qy := hb4.get (b := w3.heap.size + 1) (o := 1) (v := .int .i64 (o')) (by first | with_reducible assumption | (simp [go_sem]; done) | (simp [go_sem, *]; done)); have qz := hb4.get (b := w3.heap.size + 1) (o := 2) (v := .int .i64 (a')) (by first | with_reducible assumption | (simp [go_sem]; done) | (simp [go_sem, *]; done)); have ql := cell_lt qx
  have rx := hb4.get (b := w3.heap.size + 1 + 1) (o := 0) (v := .int .i64 (s'')) (by first | with_reducible assumption | (simp [go_sem]; done) | (simp [go_sem, *]; done)); have ry := hb4.get (b := w3.heap.size + 1 + 1) (o := 1) (v := .int .i64 (o'')) (by first | with_reducible assumption | (simp [go_sem]; done) | (simp [go_sem, *]; done)); have rz := hb4.get (b := w3.heap.size + 1 + 1) (o := 2) (v := .int .i64 (a'')) (by first | with_reducible assumption | (simp [go_sem]; done) | (simp [go_sem, *]; done)); have rl := cell_lt rx
  clear hb4 K3
  go_wp2_with fail
  refine (between_ok _ _ _ _ _ _ _ (HT.out.below (by repeat (first | exact Kp.refl _ | with_reducible assumption | with_reducible refine Kp.set ?_ _ _ ?_ | (dsimp only; omega) | with_reducible refine Kp.drew ?_ | with_reducible refine Kp.drewN ?_ _ | with_reducible refine Kp.al ?_ _ | with_reducible refine Kp.trans ?_ (by with_reducible assumption)))) b1 b2 b3 b4 b5 b6 c1 c2 c3 c4 c5 c6).mono ?_
  rintro e w5 ⟨rfl, hb5⟩
  have K45 := ((Kp.refl w4).al _).trans hb5
  have K5 := K4.trans K45
  have p'x := K45.get (b := w3.heap.size) (o := 0) (v := .int .i64 (s)) (by first | with_reducible assumption | (simp [go_sem]; done) | (simp [go_sem, *]; done)); have p'y := K45.get (b := w3.heap.size) (o := 1) (v := .int .i64 (o)) (by first | with_reducible assumption | (simp [go_sem]; done) | (simp [go_sem, *]; done)); have p'z := K45.get (b := w3.heap.size) (o := 2) (v := .int .i64 (a)) (by first | with_reducible assumption | (simp [go_sem]; done) | (simp [go_sem, *]; done)); have p'l := cell_lt p'x
  have r'x := K45.get (b := w3.heap.size + 1 + 1) (o := 0) (v := .int .i64 (s'')) (by first | with_reducible assumption | (simp [go_sem]; done) | (simp [go_sem, *]; done)); have r'y := K45.get (b := w3.heap.size + 1 + 1) (o := 1) (v := .int .i64 (o'')) (by first | with_reducible assumption | (simp [go_sem]; done) | (simp [go_sem, *]; done)); have r'z := K45.get (b := w3.heap.size + 1 + 1) (o := 2) (v := .int .i64 (a'')) (by first | with_reducible assumption | (simp [go_sem]; done) | (simp [go_sem, *]; done)); have r'l := cell_lt r'x
  have xx := hb5.get (b := w4.heap.size) (o := 0) (v := .int .i64 (7 * o' + s' - (7 * o + s))) (by first | with_reducible assumption | (simp [go_sem]; done) | (simp [go_sem, *]; done)); have xy := hb5.get (b := w4.heap.size) (o := 1) (v := .int .i64 (ht s' o' a' - ht s o a)) (by first | with_reducible assumption | (simp [go_sem]; done) | (simp [go_sem, *]; done)); have xl := cell_lt xx
  clear px py pz qx qy qz rx ry rz hb5 K4 K45
  go_wp2_with fail
  refine (between_ok _ _ _ _ _ _ _ (HT.out.below (by repeat (first | exact Kp.refl _ | with_reducible assumption | with_reducible refine Kp.set ?_ _ _ ?_ | (dsimp only; omega) | with_reducible refine Kp.drew ?_ | with_reducible refine Kp.drewN ?_ _ | with_reducible refine Kp.al ?_ _ | with_reducible refine Kp.trans ?_ (by with_reducible assumption)))) a1 a2 a3 a4 a5 a6 c1 c2 c3 c4 c5 c6).mono ?_
  rintro e w6 ⟨rfl, hb6⟩
  have K56 := ((Kp.refl w5).al _).trans hb6
  have K6 := K5.trans K56
  have x'x := K56.get (b := w4.heap.size) (o := 0) (v := .int .i64 (7 * o' + s' - (7 * o + s))) (by first | with_reducible assumption | (simp [go_sem]; done) | (simp [go_sem, *]; done)); have x'y := K56.get (b := w4.heap.size) (o := 1) (v := .int .i64 (ht s' o' a' - ht s o a)) (by first | with_reducible assumption | (simp [go_sem]; done) | (simp [go_sem, *]; done)); have x'l := cell_lt x'x
  have y'x := hb6.get (b := w5.heap.size) (o := 0) (v := .int .i64 (7 * o'' + s'' - (7 * o' + s'))) (by first | with_reducible assumption | (simp [go_sem]; done) | (simp [go_sem, *]; done)); have y'y := hb6.get (b := w5.heap.size) (o := 1) (v := .int .i64 (ht s'' o'' a'' - ht s' o' a')) (by first | with_reducible assumption | (simp [go_sem]; done) | (simp [go_sem, *]; done)); have y'l := cell_lt y'x
  clear p'x p'y p'z r'x r'y r'z xx xy hb6 K5 K56
  obtain ⟨u1, u2⟩ := ht_bd s o a a1 a2 a3 a4 a5 a6
  obtain ⟨u3, u4⟩ := ht_bd s' o' a' b1 b2 b3 b4 b5 b6
  obtain ⟨u5, u6⟩ := ht_bd s'' o'' a'' c1 c2 c3 c4 c5 c6
  go_wp2_with fail
  refine (awake_ok _ (HT.out.below (by repeat (first | exact Kp.refl _ | with_reducible assumption | with_reducible refine Kp.set ?_ _ _ ?_ | (dsimp only; omega) | with_reducible refine Kp.drew ?_ | with_reducible refine Kp.drewN ?_ _ | with_reducible refine Kp.al ?_ _ | with_reducible refine Kp.trans ?_ (by with_reducible assumption))))).mono ?_
  rintro e w7 ⟨rfl, hb7⟩
  go_wp2_with fail
  go_ret
  exact ⟨rfl, by repeat (first | exact Kp.refl _ | with_reducible assumption | with_reducible refine Kp.set ?_ _ _ ?_ | (dsimp only; omega) | with_reducible refine Kp.drew ?_ | with_reducible refine Kp.drewN ?_ _ | with_reducible refine Kp.al ?_ _ | with_reducible refine Kp.trans ?_ (by with_reducible assumption))⟩
end Go.Proofs.YtmmpjajjebljpaaDoor
