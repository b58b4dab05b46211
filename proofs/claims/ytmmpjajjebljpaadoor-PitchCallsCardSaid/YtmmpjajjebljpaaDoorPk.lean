/- The walks of PitchBack and PitchMoves. -/
import Derived.Test.YtmmpjajjebljpaaDoorPj
namespace Go.Proofs.YtmmpjajjebljpaaDoor
open Go.RowKit

theorem back_walk (n : Int) (w : World) (ht0 : Tab w) :
    Calls Tryd.prog 5 #[.int .i64 n] w fun e w' => e = .returned (.bool true) ∧ Kp w w' := by
  obtain ⟨s, o, a, ⟨a1, a2, a3, a4, a5, a6⟩, ca⟩ := kpitch_ex n
  have CA := Lib.hid ca; have HT := Lib.hid ht0
  clear ca ht0
  go_enter Tryd.func5, Tryd.ntmps5
  go_wp2_with fail
  refine (CA.out _).mono ?_
  rintro e w1 ⟨rfl, hb1⟩
  go_wp2_with fail
  refine (number_ok _ _ _ _ a1 a2 a3 a4 a5 a6).mono ?_
  rintro e w2 ⟨rfl, hb2⟩
  have K2 := (hb1.al _).trans hb2
  have px := hb2.get (b := w1.heap.size) (o := 0) (v := .int .i64 (s)) (by first | with_reducible assumption | (simp [go_sem]; done) | (simp [go_sem, *]; done)); have py := hb2.get (b := w1.heap.size) (o := 1) (v := .int .i64 (o)) (by first | with_reducible assumption | (simp [go_sem]; done) | (simp [go_sem, *]; done)); have pz := hb2.get (b := w1.heap.size) (o := 2) (v := .int .i64 (a)) (by first | with_reducible assumption | (simp [go_sem]; done) | (simp [go_sem, *]; done)); have pl := cell_lt px
  clear hb1 hb2
  go_wp2_with fail
  refine (Of_ok _ _ _ (by omega) (by omega) a5 a6).mono ?_
  have e1 : (7 * o + s) / 7 = o := by omega
  have e2 : (7 * o + s) % 7 = s := by omega
  rw [e1, e2]
  clear e1 e2
  rintro e w3 ⟨rfl, hb3⟩
  have K3 := K2.trans hb3
  have p'x := hb3.get (b := w1.heap.size) (o := 0) (v := .int .i64 (s)) (by first | with_reducible assumption | (simp [go_sem]; done) | (simp [go_sem, *]; done)); have p'y := hb3.get (b := w1.heap.size) (o := 1) (v := .int .i64 (o)) (by first | with_reducible assumption | (simp [go_sem]; done) | (simp [go_sem, *]; done)); have p'z := hb3.get (b := w1.heap.size) (o := 2) (v := .int .i64 (a)) (by first | with_reducible assumption | (simp [go_sem]; done) | (simp [go_sem, *]; done)); have p'l := cell_lt p'x
  clear hb3 px py pz pl K2
  go_wp2_with fail
  refine (ptext_ok _ _ _ _ a1 a2 a3 a4 a5 a6).mono ?_
  rintro e w4 ⟨rfl, hb4⟩
  have K4 := (K3.al _).trans hb4
  have qx := hb4.get (b := w3.heap.size) (o := 0) (v := .int .i64 (s)) (by first | with_reducible assumption | (simp [go_sem]; done) | (simp [go_sem, *]; done)); have qy := hb4.get (b := w3.heap.size) (o := 1) (v := .int .i64 (o)) (by first | with_reducible assumption | (simp [go_sem]; done) | (simp [go_sem, *]; done)); have qz := hb4.get (b := w3.heap.size) (o := 2) (v := .int .i64 (a)) (by first | with_reducible assumption | (simp [go_sem]; done) | (simp [go_sem, *]; done)); have ql := cell_lt qx
  have hb4' := ((Kp.refl w3).al _).trans hb4
  have px := hb4'.get (b := w1.heap.size) (o := 0) (v := .int .i64 (s)) (by first | with_reducible assumption | (simp [go_sem]; done) | (simp [go_sem, *]; done)); have py := hb4'.get (b := w1.heap.size) (o := 1) (v := .int .i64 (o)) (by first | with_reducible assumption | (simp [go_sem]; done) | (simp [go_sem, *]; done)); have pz := hb4'.get (b := w1.heap.size) (o := 2) (v := .int .i64 (a)) (by first | with_reducible assumption | (simp [go_sem]; done) | (simp [go_sem, *]; done)); have pl := cell_lt px
  clear hb4 hb4' p'x p'y p'z p'l K3
  go_wp2_with fail
  refine (parse_ok _ _ _ _ a1 a2 a3 a4 a5 a6).mono ?_
  rintro e w5 ⟨rfl, hb5⟩
  have K5 := K4.trans hb5
  have q'x := hb5.get (b := w3.heap.size) (o := 0) (v := .int .i64 (s)) (by first | with_reducible assumption | (simp [go_sem]; done) | (simp [go_sem, *]; done)); have q'y := hb5.get (b := w3.heap.size) (o := 1) (v := .int .i64 (o)) (by first | with_reducible assumption | (simp [go_sem]; done) | (simp [go_sem, *]; done)); have q'z := hb5.get (b := w3.heap.size) (o := 2) (v := .int .i64 (a)) (by first | with_reducible assumption | (simp [go_sem]; done) | (simp [go_sem, *]; done)); have q'l := cell_lt q'x
  have p'x := hb5.get (b := w1.heap.size) (o := 0) (v := .int .i64 (s)) (by first | with_reducible assumption | (simp [go_sem]; done) | (simp [go_sem, *]; done)); have p'y := hb5.get (b := w1.heap.size) (o := 1) (v := .int .i64 (o)) (by first | with_reducible assumption | (simp [go_sem]; done) | (simp [go_sem, *]; done)); have p'z := hb5.get (b := w1.heap.size) (o := 2) (v := .int .i64 (a)) (by first | with_reducible assumption | (simp [go_sem]; done) | (simp [go_sem, *]; done)); have p'l := cell_lt p'x
  clear hb5 px py pz pl qx qy qz ql K4
  go_wp2_with fail
  refine (awake_ok _ (HT.out.below (by repeat (first | exact Kp.refl _ | with_reducible assumption | with_reducible refine Kp.set ?_ _ _ ?_ | (dsimp only; omega) | with_reducible refine Kp.drew ?_ | with_reducible refine Kp.drewN ?_ _ | with_reducible refine Kp.al ?_ _ | with_reducible refine Kp.trans ?_ (by with_reducible assumption))))).mono ?_
  rintro e w7 ⟨rfl, hb7⟩
  go_wp2_with fail
  go_ret
  exact ⟨rfl, by repeat (first | exact Kp.refl _ | with_reducible assumption | with_reducible refine Kp.set ?_ _ _ ?_ | (dsimp only; omega) | with_reducible refine Kp.drew ?_ | with_reducible refine Kp.drewN ?_ _ | with_reducible refine Kp.al ?_ _ | with_reducible refine Kp.trans ?_ (by with_reducible assumption))⟩

theorem move_to (s o a n s' o' : Int) (w : World) (h1 : 0 ≤ s) (h2 : s ≤ 6) (h3 : 0 ≤ o) (h4 : o ≤ 8) (h5 : -1 ≤ a) (h6 : a ≤ 1) (k1 : 0 ≤ s') (k2 : s' ≤ 6) (k3 : 0 ≤ o') (k4 : o' ≤ 8) (e : 7 * o' + s' = 7 * o + s + n) :
    Calls Tryd.prog 21 #[.agg #[.int .i64 s, .int .i64 o, .int .i64 a], .int .i64 n] w fun e w' => e = .returned (.tuple #[.agg #[.int .i64 s', .int .i64 o', .int .i64 a], .int .i64 0]) ∧ Kp w w' := by
  have H := move_ok s o a n w h1 h2 h3 h4 h5 h6 (by omega) (by omega)
  have e1 : (7 * o + s + n) % 7 = s' := by omega
  have e2 : (7 * o + s + n) / 7 = o' := by omega
  rwa [e1, e2] at H
theorem at_num (n : Int) (h1 : 0 ≤ n) (h2 : n ≤ 62) : ∃ s o : Int, 0 ≤ s ∧ s ≤ 6 ∧ 0 ≤ o ∧ o ≤ 8 ∧ 7 * o + s = n := ⟨n % 7, n / 7, by omega, by omega, by omega, by omega, by omega⟩

theorem moves_walk (n x y : Int) (w : World) (ht0 : Tab w) :
    Calls Tryd.prog 7 #[.int .i64 n, .int .i64 x, .int .i64 y] w fun e w' => e = .returned (.bool true) ∧ Kp w w' := by
  obtain ⟨s, o, a, ⟨a1, a2, a3, a4, a5, a6⟩, ca⟩ := kpitch_ex n
  obtain ⟨A, eA⟩ : ∃ A : Int, A = x % 41 := ⟨_, rfl⟩
  obtain ⟨B, eB⟩ : ∃ B : Int, B = y % 41 := ⟨_, rfl⟩
  have mA := fun w => mod_any x 41 w (by omega) (by omega)
  have mB := fun w => mod_any y 41 w (by omega) (by omega)
  rw [← eA] at mA
  rw [← eB] at mB
  have x1 : 0 ≤ A := by omega
  have x2 : A ≤ 40 := by omega
  have y1 : 0 ≤ B := by omega
  have y2 : B ≤ 40 := by omega
  clear eA eB
  have CA := Lib.hid ca; have HT := Lib.hid ht0; have MA := Lib.hid mA; have MB := Lib.hid mB
  clear ca ht0 mA mB
  by_cases hin : 0 ≤ 7 * o + s + (A - 20) ∧ 7 * o + s + (A - 20) ≤ 62
  · obtain ⟨s1, o1, b1, b2, b3, b4, eq1⟩ := at_num _ hin.1 hin.2
    have E1 := Lib.hid eq1
    clear eq1 hin
    have fin : (∃ s2 o2 a2 e2 : Int, ∀ w, Calls Tryd.prog 21 #[.agg #[.int .i64 s1, .int .i64 o1, .int .i64 a], .int .i64 (B - 20)] w (fun e w' => e = .returned (.tuple #[.agg #[.int .i64 s2, .int .i64 o2, .int .i64 a2], .int .i64 e2]) ∧ Kp w w') ∧
        Calls Tryd.prog 21 #[.agg #[.int .i64 s, .int .i64 o, .int .i64 a], .int .i64 (A - 20 + (B - 20))] w (fun e w' => e = .returned (.tuple #[.agg #[.int .i64 s2, .int .i64 o2, .int .i64 a2], .int .i64 e2]) ∧ Kp w w')) := by
      have eq1 := E1.out
      by_cases hin : 0 ≤ 7 * o1 + s1 + (B - 20) ∧ 7 * o1 + s1 + (B - 20) ≤ 62
      · obtain ⟨s2, o2, c1, c2, c3, c4, eq2⟩ := at_num _ hin.1 hin.2
        exact ⟨s2, o2, a, 0, fun w => ⟨move_to _ _ _ _ _ _ w b1 b2 b3 b4 a5 a6 c1 c2 c3 c4 eq2, move_to _ _ _ _ _ _ w a1 a2 a3 a4 a5 a6 c1 c2 c3 c4 (by omega)⟩⟩
      · exact ⟨0, 0, 0, 2, fun w => ⟨move_out _ _ _ _ w b1 b2 b3 b4 a5 a6 (by omega) (by omega) (by omega), move_out _ _ _ _ w a1 a2 a3 a4 a5 a6 (by omega) (by omega) (by omega)⟩⟩
    obtain ⟨s2, o2, al, e2, fin⟩ := fin
    have FIN := Lib.hid fin
    clear fin
    go_enter Tryd.func7, Tryd.ntmps7
    go_wp2_with fail
    refine (CA.out _).mono ?_
    rintro e w1 ⟨rfl, hb1⟩
    go_wp2_with fail
    refine (MA.out _).mono ?_
    rintro e w2 ⟨rfl, rfl⟩
    go_wp2_with fail
    refine (MB.out _).mono ?_
    rintro e w3 ⟨rfl, rfl⟩
    go_wp2_with fail
    refine (move_to _ _ _ _ s1 o1 _ a1 a2 a3 a4 a5 a6 b1 b2 b3 b4 E1.out).mono ?_
    rintro e w4 ⟨rfl, hb4⟩
    have K4 := (hb1.al _).trans hb4
    have px := hb4.get (b := w1.heap.size) (o := 0) (v := .int .i64 (s)) (by first | with_reducible assumption | (simp [go_sem]; done) | (simp [go_sem, *]; done)); have py := hb4.get (b := w1.heap.size) (o := 1) (v := .int .i64 (o)) (by first | with_reducible assumption | (simp [go_sem]; done) | (simp [go_sem, *]; done)); have pz := hb4.get (b := w1.heap.size) (o := 2) (v := .int .i64 (a)) (by first | with_reducible assumption | (simp [go_sem]; done) | (simp [go_sem, *]; done)); have pl := cell_lt px
    clear hb1 hb4
    go_wp2_with fail
    refine (move_to _ _ _ _ s o _ b1 b2 b3 b4 a5 a6 a1 a2 a3 a4 (by have := E1.out; omega)).mono ?_
    rintro e w5 ⟨rfl, hb5⟩
    have K5 := (K4.al _).trans hb5
    have qx := hb5.get (b := w4.heap.size) (o := 0) (v := .int .i64 (s1)) (by first | with_reducible assumption | (simp [go_sem]; done) | (simp [go_sem, *]; done)); have qy := hb5.get (b := w4.heap.size) (o := 1) (v := .int .i64 (o1)) (by first | with_reducible assumption | (simp [go_sem]; done) | (simp [go_sem, *]; done)); have qz := hb5.get (b := w4.heap.size) (o := 2) (v := .int .i64 (a)) (by first | with_reducible assumption | (simp [go_sem]; done) | (simp [go_sem, *]; done)); have ql := cell_lt qx
    have K45 := ((Kp.refl w4).al _).trans hb5
    have p'x := K45.get (b := w1.heap.size) (o := 0) (v := .int .i64 (s)) (by first | with_reducible assumption | (simp [go_sem]; done) | (simp [go_sem, *]; done)); have p'y := K45.get (b := w1.heap.size) (o := 1) (v := .int .i64 (o)) (by first | with_reducible assumption | (simp [go_sem]; done) | (simp [go_sem, *]; done)); have p'z := K45.get (b := w1.heap.size) (o := 2) (v := .int .i64 (a)) (by first | with_reducible assumption | (simp [go_sem]; done) | (simp [go_sem, *]; done)); have p'l := cell_lt p'x
    clear hb5 K45 px py pz pl K4
    go_wp2_with fail
    refine (FIN.out _).1.mono ?_
    rintro e w6 ⟨rfl, hb6⟩
    have K6 := (K5.al _).trans hb6
    have K56 := ((Kp.refl w5).al _).trans hb6
    have px := K56.get (b := w1.heap.size) (o := 0) (v := .int .i64 (s)) (by first | with_reducible assumption | (simp [go_sem]; done) | (simp [go_sem, *]; done)); have py := K56.get (b := w1.heap.size) (o := 1) (v := .int .i64 (o)) (by first | with_reducible assumption | (simp [go_sem]; done) | (simp [go_sem, *]; done)); have pz := K56.get (b := w1.heap.size) (o := 2) (v := .int .i64 (a)) (by first | with_reducible assumption | (simp [go_sem]; done) | (simp [go_sem, *]; done)); have pl := cell_lt px
    clear hb6 K56 p'x p'y p'z p'l K5 qx qy qz ql
    go_wp2_with fail
    refine (FIN.out _).2.mono ?_
    rintro e w7 ⟨rfl, hb7⟩
    have K7 := (K6.al _).trans hb7
    have rx := hb7.get (b := w6.heap.size) (o := 0) (v := .int .i64 (s2)) (by first | with_reducible assumption | (simp [go_sem]; done) | (simp [go_sem, *]; done)); have ry := hb7.get (b := w6.heap.size) (o := 1) (v := .int .i64 (o2)) (by first | with_reducible assumption | (simp [go_sem]; done) | (simp [go_sem, *]; done)); have rz := hb7.get (b := w6.heap.size) (o := 2) (v := .int .i64 (al)) (by first | with_reducible assumption | (simp [go_sem]; done) | (simp [go_sem, *]; done)); have rl := cell_lt rx
    clear hb7 K6
    go_wp2_with fail
    refine (awake_ok _ (HT.out.below (by repeat (first | exact Kp.refl _ | with_reducible assumption | with_reducible refine Kp.set ?_ _ _ ?_ | (dsimp only; omega) | with_reducible refine Kp.drew ?_ | with_reducible refine Kp.drewN ?_ _ | with_reducible refine Kp.al ?_ _ | with_reducible refine Kp.trans ?_ (by with_reducible assumption))))).mono ?_
    rintro e w8 ⟨rfl, hb8⟩
    go_wp2_with fail
    go_ret
    exact ⟨rfl, by repeat (first | exact Kp.refl _ | with_reducible assumption | with_reducible refine Kp.set ?_ _ _ ?_ | (dsimp only; omega) | with_reducible refine Kp.drew ?_ | with_reducible refine Kp.drewN ?_ _ | with_reducible refine Kp.al ?_ _ | with_reducible refine Kp.trans ?_ (by with_reducible assumption))⟩
  · have H := Lib.hid hin
    clear hin
    go_enter Tryd.func7, Tryd.ntmps7
    go_wp2_with fail
    refine (CA.out _).mono ?_
    rintro e w1 ⟨rfl, hb1⟩
    go_wp2_with fail
    refine (MA.out _).mono ?_
    rintro e w2 ⟨rfl, rfl⟩
    go_wp2_with fail
    refine (MB.out _).mono ?_
    rintro e w3 ⟨rfl, rfl⟩
    go_wp2_with fail
    refine (move_out _ _ _ _ _ a1 a2 a3 a4 a5 a6 (by omega) (by omega) (by have := H.out; omega)).mono ?_
    rintro e w4 ⟨rfl, hb4⟩
    go_wp2_with fail
    refine (awake_ok _ (HT.out.below (by repeat (first | exact Kp.refl _ | with_reducible assumption | with_reducible refine Kp.set ?_ _ _ ?_ | (dsimp only; omega) | with_reducible refine Kp.drew ?_ | with_reducible refine Kp.drewN ?_ _ | with_reducible refine Kp.al ?_ _ | with_reducible refine Kp.trans ?_ (by with_reducible assumption))))).mono ?_
    rintro e w5 ⟨rfl, hb5⟩
    go_wp2_with fail
    go_ret
    exact ⟨rfl, by repeat (first | exact Kp.refl _ | with_reducible assumption | with_reducible refine Kp.set ?_ _ _ ?_ | (dsimp only; omega) | with_reducible refine Kp.drew ?_ | with_reducible refine Kp.drewN ?_ _ | with_reducible refine Kp.al ?_ _ | with_reducible refine Kp.trans ?_ (by with_reducible assumption))⟩
end Go.Proofs.YtmmpjajjebljpaaDoor
