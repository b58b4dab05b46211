/- The walk of PitchTexts. -/
import Derived.Test.YtmmpjajjebljpaaDoorRe
import Derived.Test.YtmmpjajjebljpaaDoorPi
namespace Go.Proofs.YtmmpjajjebljpaaDoor
open Go.RowKit

theorem texts_same (s o a : Int) : ∃ (t : ByteArray) (er : Int), ∀ w : World,
    (Calls Tryd.prog 11 #[.agg #[.int .i64 s, .int .i64 o, .int .i64 a]] w fun e w' => e = .returned (.tuple #[.string t, .int .i64 er]) ∧ Kp w w') ∧
    (Calls Tryd.prog 12 #[.agg #[.int .i64 s, .int .i64 o, .int .i64 a]] w fun e w' => e = .returned (.tuple #[.string t, .int .i64 er]) ∧ Kp w w') := by
  by_cases h : Vp s o a
  · obtain ⟨h1, h2, h3, h4, h5, h6⟩ := h
    exact ⟨_, _, fun w => ⟨ptext_ok s o a w h1 h2 h3 h4 h5 h6, rtext_ok s o a w h1 h2 h3 h4 h5 h6⟩⟩
  · exact ⟨_, _, fun w => ⟨ptext_no s o a w h, rtext_no s o a w h⟩⟩
theorem parses_same (b : ByteArray) (hb : b.size ≤ maxLen) : ∃ x y z er : Int, ∀ w : World,
    (Calls Tryd.prog 13 #[.string b] w fun e w' => e = .returned (.tuple #[.agg #[.int .i64 x, .int .i64 y, .int .i64 z], .int .i64 er]) ∧ Kp w w') ∧
    (Calls Tryd.prog 14 #[.string b] w fun e w' => e = .returned (.tuple #[.agg #[.int .i64 x, .int .i64 y, .int .i64 z], .int .i64 er]) ∧ Kp w w') := by
  by_cases h : NoText b
  · exact ⟨_, _, _, _, fun w => ⟨parse_no b w hb h, rparse_no b w h⟩⟩
  · have : ∃ s o a : Int, 0 ≤ s ∧ s ≤ 6 ∧ 0 ≤ o ∧ o ≤ 8 ∧ -1 ≤ a ∧ a ≤ 1 ∧ b = ptx s o a := by
      apply Classical.byContradiction
      intro hn
      exact h fun s o a h1 h2 h3 h4 h5 h6 e => hn ⟨s, o, a, h1, h2, h3, h4, h5, h6, e⟩
    obtain ⟨s, o, a, h1, h2, h3, h4, h5, h6, rfl⟩ := this
    exact ⟨_, _, _, _, fun w => ⟨parse_ok s o a w h1 h2 h3 h4 h5 h6, rparse_ok s o a w h1 h2 h3 h4 h5 h6⟩⟩

theorem texts_walk (s o a : Int) (b : ByteArray) (w : World) (ht0 : Tab w) (hb : b.size ≤ maxLen) :
    Calls Tryd.prog 3 #[.agg #[.int .i64 s, .int .i64 o, .int .i64 a], .string b] w fun e w' => e = .returned (.bool true) ∧ Kp w w' := by
  obtain ⟨t, er, ct⟩ := texts_same s o a
  obtain ⟨x, y, z, fr, cp⟩ := parses_same b hb
  have CT := Lib.hid ct; have CP := Lib.hid cp; have HT := Lib.hid ht0
  clear ct cp ht0
  unfold maxLen at hb
  by_cases hl : b.size ≤ 100
  · go_enter Tryd.func3, Tryd.ntmps3
    go_wp2_with fail
    refine ((CT.out _).1).mono ?_
    rintro e w1 ⟨rfl, hb1⟩
    have Q1 : Kp w w1 := by repeat (first | exact Kp.refl _ | with_reducible assumption | with_reducible refine Kp.set ?_ _ _ ?_ | (dsimp only; omega) | with_reducible refine Kp.drew ?_ | with_reducible refine Kp.drewN ?_ _ | with_reducible refine Kp.al ?_ _ | with_reducible refine Kp.trans ?_ (by with_reducible assumption))
    have c1_0_1 := hb1.get (b := w.heap.size) (o := 0) (v := .int .i64 (s)) (by first | with_reducible assumption | (simp [go_sem]; done) | (simp [go_sem, *]; done))
    have c1_1_1 := hb1.get (b := w.heap.size) (o := 1) (v := .int .i64 (o)) (by first | with_reducible assumption | (simp [go_sem]; done) | (simp [go_sem, *]; done))
    have c1_2_1 := hb1.get (b := w.heap.size) (o := 2) (v := .int .i64 (a)) (by first | with_reducible assumption | (simp [go_sem]; done) | (simp [go_sem, *]; done))
    have l1_1 := cell_lt c1_0_1
    have K1 := Q1
    clear hb1 Q1
    go_wp2_with fail
    refine ((CT.out _).2).mono ?_
    rintro e w2 ⟨rfl, hb2⟩
    have Q2 : Kp w1 w2 := by repeat (first | exact Kp.refl _ | with_reducible assumption | with_reducible refine Kp.set ?_ _ _ ?_ | (dsimp only; omega) | with_reducible refine Kp.drew ?_ | with_reducible refine Kp.drewN ?_ _ | with_reducible refine Kp.al ?_ _ | with_reducible refine Kp.trans ?_ (by with_reducible assumption))
    have c1_0_2 := Q2.get c1_0_1
    have c1_1_2 := Q2.get c1_1_1
    have c1_2_2 := Q2.get c1_2_1
    have l1_2 := cell_lt c1_0_2
    have K2 := K1.trans Q2
    clear hb2 c1_0_1 c1_1_1 c1_2_1 l1_1 K1 Q2
    go_wp2_with fail
    refine ((CP.out _).1).mono ?_
    rintro e w3 ⟨rfl, hb3⟩
    have Q3 : Kp w2 w3 := by repeat (first | exact Kp.refl _ | with_reducible assumption | with_reducible refine Kp.set ?_ _ _ ?_ | (dsimp only; omega) | with_reducible refine Kp.drew ?_ | with_reducible refine Kp.drewN ?_ _ | with_reducible refine Kp.al ?_ _ | with_reducible refine Kp.trans ?_ (by with_reducible assumption))
    have c1_0_3 := Q3.get c1_0_2
    have c1_1_3 := Q3.get c1_1_2
    have c1_2_3 := Q3.get c1_2_2
    have l1_3 := cell_lt c1_0_3
    have K3 := K2.trans Q3
    clear hb3 c1_0_2 c1_1_2 c1_2_2 l1_2 K2 Q3
    go_wp2_with fail
    refine ((CP.out _).2).mono ?_
    rintro e w4 ⟨rfl, hb4⟩
    have Q4 : Kp w3 w4 := by repeat (first | exact Kp.refl _ | with_reducible assumption | with_reducible refine Kp.set ?_ _ _ ?_ | (dsimp only; omega) | with_reducible refine Kp.drew ?_ | with_reducible refine Kp.drewN ?_ _ | with_reducible refine Kp.al ?_ _ | with_reducible refine Kp.trans ?_ (by with_reducible assumption))
    have c2_0_4 := hb4.get (b := w3.heap.size) (o := 0) (v := .int .i64 (x)) (by first | with_reducible assumption | (simp [go_sem]; done) | (simp [go_sem, *]; done))
    have c2_1_4 := hb4.get (b := w3.heap.size) (o := 1) (v := .int .i64 (y)) (by first | with_reducible assumption | (simp [go_sem]; done) | (simp [go_sem, *]; done))
    have c2_2_4 := hb4.get (b := w3.heap.size) (o := 2) (v := .int .i64 (z)) (by first | with_reducible assumption | (simp [go_sem]; done) | (simp [go_sem, *]; done))
    have l2_4 := cell_lt c2_0_4
    have c1_0_4 := Q4.get c1_0_3
    have c1_1_4 := Q4.get c1_1_3
    have c1_2_4 := Q4.get c1_2_3
    have l1_4 := cell_lt c1_0_4
    have K4 := K3.trans Q4
    clear hb4 c1_0_3 c1_1_3 c1_2_3 l1_3 K3 Q4
    go_wp2_with fail
    refine (awake_ok _ (HT.out.below (by repeat (first | exact Kp.refl _ | with_reducible assumption | with_reducible refine Kp.set ?_ _ _ ?_ | (dsimp only; omega) | with_reducible refine Kp.drew ?_ | with_reducible refine Kp.drewN ?_ _ | with_reducible refine Kp.al ?_ _ | with_reducible refine Kp.trans ?_ (by with_reducible assumption))))).mono ?_
    rintro e w5 ⟨rfl, hb5⟩
    have Q5 : Kp w4 w5 := by repeat (first | exact Kp.refl _ | with_reducible assumption | with_reducible refine Kp.set ?_ _ _ ?_ | (dsimp only; omega) | with_reducible refine Kp.drew ?_ | with_reducible refine Kp.drewN ?_ _ | with_reducible refine Kp.al ?_ _ | with_reducible refine Kp.trans ?_ (by with_reducible assumption))
    have c3_0_5 := hb5.get (b := w4.heap.size) (o := 0) (v := .int .i64 (x)) (by first | with_reducible assumption | (simp [go_sem]; done) | (simp [go_sem, *]; done))
    have c3_1_5 := hb5.get (b := w4.heap.size) (o := 1) (v := .int .i64 (y)) (by first | with_reducible assumption | (simp [go_sem]; done) | (simp [go_sem, *]; done))
    have c3_2_5 := hb5.get (b := w4.heap.size) (o := 2) (v := .int .i64 (z)) (by first | with_reducible assumption | (simp [go_sem]; done) | (simp [go_sem, *]; done))
    have l3_5 := cell_lt c3_0_5
    have c1_0_5 := Q5.get c1_0_4
    have c1_1_5 := Q5.get c1_1_4
    have c1_2_5 := Q5.get c1_2_4
    have l1_5 := cell_lt c1_0_5
    have c2_0_5 := Q5.get c2_0_4
    have c2_1_5 := Q5.get c2_1_4
    have c2_2_5 := Q5.get c2_2_4
    have l2_5 := cell_lt c2_0_5
    have K5 := K4.trans Q5
    clear hb5 c1_0_4 c1_1_4 c1_2_4 l1_4 c2_0_4 c2_1_4 c2_2_4 l2_4 K4 Q5
    go_wp2_with fail
    go_ret
    exact ⟨rfl, by repeat (first | exact Kp.refl _ | with_reducible assumption | with_reducible refine Kp.set ?_ _ _ ?_ | (dsimp only; omega) | with_reducible refine Kp.drew ?_ | with_reducible refine Kp.drewN ?_ _ | with_reducible refine Kp.al ?_ _ | with_reducible refine Kp.trans ?_ (by with_reducible assumption))⟩
  · go_enter Tryd.func3, Tryd.ntmps3
    go_wp2_with fail
    refine (awake_ok _ (HT.out.below (by repeat (first | exact Kp.refl _ | with_reducible assumption | with_reducible refine Kp.set ?_ _ _ ?_ | (dsimp only; omega) | with_reducible refine Kp.drew ?_ | with_reducible refine Kp.drewN ?_ _ | with_reducible refine Kp.al ?_ _ | with_reducible refine Kp.trans ?_ (by with_reducible assumption))))).mono ?_
    rintro e w1 ⟨rfl, hb1⟩
    have Q1 : Kp w w1 := by repeat (first | exact Kp.refl _ | with_reducible assumption | with_reducible refine Kp.set ?_ _ _ ?_ | (dsimp only; omega) | with_reducible refine Kp.drew ?_ | with_reducible refine Kp.drewN ?_ _ | with_reducible refine Kp.al ?_ _ | with_reducible refine Kp.trans ?_ (by with_reducible assumption))
    have K1 := Q1
    clear hb1 Q1
    go_wp2_with fail
    go_ret
    exact ⟨rfl, by repeat (first | exact Kp.refl _ | with_reducible assumption | with_reducible refine Kp.set ?_ _ _ ?_ | (dsimp only; omega) | with_reducible refine Kp.drew ?_ | with_reducible refine Kp.drewN ?_ _ | with_reducible refine Kp.al ?_ _ | with_reducible refine Kp.trans ?_ (by with_reducible assumption))⟩
end Go.Proofs.YtmmpjajjebljpaaDoor
