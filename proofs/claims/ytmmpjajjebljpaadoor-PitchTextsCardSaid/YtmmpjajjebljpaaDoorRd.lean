/- Contract of tactusref03.Text. -/
import Derived.Test.YtmmpjajjebljpaaDoorRc
namespace Go.Proofs.YtmmpjajjebljpaaDoor
open Go.RowKit

set_option maxHeartbeats 4000000 in
theorem rtext_nat (s o : Nat) (w : World) (h2 : s ≤ 6) (h4 : o ≤ 8) :
    Calls Tryd.prog 12 #[.agg #[.int .i64 (s : Int), .int .i64 (o : Int), .int .i64 (0)]] w fun e w' => e = .returned (.tuple #[.string (ptx s o (0)), .int .i64 0]) ∧ Kp w w' := by
  have d1 := sl_letters s h2
  have d2 := sl_digits o h4
  have d3 := fun w => cat1 s ⟨#[]⟩ (by decide) w
  have d4 := fun w => cat2 s ⟨#[]⟩ o (by decide) w
  have E := Lib.hid (tx_is s o (0) ⟨#[]⟩ (by simp))
  go_enter Tryd.func12, Tryd.ntmps12
  go_wp2_with fail
  refine (rcheck_ok _ _ _ _ (by omega) (by omega) (by omega) (by omega) (by omega) (by omega)).mono ?_
  rintro e w1 ⟨rfl, hb1⟩
  have Q1 : Kp w w1 := by repeat (first | exact Kp.refl _ | with_reducible assumption | with_reducible refine Kp.set ?_ _ _ ?_ | (dsimp only; omega) | with_reducible refine Kp.drew ?_ | with_reducible refine Kp.drewN ?_ _ | with_reducible refine Kp.al ?_ _ | with_reducible refine Kp.trans ?_ (by with_reducible assumption))
  have c1_0_1 := hb1.get (b := w.heap.size) (o := 0) (v := .int .i64 ((s : Int))) (by first | with_reducible assumption | (simp [go_sem]; done) | (simp [go_sem, *]; done))
  have c1_1_1 := hb1.get (b := w.heap.size) (o := 1) (v := .int .i64 ((o : Int))) (by first | with_reducible assumption | (simp [go_sem]; done) | (simp [go_sem, *]; done))
  have c1_2_1 := hb1.get (b := w.heap.size) (o := 2) (v := .int .i64 (0)) (by first | with_reducible assumption | (simp [go_sem]; done) | (simp [go_sem, *]; done))
  have l1_1 := cell_lt c1_0_1
  have K1 := Q1
  clear hb1 Q1
  go_wp2_with fail
  obtain ⟨W, hW⟩ : ∃ W : World, W = w1 := ⟨_, rfl⟩
  subst hW
  go_region
  go_wp2_with fail
  go_ret2
  exact ⟨congrArg (fun z => Ending.returned (.tuple #[.string z, .int .i64 0])) E.out, by repeat (first | exact Kp.refl _ | with_reducible assumption | with_reducible refine Kp.set ?_ _ _ ?_ | (dsimp only; omega) | with_reducible refine Kp.drew ?_ | with_reducible refine Kp.drewN ?_ _ | with_reducible refine Kp.al ?_ _ | with_reducible refine Kp.trans ?_ (by with_reducible assumption))⟩

set_option maxHeartbeats 4000000 in
theorem rtext_sharp (s o : Nat) (w : World) (h2 : s ≤ 6) (h4 : o ≤ 8) :
    Calls Tryd.prog 12 #[.agg #[.int .i64 (s : Int), .int .i64 (o : Int), .int .i64 (1)]] w fun e w' => e = .returned (.tuple #[.string (ptx s o (1)), .int .i64 0]) ∧ Kp w w' := by
  have d1 := sl_letters s h2
  have d2 := sl_digits o h4
  have d3 := fun w => cat1 s ⟨#[35]⟩ (by decide) w
  have d4 := fun w => cat2 s ⟨#[35]⟩ o (by decide) w
  have E := Lib.hid (tx_is s o (1) ⟨#[35]⟩ (by simp))
  go_enter Tryd.func12, Tryd.ntmps12
  go_wp2_with fail
  refine (rcheck_ok _ _ _ _ (by omega) (by omega) (by omega) (by omega) (by omega) (by omega)).mono ?_
  rintro e w1 ⟨rfl, hb1⟩
  have Q1 : Kp w w1 := by repeat (first | exact Kp.refl _ | with_reducible assumption | with_reducible refine Kp.set ?_ _ _ ?_ | (dsimp only; omega) | with_reducible refine Kp.drew ?_ | with_reducible refine Kp.drewN ?_ _ | with_reducible refine Kp.al ?_ _ | with_reducible refine Kp.trans ?_ (by with_reducible assumption))
  have c1_0_1 := hb1.get (b := w.heap.size) (o := 0) (v := .int .i64 ((s : Int))) (by first | with_reducible assumption | (simp [go_sem]; done) | (simp [go_sem, *]; done))
  have c1_1_1 := hb1.get (b := w.heap.size) (o := 1) (v := .int .i64 ((o : Int))) (by first | with_reducible assumption | (simp [go_sem]; done) | (simp [go_sem, *]; done))
  have c1_2_1 := hb1.get (b := w.heap.size) (o := 2) (v := .int .i64 (1)) (by first | with_reducible assumption | (simp [go_sem]; done) | (simp [go_sem, *]; done))
  have l1_1 := cell_lt c1_0_1
  have K1 := Q1
  clear hb1 Q1
  go_wp2_with fail
  obtain ⟨W, hW⟩ : ∃ W : World, W = w1 := ⟨_, rfl⟩
  subst hW
  go_region
  go_wp2_with fail
  go_ret2
  exact ⟨congrArg (fun z => Ending.returned (.tuple #[.string z, .int .i64 0])) E.out, by repeat (first | exact Kp.refl _ | with_reducible assumption | with_reducible refine Kp.set ?_ _ _ ?_ | (dsimp only; omega) | with_reducible refine Kp.drew ?_ | with_reducible refine Kp.drewN ?_ _ | with_reducible refine Kp.al ?_ _ | with_reducible refine Kp.trans ?_ (by with_reducible assumption))⟩

set_option maxHeartbeats 4000000 in
theorem rtext_flat (s o : Nat) (w : World) (h2 : s ≤ 6) (h4 : o ≤ 8) :
    Calls Tryd.prog 12 #[.agg #[.int .i64 (s : Int), .int .i64 (o : Int), .int .i64 (-1)]] w fun e w' => e = .returned (.tuple #[.string (ptx s o (-1)), .int .i64 0]) ∧ Kp w w' := by
  have d1 := sl_letters s h2
  have d2 := sl_digits o h4
  have d3 := fun w => cat1 s ⟨#[98]⟩ (by decide) w
  have d4 := fun w => cat2 s ⟨#[98]⟩ o (by decide) w
  have E := Lib.hid (tx_is s o (-1) ⟨#[98]⟩ (by simp))
  go_enter Tryd.func12, Tryd.ntmps12
  go_wp2_with fail
  refine (rcheck_ok _ _ _ _ (by omega) (by omega) (by omega) (by omega) (by omega) (by omega)).mono ?_
  rintro e w1 ⟨rfl, hb1⟩
  have Q1 : Kp w w1 := by repeat (first | exact Kp.refl _ | with_reducible assumption | with_reducible refine Kp.set ?_ _ _ ?_ | (dsimp only; omega) | with_reducible refine Kp.drew ?_ | with_reducible refine Kp.drewN ?_ _ | with_reducible refine Kp.al ?_ _ | with_reducible refine Kp.trans ?_ (by with_reducible assumption))
  have c1_0_1 := hb1.get (b := w.heap.size) (o := 0) (v := .int .i64 ((s : Int))) (by first | with_reducible assumption | (simp [go_sem]; done) | (simp [go_sem, *]; done))
  have c1_1_1 := hb1.get (b := w.heap.size) (o := 1) (v := .int .i64 ((o : Int))) (by first | with_reducible assumption | (simp [go_sem]; done) | (simp [go_sem, *]; done))
  have c1_2_1 := hb1.get (b := w.heap.size) (o := 2) (v := .int .i64 (-1)) (by first | with_reducible assumption | (simp [go_sem]; done) | (simp [go_sem, *]; done))
  have l1_1 := cell_lt c1_0_1
  have K1 := Q1
  clear hb1 Q1
  go_wp2_with fail
  obtain ⟨W, hW⟩ : ∃ W : World, W = w1 := ⟨_, rfl⟩
  subst hW
  go_region
  go_wp2_with fail
  go_ret2
  exact ⟨congrArg (fun z => Ending.returned (.tuple #[.string z, .int .i64 0])) E.out, by repeat (first | exact Kp.refl _ | with_reducible assumption | with_reducible refine Kp.set ?_ _ _ ?_ | (dsimp only; omega) | with_reducible refine Kp.drew ?_ | with_reducible refine Kp.drewN ?_ _ | with_reducible refine Kp.al ?_ _ | with_reducible refine Kp.trans ?_ (by with_reducible assumption))⟩

theorem rtext_ok (s o a : Int) (w : World) (h1 : 0 ≤ s) (h2 : s ≤ 6) (h3 : 0 ≤ o) (h4 : o ≤ 8) (h5 : -1 ≤ a) (h6 : a ≤ 1) :
    Calls Tryd.prog 12 #[.agg #[.int .i64 s, .int .i64 o, .int .i64 a]] w fun e w' => e = .returned (.tuple #[.string (ptx s o a), .int .i64 0]) ∧ Kp w w' := by
  obtain ⟨s, rfl⟩ := Int.eq_ofNat_of_zero_le h1
  obtain ⟨o, rfl⟩ := Int.eq_ofNat_of_zero_le h3
  have : a = 0 ∨ a = 1 ∨ a = -1 := by omega
  rcases this with rfl | rfl | rfl
  · exact rtext_nat s o w (by omega) (by omega)
  · exact rtext_sharp s o w (by omega) (by omega)
  · exact rtext_flat s o w (by omega) (by omega)
theorem rtext_no (s o a : Int) (w : World) (h : ¬ Vp s o a) :
    Calls Tryd.prog 12 #[.agg #[.int .i64 s, .int .i64 o, .int .i64 a]] w fun e w' => e = .returned (.tuple #[.string ⟨#[]⟩, .int .i64 2]) ∧ Kp w w' := by
  have H := Lib.hid h; clear h
  go_enter Tryd.func12, Tryd.ntmps12
  go_wp2_with fail
  refine (rcheck_no _ _ _ _ H.out).mono ?_
  rintro e w1 ⟨rfl, hb1⟩
  have Q1 : Kp w w1 := by repeat (first | exact Kp.refl _ | with_reducible assumption | with_reducible refine Kp.set ?_ _ _ ?_ | (dsimp only; omega) | with_reducible refine Kp.drew ?_ | with_reducible refine Kp.drewN ?_ _ | with_reducible refine Kp.al ?_ _ | with_reducible refine Kp.trans ?_ (by with_reducible assumption))
  have K1 := Q1
  clear hb1 Q1
  go_wp2_with fail
  go_ret2
  exact ⟨rfl, by repeat (first | exact Kp.refl _ | with_reducible assumption | with_reducible refine Kp.set ?_ _ _ ?_ | (dsimp only; omega) | with_reducible refine Kp.drew ?_ | with_reducible refine Kp.drewN ?_ _ | with_reducible refine Kp.al ?_ _ | with_reducible refine Kp.trans ?_ (by with_reducible assumption))⟩
end Go.Proofs.YtmmpjajjebljpaaDoor
