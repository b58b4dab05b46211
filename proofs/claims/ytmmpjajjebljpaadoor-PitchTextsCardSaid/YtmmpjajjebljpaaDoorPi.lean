/- The laws' helpers reads, is, awake. -/
import Derived.Test.YtmmpjajjebljpaaDoorPh
namespace Go.Proofs.YtmmpjajjebljpaaDoor
open Go.RowKit

theorem reads_ok (s o a : Int) (w : World) (h1 : 0 ≤ s) (h2 : s ≤ 6) (h3 : 0 ≤ o) (h4 : o ≤ 8) (h5 : -1 ≤ a) (h6 : a ≤ 1) :
    Calls Tryd.prog 24 #[.string (ptx s o a), .int .i64 s, .int .i64 o, .int .i64 a] w fun e w' => e = .returned (.bool true) ∧ Kp w w' := by
  go_enter Tryd.func24, Tryd.ntmps24
  go_wp2_with fail
  refine (parse_ok _ _ _ _ h1 h2 h3 h4 h5 h6).mono ?_
  rintro e w1 ⟨rfl, hb1⟩
  go_wp2_with fail
  refine (ptext_ok _ _ _ _ h1 h2 h3 h4 h5 h6).mono ?_
  rintro e w2 ⟨rfl, hb2⟩
  have q0 := hb2.get (b := w1.heap.size) (o := 0) (v := .int .i64 s) (by simp [go_sem])
  have q1 := hb2.get (b := w1.heap.size) (o := 1) (v := .int .i64 o) (by simp [go_sem])
  have q2 := hb2.get (b := w1.heap.size) (o := 2) (v := .int .i64 a) (by simp [go_sem])
  go_wp2_with fail
  go_ret
  exact ⟨rfl, by repeat (first | exact Kp.refl _ | with_reducible assumption | with_reducible refine Kp.set ?_ _ _ ?_ | (dsimp only; omega) | with_reducible refine Kp.drew ?_ | with_reducible refine Kp.drewN ?_ _ | with_reducible refine Kp.al ?_ _ | with_reducible refine Kp.trans ?_ (by with_reducible assumption))⟩
theorem is_ok (s o a : Int) (w : World) (h1 : 0 ≤ s) (h2 : s ≤ 6) (h3 : 0 ≤ o) (h4 : o ≤ 8) (h5 : -1 ≤ a) (h6 : a ≤ 1) :
    Calls Tryd.prog 23 #[.agg #[.int .i64 s, .int .i64 o, .int .i64 a], .int .i64 0, .string (ptx s o a)] w fun e w' => e = .returned (.bool true) ∧ Kp w w' := by
  go_enter Tryd.func23, Tryd.ntmps23
  go_wp2_with fail
  refine (ptext_ok _ _ _ _ h1 h2 h3 h4 h5 h6).mono ?_
  rintro e w2 ⟨rfl, hb2⟩
  go_wp2_with fail
  go_ret
  exact ⟨rfl, by repeat (first | exact Kp.refl _ | with_reducible assumption | with_reducible refine Kp.set ?_ _ _ ?_ | (dsimp only; omega) | with_reducible refine Kp.drew ?_ | with_reducible refine Kp.drewN ?_ _ | with_reducible refine Kp.al ?_ _ | with_reducible refine Kp.trans ?_ (by with_reducible assumption))⟩
theorem tx_bb3 : (⟨#[98, 98, 51]⟩ : ByteArray) = ptx 6 3 (-1) := rfl
theorem awake_ok (w : World) (ht : Tab w) :
    Calls Tryd.prog 10 #[] w fun e w' => e = .returned (.bool true) ∧ Kp w w' := by
  have HT := Lib.hid ht; clear ht
  go_enter Tryd.func10, Tryd.ntmps10
  go_wp2_with fail
  refine (height_ok _ _ _ _ HT.out (by omega) (by omega) (by omega) (by omega) (by omega) (by omega)).mono ?_
  rintro e w1 ⟨rfl, hb1⟩
  rw [show ht 6 3 (-1) = 46 from rfl]
  go_wp2_with fail
  refine (between_ok _ _ _ _ _ _ _ (HT.out.below hb1) (by omega) (by omega) (by omega) (by omega) (by omega) (by omega) (by omega) (by omega) (by omega) (by omega) (by omega) (by omega)).mono ?_
  rintro e w2 ⟨rfl, hb2⟩
  rw [show (7 * 4 + 3 - (7 * 3 + 6) : Int) = 4 from rfl, show ht 3 4 0 - ht 6 3 0 = 6 from rfl]
  go_wp2_with fail
  rw [tx_bb3]
  refine (reads_ok _ _ _ _ (by omega) (by omega) (by omega) (by omega) (by omega) (by omega)).mono ?_
  rintro e w3 ⟨rfl, hb3⟩
  go_wp2_with fail
  go_ret
  exact ⟨rfl, by repeat (first | exact Kp.refl _ | with_reducible assumption | with_reducible refine Kp.set ?_ _ _ ?_ | (dsimp only; omega) | with_reducible refine Kp.drew ?_ | with_reducible refine Kp.drewN ?_ _ | with_reducible refine Kp.al ?_ _ | with_reducible refine Kp.trans ?_ (by with_reducible assumption))⟩
end Go.Proofs.YtmmpjajjebljpaaDoor
