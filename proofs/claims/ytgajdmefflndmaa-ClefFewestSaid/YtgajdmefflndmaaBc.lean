/- Contracts of clef.Pitch and tactusref06.Pitch. -/
import Derived.Test.YtgajdmefflndmaaBb
namespace Go.Proofs.Ytgajdmefflndmaa
open Go.RowKit

/-- The alteration of a note. -/
def alt (key acc s : Int) : Int := if acc = 0 then pl key s else if acc = 2 then 0 else acc

theorem cpitch_ok (st ln key place acc : Int) (w : World) (hc : Vc st ln) (k1 : 0 ≤ key) (k2 : key ≤ 2) (p1 : -4 ≤ place) (p2 : place ≤ 12) (a1 : -1 ≤ acc) (a2 : acc ≤ 2) :
    Calls Try.prog 15 #[.agg #[.int .i64 st, .int .i64 ln], .int .i64 key, .int .i64 place, .int .i64 acc] w fun e w' => e = .returned (.tuple #[.agg #[.int .i64 ((low st ln + place) % 7), .int .i64 ((low st ln + place) / 7), .int .i64 (alt key acc ((low st ln + place) % 7))], .int .i64 0]) ∧ Kp w w' := by
  obtain ⟨b1, b2⟩ := low_bd hc
  have E := Lib.hid (kerr_ok hc k1 k2)
  have HC := Lib.hid hc
  clear hc
  have ha : acc = 0 ∨ acc = -1 ∨ acc = 1 ∨ acc = 2 := by omega
  rcases ha with rfl | rfl | rfl | rfl
  · have A : Hid (alt key 0 ((low st ln + place) % 7) = pl key ((low st ln + place) % 7)) := rfl
    go_enter Try.func15, Try.ntmps15
    have s2 : w.heap.size ≤ w.heap.size + 1 := by omega
    have n2_1 : ¬ w.heap.size + 1 = w.heap.size := by omega
    have n1_2 : ¬ w.heap.size = w.heap.size + 1 := by omega
    go_wp2_with fail
    refine (keyed_any _ _ _ _).mono ?_
    rw [E.out]
    rintro e w1 ⟨rfl, hb1⟩
    have Q1 : Kp w w1 := by repeat (first | exact Kp.refl _ | with_reducible assumption | with_reducible refine Kp.set ?_ _ _ ?_ | (dsimp only; omega) | with_reducible refine Kp.drew ?_ | with_reducible refine Kp.drewN ?_ _ | with_reducible refine Kp.al ?_ _ | with_reducible refine Kp.trans ?_ (by with_reducible assumption))
    have c1_0_1 := hb1.get (b := w.heap.size) (o := 0) (v := .int .i64 (st)) (by first | with_reducible assumption | (simp [go_sem]; done) | (simp [go_sem, *]; done))
    have c1_1_1 := hb1.get (b := w.heap.size) (o := 1) (v := .int .i64 (ln)) (by first | with_reducible assumption | (simp [go_sem]; done) | (simp [go_sem, *]; done))
    have l1_1 := cell_lt c1_0_1
    have c2_0_1 := hb1.get (b := w.heap.size + 1) (o := 0) (v := .int .i64 (0)) (by first | with_reducible assumption | (simp [go_sem]; done) | (simp [go_sem, *]; done))
    have f2_0_1 := hb1.free (b := w.heap.size + 1) (o := 0) (v := .int .i64 (0)) (by first | with_reducible assumption | (simp [go_sem]; done) | (simp [go_sem, *]; done)) (by first | with_reducible assumption | (simp [go_sem]; done) | (simp [go_sem, *]; done))
    have c2_1_1 := hb1.get (b := w.heap.size + 1) (o := 1) (v := .int .i64 (0)) (by first | with_reducible assumption | (simp [go_sem]; done) | (simp [go_sem, *]; done))
    have f2_1_1 := hb1.free (b := w.heap.size + 1) (o := 1) (v := .int .i64 (0)) (by first | with_reducible assumption | (simp [go_sem]; done) | (simp [go_sem, *]; done)) (by first | with_reducible assumption | (simp [go_sem]; done) | (simp [go_sem, *]; done))
    have c2_2_1 := hb1.get (b := w.heap.size + 1) (o := 2) (v := .int .i64 (0)) (by first | with_reducible assumption | (simp [go_sem]; done) | (simp [go_sem, *]; done))
    have f2_2_1 := hb1.free (b := w.heap.size + 1) (o := 2) (v := .int .i64 (0)) (by first | with_reducible assumption | (simp [go_sem]; done) | (simp [go_sem, *]; done)) (by first | with_reducible assumption | (simp [go_sem]; done) | (simp [go_sem, *]; done))
    have l2_1 := cell_lt c2_0_1
    have K1 := Q1
    clear hb1 Q1
    go_wp2_with fail
    refine (placed_yes _ _ p1 p2).mono ?_
    rintro e _ ⟨rfl, rfl⟩
    go_wp2_with fail
    refine (low_ok _ _ _ HC.out).mono ?_
    rintro e w2 ⟨rfl, hb2⟩
    have Q2 : Kp w1 w2 := by repeat (first | exact Kp.refl _ | with_reducible assumption | with_reducible refine Kp.set ?_ _ _ ?_ | (dsimp only; omega) | with_reducible refine Kp.drew ?_ | with_reducible refine Kp.drewN ?_ _ | with_reducible refine Kp.al ?_ _ | with_reducible refine Kp.trans ?_ (by with_reducible assumption))
    have c1_0_2 := Q2.get c1_0_1
    have c1_1_2 := Q2.get c1_1_1
    have l1_2 := cell_lt c1_0_2
    have f2_0_2 := Q2.free c2_0_1 f2_0_1
    have f2_1_2 := Q2.free c2_1_1 f2_1_1
    have f2_2_2 := Q2.free c2_2_1 f2_2_1
    have c2_0_2 := Q2.get c2_0_1
    have c2_1_2 := Q2.get c2_1_1
    have c2_2_2 := Q2.get c2_2_1
    have l2_2 := cell_lt c2_0_2
    have K2 := K1.trans Q2
    clear hb2 c1_0_1 c1_1_1 l1_1 f2_0_1 f2_1_1 f2_2_1 c2_0_1 c2_1_1 c2_2_1 l2_1 K1 Q2
    go_wp2_with fail
    refine (plain_ok _ _ _ k1 k2 (by omega) (by omega)).mono ?_
    rintro e _ ⟨rfl, rfl⟩
    go_wp2_with fail
    rw [A.out]
    exact bodyPost_ret (v := .tuple #[.agg #[.int .i64 ((low st ln + place) % 7), .int .i64 ((low st ln + place) / 7), .int .i64 (pl key ((low st ln + place) % 7))], .int .i64 0]) (by simp [results, Try.results15, go_sem, c2_0_2, c2_1_2, c2_2_2]) rfl ⟨rfl, by repeat (first | exact Kp.refl _ | with_reducible assumption | with_reducible refine Kp.set ?_ _ _ ?_ | (dsimp only; omega) | with_reducible refine Kp.drew ?_ | with_reducible refine Kp.drewN ?_ _ | with_reducible refine Kp.al ?_ _ | with_reducible refine Kp.trans ?_ (by with_reducible assumption))⟩
  · have A : Hid (alt key (-1) ((low st ln + place) % 7) = -1) := rfl
    go_enter Try.func15, Try.ntmps15
    have s2 : w.heap.size ≤ w.heap.size + 1 := by omega
    have n2_1 : ¬ w.heap.size + 1 = w.heap.size := by omega
    have n1_2 : ¬ w.heap.size = w.heap.size + 1 := by omega
    go_wp2_with fail
    refine (keyed_any _ _ _ _).mono ?_
    rw [E.out]
    rintro e w1 ⟨rfl, hb1⟩
    have Q1 : Kp w w1 := by repeat (first | exact Kp.refl _ | with_reducible assumption | with_reducible refine Kp.set ?_ _ _ ?_ | (dsimp only; omega) | with_reducible refine Kp.drew ?_ | with_reducible refine Kp.drewN ?_ _ | with_reducible refine Kp.al ?_ _ | with_reducible refine Kp.trans ?_ (by with_reducible assumption))
    have c1_0_1 := hb1.get (b := w.heap.size) (o := 0) (v := .int .i64 (st)) (by first | with_reducible assumption | (simp [go_sem]; done) | (simp [go_sem, *]; done))
    have c1_1_1 := hb1.get (b := w.heap.size) (o := 1) (v := .int .i64 (ln)) (by first | with_reducible assumption | (simp [go_sem]; done) | (simp [go_sem, *]; done))
    have l1_1 := cell_lt c1_0_1
    have c2_0_1 := hb1.get (b := w.heap.size + 1) (o := 0) (v := .int .i64 (0)) (by first | with_reducible assumption | (simp [go_sem]; done) | (simp [go_sem, *]; done))
    have f2_0_1 := hb1.free (b := w.heap.size + 1) (o := 0) (v := .int .i64 (0)) (by first | with_reducible assumption | (simp [go_sem]; done) | (simp [go_sem, *]; done)) (by first | with_reducible assumption | (simp [go_sem]; done) | (simp [go_sem, *]; done))
    have c2_1_1 := hb1.get (b := w.heap.size + 1) (o := 1) (v := .int .i64 (0)) (by first | with_reducible assumption | (simp [go_sem]; done) | (simp [go_sem, *]; done))
    have f2_1_1 := hb1.free (b := w.heap.size + 1) (o := 1) (v := .int .i64 (0)) (by first | with_reducible assumption | (simp [go_sem]; done) | (simp [go_sem, *]; done)) (by first | with_reducible assumption | (simp [go_sem]; done) | (simp [go_sem, *]; done))
    have c2_2_1 := hb1.get (b := w.heap.size + 1) (o := 2) (v := .int .i64 (0)) (by first | with_reducible assumption | (simp [go_sem]; done) | (simp [go_sem, *]; done))
    have f2_2_1 := hb1.free (b := w.heap.size + 1) (o := 2) (v := .int .i64 (0)) (by first | with_reducible assumption | (simp [go_sem]; done) | (simp [go_sem, *]; done)) (by first | with_reducible assumption | (simp [go_sem]; done) | (simp [go_sem, *]; done))
    have l2_1 := cell_lt c2_0_1
    have K1 := Q1
    clear hb1 Q1
    go_wp2_with fail
    refine (placed_yes _ _ p1 p2).mono ?_
    rintro e _ ⟨rfl, rfl⟩
    go_wp2_with fail
    refine (low_ok _ _ _ HC.out).mono ?_
    rintro e w2 ⟨rfl, hb2⟩
    have Q2 : Kp w1 w2 := by repeat (first | exact Kp.refl _ | with_reducible assumption | with_reducible refine Kp.set ?_ _ _ ?_ | (dsimp only; omega) | with_reducible refine Kp.drew ?_ | with_reducible refine Kp.drewN ?_ _ | with_reducible refine Kp.al ?_ _ | with_reducible refine Kp.trans ?_ (by with_reducible assumption))
    have c1_0_2 := Q2.get c1_0_1
    have c1_1_2 := Q2.get c1_1_1
    have l1_2 := cell_lt c1_0_2
    have f2_0_2 := Q2.free c2_0_1 f2_0_1
    have f2_1_2 := Q2.free c2_1_1 f2_1_1
    have f2_2_2 := Q2.free c2_2_1 f2_2_1
    have c2_0_2 := Q2.get c2_0_1
    have c2_1_2 := Q2.get c2_1_1
    have c2_2_2 := Q2.get c2_2_1
    have l2_2 := cell_lt c2_0_2
    have K2 := K1.trans Q2
    clear hb2 c1_0_1 c1_1_1 l1_1 f2_0_1 f2_1_1 f2_2_1 c2_0_1 c2_1_1 c2_2_1 l2_1 K1 Q2
    go_wp2_with fail
    rw [A.out]
    exact bodyPost_ret (v := .tuple #[.agg #[.int .i64 ((low st ln + place) % 7), .int .i64 ((low st ln + place) / 7), .int .i64 (-1)], .int .i64 0]) (by simp [results, Try.results15, go_sem, c2_0_2, c2_1_2, c2_2_2]) rfl ⟨rfl, by repeat (first | exact Kp.refl _ | with_reducible assumption | with_reducible refine Kp.set ?_ _ _ ?_ | (dsimp only; omega) | with_reducible refine Kp.drew ?_ | with_reducible refine Kp.drewN ?_ _ | with_reducible refine Kp.al ?_ _ | with_reducible refine Kp.trans ?_ (by with_reducible assumption))⟩
  · have A : Hid (alt key 1 ((low st ln + place) % 7) = 1) := rfl
    go_enter Try.func15, Try.ntmps15
    have s2 : w.heap.size ≤ w.heap.size + 1 := by omega
    have n2_1 : ¬ w.heap.size + 1 = w.heap.size := by omega
    have n1_2 : ¬ w.heap.size = w.heap.size + 1 := by omega
    go_wp2_with fail
    refine (keyed_any _ _ _ _).mono ?_
    rw [E.out]
    rintro e w1 ⟨rfl, hb1⟩
    have Q1 : Kp w w1 := by repeat (first | exact Kp.refl _ | with_reducible assumption | with_reducible refine Kp.set ?_ _ _ ?_ | (dsimp only; omega) | with_reducible refine Kp.drew ?_ | with_reducible refine Kp.drewN ?_ _ | with_reducible refine Kp.al ?_ _ | with_reducible refine Kp.trans ?_ (by with_reducible assumption))
    have c1_0_1 := hb1.get (b := w.heap.size) (o := 0) (v := .int .i64 (st)) (by first | with_reducible assumption | (simp [go_sem]; done) | (simp [go_sem, *]; done))
    have c1_1_1 := hb1.get (b := w.heap.size) (o := 1) (v := .int .i64 (ln)) (by first | with_reducible assumption | (simp [go_sem]; done) | (simp [go_sem, *]; done))
    have l1_1 := cell_lt c1_0_1
    have c2_0_1 := hb1.get (b := w.heap.size + 1) (o := 0) (v := .int .i64 (0)) (by first | with_reducible assumption | (simp [go_sem]; done) | (simp [go_sem, *]; done))
    have f2_0_1 := hb1.free (b := w.heap.size + 1) (o := 0) (v := .int .i64 (0)) (by first | with_reducible assumption | (simp [go_sem]; done) | (simp [go_sem, *]; done)) (by first | with_reducible assumption | (simp [go_sem]; done) | (simp [go_sem, *]; done))
    have c2_1_1 := hb1.get (b := w.heap.size + 1) (o := 1) (v := .int .i64 (0)) (by first | with_reducible assumption | (simp [go_sem]; done) | (simp [go_sem, *]; done))
    have f2_1_1 := hb1.free (b := w.heap.size + 1) (o := 1) (v := .int .i64 (0)) (by first | with_reducible assumption | (simp [go_sem]; done) | (simp [go_sem, *]; done)) (by first | with_reducible assumption | (simp [go_sem]; done) | (simp [go_sem, *]; done))
    have c2_2_1 := hb1.get (b := w.heap.size + 1) (o := 2) (v := .int .i64 (0)) (by first | with_reducible assumption | (simp [go_sem]; done) | (simp [go_sem, *]; done))
    have f2_2_1 := hb1.free (b := w.heap.size + 1) (o := 2) (v := .int .i64 (0)) (by first | with_reducible assumption | (simp [go_sem]; done) | (simp [go_sem, *]; done)) (by first | with_reducible assumption | (simp [go_sem]; done) | (simp [go_sem, *]; done))
    have l2_1 := cell_lt c2_0_1
    have K1 := Q1
    clear hb1 Q1
    go_wp2_with fail
    refine (placed_yes _ _ p1 p2).mono ?_
    rintro e _ ⟨rfl, rfl⟩
    go_wp2_with fail
    refine (low_ok _ _ _ HC.out).mono ?_
    rintro e w2 ⟨rfl, hb2⟩
    have Q2 : Kp w1 w2 := by repeat (first | exact Kp.refl _ | with_reducible assumption | with_reducible refine Kp.set ?_ _ _ ?_ | (dsimp only; omega) | with_reducible refine Kp.drew ?_ | with_reducible refine Kp.drewN ?_ _ | with_reducible refine Kp.al ?_ _ | with_reducible refine Kp.trans ?_ (by with_reducible assumption))
    have c1_0_2 := Q2.get c1_0_1
    have c1_1_2 := Q2.get c1_1_1
    have l1_2 := cell_lt c1_0_2
    have f2_0_2 := Q2.free c2_0_1 f2_0_1
    have f2_1_2 := Q2.free c2_1_1 f2_1_1
    have f2_2_2 := Q2.free c2_2_1 f2_2_1
    have c2_0_2 := Q2.get c2_0_1
    have c2_1_2 := Q2.get c2_1_1
    have c2_2_2 := Q2.get c2_2_1
    have l2_2 := cell_lt c2_0_2
    have K2 := K1.trans Q2
    clear hb2 c1_0_1 c1_1_1 l1_1 f2_0_1 f2_1_1 f2_2_1 c2_0_1 c2_1_1 c2_2_1 l2_1 K1 Q2
    go_wp2_with fail
    rw [A.out]
    exact bodyPost_ret (v := .tuple #[.agg #[.int .i64 ((low st ln + place) % 7), .int .i64 ((low st ln + place) / 7), .int .i64 (1)], .int .i64 0]) (by simp [results, Try.results15, go_sem, c2_0_2, c2_1_2, c2_2_2]) rfl ⟨rfl, by repeat (first | exact Kp.refl _ | with_reducible assumption | with_reducible refine Kp.set ?_ _ _ ?_ | (dsimp only; omega) | with_reducible refine Kp.drew ?_ | with_reducible refine Kp.drewN ?_ _ | with_reducible refine Kp.al ?_ _ | with_reducible refine Kp.trans ?_ (by with_reducible assumption))⟩
  · have A : Hid (alt key 2 ((low st ln + place) % 7) = 0) := rfl
    go_enter Try.func15, Try.ntmps15
    have s2 : w.heap.size ≤ w.heap.size + 1 := by omega
    have n2_1 : ¬ w.heap.size + 1 = w.heap.size := by omega
    have n1_2 : ¬ w.heap.size = w.heap.size + 1 := by omega
    go_wp2_with fail
    refine (keyed_any _ _ _ _).mono ?_
    rw [E.out]
    rintro e w1 ⟨rfl, hb1⟩
    have Q1 : Kp w w1 := by repeat (first | exact Kp.refl _ | with_reducible assumption | with_reducible refine Kp.set ?_ _ _ ?_ | (dsimp only; omega) | with_reducible refine Kp.drew ?_ | with_reducible refine Kp.drewN ?_ _ | with_reducible refine Kp.al ?_ _ | with_reducible refine Kp.trans ?_ (by with_reducible assumption))
    have c1_0_1 := hb1.get (b := w.heap.size) (o := 0) (v := .int .i64 (st)) (by first | with_reducible assumption | (simp [go_sem]; done) | (simp [go_sem, *]; done))
    have c1_1_1 := hb1.get (b := w.heap.size) (o := 1) (v := .int .i64 (ln)) (by first | with_reducible assumption | (simp [go_sem]; done) | (simp [go_sem, *]; done))
    have l1_1 := cell_lt c1_0_1
    have c2_0_1 := hb1.get (b := w.heap.size + 1) (o := 0) (v := .int .i64 (0)) (by first | with_reducible assumption | (simp [go_sem]; done) | (simp [go_sem, *]; done))
    have f2_0_1 := hb1.free (b := w.heap.size + 1) (o := 0) (v := .int .i64 (0)) (by first | with_reducible assumption | (simp [go_sem]; done) | (simp [go_sem, *]; done)) (by first | with_reducible assumption | (simp [go_sem]; done) | (simp [go_sem, *]; done))
    have c2_1_1 := hb1.get (b := w.heap.size + 1) (o := 1) (v := .int .i64 (0)) (by first | with_reducible assumption | (simp [go_sem]; done) | (simp [go_sem, *]; done))
    have f2_1_1 := hb1.free (b := w.heap.size + 1) (o := 1) (v := .int .i64 (0)) (by first | with_reducible assumption | (simp [go_sem]; done) | (simp [go_sem, *]; done)) (by first | with_reducible assumption | (simp [go_sem]; done) | (simp [go_sem, *]; done))
    have c2_2_1 := hb1.get (b := w.heap.size + 1) (o := 2) (v := .int .i64 (0)) (by first | with_reducible assumption | (simp [go_sem]; done) | (simp [go_sem, *]; done))
    have f2_2_1 := hb1.free (b := w.heap.size + 1) (o := 2) (v := .int .i64 (0)) (by first | with_reducible assumption | (simp [go_sem]; done) | (simp [go_sem, *]; done)) (by first | with_reducible assumption | (simp [go_sem]; done) | (simp [go_sem, *]; done))
    have l2_1 := cell_lt c2_0_1
    have K1 := Q1
    clear hb1 Q1
    go_wp2_with fail
    refine (placed_yes _ _ p1 p2).mono ?_
    rintro e _ ⟨rfl, rfl⟩
    go_wp2_with fail
    refine (low_ok _ _ _ HC.out).mono ?_
    rintro e w2 ⟨rfl, hb2⟩
    have Q2 : Kp w1 w2 := by repeat (first | exact Kp.refl _ | with_reducible assumption | with_reducible refine Kp.set ?_ _ _ ?_ | (dsimp only; omega) | with_reducible refine Kp.drew ?_ | with_reducible refine Kp.drewN ?_ _ | with_reducible refine Kp.al ?_ _ | with_reducible refine Kp.trans ?_ (by with_reducible assumption))
    have c1_0_2 := Q2.get c1_0_1
    have c1_1_2 := Q2.get c1_1_1
    have l1_2 := cell_lt c1_0_2
    have f2_0_2 := Q2.free c2_0_1 f2_0_1
    have f2_1_2 := Q2.free c2_1_1 f2_1_1
    have f2_2_2 := Q2.free c2_2_1 f2_2_1
    have c2_0_2 := Q2.get c2_0_1
    have c2_1_2 := Q2.get c2_1_1
    have c2_2_2 := Q2.get c2_2_1
    have l2_2 := cell_lt c2_0_2
    have K2 := K1.trans Q2
    clear hb2 c1_0_1 c1_1_1 l1_1 f2_0_1 f2_1_1 f2_2_1 c2_0_1 c2_1_1 c2_2_1 l2_1 K1 Q2
    go_wp2_with fail
    rw [A.out]
    exact bodyPost_ret (v := .tuple #[.agg #[.int .i64 ((low st ln + place) % 7), .int .i64 ((low st ln + place) / 7), .int .i64 (0)], .int .i64 0]) (by simp [results, Try.results15, go_sem, c2_0_2, c2_1_2, c2_2_2]) rfl ⟨rfl, by repeat (first | exact Kp.refl _ | with_reducible assumption | with_reducible refine Kp.set ?_ _ _ ?_ | (dsimp only; omega) | with_reducible refine Kp.drew ?_ | with_reducible refine Kp.drewN ?_ _ | with_reducible refine Kp.al ?_ _ | with_reducible refine Kp.trans ?_ (by with_reducible assumption))⟩
theorem cpitch_e1 (st ln key place acc : Int) (w : World) (h : ¬ (Vc st ln ∧ 0 ≤ key ∧ key ≤ 2)) :
    Calls Try.prog 15 #[.agg #[.int .i64 st, .int .i64 ln], .int .i64 key, .int .i64 place, .int .i64 acc] w fun e w' => e = .returned (.tuple #[.agg #[.int .i64 0, .int .i64 0, .int .i64 0], .int .i64 (kerr st ln key)]) ∧ Kp w w' := by
  rcases kerr_no h with E | E
  all_goals
    rw [E]
    have E' := Lib.hid E
    clear E h
    go_enter Try.func15, Try.ntmps15
    have s2 : w.heap.size ≤ w.heap.size + 1 := by omega
    have n2_1 : ¬ w.heap.size + 1 = w.heap.size := by omega
    have n1_2 : ¬ w.heap.size = w.heap.size + 1 := by omega
    go_wp2_with fail
    refine (keyed_any _ _ _ _).mono ?_
    rw [E'.out]
    rintro e w1 ⟨rfl, hb1⟩
    have Q1 : Kp w w1 := by repeat (first | exact Kp.refl _ | with_reducible assumption | with_reducible refine Kp.set ?_ _ _ ?_ | (dsimp only; omega) | with_reducible refine Kp.drew ?_ | with_reducible refine Kp.drewN ?_ _ | with_reducible refine Kp.al ?_ _ | with_reducible refine Kp.trans ?_ (by with_reducible assumption))
    have c1_0_1 := hb1.get (b := w.heap.size) (o := 0) (v := .int .i64 (st)) (by first | with_reducible assumption | (simp [go_sem]; done) | (simp [go_sem, *]; done))
    have c1_1_1 := hb1.get (b := w.heap.size) (o := 1) (v := .int .i64 (ln)) (by first | with_reducible assumption | (simp [go_sem]; done) | (simp [go_sem, *]; done))
    have l1_1 := cell_lt c1_0_1
    have c2_0_1 := hb1.get (b := w.heap.size + 1) (o := 0) (v := .int .i64 (0)) (by first | with_reducible assumption | (simp [go_sem]; done) | (simp [go_sem, *]; done))
    have f2_0_1 := hb1.free (b := w.heap.size + 1) (o := 0) (v := .int .i64 (0)) (by first | with_reducible assumption | (simp [go_sem]; done) | (simp [go_sem, *]; done)) (by first | with_reducible assumption | (simp [go_sem]; done) | (simp [go_sem, *]; done))
    have c2_1_1 := hb1.get (b := w.heap.size + 1) (o := 1) (v := .int .i64 (0)) (by first | with_reducible assumption | (simp [go_sem]; done) | (simp [go_sem, *]; done))
    have f2_1_1 := hb1.free (b := w.heap.size + 1) (o := 1) (v := .int .i64 (0)) (by first | with_reducible assumption | (simp [go_sem]; done) | (simp [go_sem, *]; done)) (by first | with_reducible assumption | (simp [go_sem]; done) | (simp [go_sem, *]; done))
    have c2_2_1 := hb1.get (b := w.heap.size + 1) (o := 2) (v := .int .i64 (0)) (by first | with_reducible assumption | (simp [go_sem]; done) | (simp [go_sem, *]; done))
    have f2_2_1 := hb1.free (b := w.heap.size + 1) (o := 2) (v := .int .i64 (0)) (by first | with_reducible assumption | (simp [go_sem]; done) | (simp [go_sem, *]; done)) (by first | with_reducible assumption | (simp [go_sem]; done) | (simp [go_sem, *]; done))
    have l2_1 := cell_lt c2_0_1
    have K1 := Q1
    clear hb1 Q1
    go_wp2_with fail
    first | exact bodyPost_ret (v := (.tuple #[.agg #[.int .i64 0, .int .i64 0, .int .i64 0], .int .i64 8])) (by simp [results, Try.results15, go_sem, c2_0_1, c2_1_1, c2_2_1]) rfl ⟨rfl, by repeat (first | exact Kp.refl _ | with_reducible assumption | with_reducible refine Kp.set ?_ _ _ ?_ | (dsimp only; omega) | with_reducible refine Kp.drew ?_ | with_reducible refine Kp.drewN ?_ _ | with_reducible refine Kp.al ?_ _ | with_reducible refine Kp.trans ?_ (by with_reducible assumption))⟩ | exact bodyPost_ret (v := (.tuple #[.agg #[.int .i64 0, .int .i64 0, .int .i64 0], .int .i64 2])) (by simp [results, Try.results15, go_sem, c2_0_1, c2_1_1, c2_2_1]) rfl ⟨rfl, by repeat (first | exact Kp.refl _ | with_reducible assumption | with_reducible refine Kp.set ?_ _ _ ?_ | (dsimp only; omega) | with_reducible refine Kp.drew ?_ | with_reducible refine Kp.drewN ?_ _ | with_reducible refine Kp.al ?_ _ | with_reducible refine Kp.trans ?_ (by with_reducible assumption))⟩
theorem cpitch_e2 (st ln key place acc : Int) (w : World) (hc : Vc st ln) (k1 : 0 ≤ key) (k2 : key ≤ 2) (hp : place < -4 ∨ 12 < place) :
    Calls Try.prog 15 #[.agg #[.int .i64 st, .int .i64 ln], .int .i64 key, .int .i64 place, .int .i64 acc] w fun e w' => e = .returned (.tuple #[.agg #[.int .i64 0, .int .i64 0, .int .i64 0], .int .i64 2]) ∧ Kp w w' := by
  have E := Lib.hid (kerr_ok hc k1 k2)
  have HP := Lib.hid hp
  clear hc hp
  go_enter Try.func15, Try.ntmps15
  have s2 : w.heap.size ≤ w.heap.size + 1 := by omega
  have n2_1 : ¬ w.heap.size + 1 = w.heap.size := by omega
  have n1_2 : ¬ w.heap.size = w.heap.size + 1 := by omega
  go_wp2_with fail
  refine (keyed_any _ _ _ _).mono ?_
  rw [E.out]
  rintro e w1 ⟨rfl, hb1⟩
  have Q1 : Kp w w1 := by repeat (first | exact Kp.refl _ | with_reducible assumption | with_reducible refine Kp.set ?_ _ _ ?_ | (dsimp only; omega) | with_reducible refine Kp.drew ?_ | with_reducible refine Kp.drewN ?_ _ | with_reducible refine Kp.al ?_ _ | with_reducible refine Kp.trans ?_ (by with_reducible assumption))
  have c1_0_1 := hb1.get (b := w.heap.size) (o := 0) (v := .int .i64 (st)) (by first | with_reducible assumption | (simp [go_sem]; done) | (simp [go_sem, *]; done))
  have c1_1_1 := hb1.get (b := w.heap.size) (o := 1) (v := .int .i64 (ln)) (by first | with_reducible assumption | (simp [go_sem]; done) | (simp [go_sem, *]; done))
  have l1_1 := cell_lt c1_0_1
  have c2_0_1 := hb1.get (b := w.heap.size + 1) (o := 0) (v := .int .i64 (0)) (by first | with_reducible assumption | (simp [go_sem]; done) | (simp [go_sem, *]; done))
  have f2_0_1 := hb1.free (b := w.heap.size + 1) (o := 0) (v := .int .i64 (0)) (by first | with_reducible assumption | (simp [go_sem]; done) | (simp [go_sem, *]; done)) (by first | with_reducible assumption | (simp [go_sem]; done) | (simp [go_sem, *]; done))
  have c2_1_1 := hb1.get (b := w.heap.size + 1) (o := 1) (v := .int .i64 (0)) (by first | with_reducible assumption | (simp [go_sem]; done) | (simp [go_sem, *]; done))
  have f2_1_1 := hb1.free (b := w.heap.size + 1) (o := 1) (v := .int .i64 (0)) (by first | with_reducible assumption | (simp [go_sem]; done) | (simp [go_sem, *]; done)) (by first | with_reducible assumption | (simp [go_sem]; done) | (simp [go_sem, *]; done))
  have c2_2_1 := hb1.get (b := w.heap.size + 1) (o := 2) (v := .int .i64 (0)) (by first | with_reducible assumption | (simp [go_sem]; done) | (simp [go_sem, *]; done))
  have f2_2_1 := hb1.free (b := w.heap.size + 1) (o := 2) (v := .int .i64 (0)) (by first | with_reducible assumption | (simp [go_sem]; done) | (simp [go_sem, *]; done)) (by first | with_reducible assumption | (simp [go_sem]; done) | (simp [go_sem, *]; done))
  have l2_1 := cell_lt c2_0_1
  have K1 := Q1
  clear hb1 Q1
  go_wp2_with fail
  refine (placed_no _ _ HP.out).mono ?_
  rintro e _ ⟨rfl, rfl⟩
  go_wp2_with fail
  exact bodyPost_ret (v := (.tuple #[.agg #[.int .i64 0, .int .i64 0, .int .i64 0], .int .i64 2])) (by simp [results, Try.results15, go_sem, c2_0_1, c2_1_1, c2_2_1]) rfl ⟨rfl, by repeat (first | exact Kp.refl _ | with_reducible assumption | with_reducible refine Kp.set ?_ _ _ ?_ | (dsimp only; omega) | with_reducible refine Kp.drew ?_ | with_reducible refine Kp.drewN ?_ _ | with_reducible refine Kp.al ?_ _ | with_reducible refine Kp.trans ?_ (by with_reducible assumption))⟩
theorem cpitch_e3 (st ln key place acc : Int) (w : World) (hc : Vc st ln) (k1 : 0 ≤ key) (k2 : key ≤ 2) (p1 : -4 ≤ place) (p2 : place ≤ 12) (ha : acc < -1 ∨ 2 < acc) :
    Calls Try.prog 15 #[.agg #[.int .i64 st, .int .i64 ln], .int .i64 key, .int .i64 place, .int .i64 acc] w fun e w' => e = .returned (.tuple #[.agg #[.int .i64 0, .int .i64 0, .int .i64 0], .int .i64 8]) ∧ Kp w w' := by
  obtain ⟨b1, b2⟩ := low_bd hc
  have E := Lib.hid (kerr_ok hc k1 k2)
  have HC := Lib.hid hc
  have t0 : (acc == 0) = false := beq_eq_false_iff_ne.2 (by omega)
  have t1 : (acc == -1) = false := beq_eq_false_iff_ne.2 (by omega)
  have t2 : (acc == 1) = false := beq_eq_false_iff_ne.2 (by omega)
  have t3 : (acc == 2) = false := beq_eq_false_iff_ne.2 (by omega)
  clear hc
  rcases ha with ha | ha
  all_goals
    go_enter Try.func15, Try.ntmps15
    have s2 : w.heap.size ≤ w.heap.size + 1 := by omega
    have n2_1 : ¬ w.heap.size + 1 = w.heap.size := by omega
    have n1_2 : ¬ w.heap.size = w.heap.size + 1 := by omega
    go_wp2_with fail
    refine (keyed_any _ _ _ _).mono ?_
    rw [E.out]
    rintro e w1 ⟨rfl, hb1⟩
    have Q1 : Kp w w1 := by repeat (first | exact Kp.refl _ | with_reducible assumption | with_reducible refine Kp.set ?_ _ _ ?_ | (dsimp only; omega) | with_reducible refine Kp.drew ?_ | with_reducible refine Kp.drewN ?_ _ | with_reducible refine Kp.al ?_ _ | with_reducible refine Kp.trans ?_ (by with_reducible assumption))
    have c1_0_1 := hb1.get (b := w.heap.size) (o := 0) (v := .int .i64 (st)) (by first | with_reducible assumption | (simp [go_sem]; done) | (simp [go_sem, *]; done))
    have c1_1_1 := hb1.get (b := w.heap.size) (o := 1) (v := .int .i64 (ln)) (by first | with_reducible assumption | (simp [go_sem]; done) | (simp [go_sem, *]; done))
    have l1_1 := cell_lt c1_0_1
    have c2_0_1 := hb1.get (b := w.heap.size + 1) (o := 0) (v := .int .i64 (0)) (by first | with_reducible assumption | (simp [go_sem]; done) | (simp [go_sem, *]; done))
    have f2_0_1 := hb1.free (b := w.heap.size + 1) (o := 0) (v := .int .i64 (0)) (by first | with_reducible assumption | (simp [go_sem]; done) | (simp [go_sem, *]; done)) (by first | with_reducible assumption | (simp [go_sem]; done) | (simp [go_sem, *]; done))
    have c2_1_1 := hb1.get (b := w.heap.size + 1) (o := 1) (v := .int .i64 (0)) (by first | with_reducible assumption | (simp [go_sem]; done) | (simp [go_sem, *]; done))
    have f2_1_1 := hb1.free (b := w.heap.size + 1) (o := 1) (v := .int .i64 (0)) (by first | with_reducible assumption | (simp [go_sem]; done) | (simp [go_sem, *]; done)) (by first | with_reducible assumption | (simp [go_sem]; done) | (simp [go_sem, *]; done))
    have c2_2_1 := hb1.get (b := w.heap.size + 1) (o := 2) (v := .int .i64 (0)) (by first | with_reducible assumption | (simp [go_sem]; done) | (simp [go_sem, *]; done))
    have f2_2_1 := hb1.free (b := w.heap.size + 1) (o := 2) (v := .int .i64 (0)) (by first | with_reducible assumption | (simp [go_sem]; done) | (simp [go_sem, *]; done)) (by first | with_reducible assumption | (simp [go_sem]; done) | (simp [go_sem, *]; done))
    have l2_1 := cell_lt c2_0_1
    have K1 := Q1
    clear hb1 Q1
    go_wp2_with fail
    refine (placed_yes _ _ p1 p2).mono ?_
    rintro e _ ⟨rfl, rfl⟩
    go_wp2_with fail
    refine (low_ok _ _ _ HC.out).mono ?_
    rintro e w2 ⟨rfl, hb2⟩
    have Q2 : Kp w1 w2 := by repeat (first | exact Kp.refl _ | with_reducible assumption | with_reducible refine Kp.set ?_ _ _ ?_ | (dsimp only; omega) | with_reducible refine Kp.drew ?_ | with_reducible refine Kp.drewN ?_ _ | with_reducible refine Kp.al ?_ _ | with_reducible refine Kp.trans ?_ (by with_reducible assumption))
    have c1_0_2 := Q2.get c1_0_1
    have c1_1_2 := Q2.get c1_1_1
    have l1_2 := cell_lt c1_0_2
    have f2_0_2 := Q2.free c2_0_1 f2_0_1
    have f2_1_2 := Q2.free c2_1_1 f2_1_1
    have f2_2_2 := Q2.free c2_2_1 f2_2_1
    have c2_0_2 := Q2.get c2_0_1
    have c2_1_2 := Q2.get c2_1_1
    have c2_2_2 := Q2.get c2_2_1
    have l2_2 := cell_lt c2_0_2
    have K2 := K1.trans Q2
    clear hb2 c1_0_1 c1_1_1 l1_1 f2_0_1 f2_1_1 f2_2_1 c2_0_1 c2_1_1 c2_2_1 l2_1 K1 Q2
    go_wp2_with fail
    exact bodyPost_ret (v := (.tuple #[.agg #[.int .i64 0, .int .i64 0, .int .i64 0], .int .i64 8])) (by simp [results, Try.results15, go_sem, c2_0_2, c2_1_2, c2_2_2]) rfl ⟨rfl, by repeat (first | exact Kp.refl _ | with_reducible assumption | with_reducible refine Kp.set ?_ _ _ ?_ | (dsimp only; omega) | with_reducible refine Kp.drew ?_ | with_reducible refine Kp.drewN ?_ _ | with_reducible refine Kp.al ?_ _ | with_reducible refine Kp.trans ?_ (by with_reducible assumption))⟩

theorem crpitch_ok (st ln key place acc : Int) (w : World) (hc : Vc st ln) (k1 : 0 ≤ key) (k2 : key ≤ 2) (p1 : -4 ≤ place) (p2 : place ≤ 12) (a1 : -1 ≤ acc) (a2 : acc ≤ 2) :
    Calls Try.prog 16 #[.agg #[.int .i64 st, .int .i64 ln], .int .i64 key, .int .i64 place, .int .i64 acc] w fun e w' => e = .returned (.tuple #[.agg #[.int .i64 ((low st ln + place) % 7), .int .i64 ((low st ln + place) / 7), .int .i64 (alt key acc ((low st ln + place) % 7))], .int .i64 0]) ∧ Kp w w' := by
  obtain ⟨b1, b2⟩ := low_bd hc
  have E := Lib.hid (kerr_ok hc k1 k2)
  have HC := Lib.hid hc
  clear hc
  have ha : acc = 0 ∨ acc = -1 ∨ acc = 1 ∨ acc = 2 := by omega
  rcases ha with rfl | rfl | rfl | rfl
  · have A : Hid (alt key 0 ((low st ln + place) % 7) = pl key ((low st ln + place) % 7)) := rfl
    go_enter Try.func16, Try.ntmps16
    have s2 : w.heap.size ≤ w.heap.size + 1 := by omega
    have n2_1 : ¬ w.heap.size + 1 = w.heap.size := by omega
    have n1_2 : ¬ w.heap.size = w.heap.size + 1 := by omega
    go_wp2_with fail
    refine (rkeyed_any _ _ _ _).mono ?_
    rw [E.out]
    rintro e w1 ⟨rfl, hb1⟩
    have Q1 : Kp w w1 := by repeat (first | exact Kp.refl _ | with_reducible assumption | with_reducible refine Kp.set ?_ _ _ ?_ | (dsimp only; omega) | with_reducible refine Kp.drew ?_ | with_reducible refine Kp.drewN ?_ _ | with_reducible refine Kp.al ?_ _ | with_reducible refine Kp.trans ?_ (by with_reducible assumption))
    have c1_0_1 := hb1.get (b := w.heap.size) (o := 0) (v := .int .i64 (st)) (by first | with_reducible assumption | (simp [go_sem]; done) | (simp [go_sem, *]; done))
    have c1_1_1 := hb1.get (b := w.heap.size) (o := 1) (v := .int .i64 (ln)) (by first | with_reducible assumption | (simp [go_sem]; done) | (simp [go_sem, *]; done))
    have l1_1 := cell_lt c1_0_1
    have c2_0_1 := hb1.get (b := w.heap.size + 1) (o := 0) (v := .int .i64 (0)) (by first | with_reducible assumption | (simp [go_sem]; done) | (simp [go_sem, *]; done))
    have f2_0_1 := hb1.free (b := w.heap.size + 1) (o := 0) (v := .int .i64 (0)) (by first | with_reducible assumption | (simp [go_sem]; done) | (simp [go_sem, *]; done)) (by first | with_reducible assumption | (simp [go_sem]; done) | (simp [go_sem, *]; done))
    have c2_1_1 := hb1.get (b := w.heap.size + 1) (o := 1) (v := .int .i64 (0)) (by first | with_reducible assumption | (simp [go_sem]; done) | (simp [go_sem, *]; done))
    have f2_1_1 := hb1.free (b := w.heap.size + 1) (o := 1) (v := .int .i64 (0)) (by first | with_reducible assumption | (simp [go_sem]; done) | (simp [go_sem, *]; done)) (by first | with_reducible assumption | (simp [go_sem]; done) | (simp [go_sem, *]; done))
    have c2_2_1 := hb1.get (b := w.heap.size + 1) (o := 2) (v := .int .i64 (0)) (by first | with_reducible assumption | (simp [go_sem]; done) | (simp [go_sem, *]; done))
    have f2_2_1 := hb1.free (b := w.heap.size + 1) (o := 2) (v := .int .i64 (0)) (by first | with_reducible assumption | (simp [go_sem]; done) | (simp [go_sem, *]; done)) (by first | with_reducible assumption | (simp [go_sem]; done) | (simp [go_sem, *]; done))
    have l2_1 := cell_lt c2_0_1
    have K1 := Q1
    clear hb1 Q1
    go_wp2_with fail
    refine (ron_yes _ _ p1 p2).mono ?_
    rintro e _ ⟨rfl, rfl⟩
    go_wp2_with fail
    refine (rlow_ok _ _ _ HC.out).mono ?_
    rintro e w2 ⟨rfl, hb2⟩
    have Q2 : Kp w1 w2 := by repeat (first | exact Kp.refl _ | with_reducible assumption | with_reducible refine Kp.set ?_ _ _ ?_ | (dsimp only; omega) | with_reducible refine Kp.drew ?_ | with_reducible refine Kp.drewN ?_ _ | with_reducible refine Kp.al ?_ _ | with_reducible refine Kp.trans ?_ (by with_reducible assumption))
    have c1_0_2 := Q2.get c1_0_1
    have c1_1_2 := Q2.get c1_1_1
    have l1_2 := cell_lt c1_0_2
    have f2_0_2 := Q2.free c2_0_1 f2_0_1
    have f2_1_2 := Q2.free c2_1_1 f2_1_1
    have f2_2_2 := Q2.free c2_2_1 f2_2_1
    have c2_0_2 := Q2.get c2_0_1
    have c2_1_2 := Q2.get c2_1_1
    have c2_2_2 := Q2.get c2_2_1
    have l2_2 := cell_lt c2_0_2
    have K2 := K1.trans Q2
    clear hb2 c1_0_1 c1_1_1 l1_1 f2_0_1 f2_1_1 f2_2_1 c2_0_1 c2_1_1 c2_2_1 l2_1 K1 Q2
    have s3 : w.heap.size ≤ w2.heap.size := by have := K2.low; omega
    have n3_1 : ¬ w2.heap.size = w.heap.size := by omega
    have n1_3 : ¬ w.heap.size = w2.heap.size := by omega
    have n3_2 : ¬ w2.heap.size = w.heap.size + 1 := by omega
    have n2_3 : ¬ w.heap.size + 1 = w2.heap.size := by omega
    go_wp2_with fail
    refine (rflat_ok _ _ _ k1 k2 (by omega) (by omega)).mono ?_
    rintro e _ ⟨rfl, rfl⟩
    go_wp2_with fail
    rw [A.out]
    exact bodyPost_ret (v := .tuple #[.agg #[.int .i64 ((low st ln + place) % 7), .int .i64 ((low st ln + place) / 7), .int .i64 (pl key ((low st ln + place) % 7))], .int .i64 0]) (by simp [results, Try.results16, go_sem, c2_0_2, c2_1_2, c2_2_2, l2_2]) rfl ⟨rfl, by repeat (first | exact Kp.refl _ | with_reducible assumption | with_reducible refine Kp.set ?_ _ _ ?_ | (dsimp only; omega) | with_reducible refine Kp.drew ?_ | with_reducible refine Kp.drewN ?_ _ | with_reducible refine Kp.al ?_ _ | with_reducible refine Kp.trans ?_ (by with_reducible assumption))⟩
  · have A : Hid (alt key (-1) ((low st ln + place) % 7) = -1) := rfl
    go_enter Try.func16, Try.ntmps16
    have s2 : w.heap.size ≤ w.heap.size + 1 := by omega
    have n2_1 : ¬ w.heap.size + 1 = w.heap.size := by omega
    have n1_2 : ¬ w.heap.size = w.heap.size + 1 := by omega
    go_wp2_with fail
    refine (rkeyed_any _ _ _ _).mono ?_
    rw [E.out]
    rintro e w1 ⟨rfl, hb1⟩
    have Q1 : Kp w w1 := by repeat (first | exact Kp.refl _ | with_reducible assumption | with_reducible refine Kp.set ?_ _ _ ?_ | (dsimp only; omega) | with_reducible refine Kp.drew ?_ | with_reducible refine Kp.drewN ?_ _ | with_reducible refine Kp.al ?_ _ | with_reducible refine Kp.trans ?_ (by with_reducible assumption))
    have c1_0_1 := hb1.get (b := w.heap.size) (o := 0) (v := .int .i64 (st)) (by first | with_reducible assumption | (simp [go_sem]; done) | (simp [go_sem, *]; done))
    have c1_1_1 := hb1.get (b := w.heap.size) (o := 1) (v := .int .i64 (ln)) (by first | with_reducible assumption | (simp [go_sem]; done) | (simp [go_sem, *]; done))
    have l1_1 := cell_lt c1_0_1
    have c2_0_1 := hb1.get (b := w.heap.size + 1) (o := 0) (v := .int .i64 (0)) (by first | with_reducible assumption | (simp [go_sem]; done) | (simp [go_sem, *]; done))
    have f2_0_1 := hb1.free (b := w.heap.size + 1) (o := 0) (v := .int .i64 (0)) (by first | with_reducible assumption | (simp [go_sem]; done) | (simp [go_sem, *]; done)) (by first | with_reducible assumption | (simp [go_sem]; done) | (simp [go_sem, *]; done))
    have c2_1_1 := hb1.get (b := w.heap.size + 1) (o := 1) (v := .int .i64 (0)) (by first | with_reducible assumption | (simp [go_sem]; done) | (simp [go_sem, *]; done))
    have f2_1_1 := hb1.free (b := w.heap.size + 1) (o := 1) (v := .int .i64 (0)) (by first | with_reducible assumption | (simp [go_sem]; done) | (simp [go_sem, *]; done)) (by first | with_reducible assumption | (simp [go_sem]; done) | (simp [go_sem, *]; done))
    have c2_2_1 := hb1.get (b := w.heap.size + 1) (o := 2) (v := .int .i64 (0)) (by first | with_reducible assumption | (simp [go_sem]; done) | (simp [go_sem, *]; done))
    have f2_2_1 := hb1.free (b := w.heap.size + 1) (o := 2) (v := .int .i64 (0)) (by first | with_reducible assumption | (simp [go_sem]; done) | (simp [go_sem, *]; done)) (by first | with_reducible assumption | (simp [go_sem]; done) | (simp [go_sem, *]; done))
    have l2_1 := cell_lt c2_0_1
    have K1 := Q1
    clear hb1 Q1
    go_wp2_with fail
    refine (ron_yes _ _ p1 p2).mono ?_
    rintro e _ ⟨rfl, rfl⟩
    go_wp2_with fail
    refine (rlow_ok _ _ _ HC.out).mono ?_
    rintro e w2 ⟨rfl, hb2⟩
    have Q2 : Kp w1 w2 := by repeat (first | exact Kp.refl _ | with_reducible assumption | with_reducible refine Kp.set ?_ _ _ ?_ | (dsimp only; omega) | with_reducible refine Kp.drew ?_ | with_reducible refine Kp.drewN ?_ _ | with_reducible refine Kp.al ?_ _ | with_reducible refine Kp.trans ?_ (by with_reducible assumption))
    have c1_0_2 := Q2.get c1_0_1
    have c1_1_2 := Q2.get c1_1_1
    have l1_2 := cell_lt c1_0_2
    have f2_0_2 := Q2.free c2_0_1 f2_0_1
    have f2_1_2 := Q2.free c2_1_1 f2_1_1
    have f2_2_2 := Q2.free c2_2_1 f2_2_1
    have c2_0_2 := Q2.get c2_0_1
    have c2_1_2 := Q2.get c2_1_1
    have c2_2_2 := Q2.get c2_2_1
    have l2_2 := cell_lt c2_0_2
    have K2 := K1.trans Q2
    clear hb2 c1_0_1 c1_1_1 l1_1 f2_0_1 f2_1_1 f2_2_1 c2_0_1 c2_1_1 c2_2_1 l2_1 K1 Q2
    have s3 : w.heap.size ≤ w2.heap.size := by have := K2.low; omega
    have n3_1 : ¬ w2.heap.size = w.heap.size := by omega
    have n1_3 : ¬ w.heap.size = w2.heap.size := by omega
    have n3_2 : ¬ w2.heap.size = w.heap.size + 1 := by omega
    have n2_3 : ¬ w.heap.size + 1 = w2.heap.size := by omega
    go_wp2_with fail
    rw [A.out]
    exact bodyPost_ret (v := .tuple #[.agg #[.int .i64 ((low st ln + place) % 7), .int .i64 ((low st ln + place) / 7), .int .i64 (-1)], .int .i64 0]) (by simp [results, Try.results16, go_sem, c2_0_2, c2_1_2, c2_2_2, l2_2]) rfl ⟨rfl, by repeat (first | exact Kp.refl _ | with_reducible assumption | with_reducible refine Kp.set ?_ _ _ ?_ | (dsimp only; omega) | with_reducible refine Kp.drew ?_ | with_reducible refine Kp.drewN ?_ _ | with_reducible refine Kp.al ?_ _ | with_reducible refine Kp.trans ?_ (by with_reducible assumption))⟩
  · have A : Hid (alt key 1 ((low st ln + place) % 7) = 1) := rfl
    go_enter Try.func16, Try.ntmps16
    have s2 : w.heap.size ≤ w.heap.size + 1 := by omega
    have n2_1 : ¬ w.heap.size + 1 = w.heap.size := by omega
    have n1_2 : ¬ w.heap.size = w.heap.size + 1 := by omega
    go_wp2_with fail
    refine (rkeyed_any _ _ _ _).mono ?_
    rw [E.out]
    rintro e w1 ⟨rfl, hb1⟩
    have Q1 : Kp w w1 := by repeat (first | exact Kp.refl _ | with_reducible assumption | with_reducible refine Kp.set ?_ _ _ ?_ | (dsimp only; omega) | with_reducible refine Kp.drew ?_ | with_reducible refine Kp.drewN ?_ _ | with_reducible refine Kp.al ?_ _ | with_reducible refine Kp.trans ?_ (by with_reducible assumption))
    have c1_0_1 := hb1.get (b := w.heap.size) (o := 0) (v := .int .i64 (st)) (by first | with_reducible assumption | (simp [go_sem]; done) | (simp [go_sem, *]; done))
    have c1_1_1 := hb1.get (b := w.heap.size) (o := 1) (v := .int .i64 (ln)) (by first | with_reducible assumption | (simp [go_sem]; done) | (simp [go_sem, *]; done))
    have l1_1 := cell_lt c1_0_1
    have c2_0_1 := hb1.get (b := w.heap.size + 1) (o := 0) (v := .int .i64 (0)) (by first | with_reducible assumption | (simp [go_sem]; done) | (simp [go_sem, *]; done))
    have f2_0_1 := hb1.free (b := w.heap.size + 1) (o := 0) (v := .int .i64 (0)) (by first | with_reducible assumption | (simp [go_sem]; done) | (simp [go_sem, *]; done)) (by first | with_reducible assumption | (simp [go_sem]; done) | (simp [go_sem, *]; done))
    have c2_1_1 := hb1.get (b := w.heap.size + 1) (o := 1) (v := .int .i64 (0)) (by first | with_reducible assumption | (simp [go_sem]; done) | (simp [go_sem, *]; done))
    have f2_1_1 := hb1.free (b := w.heap.size + 1) (o := 1) (v := .int .i64 (0)) (by first | with_reducible assumption | (simp [go_sem]; done) | (simp [go_sem, *]; done)) (by first | with_reducible assumption | (simp [go_sem]; done) | (simp [go_sem, *]; done))
    have c2_2_1 := hb1.get (b := w.heap.size + 1) (o := 2) (v := .int .i64 (0)) (by first | with_reducible assumption | (simp [go_sem]; done) | (simp [go_sem, *]; done))
    have f2_2_1 := hb1.free (b := w.heap.size + 1) (o := 2) (v := .int .i64 (0)) (by first | with_reducible assumption | (simp [go_sem]; done) | (simp [go_sem, *]; done)) (by first | with_reducible assumption | (simp [go_sem]; done) | (simp [go_sem, *]; done))
    have l2_1 := cell_lt c2_0_1
    have K1 := Q1
    clear hb1 Q1
    go_wp2_with fail
    refine (ron_yes _ _ p1 p2).mono ?_
    rintro e _ ⟨rfl, rfl⟩
    go_wp2_with fail
    refine (rlow_ok _ _ _ HC.out).mono ?_
    rintro e w2 ⟨rfl, hb2⟩
    have Q2 : Kp w1 w2 := by repeat (first | exact Kp.refl _ | with_reducible assumption | with_reducible refine Kp.set ?_ _ _ ?_ | (dsimp only; omega) | with_reducible refine Kp.drew ?_ | with_reducible refine Kp.drewN ?_ _ | with_reducible refine Kp.al ?_ _ | with_reducible refine Kp.trans ?_ (by with_reducible assumption))
    have c1_0_2 := Q2.get c1_0_1
    have c1_1_2 := Q2.get c1_1_1
    have l1_2 := cell_lt c1_0_2
    have f2_0_2 := Q2.free c2_0_1 f2_0_1
    have f2_1_2 := Q2.free c2_1_1 f2_1_1
    have f2_2_2 := Q2.free c2_2_1 f2_2_1
    have c2_0_2 := Q2.get c2_0_1
    have c2_1_2 := Q2.get c2_1_1
    have c2_2_2 := Q2.get c2_2_1
    have l2_2 := cell_lt c2_0_2
    have K2 := K1.trans Q2
    clear hb2 c1_0_1 c1_1_1 l1_1 f2_0_1 f2_1_1 f2_2_1 c2_0_1 c2_1_1 c2_2_1 l2_1 K1 Q2
    have s3 : w.heap.size ≤ w2.heap.size := by have := K2.low; omega
    have n3_1 : ¬ w2.heap.size = w.heap.size := by omega
    have n1_3 : ¬ w.heap.size = w2.heap.size := by omega
    have n3_2 : ¬ w2.heap.size = w.heap.size + 1 := by omega
    have n2_3 : ¬ w.heap.size + 1 = w2.heap.size := by omega
    go_wp2_with fail
    rw [A.out]
    exact bodyPost_ret (v := .tuple #[.agg #[.int .i64 ((low st ln + place) % 7), .int .i64 ((low st ln + place) / 7), .int .i64 (1)], .int .i64 0]) (by simp [results, Try.results16, go_sem, c2_0_2, c2_1_2, c2_2_2, l2_2]) rfl ⟨rfl, by repeat (first | exact Kp.refl _ | with_reducible assumption | with_reducible refine Kp.set ?_ _ _ ?_ | (dsimp only; omega) | with_reducible refine Kp.drew ?_ | with_reducible refine Kp.drewN ?_ _ | with_reducible refine Kp.al ?_ _ | with_reducible refine Kp.trans ?_ (by with_reducible assumption))⟩
  · have A : Hid (alt key 2 ((low st ln + place) % 7) = 0) := rfl
    go_enter Try.func16, Try.ntmps16
    have s2 : w.heap.size ≤ w.heap.size + 1 := by omega
    have n2_1 : ¬ w.heap.size + 1 = w.heap.size := by omega
    have n1_2 : ¬ w.heap.size = w.heap.size + 1 := by omega
    go_wp2_with fail
    refine (rkeyed_any _ _ _ _).mono ?_
    rw [E.out]
    rintro e w1 ⟨rfl, hb1⟩
    have Q1 : Kp w w1 := by repeat (first | exact Kp.refl _ | with_reducible assumption | with_reducible refine Kp.set ?_ _ _ ?_ | (dsimp only; omega) | with_reducible refine Kp.drew ?_ | with_reducible refine Kp.drewN ?_ _ | with_reducible refine Kp.al ?_ _ | with_reducible refine Kp.trans ?_ (by with_reducible assumption))
    have c1_0_1 := hb1.get (b := w.heap.size) (o := 0) (v := .int .i64 (st)) (by first | with_reducible assumption | (simp [go_sem]; done) | (simp [go_sem, *]; done))
    have c1_1_1 := hb1.get (b := w.heap.size) (o := 1) (v := .int .i64 (ln)) (by first | with_reducible assumption | (simp [go_sem]; done) | (simp [go_sem, *]; done))
    have l1_1 := cell_lt c1_0_1
    have c2_0_1 := hb1.get (b := w.heap.size + 1) (o := 0) (v := .int .i64 (0)) (by first | with_reducible assumption | (simp [go_sem]; done) | (simp [go_sem, *]; done))
    have f2_0_1 := hb1.free (b := w.heap.size + 1) (o := 0) (v := .int .i64 (0)) (by first | with_reducible assumption | (simp [go_sem]; done) | (simp [go_sem, *]; done)) (by first | with_reducible assumption | (simp [go_sem]; done) | (simp [go_sem, *]; done))
    have c2_1_1 := hb1.get (b := w.heap.size + 1) (o := 1) (v := .int .i64 (0)) (by first | with_reducible assumption | (simp [go_sem]; done) | (simp [go_sem, *]; done))
    have f2_1_1 := hb1.free (b := w.heap.size + 1) (o := 1) (v := .int .i64 (0)) (by first | with_reducible assumption | (simp [go_sem]; done) | (simp [go_sem, *]; done)) (by first | with_reducible assumption | (simp [go_sem]; done) | (simp [go_sem, *]; done))
    have c2_2_1 := hb1.get (b := w.heap.size + 1) (o := 2) (v := .int .i64 (0)) (by first | with_reducible assumption | (simp [go_sem]; done) | (simp [go_sem, *]; done))
    have f2_2_1 := hb1.free (b := w.heap.size + 1) (o := 2) (v := .int .i64 (0)) (by first | with_reducible assumption | (simp [go_sem]; done) | (simp [go_sem, *]; done)) (by first | with_reducible assumption | (simp [go_sem]; done) | (simp [go_sem, *]; done))
    have l2_1 := cell_lt c2_0_1
    have K1 := Q1
    clear hb1 Q1
    go_wp2_with fail
    refine (ron_yes _ _ p1 p2).mono ?_
    rintro e _ ⟨rfl, rfl⟩
    go_wp2_with fail
    refine (rlow_ok _ _ _ HC.out).mono ?_
    rintro e w2 ⟨rfl, hb2⟩
    have Q2 : Kp w1 w2 := by repeat (first | exact Kp.refl _ | with_reducible assumption | with_reducible refine Kp.set ?_ _ _ ?_ | (dsimp only; omega) | with_reducible refine Kp.drew ?_ | with_reducible refine Kp.drewN ?_ _ | with_reducible refine Kp.al ?_ _ | with_reducible refine Kp.trans ?_ (by with_reducible assumption))
    have c1_0_2 := Q2.get c1_0_1
    have c1_1_2 := Q2.get c1_1_1
    have l1_2 := cell_lt c1_0_2
    have f2_0_2 := Q2.free c2_0_1 f2_0_1
    have f2_1_2 := Q2.free c2_1_1 f2_1_1
    have f2_2_2 := Q2.free c2_2_1 f2_2_1
    have c2_0_2 := Q2.get c2_0_1
    have c2_1_2 := Q2.get c2_1_1
    have c2_2_2 := Q2.get c2_2_1
    have l2_2 := cell_lt c2_0_2
    have K2 := K1.trans Q2
    clear hb2 c1_0_1 c1_1_1 l1_1 f2_0_1 f2_1_1 f2_2_1 c2_0_1 c2_1_1 c2_2_1 l2_1 K1 Q2
    have s3 : w.heap.size ≤ w2.heap.size := by have := K2.low; omega
    have n3_1 : ¬ w2.heap.size = w.heap.size := by omega
    have n1_3 : ¬ w.heap.size = w2.heap.size := by omega
    have n3_2 : ¬ w2.heap.size = w.heap.size + 1 := by omega
    have n2_3 : ¬ w.heap.size + 1 = w2.heap.size := by omega
    go_wp2_with fail
    rw [A.out]
    exact bodyPost_ret (v := .tuple #[.agg #[.int .i64 ((low st ln + place) % 7), .int .i64 ((low st ln + place) / 7), .int .i64 (0)], .int .i64 0]) (by simp [results, Try.results16, go_sem, c2_0_2, c2_1_2, c2_2_2, l2_2]) rfl ⟨rfl, by repeat (first | exact Kp.refl _ | with_reducible assumption | with_reducible refine Kp.set ?_ _ _ ?_ | (dsimp only; omega) | with_reducible refine Kp.drew ?_ | with_reducible refine Kp.drewN ?_ _ | with_reducible refine Kp.al ?_ _ | with_reducible refine Kp.trans ?_ (by with_reducible assumption))⟩
theorem crpitch_e1 (st ln key place acc : Int) (w : World) (h : ¬ (Vc st ln ∧ 0 ≤ key ∧ key ≤ 2)) :
    Calls Try.prog 16 #[.agg #[.int .i64 st, .int .i64 ln], .int .i64 key, .int .i64 place, .int .i64 acc] w fun e w' => e = .returned (.tuple #[.agg #[.int .i64 0, .int .i64 0, .int .i64 0], .int .i64 (kerr st ln key)]) ∧ Kp w w' := by
  rcases kerr_no h with E | E
  all_goals
    rw [E]
    have E' := Lib.hid E
    clear E h
    go_enter Try.func16, Try.ntmps16
    have s2 : w.heap.size ≤ w.heap.size + 1 := by omega
    have n2_1 : ¬ w.heap.size + 1 = w.heap.size := by omega
    have n1_2 : ¬ w.heap.size = w.heap.size + 1 := by omega
    go_wp2_with fail
    refine (rkeyed_any _ _ _ _).mono ?_
    rw [E'.out]
    rintro e w1 ⟨rfl, hb1⟩
    have Q1 : Kp w w1 := by repeat (first | exact Kp.refl _ | with_reducible assumption | with_reducible refine Kp.set ?_ _ _ ?_ | (dsimp only; omega) | with_reducible refine Kp.drew ?_ | with_reducible refine Kp.drewN ?_ _ | with_reducible refine Kp.al ?_ _ | with_reducible refine Kp.trans ?_ (by with_reducible assumption))
    have c1_0_1 := hb1.get (b := w.heap.size) (o := 0) (v := .int .i64 (st)) (by first | with_reducible assumption | (simp [go_sem]; done) | (simp [go_sem, *]; done))
    have c1_1_1 := hb1.get (b := w.heap.size) (o := 1) (v := .int .i64 (ln)) (by first | with_reducible assumption | (simp [go_sem]; done) | (simp [go_sem, *]; done))
    have l1_1 := cell_lt c1_0_1
    have c2_0_1 := hb1.get (b := w.heap.size + 1) (o := 0) (v := .int .i64 (0)) (by first | with_reducible assumption | (simp [go_sem]; done) | (simp [go_sem, *]; done))
    have f2_0_1 := hb1.free (b := w.heap.size + 1) (o := 0) (v := .int .i64 (0)) (by first | with_reducible assumption | (simp [go_sem]; done) | (simp [go_sem, *]; done)) (by first | with_reducible assumption | (simp [go_sem]; done) | (simp [go_sem, *]; done))
    have c2_1_1 := hb1.get (b := w.heap.size + 1) (o := 1) (v := .int .i64 (0)) (by first | with_reducible assumption | (simp [go_sem]; done) | (simp [go_sem, *]; done))
    have f2_1_1 := hb1.free (b := w.heap.size + 1) (o := 1) (v := .int .i64 (0)) (by first | with_reducible assumption | (simp [go_sem]; done) | (simp [go_sem, *]; done)) (by first | with_reducible assumption | (simp [go_sem]; done) | (simp [go_sem, *]; done))
    have c2_2_1 := hb1.get (b := w.heap.size + 1) (o := 2) (v := .int .i64 (0)) (by first | with_reducible assumption | (simp [go_sem]; done) | (simp [go_sem, *]; done))
    have f2_2_1 := hb1.free (b := w.heap.size + 1) (o := 2) (v := .int .i64 (0)) (by first | with_reducible assumption | (simp [go_sem]; done) | (simp [go_sem, *]; done)) (by first | with_reducible assumption | (simp [go_sem]; done) | (simp [go_sem, *]; done))
    have l2_1 := cell_lt c2_0_1
    have K1 := Q1
    clear hb1 Q1
    go_wp2_with fail
    first | exact bodyPost_ret (v := (.tuple #[.agg #[.int .i64 0, .int .i64 0, .int .i64 0], .int .i64 8])) (by simp [results, Try.results16, go_sem, c2_0_1, c2_1_1, c2_2_1]) rfl ⟨rfl, by repeat (first | exact Kp.refl _ | with_reducible assumption | with_reducible refine Kp.set ?_ _ _ ?_ | (dsimp only; omega) | with_reducible refine Kp.drew ?_ | with_reducible refine Kp.drewN ?_ _ | with_reducible refine Kp.al ?_ _ | with_reducible refine Kp.trans ?_ (by with_reducible assumption))⟩ | exact bodyPost_ret (v := (.tuple #[.agg #[.int .i64 0, .int .i64 0, .int .i64 0], .int .i64 2])) (by simp [results, Try.results16, go_sem, c2_0_1, c2_1_1, c2_2_1]) rfl ⟨rfl, by repeat (first | exact Kp.refl _ | with_reducible assumption | with_reducible refine Kp.set ?_ _ _ ?_ | (dsimp only; omega) | with_reducible refine Kp.drew ?_ | with_reducible refine Kp.drewN ?_ _ | with_reducible refine Kp.al ?_ _ | with_reducible refine Kp.trans ?_ (by with_reducible assumption))⟩
theorem crpitch_e2 (st ln key place acc : Int) (w : World) (hc : Vc st ln) (k1 : 0 ≤ key) (k2 : key ≤ 2) (hp : place < -4 ∨ 12 < place) :
    Calls Try.prog 16 #[.agg #[.int .i64 st, .int .i64 ln], .int .i64 key, .int .i64 place, .int .i64 acc] w fun e w' => e = .returned (.tuple #[.agg #[.int .i64 0, .int .i64 0, .int .i64 0], .int .i64 2]) ∧ Kp w w' := by
  have E := Lib.hid (kerr_ok hc k1 k2)
  have HP := Lib.hid hp
  clear hc hp
  go_enter Try.func16, Try.ntmps16
  have s2 : w.heap.size ≤ w.heap.size + 1 := by omega
  have n2_1 : ¬ w.heap.size + 1 = w.heap.size := by omega
  have n1_2 : ¬ w.heap.size = w.heap.size + 1 := by omega
  go_wp2_with fail
  refine (rkeyed_any _ _ _ _).mono ?_
  rw [E.out]
  rintro e w1 ⟨rfl, hb1⟩
  have Q1 : Kp w w1 := by repeat (first | exact Kp.refl _ | with_reducible assumption | with_reducible refine Kp.set ?_ _ _ ?_ | (dsimp only; omega) | with_reducible refine Kp.drew ?_ | with_reducible refine Kp.drewN ?_ _ | with_reducible refine Kp.al ?_ _ | with_reducible refine Kp.trans ?_ (by with_reducible assumption))
  have c1_0_1 := hb1.get (b := w.heap.size) (o := 0) (v := .int .i64 (st)) (by first | with_reducible assumption | (simp [go_sem]; done) | (simp [go_sem, *]; done))
  have c1_1_1 := hb1.get (b := w.heap.size) (o := 1) (v := .int .i64 (ln)) (by first | with_reducible assumption | (simp [go_sem]; done) | (simp [go_sem, *]; done))
  have l1_1 := cell_lt c1_0_1
  have c2_0_1 := hb1.get (b := w.heap.size + 1) (o := 0) (v := .int .i64 (0)) (by first | with_reducible assumption | (simp [go_sem]; done) | (simp [go_sem, *]; done))
  have f2_0_1 := hb1.free (b := w.heap.size + 1) (o := 0) (v := .int .i64 (0)) (by first | with_reducible assumption | (simp [go_sem]; done) | (simp [go_sem, *]; done)) (by first | with_reducible assumption | (simp [go_sem]; done) | (simp [go_sem, *]; done))
  have c2_1_1 := hb1.get (b := w.heap.size + 1) (o := 1) (v := .int .i64 (0)) (by first | with_reducible assumption | (simp [go_sem]; done) | (simp [go_sem, *]; done))
  have f2_1_1 := hb1.free (b := w.heap.size + 1) (o := 1) (v := .int .i64 (0)) (by first | with_reducible assumption | (simp [go_sem]; done) | (simp [go_sem, *]; done)) (by first | with_reducible assumption | (simp [go_sem]; done) | (simp [go_sem, *]; done))
  have c2_2_1 := hb1.get (b := w.heap.size + 1) (o := 2) (v := .int .i64 (0)) (by first | with_reducible assumption | (simp [go_sem]; done) | (simp [go_sem, *]; done))
  have f2_2_1 := hb1.free (b := w.heap.size + 1) (o := 2) (v := .int .i64 (0)) (by first | with_reducible assumption | (simp [go_sem]; done) | (simp [go_sem, *]; done)) (by first | with_reducible assumption | (simp [go_sem]; done) | (simp [go_sem, *]; done))
  have l2_1 := cell_lt c2_0_1
  have K1 := Q1
  clear hb1 Q1
  go_wp2_with fail
  refine (ron_no _ _ HP.out).mono ?_
  rintro e _ ⟨rfl, rfl⟩
  go_wp2_with fail
  exact bodyPost_ret (v := (.tuple #[.agg #[.int .i64 0, .int .i64 0, .int .i64 0], .int .i64 2])) (by simp [results, Try.results16, go_sem, c2_0_1, c2_1_1, c2_2_1]) rfl ⟨rfl, by repeat (first | exact Kp.refl _ | with_reducible assumption | with_reducible refine Kp.set ?_ _ _ ?_ | (dsimp only; omega) | with_reducible refine Kp.drew ?_ | with_reducible refine Kp.drewN ?_ _ | with_reducible refine Kp.al ?_ _ | with_reducible refine Kp.trans ?_ (by with_reducible assumption))⟩
theorem crpitch_e3 (st ln key place acc : Int) (w : World) (hc : Vc st ln) (k1 : 0 ≤ key) (k2 : key ≤ 2) (p1 : -4 ≤ place) (p2 : place ≤ 12) (ha : acc < -1 ∨ 2 < acc) :
    Calls Try.prog 16 #[.agg #[.int .i64 st, .int .i64 ln], .int .i64 key, .int .i64 place, .int .i64 acc] w fun e w' => e = .returned (.tuple #[.agg #[.int .i64 0, .int .i64 0, .int .i64 0], .int .i64 8]) ∧ Kp w w' := by
  obtain ⟨b1, b2⟩ := low_bd hc
  have E := Lib.hid (kerr_ok hc k1 k2)
  have HC := Lib.hid hc
  have t0 : (acc == 0) = false := beq_eq_false_iff_ne.2 (by omega)
  have t1 : (acc == -1) = false := beq_eq_false_iff_ne.2 (by omega)
  have t2 : (acc == 1) = false := beq_eq_false_iff_ne.2 (by omega)
  have t3 : (acc == 2) = false := beq_eq_false_iff_ne.2 (by omega)
  clear hc
  rcases ha with ha | ha
  all_goals
    go_enter Try.func16, Try.ntmps16
    have s2 : w.heap.size ≤ w.heap.size + 1 := by omega
    have n2_1 : ¬ w.heap.size + 1 = w.heap.size := by omega
    have n1_2 : ¬ w.heap.size = w.heap.size + 1 := by omega
    go_wp2_with fail
    refine (rkeyed_any _ _ _ _).mono ?_
    rw [E.out]
    rintro e w1 ⟨rfl, hb1⟩
    have Q1 : Kp w w1 := by repeat (first | exact Kp.refl _ | with_reducible assumption | with_reducible refine Kp.set ?_ _ _ ?_ | (dsimp only; omega) | with_reducible refine Kp.drew ?_ | with_reducible refine Kp.drewN ?_ _ | with_reducible refine Kp.al ?_ _ | with_reducible refine Kp.trans ?_ (by with_reducible assumption))
    have c1_0_1 := hb1.get (b := w.heap.size) (o := 0) (v := .int .i64 (st)) (by first | with_reducible assumption | (simp [go_sem]; done) | (simp [go_sem, *]; done))
    have c1_1_1 := hb1.get (b := w.heap.size) (o := 1) (v := .int .i64 (ln)) (by first | with_reducible assumption | (simp [go_sem]; done) | (simp [go_sem, *]; done))
    have l1_1 := cell_lt c1_0_1
    have c2_0_1 := hb1.get (b := w.heap.size + 1) (o := 0) (v := .int .i64 (0)) (by first | with_reducible assumption | (simp [go_sem]; done) | (simp [go_sem, *]; done))
    have f2_0_1 := hb1.free (b := w.heap.size + 1) (o := 0) (v := .int .i64 (0)) (by first | with_reducible assumption | (simp [go_sem]; done) | (simp [go_sem, *]; done)) (by first | with_reducible assumption | (simp [go_sem]; done) | (simp [go_sem, *]; done))
    have c2_1_1 := hb1.get (b := w.heap.size + 1) (o := 1) (v := .int .i64 (0)) (by first | with_reducible assumption | (simp [go_sem]; done) | (simp [go_sem, *]; done))
    have f2_1_1 := hb1.free (b := w.heap.size + 1) (o := 1) (v := .int .i64 (0)) (by first | with_reducible assumption | (simp [go_sem]; done) | (simp [go_sem, *]; done)) (by first | with_reducible assumption | (simp [go_sem]; done) | (simp [go_sem, *]; done))
    have c2_2_1 := hb1.get (b := w.heap.size + 1) (o := 2) (v := .int .i64 (0)) (by first | with_reducible assumption | (simp [go_sem]; done) | (simp [go_sem, *]; done))
    have f2_2_1 := hb1.free (b := w.heap.size + 1) (o := 2) (v := .int .i64 (0)) (by first | with_reducible assumption | (simp [go_sem]; done) | (simp [go_sem, *]; done)) (by first | with_reducible assumption | (simp [go_sem]; done) | (simp [go_sem, *]; done))
    have l2_1 := cell_lt c2_0_1
    have K1 := Q1
    clear hb1 Q1
    go_wp2_with fail
    refine (ron_yes _ _ p1 p2).mono ?_
    rintro e _ ⟨rfl, rfl⟩
    go_wp2_with fail
    exact bodyPost_ret (v := (.tuple #[.agg #[.int .i64 0, .int .i64 0, .int .i64 0], .int .i64 8])) (by simp [results, Try.results16, go_sem, c2_0_1, c2_1_1, c2_2_1]) rfl ⟨rfl, by repeat (first | exact Kp.refl _ | with_reducible assumption | with_reducible refine Kp.set ?_ _ _ ?_ | (dsimp only; omega) | with_reducible refine Kp.drew ?_ | with_reducible refine Kp.drewN ?_ _ | with_reducible refine Kp.al ?_ _ | with_reducible refine Kp.trans ?_ (by with_reducible assumption))⟩
end Go.Proofs.Ytgajdmefflndmaa
