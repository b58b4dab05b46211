/- Contracts of Moved, of the program and of the reference. -/
import Derived.Test.YtgajdmefflndmaaBe
namespace Go.Proofs.Ytgajdmefflndmaa
open Go.RowKit

/-- A number is that of a place. -/
def pB (n : Int) : Bool := decide (-4 ≤ n ∧ n ≤ 12)
theorem pB_yes {n : Int} (h1 : -4 ≤ n) (h2 : n ≤ 12) : pB n = true := by unfold pB; simp; omega
theorem pB_no {n : Int} (h : n < -4 ∨ 12 < n) : pB n = false := by unfold pB; simp; omega
theorem placed_any (n : Int) (w : World) : Calls Try.prog 32 #[.int .i64 n] w fun e w' => e = .returned (.bool (pB n)) ∧ w = w' := by
  by_cases h : -4 ≤ n ∧ n ≤ 12
  · rw [pB_yes h.1 h.2]; exact placed_yes n w h.1 h.2
  · rw [pB_no (by omega)]; exact placed_no n w (by omega)
theorem ron_any (n : Int) (w : World) : Calls Try.prog 37 #[.int .i64 n] w fun e w' => e = .returned (.bool (pB n)) ∧ w = w' := by
  by_cases h : -4 ≤ n ∧ n ≤ 12
  · rw [pB_yes h.1 h.2]; exact ron_yes n w h.1 h.2
  · rw [pB_no (by omega)]; exact ron_no n w (by omega)
theorem quiet_left {P : Program} {f : FuncId} {args : Array Value} {w : World} {n : Nat} {v : Value} (h : Calls P f args (w.drewN n) fun e w' => e = .returned v ∧ w.drewN n = w') :
    Calls P f args (w.drewN n) fun e w'' => e = .returned v ∧ ∃ m, w'' = w.drewN m := h.mono fun _ _ ⟨he, hm⟩ => ⟨he, n, hm.symm⟩

theorem moved_e1 (st ln su lu p : Int) (w : World) (hc : ¬ Vc st ln) :
    Calls Try.prog 21 #[.agg #[.int .i64 st, .int .i64 ln], .agg #[.int .i64 su, .int .i64 lu], .int .i64 p] w fun e w' => e = .returned (.tuple #[.int .i64 0, .int .i64 (cchk st ln)]) ∧ Kp w w' := by
  rcases cchk_no hc with E | E
  all_goals
    rw [E]
    have E' := Lib.hid E
    clear E hc
    go_enter Try.func21, Try.ntmps21
    go_wp2_with fail
    refine (ccheck_any _ _ _).mono ?_
    rw [E'.out]
    rintro e w1 ⟨rfl, hb1⟩
    have Q1 : Kp w w1 := by repeat (first | exact Kp.refl _ | with_reducible assumption | with_reducible refine Kp.set ?_ _ _ ?_ | (dsimp only; omega) | with_reducible refine Kp.drew ?_ | with_reducible refine Kp.drewN ?_ _ | with_reducible refine Kp.al ?_ _ | with_reducible refine Kp.trans ?_ (by with_reducible assumption))
    have K1 := Q1
    clear hb1 Q1
    go_wp2_with fail
    go_ret2
    exact ⟨rfl, by repeat (first | exact Kp.refl _ | with_reducible assumption | with_reducible refine Kp.set ?_ _ _ ?_ | (dsimp only; omega) | with_reducible refine Kp.drew ?_ | with_reducible refine Kp.drewN ?_ _ | with_reducible refine Kp.al ?_ _ | with_reducible refine Kp.trans ?_ (by with_reducible assumption))⟩
theorem moved_e2 (st ln su lu p : Int) (w : World) (hc : Vc st ln) (hd : ¬ Vc su lu) :
    Calls Try.prog 21 #[.agg #[.int .i64 st, .int .i64 ln], .agg #[.int .i64 su, .int .i64 lu], .int .i64 p] w fun e w' => e = .returned (.tuple #[.int .i64 0, .int .i64 (cchk su lu)]) ∧ Kp w w' := by
  have E := Lib.hid (cchk_ok hc)
  clear hc
  rcases cchk_no hd with F | F
  all_goals
    rw [F]
    have F' := Lib.hid F
    clear F hd
    go_enter Try.func21, Try.ntmps21
    go_wp2_with fail
    refine (ccheck_any _ _ _).mono ?_
    rw [E.out]
    rintro e w1 ⟨rfl, hb1⟩
    have Q1 : Kp w w1 := by repeat (first | exact Kp.refl _ | with_reducible assumption | with_reducible refine Kp.set ?_ _ _ ?_ | (dsimp only; omega) | with_reducible refine Kp.drew ?_ | with_reducible refine Kp.drewN ?_ _ | with_reducible refine Kp.al ?_ _ | with_reducible refine Kp.trans ?_ (by with_reducible assumption))
    have c1_0_1 := hb1.get (b := w.heap.size) (o := 0) (v := .int .i64 (st)) (by first | with_reducible assumption | (simp [go_sem]; done) | (simp [go_sem, *]; done))
    have c1_1_1 := hb1.get (b := w.heap.size) (o := 1) (v := .int .i64 (ln)) (by first | with_reducible assumption | (simp [go_sem]; done) | (simp [go_sem, *]; done))
    have l1_1 := cell_lt c1_0_1
    have c2_0_1 := hb1.get (b := w.heap.size + 1) (o := 0) (v := .int .i64 (su)) (by first | with_reducible assumption | (simp [go_sem]; done) | (simp [go_sem, *]; done))
    have c2_1_1 := hb1.get (b := w.heap.size + 1) (o := 1) (v := .int .i64 (lu)) (by first | with_reducible assumption | (simp [go_sem]; done) | (simp [go_sem, *]; done))
    have l2_1 := cell_lt c2_0_1
    have K1 := Q1
    clear hb1 Q1
    go_wp2_with fail
    refine (ccheck_any _ _ _).mono ?_
    rw [F'.out]
    rintro e w2 ⟨rfl, hb2⟩
    have Q2 : Kp w1 w2 := by repeat (first | exact Kp.refl _ | with_reducible assumption | with_reducible refine Kp.set ?_ _ _ ?_ | (dsimp only; omega) | with_reducible refine Kp.drew ?_ | with_reducible refine Kp.drewN ?_ _ | with_reducible refine Kp.al ?_ _ | with_reducible refine Kp.trans ?_ (by with_reducible assumption))
    have c1_0_2 := Q2.get c1_0_1
    have c1_1_2 := Q2.get c1_1_1
    have l1_2 := cell_lt c1_0_2
    have c2_0_2 := Q2.get c2_0_1
    have c2_1_2 := Q2.get c2_1_1
    have l2_2 := cell_lt c2_0_2
    have K2 := K1.trans Q2
    clear hb2 c1_0_1 c1_1_1 l1_1 c2_0_1 c2_1_1 l2_1 K1 Q2
    go_wp2_with fail
    go_ret2
    exact ⟨rfl, by repeat (first | exact Kp.refl _ | with_reducible assumption | with_reducible refine Kp.set ?_ _ _ ?_ | (dsimp only; omega) | with_reducible refine Kp.drew ?_ | with_reducible refine Kp.drewN ?_ _ | with_reducible refine Kp.al ?_ _ | with_reducible refine Kp.trans ?_ (by with_reducible assumption))⟩
set_option maxHeartbeats 1000000 in
theorem moved_e3 (st ln su lu p : Int) (w : World) (hc : Vc st ln) (hd : Vc su lu) (h : p < -4 ∨ 12 < p) :
    Calls Try.prog 21 #[.agg #[.int .i64 st, .int .i64 ln], .agg #[.int .i64 su, .int .i64 lu], .int .i64 p] w fun e w' => e = .returned (.tuple #[.int .i64 0, .int .i64 2]) ∧ Kp w w' := by
  obtain ⟨b1, b2⟩ := low_bd hc
  obtain ⟨d1, d2⟩ := low_bd hd
  have E := Lib.hid (cchk_ok hc)
  have F := Lib.hid (cchk_ok hd)
  have HC := Lib.hid hc
  have HD := Lib.hid hd
  clear hc hd
  have hp := pB_no h
  have H := Lib.hid h
  clear h
  go_enter Try.func21, Try.ntmps21
  go_wp2_with fail
  refine (ccheck_any _ _ _).mono ?_
  rw [E.out]
  rintro e w1 ⟨rfl, hb1⟩
  have Q1 : Kp w w1 := by repeat (first | exact Kp.refl _ | with_reducible assumption | with_reducible refine Kp.set ?_ _ _ ?_ | (dsimp only; omega) | with_reducible refine Kp.drew ?_ | with_reducible refine Kp.drewN ?_ _ | with_reducible refine Kp.al ?_ _ | with_reducible refine Kp.trans ?_ (by with_reducible assumption))
  have c1_0_1 := hb1.get (b := w.heap.size) (o := 0) (v := .int .i64 (st)) (by first | with_reducible assumption | (simp [go_sem]; done) | (simp [go_sem, *]; done))
  have c1_1_1 := hb1.get (b := w.heap.size) (o := 1) (v := .int .i64 (ln)) (by first | with_reducible assumption | (simp [go_sem]; done) | (simp [go_sem, *]; done))
  have l1_1 := cell_lt c1_0_1
  have c2_0_1 := hb1.get (b := w.heap.size + 1) (o := 0) (v := .int .i64 (su)) (by first | with_reducible assumption | (simp [go_sem]; done) | (simp [go_sem, *]; done))
  have c2_1_1 := hb1.get (b := w.heap.size + 1) (o := 1) (v := .int .i64 (lu)) (by first | with_reducible assumption | (simp [go_sem]; done) | (simp [go_sem, *]; done))
  have l2_1 := cell_lt c2_0_1
  have K1 := Q1
  clear hb1 Q1
  go_wp2_with fail
  refine (ccheck_any _ _ _).mono ?_
  rw [F.out]
  rintro e w2 ⟨rfl, hb2⟩
  have Q2 : Kp w1 w2 := by repeat (first | exact Kp.refl _ | with_reducible assumption | with_reducible refine Kp.set ?_ _ _ ?_ | (dsimp only; omega) | with_reducible refine Kp.drew ?_ | with_reducible refine Kp.drewN ?_ _ | with_reducible refine Kp.al ?_ _ | with_reducible refine Kp.trans ?_ (by with_reducible assumption))
  have c1_0_2 := Q2.get c1_0_1
  have c1_1_2 := Q2.get c1_1_1
  have l1_2 := cell_lt c1_0_2
  have c2_0_2 := Q2.get c2_0_1
  have c2_1_2 := Q2.get c2_1_1
  have l2_2 := cell_lt c2_0_2
  have K2 := K1.trans Q2
  clear hb2 c1_0_1 c1_1_1 l1_1 c2_0_1 c2_1_1 l2_1 K1 Q2
  go_wp2_with fail
  go_quiet ((go_at_call 32; exact quiet_left (placed_any _ _)))
  go_wp2_with fail
  go_ret2
  exact ⟨rfl, by repeat (first | exact Kp.refl _ | with_reducible assumption | with_reducible refine Kp.set ?_ _ _ ?_ | (dsimp only; omega) | with_reducible refine Kp.drew ?_ | with_reducible refine Kp.drewN ?_ _ | with_reducible refine Kp.al ?_ _ | with_reducible refine Kp.trans ?_ (by with_reducible assumption))⟩
set_option maxHeartbeats 1000000 in
theorem moved_e4 (st ln su lu p : Int) (w : World) (hc : Vc st ln) (hd : Vc su lu) (p1 : -4 ≤ p) (p2 : p ≤ 12) (h : p + low st ln - low su lu < -4 ∨ 12 < p + low st ln - low su lu) :
    Calls Try.prog 21 #[.agg #[.int .i64 st, .int .i64 ln], .agg #[.int .i64 su, .int .i64 lu], .int .i64 p] w fun e w' => e = .returned (.tuple #[.int .i64 0, .int .i64 2]) ∧ Kp w w' := by
  obtain ⟨b1, b2⟩ := low_bd hc
  obtain ⟨d1, d2⟩ := low_bd hd
  have E := Lib.hid (cchk_ok hc)
  have F := Lib.hid (cchk_ok hd)
  have HC := Lib.hid hc
  have HD := Lib.hid hd
  clear hc hd
  have hp := pB_yes p1 p2
  have hq := pB_no h
  have H := Lib.hid h
  clear h
  go_enter Try.func21, Try.ntmps21
  go_wp2_with fail
  refine (ccheck_any _ _ _).mono ?_
  rw [E.out]
  rintro e w1 ⟨rfl, hb1⟩
  have Q1 : Kp w w1 := by repeat (first | exact Kp.refl _ | with_reducible assumption | with_reducible refine Kp.set ?_ _ _ ?_ | (dsimp only; omega) | with_reducible refine Kp.drew ?_ | with_reducible refine Kp.drewN ?_ _ | with_reducible refine Kp.al ?_ _ | with_reducible refine Kp.trans ?_ (by with_reducible assumption))
  have c1_0_1 := hb1.get (b := w.heap.size) (o := 0) (v := .int .i64 (st)) (by first | with_reducible assumption | (simp [go_sem]; done) | (simp [go_sem, *]; done))
  have c1_1_1 := hb1.get (b := w.heap.size) (o := 1) (v := .int .i64 (ln)) (by first | with_reducible assumption | (simp [go_sem]; done) | (simp [go_sem, *]; done))
  have l1_1 := cell_lt c1_0_1
  have c2_0_1 := hb1.get (b := w.heap.size + 1) (o := 0) (v := .int .i64 (su)) (by first | with_reducible assumption | (simp [go_sem]; done) | (simp [go_sem, *]; done))
  have c2_1_1 := hb1.get (b := w.heap.size + 1) (o := 1) (v := .int .i64 (lu)) (by first | with_reducible assumption | (simp [go_sem]; done) | (simp [go_sem, *]; done))
  have l2_1 := cell_lt c2_0_1
  have K1 := Q1
  clear hb1 Q1
  go_wp2_with fail
  refine (ccheck_any _ _ _).mono ?_
  rw [F.out]
  rintro e w2 ⟨rfl, hb2⟩
  have Q2 : Kp w1 w2 := by repeat (first | exact Kp.refl _ | with_reducible assumption | with_reducible refine Kp.set ?_ _ _ ?_ | (dsimp only; omega) | with_reducible refine Kp.drew ?_ | with_reducible refine Kp.drewN ?_ _ | with_reducible refine Kp.al ?_ _ | with_reducible refine Kp.trans ?_ (by with_reducible assumption))
  have c1_0_2 := Q2.get c1_0_1
  have c1_1_2 := Q2.get c1_1_1
  have l1_2 := cell_lt c1_0_2
  have c2_0_2 := Q2.get c2_0_1
  have c2_1_2 := Q2.get c2_1_1
  have l2_2 := cell_lt c2_0_2
  have K2 := K1.trans Q2
  clear hb2 c1_0_1 c1_1_1 l1_1 c2_0_1 c2_1_1 l2_1 K1 Q2
  go_wp2_with fail
  have i1 : IntKind.i64.wrap (p + low st ln) = p + low st ln := IntWalk.i64_in _ (by omega)
  have i2 : IntKind.i64.wrap (p + low st ln - low su lu) = p + low st ln - low su lu := IntWalk.i64_in _ (by omega)
  go_region_held3 (fun w' => w'.cell? ⟨w.heap.size, 0, none⟩ = some (.int .i64 st) ∧ w'.cell? ⟨w.heap.size, 1, none⟩ = some (.int .i64 ln) ∧ w'.cell? ⟨w.heap.size + 1, 0, none⟩ = some (.int .i64 su) ∧ w'.cell? ⟨w.heap.size + 1, 1, none⟩ = some (.int .i64 lu))
    (((try dsimp only); (repeat' apply And.intro) <;> (repeat (first | with_reducible assumption | with_reducible refine cell_drew ?_ | with_reducible refine cell_drewN ?_ | with_reducible refine Kp.get (by with_reducible assumption) ?_))))
    (first | (go_at_call 31; refine (low_ok _ _ _ (by with_reducible first | exact HC.out | exact HD.out)).mono ?_; rintro e wx ⟨rfl, hbx⟩) | (go_at_call 32; refine (placed_any _ _).mono ?_; rintro e _ ⟨rfl, rfl⟩))
  clear i1 i2
  go_wp2_with fail
  go_ret2
  exact ⟨rfl, by repeat (first | exact Kp.refl _ | with_reducible assumption | with_reducible refine Kp.set ?_ _ _ ?_ | (dsimp only; omega) | with_reducible refine Kp.drew ?_ | with_reducible refine Kp.drewN ?_ _ | with_reducible refine Kp.al ?_ _ | with_reducible refine Kp.trans ?_ (by with_reducible assumption))⟩
set_option maxHeartbeats 2000000 in
theorem moved_ok (st ln su lu p : Int) (w : World) (hc : Vc st ln) (hd : Vc su lu) (p1 : -4 ≤ p) (p2 : p ≤ 12) (q1 : -4 ≤ p + low st ln - low su lu) (q2 : p + low st ln - low su lu ≤ 12) :
    Calls Try.prog 21 #[.agg #[.int .i64 st, .int .i64 ln], .agg #[.int .i64 su, .int .i64 lu], .int .i64 p] w fun e w' => e = .returned (.tuple #[.int .i64 (p + low st ln - low su lu), .int .i64 0]) ∧ Kp w w' := by
  obtain ⟨b1, b2⟩ := low_bd hc
  obtain ⟨d1, d2⟩ := low_bd hd
  have E := Lib.hid (cchk_ok hc)
  have F := Lib.hid (cchk_ok hd)
  have HC := Lib.hid hc
  have HD := Lib.hid hd
  clear hc hd
  have hp := pB_yes p1 p2
  have hq := pB_yes q1 q2
  go_enter Try.func21, Try.ntmps21
  go_wp2_with fail
  refine (ccheck_any _ _ _).mono ?_
  rw [E.out]
  rintro e w1 ⟨rfl, hb1⟩
  have Q1 : Kp w w1 := by repeat (first | exact Kp.refl _ | with_reducible assumption | with_reducible refine Kp.set ?_ _ _ ?_ | (dsimp only; omega) | with_reducible refine Kp.drew ?_ | with_reducible refine Kp.drewN ?_ _ | with_reducible refine Kp.al ?_ _ | with_reducible refine Kp.trans ?_ (by with_reducible assumption))
  have c1_0_1 := hb1.get (b := w.heap.size) (o := 0) (v := .int .i64 (st)) (by first | with_reducible assumption | (simp [go_sem]; done) | (simp [go_sem, *]; done))
  have c1_1_1 := hb1.get (b := w.heap.size) (o := 1) (v := .int .i64 (ln)) (by first | with_reducible assumption | (simp [go_sem]; done) | (simp [go_sem, *]; done))
  have l1_1 := cell_lt c1_0_1
  have c2_0_1 := hb1.get (b := w.heap.size + 1) (o := 0) (v := .int .i64 (su)) (by first | with_reducible assumption | (simp [go_sem]; done) | (simp [go_sem, *]; done))
  have c2_1_1 := hb1.get (b := w.heap.size + 1) (o := 1) (v := .int .i64 (lu)) (by first | with_reducible assumption | (simp [go_sem]; done) | (simp [go_sem, *]; done))
  have l2_1 := cell_lt c2_0_1
  have K1 := Q1
  clear hb1 Q1
  go_wp2_with fail
  refine (ccheck_any _ _ _).mono ?_
  rw [F.out]
  rintro e w2 ⟨rfl, hb2⟩
  have Q2 : Kp w1 w2 := by repeat (first | exact Kp.refl _ | with_reducible assumption | with_reducible refine Kp.set ?_ _ _ ?_ | (dsimp only; omega) | with_reducible refine Kp.drew ?_ | with_reducible refine Kp.drewN ?_ _ | with_reducible refine Kp.al ?_ _ | with_reducible refine Kp.trans ?_ (by with_reducible assumption))
  have c1_0_2 := Q2.get c1_0_1
  have c1_1_2 := Q2.get c1_1_1
  have l1_2 := cell_lt c1_0_2
  have c2_0_2 := Q2.get c2_0_1
  have c2_1_2 := Q2.get c2_1_1
  have l2_2 := cell_lt c2_0_2
  have K2 := K1.trans Q2
  clear hb2 c1_0_1 c1_1_1 l1_1 c2_0_1 c2_1_1 l2_1 K1 Q2
  go_wp2_with fail
  have i1 : IntKind.i64.wrap (p + low st ln) = p + low st ln := IntWalk.i64_in _ (by omega)
  have i2 : IntKind.i64.wrap (p + low st ln - low su lu) = p + low st ln - low su lu := IntWalk.i64_in _ (by omega)
  go_region_held3 (fun w' => w'.cell? ⟨w.heap.size, 0, none⟩ = some (.int .i64 st) ∧ w'.cell? ⟨w.heap.size, 1, none⟩ = some (.int .i64 ln) ∧ w'.cell? ⟨w.heap.size + 1, 0, none⟩ = some (.int .i64 su) ∧ w'.cell? ⟨w.heap.size + 1, 1, none⟩ = some (.int .i64 lu))
    (((try dsimp only); (repeat' apply And.intro) <;> (repeat (first | with_reducible assumption | with_reducible refine cell_drew ?_ | with_reducible refine cell_drewN ?_ | with_reducible refine Kp.get (by with_reducible assumption) ?_))))
    (first | (go_at_call 31; refine (low_ok _ _ _ (by with_reducible first | exact HC.out | exact HD.out)).mono ?_; rintro e wx ⟨rfl, hbx⟩) | (go_at_call 32; refine (placed_any _ _).mono ?_; rintro e _ ⟨rfl, rfl⟩))
  go_wp2_with fail
  go_region_held3 (fun w' => w'.cell? ⟨w.heap.size, 0, none⟩ = some (.int .i64 st) ∧ w'.cell? ⟨w.heap.size, 1, none⟩ = some (.int .i64 ln) ∧ w'.cell? ⟨w.heap.size + 1, 0, none⟩ = some (.int .i64 su) ∧ w'.cell? ⟨w.heap.size + 1, 1, none⟩ = some (.int .i64 lu))
    (((try dsimp only); (repeat' apply And.intro) <;> (repeat (first | with_reducible assumption | with_reducible refine cell_drew ?_ | with_reducible refine cell_drewN ?_ | with_reducible refine Kp.get (by with_reducible assumption) ?_))))
    (first | (go_at_call 31; refine (low_ok _ _ _ (by with_reducible first | exact HC.out | exact HD.out)).mono ?_; rintro e wx ⟨rfl, hbx⟩) | (go_at_call 32; refine (placed_any _ _).mono ?_; rintro e _ ⟨rfl, rfl⟩))
  clear i1 i2
  go_wp2_with fail
  go_ret2
  exact ⟨rfl, by repeat (first | exact Kp.refl _ | with_reducible assumption | with_reducible refine Kp.set ?_ _ _ ?_ | (dsimp only; omega) | with_reducible refine Kp.drew ?_ | with_reducible refine Kp.drewN ?_ _ | with_reducible refine Kp.al ?_ _ | with_reducible refine Kp.trans ?_ (by with_reducible assumption))⟩

theorem rmoved_e1 (st ln su lu p : Int) (w : World) (hc : ¬ Vc st ln) :
    Calls Try.prog 22 #[.agg #[.int .i64 st, .int .i64 ln], .agg #[.int .i64 su, .int .i64 lu], .int .i64 p] w fun e w' => e = .returned (.tuple #[.int .i64 0, .int .i64 (cchk st ln)]) ∧ Kp w w' := by
  rcases cchk_no hc with E | E
  all_goals
    rw [E]
    have E' := Lib.hid E
    clear E hc
    go_enter Try.func22, Try.ntmps22
    go_wp2_with fail
    refine (crcheck_any _ _ _).mono ?_
    rw [E'.out]
    rintro e w1 ⟨rfl, hb1⟩
    have Q1 : Kp w w1 := by repeat (first | exact Kp.refl _ | with_reducible assumption | with_reducible refine Kp.set ?_ _ _ ?_ | (dsimp only; omega) | with_reducible refine Kp.drew ?_ | with_reducible refine Kp.drewN ?_ _ | with_reducible refine Kp.al ?_ _ | with_reducible refine Kp.trans ?_ (by with_reducible assumption))
    have K1 := Q1
    clear hb1 Q1
    go_wp2_with fail
    go_ret2
    exact ⟨rfl, by repeat (first | exact Kp.refl _ | with_reducible assumption | with_reducible refine Kp.set ?_ _ _ ?_ | (dsimp only; omega) | with_reducible refine Kp.drew ?_ | with_reducible refine Kp.drewN ?_ _ | with_reducible refine Kp.al ?_ _ | with_reducible refine Kp.trans ?_ (by with_reducible assumption))⟩
theorem rmoved_e2 (st ln su lu p : Int) (w : World) (hc : Vc st ln) (hd : ¬ Vc su lu) :
    Calls Try.prog 22 #[.agg #[.int .i64 st, .int .i64 ln], .agg #[.int .i64 su, .int .i64 lu], .int .i64 p] w fun e w' => e = .returned (.tuple #[.int .i64 0, .int .i64 (cchk su lu)]) ∧ Kp w w' := by
  have E := Lib.hid (cchk_ok hc)
  clear hc
  rcases cchk_no hd with F | F
  all_goals
    rw [F]
    have F' := Lib.hid F
    clear F hd
    go_enter Try.func22, Try.ntmps22
    go_wp2_with fail
    refine (crcheck_any _ _ _).mono ?_
    rw [E.out]
    rintro e w1 ⟨rfl, hb1⟩
    have Q1 : Kp w w1 := by repeat (first | exact Kp.refl _ | with_reducible assumption | with_reducible refine Kp.set ?_ _ _ ?_ | (dsimp only; omega) | with_reducible refine Kp.drew ?_ | with_reducible refine Kp.drewN ?_ _ | with_reducible refine Kp.al ?_ _ | with_reducible refine Kp.trans ?_ (by with_reducible assumption))
    have c1_0_1 := hb1.get (b := w.heap.size) (o := 0) (v := .int .i64 (st)) (by first | with_reducible assumption | (simp [go_sem]; done) | (simp [go_sem, *]; done))
    have c1_1_1 := hb1.get (b := w.heap.size) (o := 1) (v := .int .i64 (ln)) (by first | with_reducible assumption | (simp [go_sem]; done) | (simp [go_sem, *]; done))
    have l1_1 := cell_lt c1_0_1
    have c2_0_1 := hb1.get (b := w.heap.size + 1) (o := 0) (v := .int .i64 (su)) (by first | with_reducible assumption | (simp [go_sem]; done) | (simp [go_sem, *]; done))
    have c2_1_1 := hb1.get (b := w.heap.size + 1) (o := 1) (v := .int .i64 (lu)) (by first | with_reducible assumption | (simp [go_sem]; done) | (simp [go_sem, *]; done))
    have l2_1 := cell_lt c2_0_1
    have K1 := Q1
    clear hb1 Q1
    go_wp2_with fail
    refine (crcheck_any _ _ _).mono ?_
    rw [F'.out]
    rintro e w2 ⟨rfl, hb2⟩
    have Q2 : Kp w1 w2 := by repeat (first | exact Kp.refl _ | with_reducible assumption | with_reducible refine Kp.set ?_ _ _ ?_ | (dsimp only; omega) | with_reducible refine Kp.drew ?_ | with_reducible refine Kp.drewN ?_ _ | with_reducible refine Kp.al ?_ _ | with_reducible refine Kp.trans ?_ (by with_reducible assumption))
    have c1_0_2 := Q2.get c1_0_1
    have c1_1_2 := Q2.get c1_1_1
    have l1_2 := cell_lt c1_0_2
    have c2_0_2 := Q2.get c2_0_1
    have c2_1_2 := Q2.get c2_1_1
    have l2_2 := cell_lt c2_0_2
    have K2 := K1.trans Q2
    clear hb2 c1_0_1 c1_1_1 l1_1 c2_0_1 c2_1_1 l2_1 K1 Q2
    go_wp2_with fail
    go_ret2
    exact ⟨rfl, by repeat (first | exact Kp.refl _ | with_reducible assumption | with_reducible refine Kp.set ?_ _ _ ?_ | (dsimp only; omega) | with_reducible refine Kp.drew ?_ | with_reducible refine Kp.drewN ?_ _ | with_reducible refine Kp.al ?_ _ | with_reducible refine Kp.trans ?_ (by with_reducible assumption))⟩
set_option maxHeartbeats 1000000 in
theorem rmoved_e3 (st ln su lu p : Int) (w : World) (hc : Vc st ln) (hd : Vc su lu) (h : p < -4 ∨ 12 < p) :
    Calls Try.prog 22 #[.agg #[.int .i64 st, .int .i64 ln], .agg #[.int .i64 su, .int .i64 lu], .int .i64 p] w fun e w' => e = .returned (.tuple #[.int .i64 0, .int .i64 2]) ∧ Kp w w' := by
  obtain ⟨b1, b2⟩ := low_bd hc
  obtain ⟨d1, d2⟩ := low_bd hd
  have E := Lib.hid (cchk_ok hc)
  have F := Lib.hid (cchk_ok hd)
  have HC := Lib.hid hc
  have HD := Lib.hid hd
  clear hc hd
  have hp := pB_no h
  have H := Lib.hid h
  clear h
  go_enter Try.func22, Try.ntmps22
  go_wp2_with fail
  refine (crcheck_any _ _ _).mono ?_
  rw [E.out]
  rintro e w1 ⟨rfl, hb1⟩
  have Q1 : Kp w w1 := by repeat (first | exact Kp.refl _ | with_reducible assumption | with_reducible refine Kp.set ?_ _ _ ?_ | (dsimp only; omega) | with_reducible refine Kp.drew ?_ | with_reducible refine Kp.drewN ?_ _ | with_reducible refine Kp.al ?_ _ | with_reducible refine Kp.trans ?_ (by with_reducible assumption))
  have c1_0_1 := hb1.get (b := w.heap.size) (o := 0) (v := .int .i64 (st)) (by first | with_reducible assumption | (simp [go_sem]; done) | (simp [go_sem, *]; done))
  have c1_1_1 := hb1.get (b := w.heap.size) (o := 1) (v := .int .i64 (ln)) (by first | with_reducible assumption | (simp [go_sem]; done) | (simp [go_sem, *]; done))
  have l1_1 := cell_lt c1_0_1
  have c2_0_1 := hb1.get (b := w.heap.size + 1) (o := 0) (v := .int .i64 (su)) (by first | with_reducible assumption | (simp [go_sem]; done) | (simp [go_sem, *]; done))
  have c2_1_1 := hb1.get (b := w.heap.size + 1) (o := 1) (v := .int .i64 (lu)) (by first | with_reducible assumption | (simp [go_sem]; done) | (simp [go_sem, *]; done))
  have l2_1 := cell_lt c2_0_1
  have K1 := Q1
  clear hb1 Q1
  go_wp2_with fail
  refine (crcheck_any _ _ _).mono ?_
  rw [F.out]
  rintro e w2 ⟨rfl, hb2⟩
  have Q2 : Kp w1 w2 := by repeat (first | exact Kp.refl _ | with_reducible assumption | with_reducible refine Kp.set ?_ _ _ ?_ | (dsimp only; omega) | with_reducible refine Kp.drew ?_ | with_reducible refine Kp.drewN ?_ _ | with_reducible refine Kp.al ?_ _ | with_reducible refine Kp.trans ?_ (by with_reducible assumption))
  have c1_0_2 := Q2.get c1_0_1
  have c1_1_2 := Q2.get c1_1_1
  have l1_2 := cell_lt c1_0_2
  have c2_0_2 := Q2.get c2_0_1
  have c2_1_2 := Q2.get c2_1_1
  have l2_2 := cell_lt c2_0_2
  have K2 := K1.trans Q2
  clear hb2 c1_0_1 c1_1_1 l1_1 c2_0_1 c2_1_1 l2_1 K1 Q2
  go_wp2_with fail
  go_quiet ((go_at_call 37; exact quiet_left (ron_any _ _)))
  go_wp2_with fail
  go_ret2
  exact ⟨rfl, by repeat (first | exact Kp.refl _ | with_reducible assumption | with_reducible refine Kp.set ?_ _ _ ?_ | (dsimp only; omega) | with_reducible refine Kp.drew ?_ | with_reducible refine Kp.drewN ?_ _ | with_reducible refine Kp.al ?_ _ | with_reducible refine Kp.trans ?_ (by with_reducible assumption))⟩
set_option maxHeartbeats 1000000 in
theorem rmoved_e4 (st ln su lu p : Int) (w : World) (hc : Vc st ln) (hd : Vc su lu) (p1 : -4 ≤ p) (p2 : p ≤ 12) (h : p + low st ln - low su lu < -4 ∨ 12 < p + low st ln - low su lu) :
    Calls Try.prog 22 #[.agg #[.int .i64 st, .int .i64 ln], .agg #[.int .i64 su, .int .i64 lu], .int .i64 p] w fun e w' => e = .returned (.tuple #[.int .i64 0, .int .i64 2]) ∧ Kp w w' := by
  obtain ⟨b1, b2⟩ := low_bd hc
  obtain ⟨d1, d2⟩ := low_bd hd
  have E := Lib.hid (cchk_ok hc)
  have F := Lib.hid (cchk_ok hd)
  have HC := Lib.hid hc
  have HD := Lib.hid hd
  clear hc hd
  have hp := pB_yes p1 p2
  have hq := pB_no h
  have H := Lib.hid h
  clear h
  go_enter Try.func22, Try.ntmps22
  go_wp2_with fail
  refine (crcheck_any _ _ _).mono ?_
  rw [E.out]
  rintro e w1 ⟨rfl, hb1⟩
  have Q1 : Kp w w1 := by repeat (first | exact Kp.refl _ | with_reducible assumption | with_reducible refine Kp.set ?_ _ _ ?_ | (dsimp only; omega) | with_reducible refine Kp.drew ?_ | with_reducible refine Kp.drewN ?_ _ | with_reducible refine Kp.al ?_ _ | with_reducible refine Kp.trans ?_ (by with_reducible assumption))
  have c1_0_1 := hb1.get (b := w.heap.size) (o := 0) (v := .int .i64 (st)) (by first | with_reducible assumption | (simp [go_sem]; done) | (simp [go_sem, *]; done))
  have c1_1_1 := hb1.get (b := w.heap.size) (o := 1) (v := .int .i64 (ln)) (by first | with_reducible assumption | (simp [go_sem]; done) | (simp [go_sem, *]; done))
  have l1_1 := cell_lt c1_0_1
  have c2_0_1 := hb1.get (b := w.heap.size + 1) (o := 0) (v := .int .i64 (su)) (by first | with_reducible assumption | (simp [go_sem]; done) | (simp [go_sem, *]; done))
  have c2_1_1 := hb1.get (b := w.heap.size + 1) (o := 1) (v := .int .i64 (lu)) (by first | with_reducible assumption | (simp [go_sem]; done) | (simp [go_sem, *]; done))
  have l2_1 := cell_lt c2_0_1
  have K1 := Q1
  clear hb1 Q1
  go_wp2_with fail
  refine (crcheck_any _ _ _).mono ?_
  rw [F.out]
  rintro e w2 ⟨rfl, hb2⟩
  have Q2 : Kp w1 w2 := by repeat (first | exact Kp.refl _ | with_reducible assumption | with_reducible refine Kp.set ?_ _ _ ?_ | (dsimp only; omega) | with_reducible refine Kp.drew ?_ | with_reducible refine Kp.drewN ?_ _ | with_reducible refine Kp.al ?_ _ | with_reducible refine Kp.trans ?_ (by with_reducible assumption))
  have c1_0_2 := Q2.get c1_0_1
  have c1_1_2 := Q2.get c1_1_1
  have l1_2 := cell_lt c1_0_2
  have c2_0_2 := Q2.get c2_0_1
  have c2_1_2 := Q2.get c2_1_1
  have l2_2 := cell_lt c2_0_2
  have K2 := K1.trans Q2
  clear hb2 c1_0_1 c1_1_1 l1_1 c2_0_1 c2_1_1 l2_1 K1 Q2
  go_wp2_with fail
  have i1 : IntKind.i64.wrap (p + low st ln) = p + low st ln := IntWalk.i64_in _ (by omega)
  have i2 : IntKind.i64.wrap (p + low st ln - low su lu) = p + low st ln - low su lu := IntWalk.i64_in _ (by omega)
  go_region_held3 (fun w' => w'.cell? ⟨w.heap.size, 0, none⟩ = some (.int .i64 st) ∧ w'.cell? ⟨w.heap.size, 1, none⟩ = some (.int .i64 ln) ∧ w'.cell? ⟨w.heap.size + 1, 0, none⟩ = some (.int .i64 su) ∧ w'.cell? ⟨w.heap.size + 1, 1, none⟩ = some (.int .i64 lu))
    (((try dsimp only); (repeat' apply And.intro) <;> (repeat (first | with_reducible assumption | with_reducible refine cell_drew ?_ | with_reducible refine cell_drewN ?_ | with_reducible refine Kp.get (by with_reducible assumption) ?_))))
    (first | (go_at_call 36; refine (rlow_ok _ _ _ (by with_reducible first | exact HC.out | exact HD.out)).mono ?_; rintro e wx ⟨rfl, hbx⟩) | (go_at_call 37; refine (ron_any _ _).mono ?_; rintro e _ ⟨rfl, rfl⟩))
  clear i1 i2
  go_wp2_with fail
  go_ret2
  exact ⟨rfl, by repeat (first | exact Kp.refl _ | with_reducible assumption | with_reducible refine Kp.set ?_ _ _ ?_ | (dsimp only; omega) | with_reducible refine Kp.drew ?_ | with_reducible refine Kp.drewN ?_ _ | with_reducible refine Kp.al ?_ _ | with_reducible refine Kp.trans ?_ (by with_reducible assumption))⟩
set_option maxHeartbeats 2000000 in
theorem rmoved_ok (st ln su lu p : Int) (w : World) (hc : Vc st ln) (hd : Vc su lu) (p1 : -4 ≤ p) (p2 : p ≤ 12) (q1 : -4 ≤ p + low st ln - low su lu) (q2 : p + low st ln - low su lu ≤ 12) :
    Calls Try.prog 22 #[.agg #[.int .i64 st, .int .i64 ln], .agg #[.int .i64 su, .int .i64 lu], .int .i64 p] w fun e w' => e = .returned (.tuple #[.int .i64 (p + low st ln - low su lu), .int .i64 0]) ∧ Kp w w' := by
  obtain ⟨b1, b2⟩ := low_bd hc
  obtain ⟨d1, d2⟩ := low_bd hd
  have E := Lib.hid (cchk_ok hc)
  have F := Lib.hid (cchk_ok hd)
  have HC := Lib.hid hc
  have HD := Lib.hid hd
  clear hc hd
  have hp := pB_yes p1 p2
  have hq := pB_yes q1 q2
  go_enter Try.func22, Try.ntmps22
  go_wp2_with fail
  refine (crcheck_any _ _ _).mono ?_
  rw [E.out]
  rintro e w1 ⟨rfl, hb1⟩
  have Q1 : Kp w w1 := by repeat (first | exact Kp.refl _ | with_reducible assumption | with_reducible refine Kp.set ?_ _ _ ?_ | (dsimp only; omega) | with_reducible refine Kp.drew ?_ | with_reducible refine Kp.drewN ?_ _ | with_reducible refine Kp.al ?_ _ | with_reducible refine Kp.trans ?_ (by with_reducible assumption))
  have c1_0_1 := hb1.get (b := w.heap.size) (o := 0) (v := .int .i64 (st)) (by first | with_reducible assumption | (simp [go_sem]; done) | (simp [go_sem, *]; done))
  have c1_1_1 := hb1.get (b := w.heap.size) (o := 1) (v := .int .i64 (ln)) (by first | with_reducible assumption | (simp [go_sem]; done) | (simp [go_sem, *]; done))
  have l1_1 := cell_lt c1_0_1
  have c2_0_1 := hb1.get (b := w.heap.size + 1) (o := 0) (v := .int .i64 (su)) (by first | with_reducible assumption | (simp [go_sem]; done) | (simp [go_sem, *]; done))
  have c2_1_1 := hb1.get (b := w.heap.size + 1) (o := 1) (v := .int .i64 (lu)) (by first | with_reducible assumption | (simp [go_sem]; done) | (simp [go_sem, *]; done))
  have l2_1 := cell_lt c2_0_1
  have K1 := Q1
  clear hb1 Q1
  go_wp2_with fail
  refine (crcheck_any _ _ _).mono ?_
  rw [F.out]
  rintro e w2 ⟨rfl, hb2⟩
  have Q2 : Kp w1 w2 := by repeat (first | exact Kp.refl _ | with_reducible assumption | with_reducible refine Kp.set ?_ _ _ ?_ | (dsimp only; omega) | with_reducible refine Kp.drew ?_ | with_reducible refine Kp.drewN ?_ _ | with_reducible refine Kp.al ?_ _ | with_reducible refine Kp.trans ?_ (by with_reducible assumption))
  have c1_0_2 := Q2.get c1_0_1
  have c1_1_2 := Q2.get c1_1_1
  have l1_2 := cell_lt c1_0_2
  have c2_0_2 := Q2.get c2_0_1
  have c2_1_2 := Q2.get c2_1_1
  have l2_2 := cell_lt c2_0_2
  have K2 := K1.trans Q2
  clear hb2 c1_0_1 c1_1_1 l1_1 c2_0_1 c2_1_1 l2_1 K1 Q2
  go_wp2_with fail
  have i1 : IntKind.i64.wrap (p + low st ln) = p + low st ln := IntWalk.i64_in _ (by omega)
  have i2 : IntKind.i64.wrap (p + low st ln - low su lu) = p + low st ln - low su lu := IntWalk.i64_in _ (by omega)
  go_region_held3 (fun w' => w'.cell? ⟨w.heap.size, 0, none⟩ = some (.int .i64 st) ∧ w'.cell? ⟨w.heap.size, 1, none⟩ = some (.int .i64 ln) ∧ w'.cell? ⟨w.heap.size + 1, 0, none⟩ = some (.int .i64 su) ∧ w'.cell? ⟨w.heap.size + 1, 1, none⟩ = some (.int .i64 lu))
    (((try dsimp only); (repeat' apply And.intro) <;> (repeat (first | with_reducible assumption | with_reducible refine cell_drew ?_ | with_reducible refine cell_drewN ?_ | with_reducible refine Kp.get (by with_reducible assumption) ?_))))
    (first | (go_at_call 36; refine (rlow_ok _ _ _ (by with_reducible first | exact HC.out | exact HD.out)).mono ?_; rintro e wx ⟨rfl, hbx⟩) | (go_at_call 37; refine (ron_any _ _).mono ?_; rintro e _ ⟨rfl, rfl⟩))
  go_wp2_with fail
  go_region_held3 (fun w' => w'.cell? ⟨w.heap.size, 0, none⟩ = some (.int .i64 st) ∧ w'.cell? ⟨w.heap.size, 1, none⟩ = some (.int .i64 ln) ∧ w'.cell? ⟨w.heap.size + 1, 0, none⟩ = some (.int .i64 su) ∧ w'.cell? ⟨w.heap.size + 1, 1, none⟩ = some (.int .i64 lu))
    (((try dsimp only); (repeat' apply And.intro) <;> (repeat (first | with_reducible assumption | with_reducible refine cell_drew ?_ | with_reducible refine cell_drewN ?_ | with_reducible refine Kp.get (by with_reducible assumption) ?_))))
    (first | (go_at_call 36; refine (rlow_ok _ _ _ (by with_reducible first | exact HC.out | exact HD.out)).mono ?_; rintro e wx ⟨rfl, hbx⟩) | (go_at_call 37; refine (ron_any _ _).mono ?_; rintro e _ ⟨rfl, rfl⟩))
  clear i1 i2
  go_wp2_with fail
  go_ret2
  exact ⟨rfl, by repeat (first | exact Kp.refl _ | with_reducible assumption | with_reducible refine Kp.set ?_ _ _ ?_ | (dsimp only; omega) | with_reducible refine Kp.drew ?_ | with_reducible refine Kp.drewN ?_ _ | with_reducible refine Kp.al ?_ _ | with_reducible refine Kp.trans ?_ (by with_reducible assumption))⟩
end Go.Proofs.Ytgajdmefflndmaa
