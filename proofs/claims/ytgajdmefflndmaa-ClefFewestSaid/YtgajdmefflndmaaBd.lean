/- Contracts of clef.Place and tactusref06.Place. -/
import Derived.Test.YtgajdmefflndmaaBc
namespace Go.Proofs.Ytgajdmefflndmaa
open Go.RowKit

/-- The accidental that a pitch needs. -/
def accOf (key s a : Int) : Int := if a = pl key s then 0 else if a = 0 then 2 else a
theorem pl_bd (key s : Int) : -1 ≤ pl key s ∧ pl key s ≤ 0 := by unfold pl; split <;> omega

set_option maxHeartbeats 1000000 in
theorem cplace_ok (st ln key s o a : Int) (w : World) (hc : Vc st ln) (k1 : 0 ≤ key) (k2 : key ≤ 2) (h1 : 0 ≤ s) (h2 : s ≤ 6) (h3 : 0 ≤ o) (h4 : o ≤ 8) (h5 : -1 ≤ a) (h6 : a ≤ 1) (p1 : -4 ≤ 7 * o + s - low st ln) (p2 : 7 * o + s - low st ln ≤ 12) :
    Calls Try.prog 10 #[.agg #[.int .i64 st, .int .i64 ln], .int .i64 key, .agg #[.int .i64 s, .int .i64 o, .int .i64 a]] w fun e w' => e = .returned (.tuple #[.int .i64 (7 * o + s - low st ln), .int .i64 (accOf key s a), .int .i64 0]) ∧ Kp w w' := by
  obtain ⟨b1, b2⟩ := low_bd hc
  have E := Lib.hid (kerr_ok hc k1 k2)
  have HC := Lib.hid hc
  clear hc
  obtain ⟨g1, g2⟩ := pl_bd key s
  have HA : Hid (accOf key s a = if a = pl key s then 0 else if a = 0 then 2 else a) := rfl
  have A : ((a == pl key s) = true ∧ accOf key s a = 0) ∨ ((a == pl key s) = false ∧ (a == -1) = true ∧ (a == 0) = false ∧ accOf key s a = -1 ∧ a = -1) ∨ ((a == pl key s) = false ∧ (a == -1) = false ∧ (a == 1) = true ∧ (a == 0) = false ∧ accOf key s a = 1 ∧ a = 1) ∨ ((a == pl key s) = false ∧ (a == -1) = false ∧ (a == 1) = false ∧ (a == 0) = true ∧ accOf key s a = 2) := by
    unfold accOf
    by_cases e : a = pl key s
    · left; simp [e]
    · right
      have : a = -1 ∨ a = 1 ∨ a = 0 := by omega
      rcases this with rfl | rfl | rfl
      · left; simp [e]
      · right; left; simp [e]
      · right; right; simp [e]
  clear HA
  rcases A with ⟨t1, A⟩ | ⟨t1, t2, t0, A, A'⟩ | ⟨t1, t2, t3, t0, A, A'⟩ | ⟨t1, t2, t3, t0, A⟩
  all_goals
    have B := Lib.hid A
    clear A
    (try (have B' := Lib.hid A'; clear A'))
    go_enter Try.func10, Try.ntmps10
    go_wp2_with fail
    refine (keyed_any _ _ _ _).mono ?_
    rw [E.out]
    rintro e w1 ⟨rfl, hb1⟩
    have Q1 : Kp w w1 := by repeat (first | exact Kp.refl _ | with_reducible assumption | with_reducible refine Kp.set ?_ _ _ ?_ | (dsimp only; omega) | with_reducible refine Kp.drew ?_ | with_reducible refine Kp.drewN ?_ _ | with_reducible refine Kp.al ?_ _ | with_reducible refine Kp.trans ?_ (by with_reducible assumption))
    have c1_0_1 := hb1.get (b := w.heap.size) (o := 0) (v := .int .i64 (st)) (by first | with_reducible assumption | (simp [go_sem]; done) | (simp [go_sem, *]; done))
    have c1_1_1 := hb1.get (b := w.heap.size) (o := 1) (v := .int .i64 (ln)) (by first | with_reducible assumption | (simp [go_sem]; done) | (simp [go_sem, *]; done))
    have l1_1 := cell_lt c1_0_1
    have c2_0_1 := hb1.get (b := w.heap.size + 1) (o := 0) (v := .int .i64 (s)) (by first | with_reducible assumption | (simp [go_sem]; done) | (simp [go_sem, *]; done))
    have c2_1_1 := hb1.get (b := w.heap.size + 1) (o := 1) (v := .int .i64 (o)) (by first | with_reducible assumption | (simp [go_sem]; done) | (simp [go_sem, *]; done))
    have c2_2_1 := hb1.get (b := w.heap.size + 1) (o := 2) (v := .int .i64 (a)) (by first | with_reducible assumption | (simp [go_sem]; done) | (simp [go_sem, *]; done))
    have l2_1 := cell_lt c2_0_1
    have K1 := Q1
    clear hb1 Q1
    go_wp2_with fail
    refine (number_ok _ _ _ _ h1 h2 h3 h4 h5 h6).mono ?_
    rintro e w2 ⟨rfl, hb2⟩
    have Q2 : Kp w1 w2 := by repeat (first | exact Kp.refl _ | with_reducible assumption | with_reducible refine Kp.set ?_ _ _ ?_ | (dsimp only; omega) | with_reducible refine Kp.drew ?_ | with_reducible refine Kp.drewN ?_ _ | with_reducible refine Kp.al ?_ _ | with_reducible refine Kp.trans ?_ (by with_reducible assumption))
    have c1_0_2 := Q2.get c1_0_1
    have c1_1_2 := Q2.get c1_1_1
    have l1_2 := cell_lt c1_0_2
    have c2_0_2 := Q2.get c2_0_1
    have c2_1_2 := Q2.get c2_1_1
    have c2_2_2 := Q2.get c2_2_1
    have l2_2 := cell_lt c2_0_2
    have K2 := K1.trans Q2
    clear hb2 c1_0_1 c1_1_1 l1_1 c2_0_1 c2_1_1 c2_2_1 l2_1 K1 Q2
    go_wp2_with fail
    refine (low_ok _ _ _ HC.out).mono ?_
    rintro e w3 ⟨rfl, hb3⟩
    have Q3 : Kp w2 w3 := by repeat (first | exact Kp.refl _ | with_reducible assumption | with_reducible refine Kp.set ?_ _ _ ?_ | (dsimp only; omega) | with_reducible refine Kp.drew ?_ | with_reducible refine Kp.drewN ?_ _ | with_reducible refine Kp.al ?_ _ | with_reducible refine Kp.trans ?_ (by with_reducible assumption))
    have c1_0_3 := Q3.get c1_0_2
    have c1_1_3 := Q3.get c1_1_2
    have l1_3 := cell_lt c1_0_3
    have c2_0_3 := Q3.get c2_0_2
    have c2_1_3 := Q3.get c2_1_2
    have c2_2_3 := Q3.get c2_2_2
    have l2_3 := cell_lt c2_0_3
    have K3 := K2.trans Q3
    clear hb3 c1_0_2 c1_1_2 l1_2 c2_0_2 c2_1_2 c2_2_2 l2_2 K2 Q3
    go_wp2_with fail
    refine (placed_yes _ _ p1 p2).mono ?_
    rintro e _ ⟨rfl, rfl⟩
    go_wp2_with fail
    go_region_held3 (fun w' => w'.cell? ⟨w.heap.size + 1, 0, none⟩ = some (.int .i64 s) ∧ w'.cell? ⟨w.heap.size + 1, 2, none⟩ = some (.int .i64 a))
      (((try dsimp only); (repeat' apply And.intro) <;> (repeat (first | with_reducible assumption | with_reducible refine cell_drew ?_ | with_reducible refine cell_drewN ?_ | with_reducible refine Kp.get (by with_reducible assumption) ?_))))
      (first | (go_at_call 33; refine (plain_ok _ _ _ k1 k2 h1 h2).mono ?_; rintro e _ ⟨rfl, rfl⟩))
    go_wp2_with fail
    (try (go_quiet (fail); go_wp2_with fail))
    go_ret3
    refine ⟨congrArg (fun z => Ending.returned (.tuple #[.int .i64 (7 * o + s - low st ln), .int .i64 z, .int .i64 0])) ?_, by repeat (first | exact Kp.refl _ | with_reducible assumption | with_reducible refine Kp.set ?_ _ _ ?_ | (dsimp only; omega) | with_reducible refine Kp.drew ?_ | with_reducible refine Kp.drewN ?_ _ | with_reducible refine Kp.al ?_ _ | with_reducible refine Kp.trans ?_ (by with_reducible assumption))⟩
    first | exact B.out.symm | (rw [B.out]; exact B'.out)

set_option maxHeartbeats 1000000 in
theorem crplace_ok (st ln key s o a : Int) (w : World) (hc : Vc st ln) (k1 : 0 ≤ key) (k2 : key ≤ 2) (h1 : 0 ≤ s) (h2 : s ≤ 6) (h3 : 0 ≤ o) (h4 : o ≤ 8) (h5 : -1 ≤ a) (h6 : a ≤ 1) (p1 : -4 ≤ 7 * o + s - low st ln) (p2 : 7 * o + s - low st ln ≤ 12) :
    Calls Try.prog 11 #[.agg #[.int .i64 st, .int .i64 ln], .int .i64 key, .agg #[.int .i64 s, .int .i64 o, .int .i64 a]] w fun e w' => e = .returned (.tuple #[.int .i64 (7 * o + s - low st ln), .int .i64 (accOf key s a), .int .i64 0]) ∧ Kp w w' := by
  obtain ⟨b1, b2⟩ := low_bd hc
  have E := Lib.hid (kerr_ok hc k1 k2)
  have HC := Lib.hid hc
  clear hc
  obtain ⟨g1, g2⟩ := pl_bd key s
  have HA : Hid (accOf key s a = if a = pl key s then 0 else if a = 0 then 2 else a) := rfl
  have A : ((a == pl key s) = true ∧ accOf key s a = 0) ∨ ((a == pl key s) = false ∧ (a == -1) = true ∧ (a == 0) = false ∧ accOf key s a = -1 ∧ a = -1) ∨ ((a == pl key s) = false ∧ (a == -1) = false ∧ (a == 1) = true ∧ (a == 0) = false ∧ accOf key s a = 1 ∧ a = 1) ∨ ((a == pl key s) = false ∧ (a == -1) = false ∧ (a == 1) = false ∧ (a == 0) = true ∧ accOf key s a = 2) := by
    unfold accOf
    by_cases e : a = pl key s
    · left; simp [e]
    · right
      have : a = -1 ∨ a = 1 ∨ a = 0 := by omega
      rcases this with rfl | rfl | rfl
      · left; simp [e]
      · right; left; simp [e]
      · right; right; simp [e]
  clear HA
  rcases A with ⟨t1, A⟩ | ⟨t1, t2, t0, A, A'⟩ | ⟨t1, t2, t3, t0, A, A'⟩ | ⟨t1, t2, t3, t0, A⟩
  all_goals
    have B := Lib.hid A
    clear A
    (try (have B' := Lib.hid A'; clear A'))
    go_enter Try.func11, Try.ntmps11
    go_wp2_with fail
    refine (rkeyed_any _ _ _ _).mono ?_
    rw [E.out]
    rintro e w1 ⟨rfl, hb1⟩
    have Q1 : Kp w w1 := by repeat (first | exact Kp.refl _ | with_reducible assumption | with_reducible refine Kp.set ?_ _ _ ?_ | (dsimp only; omega) | with_reducible refine Kp.drew ?_ | with_reducible refine Kp.drewN ?_ _ | with_reducible refine Kp.al ?_ _ | with_reducible refine Kp.trans ?_ (by with_reducible assumption))
    have c1_0_1 := hb1.get (b := w.heap.size) (o := 0) (v := .int .i64 (st)) (by first | with_reducible assumption | (simp [go_sem]; done) | (simp [go_sem, *]; done))
    have c1_1_1 := hb1.get (b := w.heap.size) (o := 1) (v := .int .i64 (ln)) (by first | with_reducible assumption | (simp [go_sem]; done) | (simp [go_sem, *]; done))
    have l1_1 := cell_lt c1_0_1
    have c2_0_1 := hb1.get (b := w.heap.size + 1) (o := 0) (v := .int .i64 (s)) (by first | with_reducible assumption | (simp [go_sem]; done) | (simp [go_sem, *]; done))
    have c2_1_1 := hb1.get (b := w.heap.size + 1) (o := 1) (v := .int .i64 (o)) (by first | with_reducible assumption | (simp [go_sem]; done) | (simp [go_sem, *]; done))
    have c2_2_1 := hb1.get (b := w.heap.size + 1) (o := 2) (v := .int .i64 (a)) (by first | with_reducible assumption | (simp [go_sem]; done) | (simp [go_sem, *]; done))
    have l2_1 := cell_lt c2_0_1
    have K1 := Q1
    clear hb1 Q1
    go_wp2_with fail
    refine (rcheck_ok _ _ _ _ h1 h2 h3 h4 h5 h6).mono ?_
    rintro e w2 ⟨rfl, hb2⟩
    have Q2 : Kp w1 w2 := by repeat (first | exact Kp.refl _ | with_reducible assumption | with_reducible refine Kp.set ?_ _ _ ?_ | (dsimp only; omega) | with_reducible refine Kp.drew ?_ | with_reducible refine Kp.drewN ?_ _ | with_reducible refine Kp.al ?_ _ | with_reducible refine Kp.trans ?_ (by with_reducible assumption))
    have c1_0_2 := Q2.get c1_0_1
    have c1_1_2 := Q2.get c1_1_1
    have l1_2 := cell_lt c1_0_2
    have c2_0_2 := Q2.get c2_0_1
    have c2_1_2 := Q2.get c2_1_1
    have c2_2_2 := Q2.get c2_2_1
    have l2_2 := cell_lt c2_0_2
    have K2 := K1.trans Q2
    clear hb2 c1_0_1 c1_1_1 l1_1 c2_0_1 c2_1_1 c2_2_1 l2_1 K1 Q2
    go_wp2_with fail
    have i1 : IntKind.i64.wrap (7 * o) = 7 * o := IntWalk.i64_in _ (by omega)
    have i2 : IntKind.i64.wrap (7 * o + s) = 7 * o + s := IntWalk.i64_in _ (by omega)
    have i3 : IntKind.i64.wrap (7 * o + s - low st ln) = 7 * o + s - low st ln := IntWalk.i64_in _ (by omega)
    go_region_held3 (fun w' => w'.cell? ⟨w.heap.size, 0, none⟩ = some (.int .i64 st) ∧ w'.cell? ⟨w.heap.size, 1, none⟩ = some (.int .i64 ln) ∧ w'.cell? ⟨w.heap.size + 1, 0, none⟩ = some (.int .i64 s) ∧ w'.cell? ⟨w.heap.size + 1, 1, none⟩ = some (.int .i64 o))
      (((try dsimp only); (repeat' apply And.intro) <;> (repeat (first | with_reducible assumption | with_reducible refine cell_drew ?_ | with_reducible refine cell_drewN ?_ | with_reducible refine Kp.get (by with_reducible assumption) ?_))))
      (first | (go_at_call 36; refine (rlow_ok _ _ _ HC.out).mono ?_; rintro e w3 ⟨rfl, hb3⟩))
    clear i1 i2 i3
    have Q3 : Kp w2 w3 := by repeat (first | exact Kp.refl _ | with_reducible assumption | with_reducible refine Kp.set ?_ _ _ ?_ | (dsimp only; omega) | with_reducible refine Kp.drew ?_ | with_reducible refine Kp.drewN ?_ _ | with_reducible refine Kp.al ?_ _ | with_reducible refine Kp.trans ?_ (by with_reducible assumption))
    have K3 := K2.trans Q3
    have c2_0_3 := Q3.get c2_0_2
    have c2_1_3 := Q3.get c2_1_2
    have c2_2_3 := Q3.get c2_2_2
    have l2_3 := cell_lt c2_0_3
    clear c1_0_2 c1_1_2 l1_2 c2_0_2 c2_1_2 c2_2_2 l2_2 hb3 K2 Q3
    go_wp2_with fail
    refine (ron_yes _ _ p1 p2).mono ?_
    rintro e _ ⟨rfl, rfl⟩
    go_wp2_with fail
    go_region_held3 (fun w' => w'.cell? ⟨w.heap.size + 1, 0, none⟩ = some (.int .i64 s) ∧ w'.cell? ⟨w.heap.size + 1, 2, none⟩ = some (.int .i64 a))
      (((try dsimp only); (repeat' apply And.intro) <;> (repeat (first | with_reducible assumption | with_reducible refine cell_drew ?_ | with_reducible refine cell_drewN ?_ | with_reducible refine Kp.get (by with_reducible assumption) ?_))))
      (first | (go_at_call 38; refine (rflat_ok _ _ _ k1 k2 h1 h2).mono ?_; rintro e _ ⟨rfl, rfl⟩))
    go_wp2_with fail
    (try (go_quiet (fail); go_wp2_with fail))
    go_ret3
    refine ⟨congrArg (fun z => Ending.returned (.tuple #[.int .i64 (7 * o + s - low st ln), .int .i64 z, .int .i64 0])) ?_, by repeat (first | exact Kp.refl _ | with_reducible assumption | with_reducible refine Kp.set ?_ _ _ ?_ | (dsimp only; omega) | with_reducible refine Kp.drew ?_ | with_reducible refine Kp.drewN ?_ _ | with_reducible refine Kp.al ?_ _ | with_reducible refine Kp.trans ?_ (by with_reducible assumption))⟩
    first | exact B.out.symm | (rw [B.out]; exact B'.out)

theorem cplace_e1 (st ln key s o a : Int) (w : World) (h : ¬ (Vc st ln ∧ 0 ≤ key ∧ key ≤ 2)) :
    Calls Try.prog 10 #[.agg #[.int .i64 st, .int .i64 ln], .int .i64 key, .agg #[.int .i64 s, .int .i64 o, .int .i64 a]] w fun e w' => e = .returned (.tuple #[.int .i64 0, .int .i64 0, .int .i64 (kerr st ln key)]) ∧ Kp w w' := by
  rcases kerr_no h with E | E
  all_goals
    rw [E]
    have E' := Lib.hid E
    clear E h
    go_enter Try.func10, Try.ntmps10
    go_wp2_with fail
    refine (keyed_any _ _ _ _).mono ?_
    rw [E'.out]
    rintro e w1 ⟨rfl, hb1⟩
    have Q1 : Kp w w1 := by repeat (first | exact Kp.refl _ | with_reducible assumption | with_reducible refine Kp.set ?_ _ _ ?_ | (dsimp only; omega) | with_reducible refine Kp.drew ?_ | with_reducible refine Kp.drewN ?_ _ | with_reducible refine Kp.al ?_ _ | with_reducible refine Kp.trans ?_ (by with_reducible assumption))
    have K1 := Q1
    clear hb1 Q1
    go_wp2_with fail
    go_ret3
    exact ⟨rfl, by repeat (first | exact Kp.refl _ | with_reducible assumption | with_reducible refine Kp.set ?_ _ _ ?_ | (dsimp only; omega) | with_reducible refine Kp.drew ?_ | with_reducible refine Kp.drewN ?_ _ | with_reducible refine Kp.al ?_ _ | with_reducible refine Kp.trans ?_ (by with_reducible assumption))⟩
theorem cplace_e2 (st ln key s o a : Int) (w : World) (hc : Vc st ln) (k1 : 0 ≤ key) (k2 : key ≤ 2) (h : ¬ Vp s o a) :
    Calls Try.prog 10 #[.agg #[.int .i64 st, .int .i64 ln], .int .i64 key, .agg #[.int .i64 s, .int .i64 o, .int .i64 a]] w fun e w' => e = .returned (.tuple #[.int .i64 0, .int .i64 0, .int .i64 2]) ∧ Kp w w' := by
  have E := Lib.hid (kerr_ok hc k1 k2)
  have H := Lib.hid h
  clear h hc
  go_enter Try.func10, Try.ntmps10
  go_wp2_with fail
  refine (keyed_any _ _ _ _).mono ?_
  rw [E.out]
  rintro e w1 ⟨rfl, hb1⟩
  have Q1 : Kp w w1 := by repeat (first | exact Kp.refl _ | with_reducible assumption | with_reducible refine Kp.set ?_ _ _ ?_ | (dsimp only; omega) | with_reducible refine Kp.drew ?_ | with_reducible refine Kp.drewN ?_ _ | with_reducible refine Kp.al ?_ _ | with_reducible refine Kp.trans ?_ (by with_reducible assumption))
  have c1_0_1 := hb1.get (b := w.heap.size) (o := 0) (v := .int .i64 (st)) (by first | with_reducible assumption | (simp [go_sem]; done) | (simp [go_sem, *]; done))
  have c1_1_1 := hb1.get (b := w.heap.size) (o := 1) (v := .int .i64 (ln)) (by first | with_reducible assumption | (simp [go_sem]; done) | (simp [go_sem, *]; done))
  have l1_1 := cell_lt c1_0_1
  have c2_0_1 := hb1.get (b := w.heap.size + 1) (o := 0) (v := .int .i64 (s)) (by first | with_reducible assumption | (simp [go_sem]; done) | (simp [go_sem, *]; done))
  have c2_1_1 := hb1.get (b := w.heap.size + 1) (o := 1) (v := .int .i64 (o)) (by first | with_reducible assumption | (simp [go_sem]; done) | (simp [go_sem, *]; done))
  have c2_2_1 := hb1.get (b := w.heap.size + 1) (o := 2) (v := .int .i64 (a)) (by first | with_reducible assumption | (simp [go_sem]; done) | (simp [go_sem, *]; done))
  have l2_1 := cell_lt c2_0_1
  have K1 := Q1
  clear hb1 Q1
  go_wp2_with fail
  refine (number_no _ _ _ _ H.out).mono ?_
  rintro e w2 ⟨rfl, hb2⟩
  have Q2 : Kp w1 w2 := by repeat (first | exact Kp.refl _ | with_reducible assumption | with_reducible refine Kp.set ?_ _ _ ?_ | (dsimp only; omega) | with_reducible refine Kp.drew ?_ | with_reducible refine Kp.drewN ?_ _ | with_reducible refine Kp.al ?_ _ | with_reducible refine Kp.trans ?_ (by with_reducible assumption))
  have c1_0_2 := Q2.get c1_0_1
  have c1_1_2 := Q2.get c1_1_1
  have l1_2 := cell_lt c1_0_2
  have c2_0_2 := Q2.get c2_0_1
  have c2_1_2 := Q2.get c2_1_1
  have c2_2_2 := Q2.get c2_2_1
  have l2_2 := cell_lt c2_0_2
  have K2 := K1.trans Q2
  clear hb2 c1_0_1 c1_1_1 l1_1 c2_0_1 c2_1_1 c2_2_1 l2_1 K1 Q2
  go_wp2_with fail
  go_ret3
  exact ⟨rfl, by repeat (first | exact Kp.refl _ | with_reducible assumption | with_reducible refine Kp.set ?_ _ _ ?_ | (dsimp only; omega) | with_reducible refine Kp.drew ?_ | with_reducible refine Kp.drewN ?_ _ | with_reducible refine Kp.al ?_ _ | with_reducible refine Kp.trans ?_ (by with_reducible assumption))⟩
set_option maxHeartbeats 1000000 in
theorem cplace_e3 (st ln key s o a : Int) (w : World) (hc : Vc st ln) (k1 : 0 ≤ key) (k2 : key ≤ 2) (h1 : 0 ≤ s) (h2 : s ≤ 6) (h3 : 0 ≤ o) (h4 : o ≤ 8) (h5 : -1 ≤ a) (h6 : a ≤ 1) (p : 7 * o + s - low st ln < -4 ∨ 12 < 7 * o + s - low st ln) :
    Calls Try.prog 10 #[.agg #[.int .i64 st, .int .i64 ln], .int .i64 key, .agg #[.int .i64 s, .int .i64 o, .int .i64 a]] w fun e w' => e = .returned (.tuple #[.int .i64 0, .int .i64 0, .int .i64 2]) ∧ Kp w w' := by
  obtain ⟨b1, b2⟩ := low_bd hc
  have E := Lib.hid (kerr_ok hc k1 k2)
  have HC := Lib.hid hc
  have HP := Lib.hid p
  clear hc p
  go_enter Try.func10, Try.ntmps10
  go_wp2_with fail
  refine (keyed_any _ _ _ _).mono ?_
  rw [E.out]
  rintro e w1 ⟨rfl, hb1⟩
  have Q1 : Kp w w1 := by repeat (first | exact Kp.refl _ | with_reducible assumption | with_reducible refine Kp.set ?_ _ _ ?_ | (dsimp only; omega) | with_reducible refine Kp.drew ?_ | with_reducible refine Kp.drewN ?_ _ | with_reducible refine Kp.al ?_ _ | with_reducible refine Kp.trans ?_ (by with_reducible assumption))
  have c1_0_1 := hb1.get (b := w.heap.size) (o := 0) (v := .int .i64 (st)) (by first | with_reducible assumption | (simp [go_sem]; done) | (simp [go_sem, *]; done))
  have c1_1_1 := hb1.get (b := w.heap.size) (o := 1) (v := .int .i64 (ln)) (by first | with_reducible assumption | (simp [go_sem]; done) | (simp [go_sem, *]; done))
  have l1_1 := cell_lt c1_0_1
  have c2_0_1 := hb1.get (b := w.heap.size + 1) (o := 0) (v := .int .i64 (s)) (by first | with_reducible assumption | (simp [go_sem]; done) | (simp [go_sem, *]; done))
  have c2_1_1 := hb1.get (b := w.heap.size + 1) (o := 1) (v := .int .i64 (o)) (by first | with_reducible assumption | (simp [go_sem]; done) | (simp [go_sem, *]; done))
  have c2_2_1 := hb1.get (b := w.heap.size + 1) (o := 2) (v := .int .i64 (a)) (by first | with_reducible assumption | (simp [go_sem]; done) | (simp [go_sem, *]; done))
  have l2_1 := cell_lt c2_0_1
  have K1 := Q1
  clear hb1 Q1
  go_wp2_with fail
  refine (number_ok _ _ _ _ h1 h2 h3 h4 h5 h6).mono ?_
  rintro e w2 ⟨rfl, hb2⟩
  have Q2 : Kp w1 w2 := by repeat (first | exact Kp.refl _ | with_reducible assumption | with_reducible refine Kp.set ?_ _ _ ?_ | (dsimp only; omega) | with_reducible refine Kp.drew ?_ | with_reducible refine Kp.drewN ?_ _ | with_reducible refine Kp.al ?_ _ | with_reducible refine Kp.trans ?_ (by with_reducible assumption))
  have c1_0_2 := Q2.get c1_0_1
  have c1_1_2 := Q2.get c1_1_1
  have l1_2 := cell_lt c1_0_2
  have c2_0_2 := Q2.get c2_0_1
  have c2_1_2 := Q2.get c2_1_1
  have c2_2_2 := Q2.get c2_2_1
  have l2_2 := cell_lt c2_0_2
  have K2 := K1.trans Q2
  clear hb2 c1_0_1 c1_1_1 l1_1 c2_0_1 c2_1_1 c2_2_1 l2_1 K1 Q2
  go_wp2_with fail
  refine (low_ok _ _ _ HC.out).mono ?_
  rintro e w3 ⟨rfl, hb3⟩
  have Q3 : Kp w2 w3 := by repeat (first | exact Kp.refl _ | with_reducible assumption | with_reducible refine Kp.set ?_ _ _ ?_ | (dsimp only; omega) | with_reducible refine Kp.drew ?_ | with_reducible refine Kp.drewN ?_ _ | with_reducible refine Kp.al ?_ _ | with_reducible refine Kp.trans ?_ (by with_reducible assumption))
  have c1_0_3 := Q3.get c1_0_2
  have c1_1_3 := Q3.get c1_1_2
  have l1_3 := cell_lt c1_0_3
  have c2_0_3 := Q3.get c2_0_2
  have c2_1_3 := Q3.get c2_1_2
  have c2_2_3 := Q3.get c2_2_2
  have l2_3 := cell_lt c2_0_3
  have K3 := K2.trans Q3
  clear hb3 c1_0_2 c1_1_2 l1_2 c2_0_2 c2_1_2 c2_2_2 l2_2 K2 Q3
  go_wp2_with fail
  refine (placed_no _ _ HP.out).mono ?_
  rintro e _ ⟨rfl, rfl⟩
  go_wp2_with fail
  go_ret3
  exact ⟨rfl, by repeat (first | exact Kp.refl _ | with_reducible assumption | with_reducible refine Kp.set ?_ _ _ ?_ | (dsimp only; omega) | with_reducible refine Kp.drew ?_ | with_reducible refine Kp.drewN ?_ _ | with_reducible refine Kp.al ?_ _ | with_reducible refine Kp.trans ?_ (by with_reducible assumption))⟩

theorem crplace_e1 (st ln key s o a : Int) (w : World) (h : ¬ (Vc st ln ∧ 0 ≤ key ∧ key ≤ 2)) :
    Calls Try.prog 11 #[.agg #[.int .i64 st, .int .i64 ln], .int .i64 key, .agg #[.int .i64 s, .int .i64 o, .int .i64 a]] w fun e w' => e = .returned (.tuple #[.int .i64 0, .int .i64 0, .int .i64 (kerr st ln key)]) ∧ Kp w w' := by
  rcases kerr_no h with E | E
  all_goals
    rw [E]
    have E' := Lib.hid E
    clear E h
    go_enter Try.func11, Try.ntmps11
    go_wp2_with fail
    refine (rkeyed_any _ _ _ _).mono ?_
    rw [E'.out]
    rintro e w1 ⟨rfl, hb1⟩
    have Q1 : Kp w w1 := by repeat (first | exact Kp.refl _ | with_reducible assumption | with_reducible refine Kp.set ?_ _ _ ?_ | (dsimp only; omega) | with_reducible refine Kp.drew ?_ | with_reducible refine Kp.drewN ?_ _ | with_reducible refine Kp.al ?_ _ | with_reducible refine Kp.trans ?_ (by with_reducible assumption))
    have K1 := Q1
    clear hb1 Q1
    go_wp2_with fail
    go_ret3
    exact ⟨rfl, by repeat (first | exact Kp.refl _ | with_reducible assumption | with_reducible refine Kp.set ?_ _ _ ?_ | (dsimp only; omega) | with_reducible refine Kp.drew ?_ | with_reducible refine Kp.drewN ?_ _ | with_reducible refine Kp.al ?_ _ | with_reducible refine Kp.trans ?_ (by with_reducible assumption))⟩
theorem crplace_e2 (st ln key s o a : Int) (w : World) (hc : Vc st ln) (k1 : 0 ≤ key) (k2 : key ≤ 2) (h : ¬ Vp s o a) :
    Calls Try.prog 11 #[.agg #[.int .i64 st, .int .i64 ln], .int .i64 key, .agg #[.int .i64 s, .int .i64 o, .int .i64 a]] w fun e w' => e = .returned (.tuple #[.int .i64 0, .int .i64 0, .int .i64 2]) ∧ Kp w w' := by
  have E := Lib.hid (kerr_ok hc k1 k2)
  have H := Lib.hid h
  clear h hc
  go_enter Try.func11, Try.ntmps11
  go_wp2_with fail
  refine (rkeyed_any _ _ _ _).mono ?_
  rw [E.out]
  rintro e w1 ⟨rfl, hb1⟩
  have Q1 : Kp w w1 := by repeat (first | exact Kp.refl _ | with_reducible assumption | with_reducible refine Kp.set ?_ _ _ ?_ | (dsimp only; omega) | with_reducible refine Kp.drew ?_ | with_reducible refine Kp.drewN ?_ _ | with_reducible refine Kp.al ?_ _ | with_reducible refine Kp.trans ?_ (by with_reducible assumption))
  have c1_0_1 := hb1.get (b := w.heap.size) (o := 0) (v := .int .i64 (st)) (by first | with_reducible assumption | (simp [go_sem]; done) | (simp [go_sem, *]; done))
  have c1_1_1 := hb1.get (b := w.heap.size) (o := 1) (v := .int .i64 (ln)) (by first | with_reducible assumption | (simp [go_sem]; done) | (simp [go_sem, *]; done))
  have l1_1 := cell_lt c1_0_1
  have c2_0_1 := hb1.get (b := w.heap.size + 1) (o := 0) (v := .int .i64 (s)) (by first | with_reducible assumption | (simp [go_sem]; done) | (simp [go_sem, *]; done))
  have c2_1_1 := hb1.get (b := w.heap.size + 1) (o := 1) (v := .int .i64 (o)) (by first | with_reducible assumption | (simp [go_sem]; done) | (simp [go_sem, *]; done))
  have c2_2_1 := hb1.get (b := w.heap.size + 1) (o := 2) (v := .int .i64 (a)) (by first | with_reducible assumption | (simp [go_sem]; done) | (simp [go_sem, *]; done))
  have l2_1 := cell_lt c2_0_1
  have K1 := Q1
  clear hb1 Q1
  go_wp2_with fail
  refine (rcheck_no _ _ _ _ H.out).mono ?_
  rintro e w2 ⟨rfl, hb2⟩
  have Q2 : Kp w1 w2 := by repeat (first | exact Kp.refl _ | with_reducible assumption | with_reducible refine Kp.set ?_ _ _ ?_ | (dsimp only; omega) | with_reducible refine Kp.drew ?_ | with_reducible refine Kp.drewN ?_ _ | with_reducible refine Kp.al ?_ _ | with_reducible refine Kp.trans ?_ (by with_reducible assumption))
  have c1_0_2 := Q2.get c1_0_1
  have c1_1_2 := Q2.get c1_1_1
  have l1_2 := cell_lt c1_0_2
  have c2_0_2 := Q2.get c2_0_1
  have c2_1_2 := Q2.get c2_1_1
  have c2_2_2 := Q2.get c2_2_1
  have l2_2 := cell_lt c2_0_2
  have K2 := K1.trans Q2
  clear hb2 c1_0_1 c1_1_1 l1_1 c2_0_1 c2_1_1 c2_2_1 l2_1 K1 Q2
  go_wp2_with fail
  go_ret3
  exact ⟨rfl, by repeat (first | exact Kp.refl _ | with_reducible assumption | with_reducible refine Kp.set ?_ _ _ ?_ | (dsimp only; omega) | with_reducible refine Kp.drew ?_ | with_reducible refine Kp.drewN ?_ _ | with_reducible refine Kp.al ?_ _ | with_reducible refine Kp.trans ?_ (by with_reducible assumption))⟩
set_option maxHeartbeats 1000000 in
theorem crplace_e3 (st ln key s o a : Int) (w : World) (hc : Vc st ln) (k1 : 0 ≤ key) (k2 : key ≤ 2) (h1 : 0 ≤ s) (h2 : s ≤ 6) (h3 : 0 ≤ o) (h4 : o ≤ 8) (h5 : -1 ≤ a) (h6 : a ≤ 1) (p : 7 * o + s - low st ln < -4 ∨ 12 < 7 * o + s - low st ln) :
    Calls Try.prog 11 #[.agg #[.int .i64 st, .int .i64 ln], .int .i64 key, .agg #[.int .i64 s, .int .i64 o, .int .i64 a]] w fun e w' => e = .returned (.tuple #[.int .i64 0, .int .i64 0, .int .i64 2]) ∧ Kp w w' := by
  obtain ⟨b1, b2⟩ := low_bd hc
  have E := Lib.hid (kerr_ok hc k1 k2)
  have HC := Lib.hid hc
  have HP := Lib.hid p
  clear hc p
  go_enter Try.func11, Try.ntmps11
  go_wp2_with fail
  refine (rkeyed_any _ _ _ _).mono ?_
  rw [E.out]
  rintro e w1 ⟨rfl, hb1⟩
  have Q1 : Kp w w1 := by repeat (first | exact Kp.refl _ | with_reducible assumption | with_reducible refine Kp.set ?_ _ _ ?_ | (dsimp only; omega) | with_reducible refine Kp.drew ?_ | with_reducible refine Kp.drewN ?_ _ | with_reducible refine Kp.al ?_ _ | with_reducible refine Kp.trans ?_ (by with_reducible assumption))
  have c1_0_1 := hb1.get (b := w.heap.size) (o := 0) (v := .int .i64 (st)) (by first | with_reducible assumption | (simp [go_sem]; done) | (simp [go_sem, *]; done))
  have c1_1_1 := hb1.get (b := w.heap.size) (o := 1) (v := .int .i64 (ln)) (by first | with_reducible assumption | (simp [go_sem]; done) | (simp [go_sem, *]; done))
  have l1_1 := cell_lt c1_0_1
  have c2_0_1 := hb1.get (b := w.heap.size + 1) (o := 0) (v := .int .i64 (s)) (by first | with_reducible assumption | (simp [go_sem]; done) | (simp [go_sem, *]; done))
  have c2_1_1 := hb1.get (b := w.heap.size + 1) (o := 1) (v := .int .i64 (o)) (by first | with_reducible assumption | (simp [go_sem]; done) | (simp [go_sem, *]; done))
  have c2_2_1 := hb1.get (b := w.heap.size + 1) (o := 2) (v := .int .i64 (a)) (by first | with_reducible assumption | (simp [go_sem]; done) | (simp [go_sem, *]; done))
  have l2_1 := cell_lt c2_0_1
  have K1 := Q1
  clear hb1 Q1
  go_wp2_with fail
  refine (rcheck_ok _ _ _ _ h1 h2 h3 h4 h5 h6).mono ?_
  rintro e w2 ⟨rfl, hb2⟩
  have Q2 : Kp w1 w2 := by repeat (first | exact Kp.refl _ | with_reducible assumption | with_reducible refine Kp.set ?_ _ _ ?_ | (dsimp only; omega) | with_reducible refine Kp.drew ?_ | with_reducible refine Kp.drewN ?_ _ | with_reducible refine Kp.al ?_ _ | with_reducible refine Kp.trans ?_ (by with_reducible assumption))
  have c1_0_2 := Q2.get c1_0_1
  have c1_1_2 := Q2.get c1_1_1
  have l1_2 := cell_lt c1_0_2
  have c2_0_2 := Q2.get c2_0_1
  have c2_1_2 := Q2.get c2_1_1
  have c2_2_2 := Q2.get c2_2_1
  have l2_2 := cell_lt c2_0_2
  have K2 := K1.trans Q2
  clear hb2 c1_0_1 c1_1_1 l1_1 c2_0_1 c2_1_1 c2_2_1 l2_1 K1 Q2
  go_wp2_with fail
  have i1 : IntKind.i64.wrap (7 * o) = 7 * o := IntWalk.i64_in _ (by omega)
  have i2 : IntKind.i64.wrap (7 * o + s) = 7 * o + s := IntWalk.i64_in _ (by omega)
  have i3 : IntKind.i64.wrap (7 * o + s - low st ln) = 7 * o + s - low st ln := IntWalk.i64_in _ (by omega)
  go_region_held3 (fun w' => w'.cell? ⟨w.heap.size, 0, none⟩ = some (.int .i64 st) ∧ w'.cell? ⟨w.heap.size, 1, none⟩ = some (.int .i64 ln) ∧ w'.cell? ⟨w.heap.size + 1, 0, none⟩ = some (.int .i64 s) ∧ w'.cell? ⟨w.heap.size + 1, 1, none⟩ = some (.int .i64 o))
    (((try dsimp only); (repeat' apply And.intro) <;> (repeat (first | with_reducible assumption | with_reducible refine cell_drew ?_ | with_reducible refine cell_drewN ?_ | with_reducible refine Kp.get (by with_reducible assumption) ?_))))
    (first | (go_at_call 36; refine (rlow_ok _ _ _ HC.out).mono ?_; rintro e w3 ⟨rfl, hb3⟩))
  clear i1 i2 i3
  have Q3 : Kp w2 w3 := by repeat (first | exact Kp.refl _ | with_reducible assumption | with_reducible refine Kp.set ?_ _ _ ?_ | (dsimp only; omega) | with_reducible refine Kp.drew ?_ | with_reducible refine Kp.drewN ?_ _ | with_reducible refine Kp.al ?_ _ | with_reducible refine Kp.trans ?_ (by with_reducible assumption))
  have K3 := K2.trans Q3
  have c2_0_3 := Q3.get c2_0_2
  have c2_1_3 := Q3.get c2_1_2
  have c2_2_3 := Q3.get c2_2_2
  have l2_3 := cell_lt c2_0_3
  clear c1_0_2 c1_1_2 l1_2 c2_0_2 c2_1_2 c2_2_2 l2_2 hb3 K2 Q3
  go_wp2_with fail
  refine (ron_no _ _ HP.out).mono ?_
  rintro e _ ⟨rfl, rfl⟩
  go_wp2_with fail
  go_ret3
  exact ⟨rfl, by repeat (first | exact Kp.refl _ | with_reducible assumption | with_reducible refine Kp.set ?_ _ _ ?_ | (dsimp only; omega) | with_reducible refine Kp.drew ?_ | with_reducible refine Kp.drewN ?_ _ | with_reducible refine Kp.al ?_ _ | with_reducible refine Kp.trans ?_ (by with_reducible assumption))⟩
end Go.Proofs.Ytgajdmefflndmaa
