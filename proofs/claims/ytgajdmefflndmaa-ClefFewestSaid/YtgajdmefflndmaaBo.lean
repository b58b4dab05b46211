/- The walks of ClefPitches and ClefPlaces. -/
import Derived.Test.YtgajdmefflndmaaBn
namespace Go.Proofs.Ytgajdmefflndmaa
open Go.RowKit

theorem places_same (st ln key s o a : Int) : ∃ x y er : Int, ∀ w : World,
    (Calls Try.prog 10 #[.agg #[.int .i64 st, .int .i64 ln], .int .i64 key, .agg #[.int .i64 s, .int .i64 o, .int .i64 a]] w fun e w' => e = .returned (.tuple #[.int .i64 x, .int .i64 y, .int .i64 er]) ∧ Kp w w') ∧
    (Calls Try.prog 11 #[.agg #[.int .i64 st, .int .i64 ln], .int .i64 key, .agg #[.int .i64 s, .int .i64 o, .int .i64 a]] w fun e w' => e = .returned (.tuple #[.int .i64 x, .int .i64 y, .int .i64 er]) ∧ Kp w w') := by
  by_cases h : Vc st ln ∧ 0 ≤ key ∧ key ≤ 2
  · obtain ⟨hc, k1, k2⟩ := h
    by_cases hp : Vp s o a
    · obtain ⟨h1, h2, h3, h4, h5, h6⟩ := hp
      by_cases hin : -4 ≤ 7 * o + s - low st ln ∧ 7 * o + s - low st ln ≤ 12
      · exact ⟨_, _, _, fun w => ⟨cplace_ok st ln key s o a w hc k1 k2 h1 h2 h3 h4 h5 h6 hin.1 hin.2, crplace_ok st ln key s o a w hc k1 k2 h1 h2 h3 h4 h5 h6 hin.1 hin.2⟩⟩
      · exact ⟨_, _, _, fun w => ⟨cplace_e3 st ln key s o a w hc k1 k2 h1 h2 h3 h4 h5 h6 (by omega), crplace_e3 st ln key s o a w hc k1 k2 h1 h2 h3 h4 h5 h6 (by omega)⟩⟩
    · exact ⟨_, _, _, fun w => ⟨cplace_e2 st ln key s o a w hc k1 k2 hp, crplace_e2 st ln key s o a w hc k1 k2 hp⟩⟩
  · exact ⟨_, _, _, fun w => ⟨cplace_e1 st ln key s o a w h, crplace_e1 st ln key s o a w h⟩⟩

theorem pitches_walk (st ln key s o a : Int) (w : World) :
    Calls Try.prog 3 #[.agg #[.int .i64 st, .int .i64 ln], .int .i64 key, .agg #[.int .i64 s, .int .i64 o, .int .i64 a]] w fun e w' => e = .returned (.bool true) ∧ Kp w w' := by
  obtain ⟨x, y, er, c1⟩ := places_same st ln key s o a
  have C1 := Lib.hid c1
  clear c1
  go_enter Try.func3, Try.ntmps3
  go_wp2_with fail
  refine ((C1.out _).1).mono ?_
  rintro e w1 ⟨rfl, hb1⟩
  have Q1 : Kp w w1 := by repeat (first | exact Kp.refl _ | with_reducible assumption | with_reducible refine Kp.set ?_ _ _ ?_ | (dsimp only; omega) | with_reducible refine Kp.drew ?_ | with_reducible refine Kp.drewN ?_ _ | with_reducible refine Kp.al ?_ _ | with_reducible refine Kp.trans ?_ (by with_reducible assumption))
  have c1_0_1 := hb1.get (b := w.heap.size) (o := 0) (v := .int .i64 (st)) (by first | with_reducible assumption | (simp [go_sem]; done) | (simp [go_sem, *]; done))
  have c1_1_1 := hb1.get (b := w.heap.size) (o := 1) (v := .int .i64 (ln)) (by first | with_reducible assumption | (simp [go_sem]; done) | (simp [go_sem, *]; done))
  have l1_1 := cell_lt c1_0_1
  have c2_0_1 := hb1.get (b := w.heap.size + 1) (o := 0) (v := .int .i64 (s)) (by first | with_reducible assumption | (simp [go_sem]; done) | (simp [go_sem, *]; done))
  have c2_1_1 := hb1.get (b := w.heap.size + 1) (o := 1) (v := .int .i64 (o)) (by first | with_reducible assumption | (simp [go_sem]; done) | (simp [go_sem, *]; done))
  have c2_2_1 := hb1.get (b := w.heap.size + 1) (o := 2) (v := .int .i64 (a)) (by first | with_reducible assumption | (simp [go_sem]; done) | (simp [go_sem, *]; done))
  have l2_1 := cell_lt c2_0_1
  have K1 := Q1
  clear hb1 Q1
  go_wp2_with fail
  refine ((C1.out _).2).mono ?_
  rintro e w2 ⟨rfl, hb2⟩
  have Q2 : Kp w1 w2 := by repeat (first | exact Kp.refl _ | with_reducible assumption | with_reducible refine Kp.set ?_ _ _ ?_ | (dsimp only; omega) | with_reducible refine Kp.drew ?_ | with_reducible refine Kp.drewN ?_ _ | with_reducible refine Kp.al ?_ _ | with_reducible refine Kp.trans ?_ (by with_reducible assumption))
  have c1_0_2 := Q2.get c1_0_1
  have c1_1_2 := Q2.get c1_1_1
  have l1_2 := cell_lt c1_0_2
  have c2_0_2 := Q2.get c2_0_1
  have c2_1_2 := Q2.get c2_1_1
  have c2_2_2 := Q2.get c2_2_1
  have l2_2 := cell_lt c2_0_2
  have K2 := K1.trans Q2
  clear hb2 c1_0_1 c1_1_1 l1_1 c2_0_1 c2_1_1 c2_2_1 l2_1 K1 Q2
  go_wp2_with fail
  refine (awake_ok _).mono ?_
  rintro e w3 ⟨rfl, hb3⟩
  have Q3 : Kp w2 w3 := by repeat (first | exact Kp.refl _ | with_reducible assumption | with_reducible refine Kp.set ?_ _ _ ?_ | (dsimp only; omega) | with_reducible refine Kp.drew ?_ | with_reducible refine Kp.drewN ?_ _ | with_reducible refine Kp.al ?_ _ | with_reducible refine Kp.trans ?_ (by with_reducible assumption))
  have c1_0_3 := Q3.get c1_0_2
  have c1_1_3 := Q3.get c1_1_2
  have l1_3 := cell_lt c1_0_3
  have c2_0_3 := Q3.get c2_0_2
  have c2_1_3 := Q3.get c2_1_2
  have c2_2_3 := Q3.get c2_2_2
  have l2_3 := cell_lt c2_0_3
  have K3 := K2.trans Q3
  clear hb3 c1_0_2 c1_1_2 l1_2 c2_0_2 c2_1_2 c2_2_2 l2_2 K2 Q3
  go_wp2_with fail
  go_ret
  exact ⟨rfl, by repeat (first | exact Kp.refl _ | with_reducible assumption | with_reducible refine Kp.set ?_ _ _ ?_ | (dsimp only; omega) | with_reducible refine Kp.drew ?_ | with_reducible refine Kp.drewN ?_ _ | with_reducible refine Kp.al ?_ _ | with_reducible refine Kp.trans ?_ (by with_reducible assumption))⟩

theorem cpitches_same (st ln key place acc : Int) : ∃ x y z er : Int, ∀ w : World,
    (Calls Try.prog 15 #[.agg #[.int .i64 st, .int .i64 ln], .int .i64 key, .int .i64 place, .int .i64 acc] w fun e w' => e = .returned (.tuple #[.agg #[.int .i64 x, .int .i64 y, .int .i64 z], .int .i64 er]) ∧ Kp w w') ∧
    (Calls Try.prog 16 #[.agg #[.int .i64 st, .int .i64 ln], .int .i64 key, .int .i64 place, .int .i64 acc] w fun e w' => e = .returned (.tuple #[.agg #[.int .i64 x, .int .i64 y, .int .i64 z], .int .i64 er]) ∧ Kp w w') := by
  by_cases h : Vc st ln ∧ 0 ≤ key ∧ key ≤ 2
  · obtain ⟨hc, k1, k2⟩ := h
    by_cases hp : -4 ≤ place ∧ place ≤ 12
    · by_cases ha : -1 ≤ acc ∧ acc ≤ 2
      · exact ⟨_, _, _, _, fun w => ⟨cpitch_ok st ln key place acc w hc k1 k2 hp.1 hp.2 ha.1 ha.2, crpitch_ok st ln key place acc w hc k1 k2 hp.1 hp.2 ha.1 ha.2⟩⟩
      · exact ⟨_, _, _, _, fun w => ⟨cpitch_e3 st ln key place acc w hc k1 k2 hp.1 hp.2 (by omega), crpitch_e3 st ln key place acc w hc k1 k2 hp.1 hp.2 (by omega)⟩⟩
    · exact ⟨_, _, _, _, fun w => ⟨cpitch_e2 st ln key place acc w hc k1 k2 (by omega), crpitch_e2 st ln key place acc w hc k1 k2 (by omega)⟩⟩
  · exact ⟨_, _, _, _, fun w => ⟨cpitch_e1 st ln key place acc w h, crpitch_e1 st ln key place acc w h⟩⟩
theorem leds_same (p : Int) : ∃ x er : Int, ∀ w : World,
    (Calls Try.prog 19 #[.int .i64 p] w fun e w' => e = .returned (.tuple #[.int .i64 x, .int .i64 er]) ∧ w = w') ∧
    (Calls Try.prog 20 #[.int .i64 p] w fun e w' => e = .returned (.tuple #[.int .i64 x, .int .i64 er]) ∧ w = w') := by
  by_cases hp : -4 ≤ p ∧ p ≤ 12
  · exact ⟨_, _, fun w => ⟨ledgers_ok p w hp.1 hp.2, rledgers_ok p w hp.1 hp.2⟩⟩
  · exact ⟨_, _, fun w => ⟨ledgers_no p w (by omega), rledgers_no p w (by omega)⟩⟩
theorem moveds_same (st ln su lu p : Int) : ∃ x er : Int, ∀ w : World,
    (Calls Try.prog 21 #[.agg #[.int .i64 st, .int .i64 ln], .agg #[.int .i64 su, .int .i64 lu], .int .i64 p] w fun e w' => e = .returned (.tuple #[.int .i64 x, .int .i64 er]) ∧ Kp w w') ∧
    (Calls Try.prog 22 #[.agg #[.int .i64 st, .int .i64 ln], .agg #[.int .i64 su, .int .i64 lu], .int .i64 p] w fun e w' => e = .returned (.tuple #[.int .i64 x, .int .i64 er]) ∧ Kp w w') := by
  by_cases hc : Vc st ln
  · by_cases hd : Vc su lu
    · by_cases hp : -4 ≤ p ∧ p ≤ 12
      · by_cases hq : -4 ≤ p + low st ln - low su lu ∧ p + low st ln - low su lu ≤ 12
        · exact ⟨_, _, fun w => ⟨moved_ok st ln su lu p w hc hd hp.1 hp.2 hq.1 hq.2, rmoved_ok st ln su lu p w hc hd hp.1 hp.2 hq.1 hq.2⟩⟩
        · exact ⟨_, _, fun w => ⟨moved_e4 st ln su lu p w hc hd hp.1 hp.2 (by omega), rmoved_e4 st ln su lu p w hc hd hp.1 hp.2 (by omega)⟩⟩
      · exact ⟨_, _, fun w => ⟨moved_e3 st ln su lu p w hc hd (by omega), rmoved_e3 st ln su lu p w hc hd (by omega)⟩⟩
    · exact ⟨_, _, fun w => ⟨moved_e2 st ln su lu p w hc hd, rmoved_e2 st ln su lu p w hc hd⟩⟩
  · exact ⟨_, _, fun w => ⟨moved_e1 st ln su lu p w hc, rmoved_e1 st ln su lu p w hc⟩⟩

set_option maxRecDepth 100000 in
set_option maxHeartbeats 2000000 in
theorem places_walk (st ln su lu key place acc : Int) (w : World) :
    Calls Try.prog 5 #[.agg #[.int .i64 st, .int .i64 ln], .agg #[.int .i64 su, .int .i64 lu], .int .i64 key, .int .i64 place, .int .i64 acc] w fun e w' => e = .returned (.bool true) ∧ Kp w w' := by
  obtain ⟨x, y, z, er, c1⟩ := cpitches_same st ln key place acc
  obtain ⟨x2, er2, c2⟩ := leds_same place
  obtain ⟨x3, er3, c3⟩ := moveds_same st ln su lu place
  have C1 := Lib.hid c1; have C2 := Lib.hid c2; have C3 := Lib.hid c3
  clear c1 c2 c3
  go_enter Try.func5, Try.ntmps5
  go_wp2_with fail
  refine ((C1.out _).1).mono ?_
  rintro e w1 ⟨rfl, hb1⟩
  have Q1 : Kp w w1 := by repeat (first | exact Kp.refl _ | with_reducible assumption | with_reducible refine Kp.set ?_ _ _ ?_ | (dsimp only; omega) | with_reducible refine Kp.drew ?_ | with_reducible refine Kp.drewN ?_ _ | with_reducible refine Kp.al ?_ _ | with_reducible refine Kp.trans ?_ (by with_reducible assumption))
  have c1_0_1 := hb1.get (b := w.heap.size) (o := 0) (v := .int .i64 (st)) (by first | with_reducible assumption | (simp [go_sem]; done) | (simp [go_sem, *]; done))
  have c1_1_1 := hb1.get (b := w.heap.size) (o := 1) (v := .int .i64 (ln)) (by first | with_reducible assumption | (simp [go_sem]; done) | (simp [go_sem, *]; done))
  have l1_1 := cell_lt c1_0_1
  have c2_0_1 := hb1.get (b := w.heap.size + 1) (o := 0) (v := .int .i64 (su)) (by first | with_reducible assumption | (simp [go_sem]; done) | (simp [go_sem, *]; done))
  have c2_1_1 := hb1.get (b := w.heap.size + 1) (o := 1) (v := .int .i64 (lu)) (by first | with_reducible assumption | (simp [go_sem]; done) | (simp [go_sem, *]; done))
  have l2_1 := cell_lt c2_0_1
  have K1 := Q1
  clear hb1 Q1
  go_wp2_with fail
  refine ((C1.out _).2).mono ?_
  rintro e w2 ⟨rfl, hb2⟩
  have Q2 : Kp w1 w2 := by repeat (first | exact Kp.refl _ | with_reducible assumption | with_reducible refine Kp.set ?_ _ _ ?_ | (dsimp only; omega) | with_reducible refine Kp.drew ?_ | with_reducible refine Kp.drewN ?_ _ | with_reducible refine Kp.al ?_ _ | with_reducible refine Kp.trans ?_ (by with_reducible assumption))
  have c3_0_2 := hb2.get (b := w1.heap.size) (o := 0) (v := .int .i64 (x)) (by first | with_reducible assumption | (simp [go_sem]; done) | (simp [go_sem, *]; done))
  have c3_1_2 := hb2.get (b := w1.heap.size) (o := 1) (v := .int .i64 (y)) (by first | with_reducible assumption | (simp [go_sem]; done) | (simp [go_sem, *]; done))
  have c3_2_2 := hb2.get (b := w1.heap.size) (o := 2) (v := .int .i64 (z)) (by first | with_reducible assumption | (simp [go_sem]; done) | (simp [go_sem, *]; done))
  have l3_2 := cell_lt c3_0_2
  have c1_0_2 := Q2.get c1_0_1
  have c1_1_2 := Q2.get c1_1_1
  have l1_2 := cell_lt c1_0_2
  have c2_0_2 := Q2.get c2_0_1
  have c2_1_2 := Q2.get c2_1_1
  have l2_2 := cell_lt c2_0_2
  have K2 := K1.trans Q2
  clear hb2 c1_0_1 c1_1_1 l1_1 c2_0_1 c2_1_1 l2_1 K1 Q2
  go_wp2_with fail
  obtain ⟨v, hv⟩ : ∃ v : World, v = w2.alloc (.cells #[.int .i64 x, .int .i64 y, .int .i64 z] 25) := ⟨_, rfl⟩
  have Kv : Kp w2 v := by rw [hv]; repeat (first | exact Kp.refl _ | with_reducible assumption | with_reducible refine Kp.set ?_ _ _ ?_ | (dsimp only; omega) | with_reducible refine Kp.drew ?_ | with_reducible refine Kp.drewN ?_ _ | with_reducible refine Kp.al ?_ _ | with_reducible refine Kp.trans ?_ (by with_reducible assumption))
  have p0 : v.cell? ⟨w2.heap.size, 0, none⟩ = some (.int .i64 x) := by rw [hv]; simp [go_sem]
  have p1 : v.cell? ⟨w2.heap.size, 1, none⟩ = some (.int .i64 y) := by rw [hv]; simp [go_sem]
  have p2 : v.cell? ⟨w2.heap.size, 2, none⟩ = some (.int .i64 z) := by rw [hv]; simp [go_sem]
  have q0 := Kv.get c3_0_2
  have q1 := Kv.get c3_1_2
  have q2 := Kv.get c3_2_2
  have d0 := Kv.get c1_0_2
  have d1 := Kv.get c1_1_2
  have g0 := Kv.get c2_0_2
  have g1 := Kv.get c2_1_2
  have KV := K2.trans Kv
  rw [← hv]
  clear hv Kv c1_0_2 c1_1_2 c2_0_2 c2_1_2 c3_0_2 c3_1_2 c3_2_2 l1_2 l2_2 l3_2 K2
  go_region_held3 (fun w' => w'.cell? ⟨w.heap.size, 0, none⟩ = some (.int .i64 st) ∧ w'.cell? ⟨w.heap.size, 1, none⟩ = some (.int .i64 ln) ∧ w'.cell? ⟨w2.heap.size, 0, none⟩ = some (.int .i64 x) ∧ w'.cell? ⟨w2.heap.size, 1, none⟩ = some (.int .i64 y) ∧ w'.cell? ⟨w2.heap.size, 2, none⟩ = some (.int .i64 z) ∧ w'.cell? ⟨w1.heap.size, 0, none⟩ = some (.int .i64 x) ∧ w'.cell? ⟨w1.heap.size, 1, none⟩ = some (.int .i64 y) ∧ w'.cell? ⟨w1.heap.size, 2, none⟩ = some (.int .i64 z))
    (((try dsimp only); (repeat' apply And.intro) <;> (repeat (first | with_reducible assumption | with_reducible refine cell_drew ?_ | with_reducible refine cell_drewN ?_ | with_reducible refine Kp.get (by with_reducible assumption) ?_))))
    (first | (go_at_call 17; refine (ccheck_any _ _ _).mono ?_; rintro e wx ⟨rfl, hkx⟩) | (go_at_call 18; refine (crcheck_any _ _ _).mono ?_; rintro e wy ⟨rfl, hky⟩))
  have Ky : Kp v wy := by repeat (first | exact Kp.refl _ | with_reducible assumption | with_reducible refine Kp.set ?_ _ _ ?_ | (dsimp only; omega) | with_reducible refine Kp.drew ?_ | with_reducible refine Kp.drewN ?_ _ | with_reducible refine Kp.al ?_ _ | with_reducible refine Kp.trans ?_ (by with_reducible assumption))
  have m0 := Ky.get d0
  have m1 := Ky.get d1
  have m2 := Ky.get g0
  have m3 := Ky.get g1
  have ml := cell_lt m0
  have mr := cell_lt m2
  have KY := KV.trans Ky
  clear d0 d1 g0 g1 p0 p1 p2 q0 q1 q2 Ky KV hkx hky
  go_wp2_with fail
  refine ((C2.out _).1).mono ?_
  rintro e _ ⟨rfl, rfl⟩
  go_wp2_with fail
  refine ((C2.out _).2).mono ?_
  rintro e _ ⟨rfl, rfl⟩
  go_wp2_with fail
  refine ((C3.out _).1).mono ?_
  rintro e wy1 ⟨rfl, hb1⟩
  have Q1 : Kp wy wy1 := by repeat (first | exact Kp.refl _ | with_reducible assumption | with_reducible refine Kp.set ?_ _ _ ?_ | (dsimp only; omega) | with_reducible refine Kp.drew ?_ | with_reducible refine Kp.drewN ?_ _ | with_reducible refine Kp.al ?_ _ | with_reducible refine Kp.trans ?_ (by with_reducible assumption))
  have c1_0_1 := hb1.get (b := w.heap.size) (o := 0) (v := .int .i64 (st)) (by first | with_reducible assumption | (simp [go_sem]; done) | (simp [go_sem, *]; done))
  have c1_1_1 := hb1.get (b := w.heap.size) (o := 1) (v := .int .i64 (ln)) (by first | with_reducible assumption | (simp [go_sem]; done) | (simp [go_sem, *]; done))
  have l1_1 := cell_lt c1_0_1
  have c2_0_1 := hb1.get (b := w.heap.size + 1) (o := 0) (v := .int .i64 (su)) (by first | with_reducible assumption | (simp [go_sem]; done) | (simp [go_sem, *]; done))
  have c2_1_1 := hb1.get (b := w.heap.size + 1) (o := 1) (v := .int .i64 (lu)) (by first | with_reducible assumption | (simp [go_sem]; done) | (simp [go_sem, *]; done))
  have l2_1 := cell_lt c2_0_1
  have K1 := Q1
  clear hb1 Q1
  go_wp2_with fail
  refine ((C3.out _).2).mono ?_
  rintro e wy2 ⟨rfl, hb2⟩
  have Q2 : Kp wy1 wy2 := by repeat (first | exact Kp.refl _ | with_reducible assumption | with_reducible refine Kp.set ?_ _ _ ?_ | (dsimp only; omega) | with_reducible refine Kp.drew ?_ | with_reducible refine Kp.drewN ?_ _ | with_reducible refine Kp.al ?_ _ | with_reducible refine Kp.trans ?_ (by with_reducible assumption))
  have c1_0_2 := Q2.get c1_0_1
  have c1_1_2 := Q2.get c1_1_1
  have l1_2 := cell_lt c1_0_2
  have c2_0_2 := Q2.get c2_0_1
  have c2_1_2 := Q2.get c2_1_1
  have l2_2 := cell_lt c2_0_2
  have K2 := K1.trans Q2
  clear hb2 c1_0_1 c1_1_1 l1_1 c2_0_1 c2_1_1 l2_1 K1 Q2
  go_wp2_with fail
  refine (awake_ok _).mono ?_
  rintro e wy3 ⟨rfl, hb3⟩
  have Q3 : Kp wy2 wy3 := by repeat (first | exact Kp.refl _ | with_reducible assumption | with_reducible refine Kp.set ?_ _ _ ?_ | (dsimp only; omega) | with_reducible refine Kp.drew ?_ | with_reducible refine Kp.drewN ?_ _ | with_reducible refine Kp.al ?_ _ | with_reducible refine Kp.trans ?_ (by with_reducible assumption))
  have c1_0_3 := Q3.get c1_0_2
  have c1_1_3 := Q3.get c1_1_2
  have l1_3 := cell_lt c1_0_3
  have c2_0_3 := Q3.get c2_0_2
  have c2_1_3 := Q3.get c2_1_2
  have l2_3 := cell_lt c2_0_3
  have K3 := K2.trans Q3
  clear hb3 c1_0_2 c1_1_2 l1_2 c2_0_2 c2_1_2 l2_2 K2 Q3
  go_wp2_with fail
  go_ret
  exact ⟨rfl, by repeat (first | exact Kp.refl _ | with_reducible assumption | with_reducible refine Kp.set ?_ _ _ ?_ | (dsimp only; omega) | with_reducible refine Kp.drew ?_ | with_reducible refine Kp.drewN ?_ _ | with_reducible refine Kp.al ?_ _ | with_reducible refine Kp.trans ?_ (by with_reducible assumption))⟩
end Go.Proofs.Ytgajdmefflndmaa
