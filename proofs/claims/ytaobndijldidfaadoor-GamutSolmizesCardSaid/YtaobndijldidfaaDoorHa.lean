/- Contracts of the references: Number, soft, Begin, Made, Place, Pitch, Word. -/
import Derived.Test.YtaobndijldidfaaDoorGo
import Derived.Test.YtaobndijldidfaaDoorGk
set_option linter.unusedSimpArgs false
set_option linter.unusedVariables false
namespace Go.Proofs.YtaobndijldidfaaDoor
open Go.RowKit

theorem rnumber_ok (s o a : Int) (w : World) (h1 : 0 ≤ s) (h2 : s ≤ 6) (h3 : 0 ≤ o) (h4 : o ≤ 8) (h5 : -1 ≤ a) (h6 : a ≤ 1) :
    Calls Tryd.prog 44 #[.agg #[.int .i64 s, .int .i64 o, .int .i64 a]] w fun e w' => e = .returned (.tuple #[.int .i64 (7 * o + s), .int .i64 0]) ∧ Kp w w' := by
  go_enter Tryd.func44, Tryd.ntmps44
  go_wp2_with fail
  refine (rcheck_ok _ _ _ _ h1 h2 h3 h4 h5 h6).mono ?_
  rintro e w1 ⟨rfl, hb1⟩
  have Q1 : Kp w w1 := by repeat (first | exact Kp.refl _ | with_reducible assumption | with_reducible refine Kp.set ?_ _ _ ?_ | (dsimp only; omega) | with_reducible refine Kp.drew ?_ | with_reducible refine Kp.drewN ?_ _ | with_reducible refine Kp.al ?_ _ | with_reducible refine Kp.trans ?_ (by with_reducible assumption))
  have c1_0_1 := hb1.get (b := w.heap.size) (o := 0) (v := .int .i64 (s)) (by first | with_reducible assumption | (simp [go_sem]; done) | (simp [go_sem, *]; done))
  have c1_1_1 := hb1.get (b := w.heap.size) (o := 1) (v := .int .i64 (o)) (by first | with_reducible assumption | (simp [go_sem]; done) | (simp [go_sem, *]; done))
  have c1_2_1 := hb1.get (b := w.heap.size) (o := 2) (v := .int .i64 (a)) (by first | with_reducible assumption | (simp [go_sem]; done) | (simp [go_sem, *]; done))
  have l1_1 := cell_lt c1_0_1
  have K1 := Q1
  clear hb1 Q1
  go_wp2_with fail
  go_ret2
  exact ⟨rfl, by repeat (first | exact Kp.refl _ | with_reducible assumption | with_reducible refine Kp.set ?_ _ _ ?_ | (dsimp only; omega) | with_reducible refine Kp.drew ?_ | with_reducible refine Kp.drewN ?_ _ | with_reducible refine Kp.al ?_ _ | with_reducible refine Kp.trans ?_ (by with_reducible assumption))⟩
theorem rnumber_no (s o a : Int) (w : World) (h : ¬ Vp s o a) :
    Calls Tryd.prog 44 #[.agg #[.int .i64 s, .int .i64 o, .int .i64 a]] w fun e w' => e = .returned (.tuple #[.int .i64 0, .int .i64 2]) ∧ Kp w w' := by
  have H := Lib.hid h; clear h
  go_enter Tryd.func44, Tryd.ntmps44
  go_wp2_with fail
  refine (rcheck_no _ _ _ _ H.out).mono ?_
  rintro e w1 ⟨rfl, hb1⟩
  have Q1 : Kp w w1 := by repeat (first | exact Kp.refl _ | with_reducible assumption | with_reducible refine Kp.set ?_ _ _ ?_ | (dsimp only; omega) | with_reducible refine Kp.drew ?_ | with_reducible refine Kp.drewN ?_ _ | with_reducible refine Kp.al ?_ _ | with_reducible refine Kp.trans ?_ (by with_reducible assumption))
  have K1 := Q1
  clear hb1 Q1
  go_wp2_with fail
  go_ret2
  exact ⟨rfl, by repeat (first | exact Kp.refl _ | with_reducible assumption | with_reducible refine Kp.set ?_ _ _ ?_ | (dsimp only; omega) | with_reducible refine Kp.drew ?_ | with_reducible refine Kp.drewN ?_ _ | with_reducible refine Kp.al ?_ _ | with_reducible refine Kp.trans ?_ (by with_reducible assumption))⟩

theorem rsoft_any (h : Int) (w : World) :
    Calls Tryd.prog 60 #[.int .i64 h] w fun e w' => e = .returned (.bool (decide (h = 3 ∨ h = 6))) ∧ w = w' := by
  go_enter Tryd.func60, Tryd.ntmps60
  go_wp2
  all_goals go_ret
  all_goals exact ⟨ret_bool (by first | (rw [Bool.eq_iff_iff]; simp; done) | (rw [Bool.eq_iff_iff]; simp_all; done) | simp_all), rfl⟩
set_option maxRecDepth 100000 in
theorem begin_ok (h : Nat) (w : World) (h1 : 1 ≤ h) (h2 : h ≤ 7) :
    Calls Tryd.prog 52 #[.int .i64 (h : Int)] w fun e w' => e = .returned (.int .i64 (startN h)) ∧ Kp w w' := by
  have hcase : h = 1 ∨ h = 2 ∨ h = 3 ∨ h = 4 ∨ h = 5 ∨ h = 6 ∨ h = 7 := by omega
  rcases hcase with rfl | rfl | rfl | rfl | rfl | rfl | rfl
  all_goals
    go_enter Tryd.func52, Tryd.ntmps52
    go_wp2_with fail
    go_ret
    exact ⟨rfl, by repeat (first | exact Kp.refl _ | with_reducible assumption | with_reducible refine Kp.set ?_ _ _ ?_ | (dsimp only; omega) | with_reducible refine Kp.drew ?_ | with_reducible refine Kp.drewN ?_ _ | with_reducible refine Kp.al ?_ _ | with_reducible refine Kp.trans ?_ (by with_reducible assumption))⟩

set_option maxRecDepth 100000 in
set_option maxHeartbeats 2000000 in
theorem rmade_nat (h : Nat) (s : Int) (w : World) (h1 : 1 ≤ h) (h2 : h ≤ 7) (h3 : 1 ≤ s) (h4 : s ≤ 6) :
    Calls Tryd.prog 49 #[.agg #[.int .i64 (h : Int), .int .i64 s]] w fun e w' => e = .returned (.agg #[.int .i64 (numS h s % 7), .int .i64 (numS h s / 7), .int .i64 (altS h s)]) ∧ Kp w w' := by
  obtain ⟨b1, b2⟩ := startN_bd h
  have CB := Lib.hid (fun w => begin_ok h w h1 h2)
  have en : numS h s = startN h + s - 1 + 18 := by unfold numS; simp; omega
  obtain ⟨st, est⟩ : ∃ st, st = startN h := ⟨_, rfl⟩
  rw [← est] at b1 b2 CB en
  have i0 : IntKind.i64.wrap (st + s) = st + s := IntWalk.i64_in _ (by omega)
  have i1 : IntKind.i64.wrap (st + s - 1) = st + s - 1 := IntWalk.i64_in _ (by omega)
  have i2 : IntKind.i64.wrap (st + s - 1 + 18) = numS h s := by rw [en]; exact IntWalk.i64_in _ (by omega)
  have nb : 0 ≤ numS h s ∧ numS h s ≤ 100 := by omega
  obtain ⟨N, eN⟩ : ∃ N, N = numS h s := ⟨_, rfl⟩
  rw [← eN] at i2 nb ⊢
  have e1 : N.tmod 7 = N % 7 := by rw [Int.tmod_eq_emod_of_nonneg (by omega)]
  have e2 : N.tdiv 7 = N / 7 := by rw [Int.tdiv_eq_ediv_of_nonneg (by omega)]
  have hcase : (((h : Int) = 3 ∨ (h : Int) = 6) ∧ s = 4 ∧ altS h s = -1) ∨ (((h : Int) = 3 ∨ (h : Int) = 6) ∧ ¬ s = 4 ∧ altS h s = 0) ∨ (¬ ((h : Int) = 3 ∨ (h : Int) = 6) ∧ altS h s = 0) := by
    unfold altS
    by_cases c1 : (h : Int) = 3 ∨ (h : Int) = 6
    · by_cases c2 : s = 4
      · exact .inl ⟨c1, c2, if_pos ⟨c1, c2⟩⟩
      · exact .inr (.inl ⟨c1, c2, if_neg (fun h => c2 h.2)⟩)
    · exact .inr (.inr ⟨c1, if_neg (fun h => c1 h.1)⟩)
  obtain ⟨al, eal⟩ : ∃ al, al = altS h s := ⟨_, rfl⟩
  rw [← eal] at hcase ⊢
  obtain ⟨x, ex⟩ : ∃ x, x = N % 7 := ⟨_, rfl⟩
  obtain ⟨y, ey⟩ : ∃ y, y = N / 7 := ⟨_, rfl⟩
  have x1 : 0 ≤ x ∧ x < 7 := by omega
  have y1 : 0 ≤ y ∧ y < 100 := by omega
  rw [← ex] at e1 ⊢
  rw [← ey] at e2 ⊢
  have i3 : IntKind.i64.wrap x = x := IntWalk.i64_in _ (by omega)
  have i4 : IntKind.i64.wrap y = y := IntWalk.i64_in _ (by omega)
  have cs := fun w => rsoft_any (h : Int) w
  clear en est eN eal ex ey b1 b2 nb x1 y1
  rcases hcase with ⟨c1, c2, c3⟩ | ⟨c1, c2, c3⟩ | ⟨c1, c3⟩
  all_goals
    first | (have d2 : (s == 4) = true := by simpa using c2) | (have d2 : (s == 4) = false := by simpa using c2) | (have d2 : True := trivial)
    first | rw [decide_eq_true c1] at cs | rw [decide_eq_false c1] at cs
    have CS := Lib.hid cs
    clear cs c1
    first | clear c2 | skip
    subst c3
    go_enter Tryd.func49, Tryd.ntmps49
    go_wp2_with fail
    obtain ⟨wb, ewb⟩ : ∃ wb : World, wb = (w.alloc (.cells #[.int .i64 (h : Int), .int .i64 s] 34)).alloc (.cells #[.int .i64 0, .int .i64 0, .int .i64 0] 36) := ⟨_, rfl⟩
    have KB : Kp w wb := by rw [ewb]; repeat (first | exact Kp.refl _ | with_reducible assumption | with_reducible refine Kp.set ?_ _ _ ?_ | (dsimp only; omega) | with_reducible refine Kp.drew ?_ | with_reducible refine Kp.drewN ?_ _ | with_reducible refine Kp.al ?_ _ | with_reducible refine Kp.trans ?_ (by with_reducible assumption))
    have p0 : wb.cell? ⟨w.heap.size, 0, none⟩ = some (.int .i64 (h : Int)) := by rw [ewb]; simp [go_sem]
    have p1 : wb.cell? ⟨w.heap.size, 1, none⟩ = some (.int .i64 s) := by rw [ewb]; simp [go_sem]
    have O0 : Ow wb (w.heap.size + 1) 0 (.int .i64 0) := by rw [ewb]; exact ⟨by simp [go_sem], by simp [go_sem]⟩
    have O1 : Ow wb (w.heap.size + 1) 1 (.int .i64 0) := by rw [ewb]; exact ⟨by simp [go_sem], by simp [go_sem]⟩
    have O2 : Ow wb (w.heap.size + 1) 2 (.int .i64 0) := by rw [ewb]; exact ⟨by simp [go_sem], by simp [go_sem]⟩
    rw [← ewb]
    have NN := Lib.hid (fun (w' : World) (k : Kp wb w') => And.intro (k.get p0) (k.get p1))
    have N3 := Lib.hid (fun (w' : World) (k : Kp wb w') => And.intro (O0.kp k) (And.intro (O1.kp k) (O2.kp k)))
    have gl := cell_lt O0.1
    clear ewb O0 O1 O2
    go_cut [3] (fun v wz => v = .int .i64 N ∧ Kp wb wz)
    case first =>
      go_region_held3 (fun w' => w'.cell? ⟨w.heap.size, 0, none⟩ = some (.int .i64 (h : Int)) ∧ w'.cell? ⟨w.heap.size, 1, none⟩ = some (.int .i64 s))
        (exact NN.out _ (by repeat (first | exact Kp.refl _ | with_reducible assumption | with_reducible refine Kp.set ?_ _ _ ?_ | (dsimp only; omega) | with_reducible refine Kp.drew ?_ | with_reducible refine Kp.drewN ?_ _ | with_reducible refine Kp.al ?_ _ | with_reducible refine Kp.trans ?_ (by with_reducible assumption))))
        (first | (go_at_call 52; refine (CB.out _).mono ?_; rintro e wx ⟨rfl, hkx⟩; have KX : Kp wb wx := (by repeat (first | exact Kp.refl _ | with_reducible assumption | with_reducible refine Kp.set ?_ _ _ ?_ | (dsimp only; omega) | with_reducible refine Kp.drew ?_ | with_reducible refine Kp.drewN ?_ _ | with_reducible refine Kp.al ?_ _ | with_reducible refine Kp.trans ?_ (by with_reducible assumption))); clear hkx))
      go_wp2_with fail
      go_meet
      exact ⟨rfl, by assumption⟩
    case rest =>
      obtain ⟨rfl, KC⟩ := hcut
      obtain ⟨p2, p3⟩ := NN.out wc KC
      obtain ⟨O0, O1, O2⟩ := N3.out wc KC
      obtain ⟨o0, f0⟩ := O0
      obtain ⟨o1, f1⟩ := O1
      obtain ⟨o2, f2⟩ := O2
      have gl2 := cell_lt o0
      have gl3 := cell_lt p2
      have KWC := KB.trans KC
      clear p0 p1 KC KB
      go_wp2_with fail
      refine (CS.out _).mono ?_
      rintro e _ ⟨rfl, rfl⟩
      go_wp2_with fail
      first
      | exact bodyPost_ret (v := .agg #[.int .i64 x, .int .i64 y, .int .i64 (-1)]) (by simp [results, Tryd.results49, go_sem, *]) rfl ⟨rfl, by repeat (first | exact Kp.refl _ | with_reducible assumption | with_reducible refine Kp.set ?_ _ _ ?_ | (dsimp only; omega) | with_reducible refine Kp.drew ?_ | with_reducible refine Kp.drewN ?_ _ | with_reducible refine Kp.al ?_ _ | with_reducible refine Kp.trans ?_ (by with_reducible assumption))⟩
      | exact bodyPost_ret (v := .agg #[.int .i64 x, .int .i64 y, .int .i64 0]) (by simp [results, Tryd.results49, go_sem, *]) rfl ⟨rfl, by repeat (first | exact Kp.refl _ | with_reducible assumption | with_reducible refine Kp.set ?_ _ _ ?_ | (dsimp only; omega) | with_reducible refine Kp.drew ?_ | with_reducible refine Kp.drewN ?_ _ | with_reducible refine Kp.al ?_ _ | with_reducible refine Kp.trans ?_ (by with_reducible assumption))⟩
theorem rmade_ok (h s : Int) (w : World) (hv : Vs h s) :
    Calls Tryd.prog 49 #[.agg #[.int .i64 h, .int .i64 s]] w fun e w' => e = .returned (.agg #[.int .i64 (pitS (h, s)).1, .int .i64 (pitS (h, s)).2.1, .int .i64 (pitS (h, s)).2.2]) ∧ Kp w w' := by
  obtain ⟨h1, h2, h3, h4⟩ := hv
  obtain ⟨m, rfl⟩ := Int.eq_ofNat_of_zero_le (show 0 ≤ h by omega)
  exact rmade_nat m s w (by omega) (by omega) h3 h4
theorem rpitch_ok (h s : Int) (w : World) (hv : Vs h s) :
    Calls Tryd.prog 22 #[.agg #[.int .i64 h, .int .i64 s]] w fun e w' => e = .returned (.tuple #[.agg #[.int .i64 (pitS (h, s)).1, .int .i64 (pitS (h, s)).2.1, .int .i64 (pitS (h, s)).2.2], .int .i64 0]) ∧ Kp w w' := by
  have CM := Lib.hid (fun w => rmade_ok h s w hv)
  obtain ⟨h1, h2, h3, h4⟩ := hv
  have d1 : decide (h < 1) = false := by simp; omega
  have d2 : decide (7 < h) = false := by simp; omega
  have d3 : decide (s < 1) = false := by simp; omega
  have d4 : decide (6 < s) = false := by simp; omega
  obtain ⟨x, ex⟩ : ∃ x, x = (pitS (h, s)).1 := ⟨_, rfl⟩
  obtain ⟨y, ey⟩ : ∃ y, y = (pitS (h, s)).2.1 := ⟨_, rfl⟩
  obtain ⟨z, ez⟩ : ∃ z, z = (pitS (h, s)).2.2 := ⟨_, rfl⟩
  rw [← ex, ← ey, ← ez] at CM
  rw [← ex, ← ey, ← ez]
  clear ex ey ez
  go_enter Tryd.func22, Tryd.ntmps22
  have s2 : w.heap.size ≤ w.heap.size + 1 := by omega
  have n2_1 : ¬ w.heap.size + 1 = w.heap.size := by omega
  have n1_2 : ¬ w.heap.size = w.heap.size + 1 := by omega
  go_wp2_with fail
  refine (CM.out _).mono ?_
  rintro e w1 ⟨rfl, hb1⟩
  have Q1 : Kp w w1 := by repeat (first | exact Kp.refl _ | with_reducible assumption | with_reducible refine Kp.set ?_ _ _ ?_ | (dsimp only; omega) | with_reducible refine Kp.drew ?_ | with_reducible refine Kp.drewN ?_ _ | with_reducible refine Kp.al ?_ _ | with_reducible refine Kp.trans ?_ (by with_reducible assumption))
  have c1_0_1 := hb1.get (b := w.heap.size) (o := 0) (v := .int .i64 (h)) (by first | with_reducible assumption | (simp [go_sem]; done) | (simp [go_sem, *]; done))
  have c1_1_1 := hb1.get (b := w.heap.size) (o := 1) (v := .int .i64 (s)) (by first | with_reducible assumption | (simp [go_sem]; done) | (simp [go_sem, *]; done))
  have l1_1 := cell_lt c1_0_1
  have c2_0_1 := hb1.get (b := w.heap.size + 1) (o := 0) (v := .int .i64 (0)) (by first | with_reducible assumption | (simp [go_sem]; done) | (simp [go_sem, *]; done))
  have f2_0_1 := hb1.free (b := w.heap.size + 1) (o := 0) (v := .int .i64 (0)) (by first | with_reducible assumption | (simp [go_sem]; done) | (simp [go_sem, *]; done)) (by first | with_reducible assumption | (simp [go_sem]; done) | (simp [go_sem, *]; done))
  have c2_1_1 := hb1.get (b := w.heap.size + 1) (o := 1) (v := .int .i64 (0)) (by first | with_reducible assumption | (simp [go_sem]; done) | (simp [go_sem, *]; done))
  have f2_1_1 := hb1.free (b := w.heap.size + 1) (o := 1) (v := .int .i64 (0)) (by first | with_reducible assumption | (simp [go_sem]; done) | (simp [go_sem, *]; done)) (by first | with_reducible assumption | (simp [go_sem]; done) | (simp [go_sem, *]; done))
  have c2_2_1 := hb1.get (b := w.heap.size + 1) (o := 2) (v := .int .i64 (0)) (by first | with_reducible assumption | (simp [go_sem]; done) | (simp [go_sem, *]; done))
  have f2_2_1 := hb1.free (b := w.heap.size + 1) (o := 2) (v := .int .i64 (0)) (by first | with_reducible assumption | (simp [go_sem]; done) | (simp [go_sem, *]; done)) (by first | with_reducible assumption | (simp [go_sem]; done) | (simp [go_sem, *]; done))
  have l2_1 := cell_lt c2_0_1
  have K1 := Q1
  clear hb1 Q1
  go_wp2_with fail
  exact bodyPost_ret (v := .tuple #[.agg #[.int .i64 x, .int .i64 y, .int .i64 z], .int .i64 0]) (by simp [results, Tryd.results22, go_sem, *]) rfl ⟨rfl, by repeat (first | exact Kp.refl _ | with_reducible assumption | with_reducible refine Kp.set ?_ _ _ ?_ | (dsimp only; omega) | with_reducible refine Kp.drew ?_ | with_reducible refine Kp.drewN ?_ _ | with_reducible refine Kp.al ?_ _ | with_reducible refine Kp.trans ?_ (by with_reducible assumption))⟩
theorem rpitch_no (h s : Int) (w : World) (hv : ¬ Vs h s) :
    Calls Tryd.prog 22 #[.agg #[.int .i64 h, .int .i64 s]] w fun e w' => e = .returned (.tuple #[.agg #[.int .i64 0, .int .i64 0, .int .i64 0], .int .i64 2]) ∧ Kp w w' := by
  unfold Vs at hv
  have H := Lib.hid hv; clear hv
  go_enter Tryd.func22, Tryd.ntmps22
  go_wp2_with fail
  all_goals first | (exfalso; have := H.out; omega) | exact bodyPost_ret (v := .tuple #[.agg #[.int .i64 0, .int .i64 0, .int .i64 0], .int .i64 2]) (by simp [results, Tryd.results22, go_sem]) rfl ⟨rfl, by repeat (first | exact Kp.refl _ | with_reducible assumption | with_reducible refine Kp.set ?_ _ _ ?_ | (dsimp only; omega) | with_reducible refine Kp.drew ?_ | with_reducible refine Kp.drewN ?_ _ | with_reducible refine Kp.al ?_ _ | with_reducible refine Kp.trans ?_ (by with_reducible assumption))⟩
theorem rplace_ok (s o a : Int) (w : World) (h1 : 0 ≤ s) (h2 : s ≤ 6) (h3 : 0 ≤ o) (h4 : o ≤ 8) (h5 : -1 ≤ a) (h6 : a ≤ 1) (n1 : 18 ≤ 7 * o + s) (n2 : 7 * o + s ≤ 37) :
    Calls Tryd.prog 18 #[.agg #[.int .i64 s, .int .i64 o, .int .i64 a]] w fun e w' => e = .returned (.tuple #[.int .i64 (7 * o + s - 18), .int .i64 0]) ∧ Kp w w' := by
  have d1 : decide (7 * o + s < 18) = false := by simp; omega
  have d2 : decide (37 < 7 * o + s) = false := by simp; omega
  have i1 : IntKind.i64.wrap (7 * o + s - 18) = 7 * o + s - 18 := IntWalk.i64_in _ (by omega)
  go_enter Tryd.func18, Tryd.ntmps18
  go_wp2_with fail
  refine (rnumber_ok _ _ _ _ h1 h2 h3 h4 h5 h6).mono ?_
  rintro e w1 ⟨rfl, hb1⟩
  have Q1 : Kp w w1 := by repeat (first | exact Kp.refl _ | with_reducible assumption | with_reducible refine Kp.set ?_ _ _ ?_ | (dsimp only; omega) | with_reducible refine Kp.drew ?_ | with_reducible refine Kp.drewN ?_ _ | with_reducible refine Kp.al ?_ _ | with_reducible refine Kp.trans ?_ (by with_reducible assumption))
  have c1_0_1 := hb1.get (b := w.heap.size) (o := 0) (v := .int .i64 (s)) (by first | with_reducible assumption | (simp [go_sem]; done) | (simp [go_sem, *]; done))
  have c1_1_1 := hb1.get (b := w.heap.size) (o := 1) (v := .int .i64 (o)) (by first | with_reducible assumption | (simp [go_sem]; done) | (simp [go_sem, *]; done))
  have c1_2_1 := hb1.get (b := w.heap.size) (o := 2) (v := .int .i64 (a)) (by first | with_reducible assumption | (simp [go_sem]; done) | (simp [go_sem, *]; done))
  have l1_1 := cell_lt c1_0_1
  have K1 := Q1
  clear hb1 Q1
  go_wp2_with fail
  go_ret2
  exact ⟨rfl, by repeat (first | exact Kp.refl _ | with_reducible assumption | with_reducible refine Kp.set ?_ _ _ ?_ | (dsimp only; omega) | with_reducible refine Kp.drew ?_ | with_reducible refine Kp.drewN ?_ _ | with_reducible refine Kp.al ?_ _ | with_reducible refine Kp.trans ?_ (by with_reducible assumption))⟩
theorem rplace_out (s o a : Int) (w : World) (h1 : 0 ≤ s) (h2 : s ≤ 6) (h3 : 0 ≤ o) (h4 : o ≤ 8) (h5 : -1 ≤ a) (h6 : a ≤ 1) (n : 7 * o + s < 18 ∨ 37 < 7 * o + s) :
    Calls Tryd.prog 18 #[.agg #[.int .i64 s, .int .i64 o, .int .i64 a]] w fun e w' => e = .returned (.tuple #[.int .i64 0, .int .i64 2]) ∧ Kp w w' := by
  rcases n with n | n
  · have d1 : decide (7 * o + s < 18) = true := by simp; omega
    go_enter Tryd.func18, Tryd.ntmps18
    go_wp2_with fail
    refine (rnumber_ok _ _ _ _ h1 h2 h3 h4 h5 h6).mono ?_
    rintro e w1 ⟨rfl, hb1⟩
    have Q1 : Kp w w1 := by repeat (first | exact Kp.refl _ | with_reducible assumption | with_reducible refine Kp.set ?_ _ _ ?_ | (dsimp only; omega) | with_reducible refine Kp.drew ?_ | with_reducible refine Kp.drewN ?_ _ | with_reducible refine Kp.al ?_ _ | with_reducible refine Kp.trans ?_ (by with_reducible assumption))
    have c1_0_1 := hb1.get (b := w.heap.size) (o := 0) (v := .int .i64 (s)) (by first | with_reducible assumption | (simp [go_sem]; done) | (simp [go_sem, *]; done))
    have c1_1_1 := hb1.get (b := w.heap.size) (o := 1) (v := .int .i64 (o)) (by first | with_reducible assumption | (simp [go_sem]; done) | (simp [go_sem, *]; done))
    have c1_2_1 := hb1.get (b := w.heap.size) (o := 2) (v := .int .i64 (a)) (by first | with_reducible assumption | (simp [go_sem]; done) | (simp [go_sem, *]; done))
    have l1_1 := cell_lt c1_0_1
    have K1 := Q1
    clear hb1 Q1
    go_wp2_with fail
    go_ret2
    exact ⟨rfl, by repeat (first | exact Kp.refl _ | with_reducible assumption | with_reducible refine Kp.set ?_ _ _ ?_ | (dsimp only; omega) | with_reducible refine Kp.drew ?_ | with_reducible refine Kp.drewN ?_ _ | with_reducible refine Kp.al ?_ _ | with_reducible refine Kp.trans ?_ (by with_reducible assumption))⟩
  · have d1 : decide (7 * o + s < 18) = false := by simp; omega
    have d2 : decide (37 < 7 * o + s) = true := by simp; omega
    go_enter Tryd.func18, Tryd.ntmps18
    go_wp2_with fail
    refine (rnumber_ok _ _ _ _ h1 h2 h3 h4 h5 h6).mono ?_
    rintro e w1 ⟨rfl, hb1⟩
    have Q1 : Kp w w1 := by repeat (first | exact Kp.refl _ | with_reducible assumption | with_reducible refine Kp.set ?_ _ _ ?_ | (dsimp only; omega) | with_reducible refine Kp.drew ?_ | with_reducible refine Kp.drewN ?_ _ | with_reducible refine Kp.al ?_ _ | with_reducible refine Kp.trans ?_ (by with_reducible assumption))
    have c1_0_1 := hb1.get (b := w.heap.size) (o := 0) (v := .int .i64 (s)) (by first | with_reducible assumption | (simp [go_sem]; done) | (simp [go_sem, *]; done))
    have c1_1_1 := hb1.get (b := w.heap.size) (o := 1) (v := .int .i64 (o)) (by first | with_reducible assumption | (simp [go_sem]; done) | (simp [go_sem, *]; done))
    have c1_2_1 := hb1.get (b := w.heap.size) (o := 2) (v := .int .i64 (a)) (by first | with_reducible assumption | (simp [go_sem]; done) | (simp [go_sem, *]; done))
    have l1_1 := cell_lt c1_0_1
    have K1 := Q1
    clear hb1 Q1
    go_wp2_with fail
    go_ret2
    exact ⟨rfl, by repeat (first | exact Kp.refl _ | with_reducible assumption | with_reducible refine Kp.set ?_ _ _ ?_ | (dsimp only; omega) | with_reducible refine Kp.drew ?_ | with_reducible refine Kp.drewN ?_ _ | with_reducible refine Kp.al ?_ _ | with_reducible refine Kp.trans ?_ (by with_reducible assumption))⟩
theorem rplace_no (s o a : Int) (w : World) (h : ¬ Vp s o a) :
    Calls Tryd.prog 18 #[.agg #[.int .i64 s, .int .i64 o, .int .i64 a]] w fun e w' => e = .returned (.tuple #[.int .i64 0, .int .i64 2]) ∧ Kp w w' := by
  have H := Lib.hid h; clear h
  go_enter Tryd.func18, Tryd.ntmps18
  go_wp2_with fail
  refine (rnumber_no _ _ _ _ H.out).mono ?_
  rintro e w1 ⟨rfl, hb1⟩
  have Q1 : Kp w w1 := by repeat (first | exact Kp.refl _ | with_reducible assumption | with_reducible refine Kp.set ?_ _ _ ?_ | (dsimp only; omega) | with_reducible refine Kp.drew ?_ | with_reducible refine Kp.drewN ?_ _ | with_reducible refine Kp.al ?_ _ | with_reducible refine Kp.trans ?_ (by with_reducible assumption))
  have c1_0_1 := hb1.get (b := w.heap.size) (o := 0) (v := .int .i64 (s)) (by first | with_reducible assumption | (simp [go_sem]; done) | (simp [go_sem, *]; done))
  have c1_1_1 := hb1.get (b := w.heap.size) (o := 1) (v := .int .i64 (o)) (by first | with_reducible assumption | (simp [go_sem]; done) | (simp [go_sem, *]; done))
  have c1_2_1 := hb1.get (b := w.heap.size) (o := 2) (v := .int .i64 (a)) (by first | with_reducible assumption | (simp [go_sem]; done) | (simp [go_sem, *]; done))
  have l1_1 := cell_lt c1_0_1
  have K1 := Q1
  clear hb1 Q1
  go_wp2_with fail
  go_ret2
  exact ⟨rfl, by repeat (first | exact Kp.refl _ | with_reducible assumption | with_reducible refine Kp.set ?_ _ _ ?_ | (dsimp only; omega) | with_reducible refine Kp.drew ?_ | with_reducible refine Kp.drewN ?_ _ | with_reducible refine Kp.al ?_ _ | with_reducible refine Kp.trans ?_ (by with_reducible assumption))⟩
set_option maxRecDepth 100000 in
theorem rword_ok (s : Nat) (w : World) (h1 : 1 ≤ s) (h2 : s ≤ 6) :
    Calls Tryd.prog 26 #[.int .i64 (s : Int)] w fun e w' => e = .returned (.tuple #[.string (wordN s), .int .i64 0]) ∧ Kp w w' := by
  have hcase : s = 1 ∨ s = 2 ∨ s = 3 ∨ s = 4 ∨ s = 5 ∨ s = 6 := by omega
  rcases hcase with rfl | rfl | rfl | rfl | rfl | rfl
  all_goals
    go_enter Tryd.func26, Tryd.ntmps26
    go_wp2_with fail
    go_ret2
    exact ⟨rfl, by repeat (first | exact Kp.refl _ | with_reducible assumption | with_reducible refine Kp.set ?_ _ _ ?_ | (dsimp only; omega) | with_reducible refine Kp.drew ?_ | with_reducible refine Kp.drewN ?_ _ | with_reducible refine Kp.al ?_ _ | with_reducible refine Kp.trans ?_ (by with_reducible assumption))⟩
set_option maxRecDepth 100000 in
theorem rword_no (s : Int) (w : World) (h : s < 1 ∨ 6 < s) :
    Calls Tryd.prog 26 #[.int .i64 s] w fun e w' => e = .returned (.tuple #[.string ⟨#[]⟩, .int .i64 2]) ∧ Kp w w' := by
  rcases h with h | h
  all_goals
    go_enter Tryd.func26, Tryd.ntmps26
    go_wp2_with fail
    all_goals
      first
      | (exfalso; omega)
      | (go_ret2; exact ⟨rfl, by repeat (first | exact Kp.refl _ | with_reducible assumption | with_reducible refine Kp.set ?_ _ _ ?_ | (dsimp only; omega) | with_reducible refine Kp.drew ?_ | with_reducible refine Kp.drewN ?_ _ | with_reducible refine Kp.al ?_ _ | with_reducible refine Kp.trans ?_ (by with_reducible assumption))⟩)
end Go.Proofs.YtaobndijldidfaaDoor
