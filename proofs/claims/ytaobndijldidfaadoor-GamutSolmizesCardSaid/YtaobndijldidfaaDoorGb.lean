/- Contracts of gamut.soft, Place, Pitch. -/
import Derived.Test.YtaobndijldidfaaDoorGa
namespace Go.Proofs.YtaobndijldidfaaDoor
open Go.RowKit

/-- The number and the alteration of a syllable; its pitch. -/
def numS (h s : Int) : Int := 18 + startN h.toNat + s - 1
def altS (h s : Int) : Int := if (h = 3 ∨ h = 6) ∧ s = 4 then -1 else 0
def pitS (x : Sy) : Pt := (numS x.1 x.2 % 7, numS x.1 x.2 / 7, altS x.1 x.2)
def Vs (h s : Int) : Prop := 1 ≤ h ∧ h ≤ 7 ∧ 1 ≤ s ∧ s ≤ 6
instance (h s : Int) : Decidable (Vs h s) := by unfold Vs; infer_instance
theorem numS_bd {h s : Int} (hv : Vs h s) : 18 ≤ numS h s ∧ numS h s ≤ 37 := by
  unfold Vs at hv; unfold numS startN; omega
theorem altS_bd (h s : Int) : -1 ≤ altS h s ∧ altS h s ≤ 0 := by unfold altS; split <;> omega

theorem soft_any (h : Int) (w : World) :
    Calls Tryd.prog 47 #[.int .i64 h] w fun e w' => e = .returned (.bool (decide (h = 3 ∨ h = 6))) ∧ w = w' := by
  go_enter Tryd.func47, Tryd.ntmps47
  go_wp2
  all_goals go_ret
  all_goals exact ⟨ret_bool (by first | (rw [Bool.eq_iff_iff]; simp; done) | (rw [Bool.eq_iff_iff]; simp_all; done) | simp_all), rfl⟩

theorem gplace_ok (s o a : Int) (w : World) (h1 : 0 ≤ s) (h2 : s ≤ 6) (h3 : 0 ≤ o) (h4 : o ≤ 8) (h5 : -1 ≤ a) (h6 : a ≤ 1) (n1 : 18 ≤ 7 * o + s) (n2 : 7 * o + s ≤ 37) :
    Calls Tryd.prog 17 #[.agg #[.int .i64 s, .int .i64 o, .int .i64 a]] w fun e w' => e = .returned (.tuple #[.int .i64 (7 * o + s - 18), .int .i64 0]) ∧ Kp w w' := by
  go_enter Tryd.func17, Tryd.ntmps17
  go_wp2_with fail
  refine (number_ok _ _ _ _ h1 h2 h3 h4 h5 h6).mono ?_
  rintro e w1 ⟨rfl, hb1⟩
  have Q1 : Kp w w1 := by repeat (first | exact Kp.refl _ | with_reducible assumption | with_reducible refine Kp.set ?_ _ _ ?_ | (dsimp only; omega) | with_reducible refine Kp.drew ?_ | with_reducible refine Kp.drewN ?_ _ | with_reducible refine Kp.al ?_ _ | with_reducible refine Kp.trans ?_ (by with_reducible assumption))
  have c1_0_1 := hb1.get (b := w.heap.size) (o := 0) (v := .int .i64 (s)) (by first | with_reducible assumption | (simp [go_sem]; done) | (simp [go_sem, *]; done))
  have c1_1_1 := hb1.get (b := w.heap.size) (o := 1) (v := .int .i64 (o)) (by first | with_reducible assumption | (simp [go_sem]; done) | (simp [go_sem, *]; done))
  have c1_2_1 := hb1.get (b := w.heap.size) (o := 2) (v := .int .i64 (a)) (by first | with_reducible assumption | (simp [go_sem]; done) | (simp [go_sem, *]; done))
  have l1_1 := cell_lt c1_0_1
  have K1 := Q1
  clear hb1 Q1
  go_wp2_with fail
  go_ret2
  exact ⟨rfl, by repeat (first | exact Kp.refl _ | with_reducible assumption | with_reducible refine Kp.set ?_ _ _ ?_ | (dsimp only; omega) | with_reducible refine Kp.drew ?_ | with_reducible refine Kp.drewN ?_ _ | with_reducible refine Kp.al ?_ _ | with_reducible refine Kp.trans ?_ (by with_reducible assumption))⟩
theorem gplace_out (s o a : Int) (w : World) (h1 : 0 ≤ s) (h2 : s ≤ 6) (h3 : 0 ≤ o) (h4 : o ≤ 8) (h5 : -1 ≤ a) (h6 : a ≤ 1) (n : 7 * o + s < 18 ∨ 37 < 7 * o + s) :
    Calls Tryd.prog 17 #[.agg #[.int .i64 s, .int .i64 o, .int .i64 a]] w fun e w' => e = .returned (.tuple #[.int .i64 0, .int .i64 2]) ∧ Kp w w' := by
  rcases n with n | n
  all_goals
    go_enter Tryd.func17, Tryd.ntmps17
    go_wp2_with fail
    refine (number_ok _ _ _ _ h1 h2 h3 h4 h5 h6).mono ?_
    rintro e w1 ⟨rfl, hb1⟩
    have Q1 : Kp w w1 := by repeat (first | exact Kp.refl _ | with_reducible assumption | with_reducible refine Kp.set ?_ _ _ ?_ | (dsimp only; omega) | with_reducible refine Kp.drew ?_ | with_reducible refine Kp.drewN ?_ _ | with_reducible refine Kp.al ?_ _ | with_reducible refine Kp.trans ?_ (by with_reducible assumption))
    have c1_0_1 := hb1.get (b := w.heap.size) (o := 0) (v := .int .i64 (s)) (by first | with_reducible assumption | (simp [go_sem]; done) | (simp [go_sem, *]; done))
    have c1_1_1 := hb1.get (b := w.heap.size) (o := 1) (v := .int .i64 (o)) (by first | with_reducible assumption | (simp [go_sem]; done) | (simp [go_sem, *]; done))
    have c1_2_1 := hb1.get (b := w.heap.size) (o := 2) (v := .int .i64 (a)) (by first | with_reducible assumption | (simp [go_sem]; done) | (simp [go_sem, *]; done))
    have l1_1 := cell_lt c1_0_1
    have K1 := Q1
    clear hb1 Q1
    go_wp2_with fail
    go_ret2
    exact ⟨rfl, by repeat (first | exact Kp.refl _ | with_reducible assumption | with_reducible refine Kp.set ?_ _ _ ?_ | (dsimp only; omega) | with_reducible refine Kp.drew ?_ | with_reducible refine Kp.drewN ?_ _ | with_reducible refine Kp.al ?_ _ | with_reducible refine Kp.trans ?_ (by with_reducible assumption))⟩
theorem gplace_no (s o a : Int) (w : World) (h : ¬ (0 ≤ s ∧ s ≤ 6 ∧ 0 ≤ o ∧ o ≤ 8 ∧ -1 ≤ a ∧ a ≤ 1)) :
    Calls Tryd.prog 17 #[.agg #[.int .i64 s, .int .i64 o, .int .i64 a]] w fun e w' => e = .returned (.tuple #[.int .i64 0, .int .i64 2]) ∧ Kp w w' := by
  have H := Lib.hid h; clear h
  go_enter Tryd.func17, Tryd.ntmps17
  go_wp2_with fail
  refine (number_no _ _ _ _ H.out).mono ?_
  rintro e w1 ⟨rfl, hb1⟩
  have Q1 : Kp w w1 := by repeat (first | exact Kp.refl _ | with_reducible assumption | with_reducible refine Kp.set ?_ _ _ ?_ | (dsimp only; omega) | with_reducible refine Kp.drew ?_ | with_reducible refine Kp.drewN ?_ _ | with_reducible refine Kp.al ?_ _ | with_reducible refine Kp.trans ?_ (by with_reducible assumption))
  have c1_0_1 := hb1.get (b := w.heap.size) (o := 0) (v := .int .i64 (s)) (by first | with_reducible assumption | (simp [go_sem]; done) | (simp [go_sem, *]; done))
  have c1_1_1 := hb1.get (b := w.heap.size) (o := 1) (v := .int .i64 (o)) (by first | with_reducible assumption | (simp [go_sem]; done) | (simp [go_sem, *]; done))
  have c1_2_1 := hb1.get (b := w.heap.size) (o := 2) (v := .int .i64 (a)) (by first | with_reducible assumption | (simp [go_sem]; done) | (simp [go_sem, *]; done))
  have l1_1 := cell_lt c1_0_1
  have K1 := Q1
  clear hb1 Q1
  go_wp2_with fail
  go_ret2
  exact ⟨rfl, by repeat (first | exact Kp.refl _ | with_reducible assumption | with_reducible refine Kp.set ?_ _ _ ?_ | (dsimp only; omega) | with_reducible refine Kp.drew ?_ | with_reducible refine Kp.drewN ?_ _ | with_reducible refine Kp.al ?_ _ | with_reducible refine Kp.trans ?_ (by with_reducible assumption))⟩

set_option maxRecDepth 100000 in
set_option maxHeartbeats 1000000 in
theorem gpitch_nat (h : Nat) (s : Int) (w : World) (ht0 : Tab w) (h1 : 1 ≤ h) (h2 : h ≤ 7) (h3 : 1 ≤ s) (h4 : s ≤ 6) :
    Calls Tryd.prog 21 #[.agg #[.int .i64 (h : Int), .int .i64 s]] w fun e w' => e = .returned (.tuple #[.agg #[.int .i64 (numS h s % 7), .int .i64 (numS h s / 7), .int .i64 (altS h s)], .int .i64 0]) ∧ Kp w w' := by
  have hc := ht0.1 h (by omega)
  have hlt := ht0.lt
  obtain ⟨b1, b2⟩ := startN_bd h
  obtain ⟨st, est⟩ : ∃ st, st = startN h := ⟨_, rfl⟩
  have en : numS h s = 18 + st + s - 1 := by unfold numS; rw [est]; rfl
  rw [← est] at hc b1 b2
  rw [en]
  have hcase : (((h : Int) = 3 ∨ (h : Int) = 6) ∧ s = 4 ∧ altS h s = -1) ∨ (((h : Int) = 3 ∨ (h : Int) = 6) ∧ ¬ s = 4 ∧ altS h s = 0) ∨ (¬ ((h : Int) = 3 ∨ (h : Int) = 6) ∧ altS h s = 0) := by
    unfold altS
    by_cases c1 : (h : Int) = 3 ∨ (h : Int) = 6
    · by_cases c2 : s = 4
      · exact .inl ⟨c1, c2, if_pos ⟨c1, c2⟩⟩
      · exact .inr (.inl ⟨c1, c2, if_neg (fun h => c2 h.2)⟩)
    · exact .inr (.inr ⟨c1, if_neg (fun h => c1 h.1)⟩)
  obtain ⟨al, eal⟩ : ∃ al, al = altS h s := ⟨_, rfl⟩
  rw [← eal] at hcase ⊢
  have cs := fun w => soft_any (h : Int) w
  have i0 : IntKind.i64.wrap (18 + st) = 18 + st := IntWalk.i64_in _ (by omega)
  have i1 : IntKind.i64.wrap (18 + st + s) = 18 + st + s := IntWalk.i64_in _ (by omega)
  have i2 : IntKind.i64.wrap (18 + st + s - 1) = 18 + st + s - 1 := IntWalk.i64_in _ (by omega)
  have I0 := Lib.hid i0; have I1 := Lib.hid i1; have I2 := Lib.hid i2
  clear eal en est i0 i1 i2 ht0
  rcases hcase with ⟨c1, c2, c3⟩ | ⟨c1, c2, c3⟩ | ⟨c1, c3⟩
  all_goals
    first | (have d2 : (s == 4) = true := by simpa using c2) | (have d2 : (s == 4) = false := by simpa using c2) | (have d2 : True := trivial)
    first | rw [decide_eq_true c1] at cs | rw [decide_eq_false c1] at cs
    have CS := Lib.hid cs
    clear cs c1
    first | clear c2 | skip
    subst c3
    go_enter Tryd.func21, Tryd.ntmps21
    go_wp2_with fail
    refine (CS.out _).mono ?_
    rintro e _ ⟨rfl, rfl⟩
    go_wp2_with fail
    obtain ⟨wc, hwc⟩ : ∃ wc : World, wc = (w.alloc (.cells #[.int .i64 (h : Int), .int .i64 s] 34)).alloc (.cells #[.int .i64 0, .int .i64 0, .int .i64 0] 36) := ⟨_, rfl⟩
    have KC : Kp w wc := by rw [hwc]; repeat (first | exact Kp.refl _ | with_reducible assumption | with_reducible refine Kp.set ?_ _ _ ?_ | (dsimp only; omega) | with_reducible refine Kp.drew ?_ | with_reducible refine Kp.drewN ?_ _ | with_reducible refine Kp.al ?_ _ | with_reducible refine Kp.trans ?_ (by with_reducible assumption))
    have p0 : wc.cell? ⟨w.heap.size, 0, none⟩ = some (.int .i64 (h : Int)) := by rw [hwc]; simp [go_sem]
    have p1 : wc.cell? ⟨w.heap.size, 1, none⟩ = some (.int .i64 s) := by rw [hwc]; simp [go_sem]
    have O0 : Ow wc (w.heap.size + 1) 0 (.int .i64 0) := by rw [hwc]; exact ⟨by simp [go_sem], by simp [go_sem]⟩
    have O1 : Ow wc (w.heap.size + 1) 1 (.int .i64 0) := by rw [hwc]; exact ⟨by simp [go_sem], by simp [go_sem]⟩
    have O2 : Ow wc (w.heap.size + 1) 2 (.int .i64 0) := by rw [hwc]; exact ⟨by simp [go_sem], by simp [go_sem]⟩
    have q := KC.get hc
    rw [← hwc]
    clear hwc hc
    have j1 : (0 : Int) ≤ (h : Int) := by omega
    have j2 : (h : Int) < 8 := by omega
    have i0 := I0.out; have i1 := I1.out; have i2 := I2.out
    go_region_held3 (fun w' => w'.cell? ⟨w.heap.size, 0, none⟩ = some (.int .i64 (h : Int)) ∧ w'.cell? ⟨w.heap.size, 1, none⟩ = some (.int .i64 s) ∧ w'.cell? ⟨0, h, none⟩ = some (.int .i64 st))
      (((try dsimp only); (repeat' apply And.intro) <;> (repeat (first | with_reducible assumption | with_reducible refine cell_drew ?_ | with_reducible refine cell_drewN ?_ | with_reducible refine cell_setb (by dsimp only; omega) ?_ | with_reducible refine Kp.get (by with_reducible assumption) ?_))))
      ((go_at_call 48; refine (Of_ok _ _ _ (by omega) (by omega) (by omega) (by omega)).mono ?_; rintro e wx ⟨rfl, hkx⟩; have KX : Kp wc wx := (by repeat (first | exact Kp.refl _ | with_reducible assumption | with_reducible refine Kp.set ?_ _ _ ?_ | (dsimp only; omega) | with_reducible refine Kp.drew ?_ | with_reducible refine Kp.drewN ?_ _ | with_reducible refine Kp.al ?_ _ | with_reducible refine Kp.trans ?_ (by with_reducible assumption))); obtain ⟨r0x, f0x⟩ := O0.kp KX; obtain ⟨r1x, f1x⟩ := O1.kp KX; obtain ⟨r2x, f2x⟩ := O2.kp KX))
    clear i0 i1 i2
    go_wp2_with fail
    first | exact bodyPost_ret (v := .tuple #[.agg #[.int .i64 ((18 + st + s - 1) % 7), .int .i64 ((18 + st + s - 1) / 7), .int .i64 0], .int .i64 0]) (by simp [results, Tryd.results21, go_sem, r0x, r1x, r2x]) rfl ⟨rfl, by repeat (first | exact Kp.refl _ | with_reducible assumption | with_reducible refine Kp.set ?_ _ _ ?_ | (dsimp only; omega) | with_reducible refine Kp.drew ?_ | with_reducible refine Kp.drewN ?_ _ | with_reducible refine Kp.al ?_ _ | with_reducible refine Kp.trans ?_ (by with_reducible assumption))⟩ | exact bodyPost_ret (v := .tuple #[.agg #[.int .i64 ((18 + st + s - 1) % 7), .int .i64 ((18 + st + s - 1) / 7), .int .i64 (-1)], .int .i64 0]) (by simp [results, Tryd.results21, go_sem, r0x, r1x, r2x]) rfl ⟨rfl, by repeat (first | exact Kp.refl _ | with_reducible assumption | with_reducible refine Kp.set ?_ _ _ ?_ | (dsimp only; omega) | with_reducible refine Kp.drew ?_ | with_reducible refine Kp.drewN ?_ _ | with_reducible refine Kp.al ?_ _ | with_reducible refine Kp.trans ?_ (by with_reducible assumption))⟩
theorem gpitch_ok (h s : Int) (w : World) (ht0 : Tab w) (hv : Vs h s) :
    Calls Tryd.prog 21 #[.agg #[.int .i64 h, .int .i64 s]] w fun e w' => e = .returned (.tuple #[.agg #[.int .i64 (pitS (h, s)).1, .int .i64 (pitS (h, s)).2.1, .int .i64 (pitS (h, s)).2.2], .int .i64 0]) ∧ Kp w w' := by
  obtain ⟨h1, h2, h3, h4⟩ := hv
  obtain ⟨m, rfl⟩ := Int.eq_ofNat_of_zero_le (show 0 ≤ h by omega)
  exact gpitch_nat m s w ht0 (by omega) (by omega) h3 h4
theorem gpitch_no (h s : Int) (w : World) (hv : ¬ Vs h s) :
    Calls Tryd.prog 21 #[.agg #[.int .i64 h, .int .i64 s]] w fun e w' => e = .returned (.tuple #[.agg #[.int .i64 0, .int .i64 0, .int .i64 0], .int .i64 2]) ∧ Kp w w' := by
  unfold Vs at hv
  have H := Lib.hid hv; clear hv
  go_enter Tryd.func21, Tryd.ntmps21
  go_wp2_with fail
  all_goals first | (exfalso; have := H.out; omega) | exact bodyPost_ret (v := .tuple #[.agg #[.int .i64 0, .int .i64 0, .int .i64 0], .int .i64 2]) (by simp [results, Tryd.results21, go_sem]) rfl ⟨rfl, by repeat (first | exact Kp.refl _ | with_reducible assumption | with_reducible refine Kp.set ?_ _ _ ?_ | (dsimp only; omega) | with_reducible refine Kp.drew ?_ | with_reducible refine Kp.drewN ?_ _ | with_reducible refine Kp.al ?_ _ | with_reducible refine Kp.trans ?_ (by with_reducible assumption))⟩
end Go.Proofs.YtaobndijldidfaaDoor
