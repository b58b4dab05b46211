/- Contracts of pitch.Mirror, and of pitch.Between at pitches that are not valid. -/
import Derived.Test.YtmmpjajjebljpaaDoorPc
import Derived.Test.YtmmpjajjebljpaaDoorPg
namespace Go.Proofs.YtmmpjajjebljpaaDoor
open Go.RowKit

theorem cell_setb {w : World} {b o : Nat} {v : Value} {p : Addr} {x : Value} (hp : p.block ≠ b) (h : w.cell? ⟨b, o, none⟩ = some v) : (w.setCell p x).cell? ⟨b, o, none⟩ = some v := cell_set (fun e => hp (by rw [e])) h
theorem tpitch_any (n a : Int) (w : World) :
    Calls Tryd.prog 36 #[.agg #[.int .i64 n, .int .i64 a]] w fun e w' => e = .returned (.tuple #[.agg #[.int .i64 (if 0 ≤ n ∧ n ≤ 62 ∧ -1 ≤ a ∧ a ≤ 1 then n % 7 else 0), .int .i64 (if 0 ≤ n ∧ n ≤ 62 ∧ -1 ≤ a ∧ a ≤ 1 then n / 7 else 0), .int .i64 (if 0 ≤ n ∧ n ≤ 62 ∧ -1 ≤ a ∧ a ≤ 1 then a else 0)], .int .i64 (if 0 ≤ n ∧ n ≤ 62 ∧ -1 ≤ a ∧ a ≤ 1 then 0 else 2)]) ∧ Kp w w' := by
  by_cases h : 0 ≤ n ∧ n ≤ 62 ∧ -1 ≤ a ∧ a ≤ 1
  · simp only [h, and_self, if_true]
    exact tpitch_ok n a w h.1 h.2.1 h.2.2.1 h.2.2.2
  · simp only [if_neg h]
    exact tpitch_no n a w h

set_option maxHeartbeats 4000000 in
theorem mirror_gen (s o a s' o' a' x0 x1 x2 er : Int) (w : World) (h1 : 0 ≤ s) (h2 : s ≤ 6) (h3 : 0 ≤ o) (h4 : o ≤ 8) (h5 : -1 ≤ a) (h6 : a ≤ 1)
    (k1 : 0 ≤ s') (k2 : s' ≤ 6) (k3 : 0 ≤ o') (k4 : o' ≤ 8) (k5 : -1 ≤ a') (k6 : a' ≤ 1)
    (C : ∀ w, Calls Tryd.prog 36 #[.agg #[.int .i64 (2 * (7 * o' + s') - (7 * o + s)), .int .i64 (-a)]] w fun e w' => e = .returned (.tuple #[.agg #[.int .i64 x0, .int .i64 x1, .int .i64 x2], .int .i64 er]) ∧ Kp w w') :
    Calls Tryd.prog 19 #[.agg #[.int .i64 s, .int .i64 o, .int .i64 a], .agg #[.int .i64 s', .int .i64 o', .int .i64 a']] w fun e w' => e = .returned (.tuple #[.agg #[.int .i64 x0, .int .i64 x1, .int .i64 x2], .int .i64 er]) ∧ Kp w w' := by
  have HC := Lib.hid C; clear C
  go_enter Tryd.func19, Tryd.ntmps19
  go_wp2_with fail
  refine wp_loop_rounds 3 ?_
  rw [rounds_succ]
  go_wp2_with fail
  refine (check_ok _ _ _ _ h1 h2 h3 h4 h5 h6).mono ?_
  rintro e w1 ⟨rfl, hb1⟩
  go_wp2_with fail
  rw [rounds_succ]
  go_wp2_with fail
  refine (check_ok _ _ _ _ k1 k2 k3 k4 k5 k6).mono ?_
  rintro e w2 ⟨rfl, hb2⟩
  go_wp2_with fail
  have K := ((((hb1.al _).trans hb2)))
  have KW := (((((Kp.refl w).al _).al _).al _).al _).trans K
  have p0 := K.get (b := w.heap.size) (o := 0) (v := .int .i64 s) (by simp [go_sem])
  have p1 := K.get (b := w.heap.size) (o := 1) (v := .int .i64 o) (by simp [go_sem])
  have p2 := K.get (b := w.heap.size) (o := 2) (v := .int .i64 a) (by simp [go_sem])
  have q0 := K.get (b := w.heap.size + 1) (o := 0) (v := .int .i64 s') (by simp [go_sem])
  have q1 := K.get (b := w.heap.size + 1) (o := 1) (v := .int .i64 o') (by simp [go_sem])
  have q2 := K.get (b := w.heap.size + 1) (o := 2) (v := .int .i64 a') (by simp [go_sem])
  have O0 : Ow w2 (w.heap.size + 1 + 1) 0 (.int .i64 0) := K.own (by simp [go_sem]) (by simp [go_sem])
  have O1 : Ow w2 (w.heap.size + 1 + 1) 1 (.int .i64 0) := K.own (by simp [go_sem]) (by simp [go_sem])
  have O2 : Ow w2 (w.heap.size + 1 + 1) 2 (.int .i64 0) := K.own (by simp [go_sem]) (by simp [go_sem])
  clear K hb1 hb2
  rw [rounds_succ]
  go_wp2_with fail
  refine (of_any _ _ _ _ h1 h2 h3 h4).mono ?_
  rintro e w3 ⟨rfl, hb3⟩
  have q0' := hb3.get q0
  have q1' := hb3.get q1
  have q2' := hb3.get q2
  have O0' := O0.kp hb3
  have O1' := O1.kp hb3
  have O2' := O2.kp hb3
  have l0 := cell_lt O0'.1
  clear q0 q1 q2 p0 p1 p2 O0 O1 O2
  have KW' := KW.trans hb3
  clear KW hb3
  go_wp2_with fail
  have i1 : IntKind.i64.wrap (2 * (7 * o' + s')) = 2 * (7 * o' + s') := IntWalk.i64_in _ (by omega)
  have i2 : IntKind.i64.wrap (2 * (7 * o' + s') - (7 * o + s)) = 2 * (7 * o' + s') - (7 * o + s) := IntWalk.i64_in _ (by omega)
  have i3 : IntKind.i64.wrap (-a) = -a := IntWalk.i64_in _ (by omega)
  go_region_held3 (fun w' => w'.cell? ⟨w.heap.size + 1, 0, none⟩ = some (.int .i64 s') ∧ w'.cell? ⟨w.heap.size + 1, 1, none⟩ = some (.int .i64 o') ∧ w'.cell? ⟨w.heap.size + 1, 2, none⟩ = some (.int .i64 a') ∧ w'.cell? ⟨w3.heap.size, 0, none⟩ = some (.int .i64 (7 * o + s)) ∧ w'.cell? ⟨w3.heap.size, 1, none⟩ = some (.int .i64 a))
    (((try dsimp only); (repeat' apply And.intro) <;> (repeat (first | with_reducible assumption | with_reducible refine cell_setb (by dsimp only; omega) ?_ | with_reducible refine cell_drew ?_ | with_reducible refine cell_drewN ?_ | with_reducible refine Kp.get (by with_reducible assumption) ?_ | (simp [go_sem]; done) | with_reducible refine cell_al ?_))))
    (first | (go_at_call 33; refine (of_any _ _ _ _ (by assumption) (by assumption) (by assumption) (by assumption)).mono ?_; rintro e wx ⟨rfl, hkx⟩) | (go_at_call 36; refine (HC.out _).mono ?_; rintro e wy ⟨rfl, hky⟩; have KY := (show Kp w3 wy by repeat (first | exact Kp.refl _ | with_reducible assumption | with_reducible refine Kp.set ?_ _ _ ?_ | (dsimp only; omega) | with_reducible refine Kp.drew ?_ | with_reducible refine Kp.drewN ?_ _ | with_reducible refine Kp.al ?_ _ | with_reducible refine Kp.trans ?_ (by with_reducible assumption))); obtain ⟨r0, f0⟩ := O0'.kp KY; obtain ⟨r1, f1⟩ := O1'.kp KY; obtain ⟨r2, f2⟩ := O2'.kp KY; clear KY))
  clear i1 i2 i3
  go_wp2_with fail
  exact bodyPost_ret (v := .tuple #[.agg #[.int .i64 x0, .int .i64 x1, .int .i64 x2], .int .i64 er]) (by simp [results, Tryd.results19, go_sem, r0, r1, r2]) rfl ⟨rfl, by repeat (first | exact Kp.refl _ | with_reducible assumption | with_reducible refine Kp.set ?_ _ _ ?_ | (dsimp only; omega) | with_reducible refine Kp.drew ?_ | with_reducible refine Kp.drewN ?_ _ | with_reducible refine Kp.al ?_ _ | with_reducible refine Kp.trans ?_ (by with_reducible assumption))⟩

/-- A pitch is valid. -/
def Vp (s o a : Int) : Prop := 0 ≤ s ∧ s ≤ 6 ∧ 0 ≤ o ∧ o ≤ 8 ∧ -1 ≤ a ∧ a ≤ 1

theorem mirror_no1 (s o a s' o' a' : Int) (w : World) (h : ¬ Vp s o a) :
    Calls Tryd.prog 19 #[.agg #[.int .i64 s, .int .i64 o, .int .i64 a], .agg #[.int .i64 s', .int .i64 o', .int .i64 a']] w fun e w' => e = .returned (.tuple #[.agg #[.int .i64 0, .int .i64 0, .int .i64 0], .int .i64 2]) ∧ Kp w w' := by
  have H := Lib.hid h; clear h
  go_enter Tryd.func19, Tryd.ntmps19
  go_wp2_with fail
  refine wp_loop_rounds 1 ?_
  rw [rounds_succ]
  go_wp2_with fail
  refine (check_no _ _ _ _ H.out).mono ?_
  rintro e w1 ⟨rfl, hb1⟩
  obtain ⟨hc1, hf1⟩ := hb1.cells
  go_wp2_with fail
  exact bodyPost_ret (v := .tuple #[.agg #[.int .i64 0, .int .i64 0, .int .i64 0], .int .i64 2]) (by simp [results, Tryd.results19, go_sem, hc1]) rfl ⟨rfl, by repeat (first | exact Kp.refl _ | with_reducible assumption | with_reducible refine Kp.set ?_ _ _ ?_ | (dsimp only; omega) | with_reducible refine Kp.drew ?_ | with_reducible refine Kp.drewN ?_ _ | with_reducible refine Kp.al ?_ _ | with_reducible refine Kp.trans ?_ (by with_reducible assumption))⟩
theorem mirror_no2 (s o a s' o' a' : Int) (w : World) (h : Vp s o a) (h' : ¬ Vp s' o' a') :
    Calls Tryd.prog 19 #[.agg #[.int .i64 s, .int .i64 o, .int .i64 a], .agg #[.int .i64 s', .int .i64 o', .int .i64 a']] w fun e w' => e = .returned (.tuple #[.agg #[.int .i64 0, .int .i64 0, .int .i64 0], .int .i64 2]) ∧ Kp w w' := by
  obtain ⟨h1, h2, h3, h4, h5, h6⟩ := h
  have H := Lib.hid h'; clear h'
  go_enter Tryd.func19, Tryd.ntmps19
  go_wp2_with fail
  refine wp_loop_rounds 2 ?_
  rw [rounds_succ]
  go_wp2_with fail
  refine (check_ok _ _ _ _ h1 h2 h3 h4 h5 h6).mono ?_
  rintro e w1 ⟨rfl, hb1⟩
  go_wp2_with fail
  rw [rounds_succ]
  go_wp2_with fail
  refine (check_no _ _ _ _ H.out).mono ?_
  rintro e w2 ⟨rfl, hb2⟩
  have K := (hb1.al _).trans hb2
  obtain ⟨q0, p0⟩ := K.own (b := w.heap.size + 1 + 1) (o := 0) (v := .int .i64 0) (by simp [go_sem]) (by simp [go_sem])
  obtain ⟨q1, p1⟩ := K.own (b := w.heap.size + 1 + 1) (o := 1) (v := .int .i64 0) (by simp [go_sem]) (by simp [go_sem])
  obtain ⟨q2, p2⟩ := K.own (b := w.heap.size + 1 + 1) (o := 2) (v := .int .i64 0) (by simp [go_sem]) (by simp [go_sem])
  go_wp2_with fail
  exact bodyPost_ret (v := .tuple #[.agg #[.int .i64 0, .int .i64 0, .int .i64 0], .int .i64 2]) (by simp [results, Tryd.results19, go_sem, q0, q1, q2]) rfl ⟨rfl, by repeat (first | exact Kp.refl _ | with_reducible assumption | with_reducible refine Kp.set ?_ _ _ ?_ | (dsimp only; omega) | with_reducible refine Kp.drew ?_ | with_reducible refine Kp.drewN ?_ _ | with_reducible refine Kp.al ?_ _ | with_reducible refine Kp.trans ?_ (by with_reducible assumption))⟩

theorem between_no1 (s o a s' o' a' : Int) (w : World) (h : ¬ Vp s o a) :
    Calls Tryd.prog 16 #[.agg #[.int .i64 s, .int .i64 o, .int .i64 a], .agg #[.int .i64 s', .int .i64 o', .int .i64 a']] w fun e w' => e = .returned (.tuple #[.agg #[.int .i64 0, .int .i64 0], .int .i64 2]) ∧ Kp w w' := by
  have H := Lib.hid h; clear h
  go_enter Tryd.func16, Tryd.ntmps16
  go_wp2_with fail
  refine wp_loop_rounds 1 ?_
  rw [rounds_succ]
  go_wp2_with fail
  refine (check_no _ _ _ _ H.out).mono ?_
  rintro e w1 ⟨rfl, hb1⟩
  obtain ⟨hc1, hf1⟩ := hb1.cells
  go_wp2_with fail
  exact bodyPost_ret (v := .tuple #[.agg #[.int .i64 0, .int .i64 0], .int .i64 2]) (by simp [results, Tryd.results16, go_sem, hc1]) rfl ⟨rfl, by repeat (first | exact Kp.refl _ | with_reducible assumption | with_reducible refine Kp.set ?_ _ _ ?_ | (dsimp only; omega) | with_reducible refine Kp.drew ?_ | with_reducible refine Kp.drewN ?_ _ | with_reducible refine Kp.al ?_ _ | with_reducible refine Kp.trans ?_ (by with_reducible assumption))⟩
theorem between_no2 (s o a s' o' a' : Int) (w : World) (h : Vp s o a) (h' : ¬ Vp s' o' a') :
    Calls Tryd.prog 16 #[.agg #[.int .i64 s, .int .i64 o, .int .i64 a], .agg #[.int .i64 s', .int .i64 o', .int .i64 a']] w fun e w' => e = .returned (.tuple #[.agg #[.int .i64 0, .int .i64 0], .int .i64 2]) ∧ Kp w w' := by
  obtain ⟨h1, h2, h3, h4, h5, h6⟩ := h
  have H := Lib.hid h'; clear h'
  go_enter Tryd.func16, Tryd.ntmps16
  go_wp2_with fail
  refine wp_loop_rounds 2 ?_
  rw [rounds_succ]
  go_wp2_with fail
  refine (check_ok _ _ _ _ h1 h2 h3 h4 h5 h6).mono ?_
  rintro e w1 ⟨rfl, hb1⟩
  go_wp2_with fail
  rw [rounds_succ]
  go_wp2_with fail
  refine (check_no _ _ _ _ H.out).mono ?_
  rintro e w2 ⟨rfl, hb2⟩
  have K := (hb1.al _).trans hb2
  obtain ⟨q0, p0⟩ := K.own (b := w.heap.size + 1 + 1) (o := 0) (v := .int .i64 0) (by simp [go_sem]) (by simp [go_sem])
  obtain ⟨q1, p1⟩ := K.own (b := w.heap.size + 1 + 1) (o := 1) (v := .int .i64 0) (by simp [go_sem]) (by simp [go_sem])
  go_wp2_with fail
  exact bodyPost_ret (v := .tuple #[.agg #[.int .i64 0, .int .i64 0], .int .i64 2]) (by simp [results, Tryd.results16, go_sem, q0, q1]) rfl ⟨rfl, by repeat (first | exact Kp.refl _ | with_reducible assumption | with_reducible refine Kp.set ?_ _ _ ?_ | (dsimp only; omega) | with_reducible refine Kp.drew ?_ | with_reducible refine Kp.drewN ?_ _ | with_reducible refine Kp.al ?_ _ | with_reducible refine Kp.trans ?_ (by with_reducible assumption))⟩
end Go.Proofs.YtmmpjajjebljpaaDoor
