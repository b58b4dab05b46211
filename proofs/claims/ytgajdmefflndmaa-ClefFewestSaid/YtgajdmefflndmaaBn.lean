/- The laws' helpers at, on, ledgers, awake. -/
import Derived.Test.YtgajdmefflndmaaBm
namespace Go.Proofs.Ytgajdmefflndmaa
open Go.RowKit

theorem at_ok (st ln key place acc s o a : Int) (w : World) (hc : Vc st ln) (k1 : 0 ≤ key) (k2 : key ≤ 2) (p1 : -4 ≤ place) (p2 : place ≤ 12) (a1 : -1 ≤ acc) (a2 : acc ≤ 2)
    (h : (low st ln + place) % 7 = s ∧ (low st ln + place) / 7 = o ∧ alt key acc ((low st ln + place) % 7) = a) :
    Calls Try.prog 23 #[.int .i64 st, .int .i64 ln, .int .i64 key, .int .i64 place, .int .i64 acc, .agg #[.int .i64 s, .int .i64 o, .int .i64 a]] w fun e w' => e = .returned (.bool true) ∧ Kp w w' := by
  have H := fun w => cpitch_ok st ln key place acc w hc k1 k2 p1 p2 a1 a2
  rw [h.2.2, h.1, h.2.1] at H
  have HH := Lib.hid H
  clear H h hc
  go_enter Try.func23, Try.ntmps23
  go_wp2_with fail
  refine (HH.out _).mono ?_
  rintro e w1 ⟨rfl, hb1⟩
  have Q1 : Kp w w1 := by repeat (first | exact Kp.refl _ | with_reducible assumption | with_reducible refine Kp.set ?_ _ _ ?_ | (dsimp only; omega) | with_reducible refine Kp.drew ?_ | with_reducible refine Kp.drewN ?_ _ | with_reducible refine Kp.al ?_ _ | with_reducible refine Kp.trans ?_ (by with_reducible assumption))
  have c1_0_1 := hb1.get (b := w.heap.size) (o := 0) (v := .int .i64 (s)) (by first | with_reducible assumption | (simp [go_sem]; done) | (simp [go_sem, *]; done))
  have c1_1_1 := hb1.get (b := w.heap.size) (o := 1) (v := .int .i64 (o)) (by first | with_reducible assumption | (simp [go_sem]; done) | (simp [go_sem, *]; done))
  have c1_2_1 := hb1.get (b := w.heap.size) (o := 2) (v := .int .i64 (a)) (by first | with_reducible assumption | (simp [go_sem]; done) | (simp [go_sem, *]; done))
  have l1_1 := cell_lt c1_0_1
  have K1 := Q1
  clear hb1 Q1
  go_wp2_with fail
  go_ret
  exact ⟨rfl, by repeat (first | exact Kp.refl _ | with_reducible assumption | with_reducible refine Kp.set ?_ _ _ ?_ | (dsimp only; omega) | with_reducible refine Kp.drew ?_ | with_reducible refine Kp.drewN ?_ _ | with_reducible refine Kp.al ?_ _ | with_reducible refine Kp.trans ?_ (by with_reducible assumption))⟩
theorem on_ok (st ln key s o a place acc : Int) (w : World) (hc : Vc st ln) (k1 : 0 ≤ key) (k2 : key ≤ 2) (h1 : 0 ≤ s) (h2 : s ≤ 6) (h3 : 0 ≤ o) (h4 : o ≤ 8) (h5 : -1 ≤ a) (h6 : a ≤ 1)
    (p1 : -4 ≤ 7 * o + s - low st ln) (p2 : 7 * o + s - low st ln ≤ 12) (h : 7 * o + s - low st ln = place ∧ accOf key s a = acc) :
    Calls Try.prog 24 #[.int .i64 st, .int .i64 ln, .int .i64 key, .agg #[.int .i64 s, .int .i64 o, .int .i64 a], .int .i64 place, .int .i64 acc] w fun e w' => e = .returned (.bool true) ∧ Kp w w' := by
  have H := fun w => cplace_ok st ln key s o a w hc k1 k2 h1 h2 h3 h4 h5 h6 p1 p2
  rw [h.1, h.2] at H
  have HH := Lib.hid H
  clear H h hc p1 p2
  go_enter Try.func24, Try.ntmps24
  go_wp2_with fail
  refine (HH.out _).mono ?_
  rintro e w1 ⟨rfl, hb1⟩
  have Q1 : Kp w w1 := by repeat (first | exact Kp.refl _ | with_reducible assumption | with_reducible refine Kp.set ?_ _ _ ?_ | (dsimp only; omega) | with_reducible refine Kp.drew ?_ | with_reducible refine Kp.drewN ?_ _ | with_reducible refine Kp.al ?_ _ | with_reducible refine Kp.trans ?_ (by with_reducible assumption))
  have c1_0_1 := hb1.get (b := w.heap.size) (o := 0) (v := .int .i64 (s)) (by first | with_reducible assumption | (simp [go_sem]; done) | (simp [go_sem, *]; done))
  have c1_1_1 := hb1.get (b := w.heap.size) (o := 1) (v := .int .i64 (o)) (by first | with_reducible assumption | (simp [go_sem]; done) | (simp [go_sem, *]; done))
  have c1_2_1 := hb1.get (b := w.heap.size) (o := 2) (v := .int .i64 (a)) (by first | with_reducible assumption | (simp [go_sem]; done) | (simp [go_sem, *]; done))
  have l1_1 := cell_lt c1_0_1
  have K1 := Q1
  clear hb1 Q1
  go_wp2_with fail
  go_ret
  exact ⟨rfl, by repeat (first | exact Kp.refl _ | with_reducible assumption | with_reducible refine Kp.set ?_ _ _ ?_ | (dsimp only; omega) | with_reducible refine Kp.drew ?_ | with_reducible refine Kp.drewN ?_ _ | with_reducible refine Kp.al ?_ _ | with_reducible refine Kp.trans ?_ (by with_reducible assumption))⟩
theorem lled_ok (p n : Int) (w : World) (h1 : -4 ≤ p) (h2 : p ≤ 12) (h : led p = n) :
    Calls Try.prog 25 #[.int .i64 p, .int .i64 n] w fun e w' => e = .returned (.bool true) ∧ w = w' := by
  have H := fun w => ledgers_ok p w h1 h2
  rw [h] at H
  have HH := Lib.hid H
  clear H h
  go_enter Try.func25, Try.ntmps25
  go_wp2_with fail
  refine (HH.out _).mono ?_
  rintro e _ ⟨rfl, rfl⟩
  go_wp2_with fail
  go_ret
  exact ⟨rfl, rfl⟩
theorem pts_one {w : World} {g : Nat} {s o a : Int} (h0 : w.cell? ⟨g, 0, none⟩ = some (.int .i64 s)) (h1 : w.cell? ⟨g, 1, none⟩ = some (.int .i64 o)) (h2 : w.cell? ⟨g, 2, none⟩ = some (.int .i64 a)) : Pts w (some ⟨g, 0, none⟩) 1 [(s, o, a)] :=
  ⟨rfl, fun k hk => by
    obtain rfl : k = 0 := by omega
    exact ⟨g, 0, rfl, h0, h1, h2⟩⟩
/-- Best where the best clef is known. -/
theorem best_is (key : Int) (A : Option Addr) (n c : Nat) (ps : List Pt) (w : World) (k1 : 0 ≤ key) (k2 : key ≤ 2) (hx : Pts w A n ps) (hn : n ≤ 1000) (hval : ∀ k, k < n → Vp (ptAt ps k).1 (ptAt ps k).2.1 (ptAt ps k).2.2) (st ln le : Int) (hb : bestC (nums ps) = ((st, ln), le)) (hle : 0 ≤ le) :
    Calls Try.prog 13 #[.int .i64 key, .slice A n c] w fun e w' => e = .returned (.tuple #[.agg #[.int .i64 st, .int .i64 ln], .int .i64 0]) ∧ Kp w w' := by
  refine (best_ok key A n c ps w k1 k2 hx hn hval).mono ?_
  rintro e w' ⟨⟨h, _⟩ | ⟨_, rfl⟩, hk⟩
  · rw [hb] at h; simp only at h; omega
  · rw [hb]; exact ⟨rfl, hk⟩
theorem best_none (key : Int) (A : Option Addr) (n c : Nat) (ps : List Pt) (w : World) (k1 : 0 ≤ key) (k2 : key ≤ 2) (hx : Pts w A n ps) (hn : n ≤ 1000) (hval : ∀ k, k < n → Vp (ptAt ps k).1 (ptAt ps k).2.1 (ptAt ps k).2.2) (hb : (bestC (nums ps)).2 < 0) :
    Calls Try.prog 13 #[.int .i64 key, .slice A n c] w fun e w' => e = .returned (.tuple #[.agg #[.int .i64 0, .int .i64 0], .int .i64 18]) ∧ Kp w w' := by
  refine (best_ok key A n c ps w k1 k2 hx hn hval).mono ?_
  rintro e w' ⟨⟨_, rfl⟩ | ⟨h, _⟩, hk⟩
  · exact ⟨rfl, hk⟩
  · exact absurd hb h
theorem best28 : bestC (nums [(0, 4, 0)]) = ((0, 1), 0) := by decide +kernel
instance (s o a : Int) : Decidable (Vp s o a) := by unfold Vp; infer_instance
instance (st ln : Int) : Decidable (Vc st ln) := by unfold Vc; infer_instance

theorem awake_ok (w : World) :
    Calls Try.prog 12 #[] w fun e w' => e = .returned (.bool true) ∧ Kp w w' := by
  go_enter Try.func12, Try.ntmps12
  go_wp2_with fail
  refine (best_is 0 _ 1 _ [(0, 4, 0)] _ (by omega) (by omega) (pts_one (by simp [go_sem]) (by simp [go_sem]) (by simp [go_sem])) (by omega) (by decide) 0 1 0 best28 (by omega)).mono ?_
  rintro e w1 ⟨rfl, hb1⟩
  have Q1 : Kp w w1 := by repeat (first | exact Kp.refl _ | with_reducible assumption | with_reducible refine Kp.set ?_ _ _ ?_ | (dsimp only; omega) | with_reducible refine Kp.drew ?_ | with_reducible refine Kp.drewN ?_ _ | with_reducible refine Kp.al ?_ _ | with_reducible refine Kp.trans ?_ (by with_reducible assumption))
  have c1_0_1 := hb1.get (b := w.heap.size) (o := 0) (v := .int .i64 (6)) (by first | with_reducible assumption | (simp [go_sem]; done) | (simp [go_sem, *]; done))
  have c1_1_1 := hb1.get (b := w.heap.size) (o := 1) (v := .int .i64 (3)) (by first | with_reducible assumption | (simp [go_sem]; done) | (simp [go_sem, *]; done))
  have c1_2_1 := hb1.get (b := w.heap.size) (o := 2) (v := .int .i64 (0)) (by first | with_reducible assumption | (simp [go_sem]; done) | (simp [go_sem, *]; done))
  have l1_1 := cell_lt c1_0_1
  have c2_0_1 := hb1.get (b := w.heap.size + 1) (o := 0) (v := .int .i64 (0)) (by first | with_reducible assumption | (simp [go_sem]; done) | (simp [go_sem, *]; done))
  have c2_1_1 := hb1.get (b := w.heap.size + 1) (o := 1) (v := .int .i64 (4)) (by first | with_reducible assumption | (simp [go_sem]; done) | (simp [go_sem, *]; done))
  have c2_2_1 := hb1.get (b := w.heap.size + 1) (o := 2) (v := .int .i64 (0)) (by first | with_reducible assumption | (simp [go_sem]; done) | (simp [go_sem, *]; done))
  have l2_1 := cell_lt c2_0_1
  have K1 := Q1
  clear hb1 Q1
  go_wp2_with fail
  refine (ledgers_ok _ _ (by omega) (by omega)).mono ?_
  rintro e _ ⟨rfl, rfl⟩
  go_wp2_with fail
  refine (at_ok _ _ _ _ _ _ _ _ _ (by decide) (by omega) (by omega) (by omega) (by omega) (by omega) (by omega) (by decide)).mono ?_
  rintro e w2 ⟨rfl, hb2⟩
  have Q2 : Kp w1 w2 := by repeat (first | exact Kp.refl _ | with_reducible assumption | with_reducible refine Kp.set ?_ _ _ ?_ | (dsimp only; omega) | with_reducible refine Kp.drew ?_ | with_reducible refine Kp.drewN ?_ _ | with_reducible refine Kp.al ?_ _ | with_reducible refine Kp.trans ?_ (by with_reducible assumption))
  have c3_0_2 := hb2.get (b := w1.heap.size) (o := 0) (v := .int .i64 (0)) (by first | with_reducible assumption | (simp [go_sem]; done) | (simp [go_sem, *]; done))
  have c3_1_2 := hb2.get (b := w1.heap.size) (o := 1) (v := .int .i64 (1)) (by first | with_reducible assumption | (simp [go_sem]; done) | (simp [go_sem, *]; done))
  have l3_2 := cell_lt c3_0_2
  have c1_0_2 := Q2.get c1_0_1
  have c1_1_2 := Q2.get c1_1_1
  have c1_2_2 := Q2.get c1_2_1
  have l1_2 := cell_lt c1_0_2
  have K2 := K1.trans Q2
  clear hb2 c1_0_1 c1_1_1 c1_2_1 l1_1 K1 Q2
  go_wp2_with fail
  refine (at_ok _ _ _ _ _ _ _ _ _ (by decide) (by omega) (by omega) (by omega) (by omega) (by omega) (by omega) (by decide)).mono ?_
  rintro e w3 ⟨rfl, hb3⟩
  have Q3 : Kp w2 w3 := by repeat (first | exact Kp.refl _ | with_reducible assumption | with_reducible refine Kp.set ?_ _ _ ?_ | (dsimp only; omega) | with_reducible refine Kp.drew ?_ | with_reducible refine Kp.drewN ?_ _ | with_reducible refine Kp.al ?_ _ | with_reducible refine Kp.trans ?_ (by with_reducible assumption))
  have c1_0_3 := Q3.get c1_0_2
  have c1_1_3 := Q3.get c1_1_2
  have c1_2_3 := Q3.get c1_2_2
  have l1_3 := cell_lt c1_0_3
  have c3_0_3 := Q3.get c3_0_2
  have c3_1_3 := Q3.get c3_1_2
  have l3_3 := cell_lt c3_0_3
  have K3 := K2.trans Q3
  clear hb3 c1_0_2 c1_1_2 c1_2_2 l1_2 c3_0_2 c3_1_2 l3_2 K2 Q3
  go_wp2_with fail
  refine (on_ok _ _ _ _ _ _ _ _ _ (by decide) (by omega) (by omega) (by omega) (by omega) (by omega) (by omega) (by omega) (by omega) (by decide) (by decide) (by decide)).mono ?_
  rintro e w4 ⟨rfl, hb4⟩
  have Q4 : Kp w3 w4 := by repeat (first | exact Kp.refl _ | with_reducible assumption | with_reducible refine Kp.set ?_ _ _ ?_ | (dsimp only; omega) | with_reducible refine Kp.drew ?_ | with_reducible refine Kp.drewN ?_ _ | with_reducible refine Kp.al ?_ _ | with_reducible refine Kp.trans ?_ (by with_reducible assumption))
  have c1_0_4 := Q4.get c1_0_3
  have c1_1_4 := Q4.get c1_1_3
  have c1_2_4 := Q4.get c1_2_3
  have l1_4 := cell_lt c1_0_4
  have c3_0_4 := Q4.get c3_0_3
  have c3_1_4 := Q4.get c3_1_3
  have l3_4 := cell_lt c3_0_4
  have K4 := K3.trans Q4
  clear hb4 c1_0_3 c1_1_3 c1_2_3 l1_3 c3_0_3 c3_1_3 l3_3 K3 Q4
  go_wp2_with fail
  refine (on_ok _ _ _ _ _ _ _ _ _ (by decide) (by omega) (by omega) (by omega) (by omega) (by omega) (by omega) (by omega) (by omega) (by decide) (by decide) (by decide)).mono ?_
  rintro e w5 ⟨rfl, hb5⟩
  have Q5 : Kp w4 w5 := by repeat (first | exact Kp.refl _ | with_reducible assumption | with_reducible refine Kp.set ?_ _ _ ?_ | (dsimp only; omega) | with_reducible refine Kp.drew ?_ | with_reducible refine Kp.drewN ?_ _ | with_reducible refine Kp.al ?_ _ | with_reducible refine Kp.trans ?_ (by with_reducible assumption))
  have c1_0_5 := Q5.get c1_0_4
  have c1_1_5 := Q5.get c1_1_4
  have c1_2_5 := Q5.get c1_2_4
  have l1_5 := cell_lt c1_0_5
  have c3_0_5 := Q5.get c3_0_4
  have c3_1_5 := Q5.get c3_1_4
  have l3_5 := cell_lt c3_0_5
  have K5 := K4.trans Q5
  clear hb5 c1_0_4 c1_1_4 c1_2_4 l1_4 c3_0_4 c3_1_4 l3_4 K4 Q5
  go_wp2_with fail
  go_ret
  exact ⟨rfl, by repeat (first | exact Kp.refl _ | with_reducible assumption | with_reducible refine Kp.set ?_ _ _ ?_ | (dsimp only; omega) | with_reducible refine Kp.drew ?_ | with_reducible refine Kp.drewN ?_ _ | with_reducible refine Kp.al ?_ _ | with_reducible refine Kp.trans ?_ (by with_reducible assumption))⟩
end Go.Proofs.Ytgajdmefflndmaa
