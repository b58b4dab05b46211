/- The cost of a solmization: less, then. -/
import Derived.Test.YtaobndijldidfaaDoorGe
namespace Go.Proofs.YtaobndijldidfaaDoor
open Go.RowKit

/-- A cost: mutations, rough ones, whether it is one. -/
abbrev Co := Int × Int × Bool
def costV (c : Co) : Value := .agg #[.int .i64 c.1, .int .i64 c.2.1, .bool c.2.2]
def lessC (c d : Co) : Bool := if c.2.2 ≠ d.2.2 then c.2.2 else if c.1 ≠ d.1 then decide (c.1 < d.1) else decide (c.2.1 < d.2.1)
/-- What a step costs. -/
def stp (x y : Sy) : Int × Int := if x.1 = y.1 then (0, 0) else if smB x y then (1, 0) else (1, 1)
theorem stp_bd (x y : Sy) : 0 ≤ (stp x y).1 ∧ (stp x y).1 ≤ 1 ∧ 0 ≤ (stp x y).2 ∧ (stp x y).2 ≤ 1 := by
  unfold stp; split <;> (try split) <;> simp

theorem less_any (m r : Int) (b : Bool) (m' r' : Int) (b' : Bool) (w : World) :
    Calls Tryd.prog 39 #[.agg #[.int .i64 m, .int .i64 r, .bool b], .agg #[.int .i64 m', .int .i64 r', .bool b']] w fun e w' => e = .returned (.bool (lessC (m, r, b) (m', r', b'))) ∧ Kp w w' := by
  have hcase : (b = true ∧ b' = false ∧ lessC (m, r, b) (m', r', b') = true) ∨ (b = false ∧ b' = true ∧ lessC (m, r, b) (m', r', b') = false) ∨ (b = b' ∧ ¬ m = m' ∧ lessC (m, r, b) (m', r', b') = decide (m < m')) ∨ (b = b' ∧ m = m' ∧ lessC (m, r, b) (m', r', b') = decide (r < r')) := by
    unfold lessC
    dsimp only
    by_cases hm : m = m' <;> cases b <;> cases b' <;> simp [hm]
  rcases hcase with ⟨rfl, rfl, h⟩ | ⟨rfl, rfl, h⟩ | ⟨rfl, hm, h⟩ | ⟨rfl, rfl, h⟩
  · rw [h]
    clear h
    go_enter Tryd.func39, Tryd.ntmps39
    go_wp2_with fail
    go_ret
    exact ⟨rfl, by repeat (first | exact Kp.refl _ | with_reducible assumption | with_reducible refine Kp.set ?_ _ _ ?_ | (dsimp only; omega) | with_reducible refine Kp.drew ?_ | with_reducible refine Kp.drewN ?_ _ | with_reducible refine Kp.al ?_ _ | with_reducible refine Kp.trans ?_ (by with_reducible assumption))⟩
  · rw [h]
    clear h
    go_enter Tryd.func39, Tryd.ntmps39
    go_wp2_with fail
    go_ret
    exact ⟨rfl, by repeat (first | exact Kp.refl _ | with_reducible assumption | with_reducible refine Kp.set ?_ _ _ ?_ | (dsimp only; omega) | with_reducible refine Kp.drew ?_ | with_reducible refine Kp.drewN ?_ _ | with_reducible refine Kp.al ?_ _ | with_reducible refine Kp.trans ?_ (by with_reducible assumption))⟩
  · rw [h]
    clear h
    have hm2 : (m == m') = false := by simpa using hm
    go_enter Tryd.func39, Tryd.ntmps39
    cases b
    all_goals
      go_wp2_with fail
      go_ret
      exact ⟨rfl, by repeat (first | exact Kp.refl _ | with_reducible assumption | with_reducible refine Kp.set ?_ _ _ ?_ | (dsimp only; omega) | with_reducible refine Kp.drew ?_ | with_reducible refine Kp.drewN ?_ _ | with_reducible refine Kp.al ?_ _ | with_reducible refine Kp.trans ?_ (by with_reducible assumption))⟩
  · rw [h]
    clear h
    go_enter Tryd.func39, Tryd.ntmps39
    cases b
    all_goals
      go_wp2_with fail
      go_ret
      exact ⟨rfl, by repeat (first | exact Kp.refl _ | with_reducible assumption | with_reducible refine Kp.set ?_ _ _ ?_ | (dsimp only; omega) | with_reducible refine Kp.drew ?_ | with_reducible refine Kp.drewN ?_ _ | with_reducible refine Kp.al ?_ _ | with_reducible refine Kp.trans ?_ (by with_reducible assumption))⟩

set_option maxHeartbeats 1000000 in
theorem then_ok (m r : Int) (b : Bool) (x1 x2 y1 y2 : Int) (w : World) (ht0 : Tab w) (hx : Vs x1 x2) (hy : Vs y1 y2) (m1 : 0 ≤ m) (m2 : m ≤ 1000) (r1 : 0 ≤ r) (r2 : r ≤ 1000) :
    Calls Tryd.prog 38 #[.agg #[.int .i64 m, .int .i64 r, .bool b], .agg #[.int .i64 x1, .int .i64 x2], .agg #[.int .i64 y1, .int .i64 y2]] w fun e w' => e = .returned (.agg #[.int .i64 (m + (stp (x1, x2) (y1, y2)).1), .int .i64 (r + (stp (x1, x2) (y1, y2)).2), .bool b]) ∧ Kp w w' := by
  have HT := Lib.hid ht0
  clear ht0
  by_cases he : x1 = y1
  · have hs : stp (x1, x2) (y1, y2) = (0, 0) := if_pos he
    rw [hs]
    dsimp only
    rw [Int.add_zero, Int.add_zero]
    have d1 : (x1 == y1) = true := by simpa using he
    clear he hs hx hy
    go_enter Tryd.func38, Tryd.ntmps38
    go_wp2_with fail
    exact bodyPost_ret (v := .agg #[.int .i64 m, .int .i64 r, .bool b]) (by simp [results, Tryd.results38, go_sem]) rfl ⟨rfl, by repeat (first | exact Kp.refl _ | with_reducible assumption | with_reducible refine Kp.set ?_ _ _ ?_ | (dsimp only; omega) | with_reducible refine Kp.drew ?_ | with_reducible refine Kp.drewN ?_ _ | with_reducible refine Kp.al ?_ _ | with_reducible refine Kp.trans ?_ (by with_reducible assumption))⟩
  · have cs := fun w t => smooth_ok x1 x2 y1 y2 w t hx hy
    have hs : stp (x1, x2) (y1, y2) = if smB (x1, x2) (y1, y2) then (1, 0) else (1, 1) := if_neg he
    rw [hs]
    obtain ⟨q, eq⟩ : ∃ q, q = smB (x1, x2) (y1, y2) := ⟨_, rfl⟩
    rw [← eq] at cs ⊢
    have d1 : (x1 == y1) = false := by simpa using he
    have d2 : (x1 != y1) = true := by simpa using he
    have CS := Lib.hid cs
    clear he hs hx hy cs eq
    go_enter Tryd.func38, Tryd.ntmps38
    have s1 : w.heap.size ≤ w.heap.size := by omega
    have n2_1 : ¬ w.heap.size + 1 = w.heap.size := by omega
    have n1_2 : ¬ w.heap.size = w.heap.size + 1 := by omega
    have n3_1 : ¬ w.heap.size + 1 + 1 = w.heap.size := by omega
    have n1_3 : ¬ w.heap.size = w.heap.size + 1 + 1 := by omega
    have s4 : w.heap.size ≤ w.heap.size + 1 + 1 + 1 := by omega
    have n4_1 : ¬ w.heap.size + 1 + 1 + 1 = w.heap.size := by omega
    have n1_4 : ¬ w.heap.size = w.heap.size + 1 + 1 + 1 := by omega
    have n4_2 : ¬ w.heap.size + 1 + 1 + 1 = w.heap.size + 1 := by omega
    have n2_4 : ¬ w.heap.size + 1 = w.heap.size + 1 + 1 + 1 := by omega
    have n4_3 : ¬ w.heap.size + 1 + 1 + 1 = w.heap.size + 1 + 1 := by omega
    have n3_4 : ¬ w.heap.size + 1 + 1 = w.heap.size + 1 + 1 + 1 := by omega
    go_wp2_with fail
    refine (CS.out _ (HT.out.below (by repeat (first | exact Kp.refl _ | with_reducible assumption | with_reducible refine Kp.set ?_ _ _ ?_ | (dsimp only; omega) | with_reducible refine Kp.drew ?_ | with_reducible refine Kp.drewN ?_ _ | with_reducible refine Kp.al ?_ _ | with_reducible refine Kp.trans ?_ (by with_reducible assumption))))).mono ?_
    rintro e w1 ⟨rfl, hb1⟩
    have Q1 : Kp w w1 := by repeat (first | exact Kp.refl _ | with_reducible assumption | with_reducible refine Kp.set ?_ _ _ ?_ | (dsimp only; omega) | with_reducible refine Kp.drew ?_ | with_reducible refine Kp.drewN ?_ _ | with_reducible refine Kp.al ?_ _ | with_reducible refine Kp.trans ?_ (by with_reducible assumption))
    have c1_0_1 := hb1.get (b := w.heap.size) (o := 0) (v := .int .i64 (m + 1)) (by first | with_reducible assumption | (simp [go_sem]; done) | (simp [go_sem, *]; done))
    have f1_0_1 := hb1.free (b := w.heap.size) (o := 0) (v := .int .i64 (m + 1)) (by first | with_reducible assumption | (simp [go_sem]; done) | (simp [go_sem, *]; done)) (by first | with_reducible assumption | (simp [go_sem]; done) | (simp [go_sem, *]; done))
    have c1_1_1 := hb1.get (b := w.heap.size) (o := 1) (v := .int .i64 (r)) (by first | with_reducible assumption | (simp [go_sem]; done) | (simp [go_sem, *]; done))
    have f1_1_1 := hb1.free (b := w.heap.size) (o := 1) (v := .int .i64 (r)) (by first | with_reducible assumption | (simp [go_sem]; done) | (simp [go_sem, *]; done)) (by first | with_reducible assumption | (simp [go_sem]; done) | (simp [go_sem, *]; done))
    have c1_2_1 := hb1.get (b := w.heap.size) (o := 2) (v := .bool b) (by first | with_reducible assumption | (simp [go_sem]; done) | (simp [go_sem, *]; done))
    have f1_2_1 := hb1.free (b := w.heap.size) (o := 2) (v := .bool b) (by first | with_reducible assumption | (simp [go_sem]; done) | (simp [go_sem, *]; done)) (by first | with_reducible assumption | (simp [go_sem]; done) | (simp [go_sem, *]; done))
    have l1_1 := cell_lt c1_0_1
    have c2_0_1 := hb1.get (b := w.heap.size + 1) (o := 0) (v := .int .i64 (x1)) (by first | with_reducible assumption | (simp [go_sem]; done) | (simp [go_sem, *]; done))
    have c2_1_1 := hb1.get (b := w.heap.size + 1) (o := 1) (v := .int .i64 (x2)) (by first | with_reducible assumption | (simp [go_sem]; done) | (simp [go_sem, *]; done))
    have l2_1 := cell_lt c2_0_1
    have c3_0_1 := hb1.get (b := w.heap.size + 1 + 1) (o := 0) (v := .int .i64 (y1)) (by first | with_reducible assumption | (simp [go_sem]; done) | (simp [go_sem, *]; done))
    have c3_1_1 := hb1.get (b := w.heap.size + 1 + 1) (o := 1) (v := .int .i64 (y2)) (by first | with_reducible assumption | (simp [go_sem]; done) | (simp [go_sem, *]; done))
    have l3_1 := cell_lt c3_0_1
    have c4_0_1 := hb1.get (b := w.heap.size + 1 + 1 + 1) (o := 0) (v := .int .i64 (0)) (by first | with_reducible assumption | (simp [go_sem]; done) | (simp [go_sem, *]; done))
    have f4_0_1 := hb1.free (b := w.heap.size + 1 + 1 + 1) (o := 0) (v := .int .i64 (0)) (by first | with_reducible assumption | (simp [go_sem]; done) | (simp [go_sem, *]; done)) (by first | with_reducible assumption | (simp [go_sem]; done) | (simp [go_sem, *]; done))
    have c4_1_1 := hb1.get (b := w.heap.size + 1 + 1 + 1) (o := 1) (v := .int .i64 (0)) (by first | with_reducible assumption | (simp [go_sem]; done) | (simp [go_sem, *]; done))
    have f4_1_1 := hb1.free (b := w.heap.size + 1 + 1 + 1) (o := 1) (v := .int .i64 (0)) (by first | with_reducible assumption | (simp [go_sem]; done) | (simp [go_sem, *]; done)) (by first | with_reducible assumption | (simp [go_sem]; done) | (simp [go_sem, *]; done))
    have c4_2_1 := hb1.get (b := w.heap.size + 1 + 1 + 1) (o := 2) (v := .bool false) (by first | with_reducible assumption | (simp [go_sem]; done) | (simp [go_sem, *]; done))
    have f4_2_1 := hb1.free (b := w.heap.size + 1 + 1 + 1) (o := 2) (v := .bool false) (by first | with_reducible assumption | (simp [go_sem]; done) | (simp [go_sem, *]; done)) (by first | with_reducible assumption | (simp [go_sem]; done) | (simp [go_sem, *]; done))
    have l4_1 := cell_lt c4_0_1
    have K1 := Q1
    clear hb1 Q1
    cases q with
    | true =>
      go_wp2_with fail
      exact bodyPost_ret (v := .agg #[.int .i64 (m + 1), .int .i64 r, .bool b]) (by simp [results, Tryd.results38, go_sem, *]) rfl ⟨by simp, by repeat (first | exact Kp.refl _ | with_reducible assumption | with_reducible refine Kp.set ?_ _ _ ?_ | (dsimp only; omega) | with_reducible refine Kp.drew ?_ | with_reducible refine Kp.drewN ?_ _ | with_reducible refine Kp.al ?_ _ | with_reducible refine Kp.trans ?_ (by with_reducible assumption))⟩
    | false =>
      go_wp2_with fail
      exact bodyPost_ret (v := .agg #[.int .i64 (m + 1), .int .i64 (r + 1), .bool b]) (by simp [results, Tryd.results38, go_sem, *]) rfl ⟨by simp, by repeat (first | exact Kp.refl _ | with_reducible assumption | with_reducible refine Kp.set ?_ _ _ ?_ | (dsimp only; omega) | with_reducible refine Kp.drew ?_ | with_reducible refine Kp.drewN ?_ _ | with_reducible refine Kp.al ?_ _ | with_reducible refine Kp.trans ?_ (by with_reducible assumption))⟩
end Go.Proofs.YtaobndijldidfaaDoor
