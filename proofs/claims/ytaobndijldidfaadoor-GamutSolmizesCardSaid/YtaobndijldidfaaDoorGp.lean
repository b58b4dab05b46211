/- named, awake: the chapter's examples. -/
import Derived.Test.YtaobndijldidfaaDoorGo
import Derived.Test.YtaobndijldidfaaDoorGj
set_option linter.unusedSimpArgs false
set_option linter.unusedVariables false
namespace Go.Proofs.YtaobndijldidfaaDoor
open Go.RowKit

theorem sys_blk {w : World} {g : Nat} {t : TypeId} {cs : Array Value} (ss : List Sy) (n : Nat) (h : Blk w g t cs) (hc : cs = (flatS ss).toArray) (hn : ss.length = n) : Sys w (some ⟨g, 0, none⟩) n ss := by
  refine ⟨hn, fun k hk => ⟨g, 0, rfl, ?_, ?_⟩⟩
  · rw [h.cell, hc, Nat.zero_add]
    simpa using (flatS_at ss k (by omega)).1
  · rw [h.cell, hc, Nat.zero_add]
    simpa using (flatS_at ss k (by omega)).2
theorem sys_new (w : World) (t : TypeId) (ss : List Sy) (n : Nat) (cs : Array Value) (hc : cs = (flatS ss).toArray) (hn : ss.length = n) : Sys (w.alloc (.cells cs t)) (some ⟨w.heap.size, 0, none⟩) n ss := sys_blk ss n (Blk.new w t cs) hc hn
theorem sys_one (w : World) (t : TypeId) (a b : Int) : Sys (w.alloc (.cells #[.int .i64 a, .int .i64 b] t)) (some ⟨w.heap.size, 0, none⟩) 1 [(a, b)] := sys_new w t _ _ _ rfl rfl
theorem sys_nil (w : World) (A : Option Addr) : Sys w A 0 [] := ⟨rfl, fun k hk => absurd hk (by omega)⟩
theorem pts_blk {w : World} {g : Nat} {t : TypeId} {cs : Array Value} (ps : List Pt) (n : Nat) (h : Blk w g t cs) (hc : cs = (flat ps).toArray) (hn : ps.length = n) : Pts w (some ⟨g, 0, none⟩) n ps := by
  refine ⟨hn, fun k hk => ⟨g, 0, rfl, ?_, ?_, ?_⟩⟩
  · rw [h.cell, hc, Nat.zero_add]
    simpa using (flat_at ps k (by omega)).1
  · rw [h.cell, hc, Nat.zero_add]
    simpa using (flat_at ps k (by omega)).2.1
  · rw [h.cell, hc, Nat.zero_add]
    simpa using (flat_at ps k (by omega)).2.2
theorem pts_new (w : World) (t : TypeId) (ps : List Pt) (n : Nat) (cs : Array Value) (hc : cs = (flat ps).toArray) (hn : ps.length = n) : Pts (w.alloc (.cells cs t)) (some ⟨w.heap.size, 0, none⟩) n ps := pts_blk ps n (Blk.new w t cs) hc hn
theorem nat0 (w : World) : Calls Tryd.prog 33 #[.int .i64 0] w fun e w' => e = .returned (.agg #[.int .i64 4, .int .i64 2, .int .i64 0]) ∧ Kp w w' := natural_ok 0 w (by omega)
theorem nat9 (w : World) : Calls Tryd.prog 33 #[.int .i64 9] w fun e w' => e = .returned (.agg #[.int .i64 6, .int .i64 3, .int .i64 0]) ∧ Kp w w' := natural_ok 9 w (by omega)
theorem nat13 (w : World) : Calls Tryd.prog 33 #[.int .i64 13] w fun e w' => e = .returned (.agg #[.int .i64 3, .int .i64 4, .int .i64 0]) ∧ Kp w w' := natural_ok 13 w (by omega)
theorem nat14 (w : World) : Calls Tryd.prog 33 #[.int .i64 14] w fun e w' => e = .returned (.agg #[.int .i64 4, .int .i64 4, .int .i64 0]) ∧ Kp w w' := natural_ok 14 w (by omega)
theorem nat19 (w : World) : Calls Tryd.prog 33 #[.int .i64 19] w fun e w' => e = .returned (.agg #[.int .i64 2, .int .i64 5, .int .i64 0]) ∧ Kp w w' := natural_ok 19 w (by omega)
theorem sung_t (s o a : Int) (B : Option Addr) (m d : Nat) (ys : List Sy) (w : World) (ht0 : Tab w) (hy : Sys w B m ys) (hm : m ≤ 100) (hv : Vp s o a) (h : wys (s, o, a) = ys) :
    Calls Tryd.prog 32 #[.agg #[.int .i64 s, .int .i64 o, .int .i64 a], .slice B m d] w fun e w' => e = .returned (.bool true) ∧ Kp w w' := by
  have := sung_ok s o a B m d ys w ht0 hv hy hm
  rw [decide_eq_true h] at this
  exact this
theorem same_t (A B : Option Addr) (n c m d : Nat) (xs ys : List Sy) (w : World) (hx : Sys w A n xs) (hy : Sys w B m ys) (hn : n ≤ 1000) (hm : m ≤ 1000) (h : xs = ys) :
    Calls Tryd.prog 16 #[.slice A n c, .slice B m d] w fun e w' => e = .returned (.bool true) ∧ Kp w w' := by
  have := same_ok A B n c m d xs ys w hx hy hn hm
  rw [decide_eq_true h] at this
  exact this

instance vpDec (s o a : Int) : Decidable (Vp s o a) := by unfold Vp; infer_instance
theorem name9 (w : World) (ht : Tab w) : Calls Tryd.prog 23 #[.int .i64 9] w fun e w' => e = .returned (.tuple #[.string ⟨#[98, 32, 102, 97, 32, 98, 32, 109, 105]⟩, .int .i64 0]) ∧ Kp w w' := by
  have h : nameS 9 = ⟨#[98, 32, 102, 97, 32, 98, 32, 109, 105]⟩ := by kernel_rfl
  have := name_ok 9 (by omega) w ht
  rw [h] at this
  exact this
theorem sol_a : sol none ((fromP 7 7).map wys) = [(4, 1), (4, 2), (4, 3), (4, 4), (4, 5), (4, 6), (5, 4)] := by decide +kernel
theorem mut_a : muts ((fromP 7 7).map wys) = 1 := by decide +kernel
theorem good_a : ∀ p ∈ fromP 7 7, Vp p.1 p.2.1 p.2.2 ∧ wys p ≠ [] := by decide +kernel
theorem solm_a (A : Option Addr) (c : Nat) (w : World) (ht : Tab w) (hp : Pts w A 7 (fromP 7 7)) :
    Calls Tryd.prog 13 #[.slice A 7 c] w fun e w' => (∃ A' c', e = .returned (.tuple #[.slice A' 7 c', .int .i64 1, .int .i64 0]) ∧ Sys w' A' 7 [(4, 1), (4, 2), (4, 3), (4, 4), (4, 5), (4, 6), (5, 4)]) ∧ Kp w w' := by
  have := solmize_ok A 7 c (fromP 7 7) w ht hp (by omega) good_a
  rw [sol_a, mut_a] at this
  exact this
theorem from_a (w : World) : Calls Tryd.prog 35 #[.int .i64 7, .int .i64 7] w fun e w' => (∃ A c, e = .returned (.slice A 7 c) ∧ Pts w' A 7 (fromP 7 7)) ∧ Kp w w' := from_ok 7 7 w (by omega)

set_option maxRecDepth 100000 in
set_option maxHeartbeats 4000000 in
theorem awake_ok (w : World) (ht0 : Tab w) :
    Calls Tryd.prog 14 #[] w fun e w' => e = .returned (.bool true) ∧ Kp w w' := by
  have HT := Lib.hid ht0
  clear ht0
  go_enter Tryd.func14, Tryd.ntmps14
  go_wp2_with fail
  refine (from_a _).mono ?_
  rintro e w1 ⟨⟨A1, c1, rfl, hp1⟩, hb1⟩
  have Q1 : Kp w w1 := by repeat (first | exact Kp.refl _ | with_reducible assumption | with_reducible refine Kp.set ?_ _ _ ?_ | (dsimp only; omega) | with_reducible refine Kp.drew ?_ | with_reducible refine Kp.drewN ?_ _ | with_reducible refine Kp.al ?_ _ | with_reducible refine Kp.trans ?_ (by with_reducible assumption))
  have K1 := Q1
  clear hb1 Q1
  have HP := Lib.hid hp1
  clear hp1
  go_wp2_with fail
  refine (solm_a _ _ _ (HT.out.below (by repeat (first | exact Kp.refl _ | with_reducible assumption | with_reducible refine Kp.set ?_ _ _ ?_ | (dsimp only; omega) | with_reducible refine Kp.drew ?_ | with_reducible refine Kp.drewN ?_ _ | with_reducible refine Kp.al ?_ _ | with_reducible refine Kp.trans ?_ (by with_reducible assumption)))) HP.out).mono ?_
  rintro e w2 ⟨⟨A2, c2, rfl, hs2⟩, hb2⟩
  have Q2 : Kp w1 w2 := by repeat (first | exact Kp.refl _ | with_reducible assumption | with_reducible refine Kp.set ?_ _ _ ?_ | (dsimp only; omega) | with_reducible refine Kp.drew ?_ | with_reducible refine Kp.drewN ?_ _ | with_reducible refine Kp.al ?_ _ | with_reducible refine Kp.trans ?_ (by with_reducible assumption))
  have K2 := K1.trans Q2
  clear hb2 K1 Q2
  have HS := Lib.hid hs2; have KB := Lib.hid K2
  clear hs2 K2
  go_wp2_with fail
  refine (name9 _ (HT.out.below (KB.out.trans (by repeat (first | exact Kp.refl _ | with_reducible assumption | with_reducible refine Kp.set ?_ _ _ ?_ | (dsimp only; omega) | with_reducible refine Kp.drew ?_ | with_reducible refine Kp.drewN ?_ _ | with_reducible refine Kp.al ?_ _ | with_reducible refine Kp.trans ?_ (by with_reducible assumption)))))).mono ?_
  rintro e w21 ⟨rfl, hb1⟩
  have Q1 : Kp w2 w21 := by repeat (first | exact Kp.refl _ | with_reducible assumption | with_reducible refine Kp.set ?_ _ _ ?_ | (dsimp only; omega) | with_reducible refine Kp.drew ?_ | with_reducible refine Kp.drewN ?_ _ | with_reducible refine Kp.al ?_ _ | with_reducible refine Kp.trans ?_ (by with_reducible assumption))
  have K1 := Q1
  clear hb1 Q1
  go_wp2_with fail
  refine (syl_ok _ _ _).mono ?_
  rintro e w22 ⟨rfl, hb2⟩
  have Q2 : Kp w21 w22 := by repeat (first | exact Kp.refl _ | with_reducible assumption | with_reducible refine Kp.set ?_ _ _ ?_ | (dsimp only; omega) | with_reducible refine Kp.drew ?_ | with_reducible refine Kp.drewN ?_ _ | with_reducible refine Kp.al ?_ _ | with_reducible refine Kp.trans ?_ (by with_reducible assumption))
  have K2 := K1.trans Q2
  clear hb2 K1 Q2
  go_wp2_with fail
  refine (syl_ok _ _ _).mono ?_
  rintro e w23 ⟨rfl, hb3⟩
  have Q3 : Kp w22 w23 := by repeat (first | exact Kp.refl _ | with_reducible assumption | with_reducible refine Kp.set ?_ _ _ ?_ | (dsimp only; omega) | with_reducible refine Kp.drew ?_ | with_reducible refine Kp.drewN ?_ _ | with_reducible refine Kp.al ?_ _ | with_reducible refine Kp.trans ?_ (by with_reducible assumption))
  have K3 := K2.trans Q3
  clear hb3 K2 Q3
  go_wp2_with fail
  refine (syl_ok _ _ _).mono ?_
  rintro e w24 ⟨rfl, hb4⟩
  have Q4 : Kp w23 w24 := by repeat (first | exact Kp.refl _ | with_reducible assumption | with_reducible refine Kp.set ?_ _ _ ?_ | (dsimp only; omega) | with_reducible refine Kp.drew ?_ | with_reducible refine Kp.drewN ?_ _ | with_reducible refine Kp.al ?_ _ | with_reducible refine Kp.trans ?_ (by with_reducible assumption))
  have K4 := K3.trans Q4
  clear hb4 K3 Q4
  go_wp2_with fail
  refine (syl_ok _ _ _).mono ?_
  rintro e w25 ⟨rfl, hb5⟩
  have Q5 : Kp w24 w25 := by repeat (first | exact Kp.refl _ | with_reducible assumption | with_reducible refine Kp.set ?_ _ _ ?_ | (dsimp only; omega) | with_reducible refine Kp.drew ?_ | with_reducible refine Kp.drewN ?_ _ | with_reducible refine Kp.al ?_ _ | with_reducible refine Kp.trans ?_ (by with_reducible assumption))
  have K5 := K4.trans Q5
  clear hb5 K4 Q5
  go_wp2_with fail
  refine (syl_ok _ _ _).mono ?_
  rintro e w26 ⟨rfl, hb6⟩
  have Q6 : Kp w25 w26 := by repeat (first | exact Kp.refl _ | with_reducible assumption | with_reducible refine Kp.set ?_ _ _ ?_ | (dsimp only; omega) | with_reducible refine Kp.drew ?_ | with_reducible refine Kp.drewN ?_ _ | with_reducible refine Kp.al ?_ _ | with_reducible refine Kp.trans ?_ (by with_reducible assumption))
  have K6 := K5.trans Q6
  clear hb6 K5 Q6
  go_wp2_with fail
  refine (syl_ok _ _ _).mono ?_
  rintro e w27 ⟨rfl, hb7⟩
  have Q7 : Kp w26 w27 := by repeat (first | exact Kp.refl _ | with_reducible assumption | with_reducible refine Kp.set ?_ _ _ ?_ | (dsimp only; omega) | with_reducible refine Kp.drew ?_ | with_reducible refine Kp.drewN ?_ _ | with_reducible refine Kp.al ?_ _ | with_reducible refine Kp.trans ?_ (by with_reducible assumption))
  have K7 := K6.trans Q7
  clear hb7 K6 Q7
  go_wp2_with fail
  refine (syl_ok _ _ _).mono ?_
  rintro e w28 ⟨rfl, hb8⟩
  have Q8 : Kp w27 w28 := by repeat (first | exact Kp.refl _ | with_reducible assumption | with_reducible refine Kp.set ?_ _ _ ?_ | (dsimp only; omega) | with_reducible refine Kp.drew ?_ | with_reducible refine Kp.drewN ?_ _ | with_reducible refine Kp.al ?_ _ | with_reducible refine Kp.trans ?_ (by with_reducible assumption))
  have K8 := K7.trans Q8
  clear hb8 K7 Q8
  go_wp2_with fail
  refine (same_t _ _ _ _ _ _ _ _ _ (HS.out.kp (by repeat (first | exact Kp.refl _ | with_reducible assumption | with_reducible refine Kp.set ?_ _ _ ?_ | (dsimp only; omega) | with_reducible refine Kp.drew ?_ | with_reducible refine Kp.drewN ?_ _ | with_reducible refine Kp.al ?_ _ | with_reducible refine Kp.trans ?_ (by with_reducible assumption)))) (sys_new _ _ [(4, 1), (4, 2), (4, 3), (4, 4), (4, 5), (4, 6), (5, 4)] 7 _ rfl rfl) (by omega) (by omega) rfl).mono ?_
  rintro e w29 ⟨rfl, hb9⟩
  have Q9 : Kp w28 w29 := by repeat (first | exact Kp.refl _ | with_reducible assumption | with_reducible refine Kp.set ?_ _ _ ?_ | (dsimp only; omega) | with_reducible refine Kp.drew ?_ | with_reducible refine Kp.drewN ?_ _ | with_reducible refine Kp.al ?_ _ | with_reducible refine Kp.trans ?_ (by with_reducible assumption))
  have K9 := K8.trans Q9
  clear hb9 K8 Q9
  go_wp2_with fail
  refine (nat14 _).mono ?_
  rintro e w210 ⟨rfl, hb10⟩
  have Q10 : Kp w29 w210 := by repeat (first | exact Kp.refl _ | with_reducible assumption | with_reducible refine Kp.set ?_ _ _ ?_ | (dsimp only; omega) | with_reducible refine Kp.drew ?_ | with_reducible refine Kp.drewN ?_ _ | with_reducible refine Kp.al ?_ _ | with_reducible refine Kp.trans ?_ (by with_reducible assumption))
  have K10 := K9.trans Q10
  clear hb10 K9 Q10
  go_wp2_with fail
  refine (syl_ok _ _ _).mono ?_
  rintro e w211 ⟨rfl, hb11⟩
  have Q11 : Kp w210 w211 := by repeat (first | exact Kp.refl _ | with_reducible assumption | with_reducible refine Kp.set ?_ _ _ ?_ | (dsimp only; omega) | with_reducible refine Kp.drew ?_ | with_reducible refine Kp.drewN ?_ _ | with_reducible refine Kp.al ?_ _ | with_reducible refine Kp.trans ?_ (by with_reducible assumption))
  have K11 := K10.trans Q11
  clear hb11 K10 Q11
  go_wp2_with fail
  refine (syl_ok _ _ _).mono ?_
  rintro e w212 ⟨rfl, hb12⟩
  have Q12 : Kp w211 w212 := by repeat (first | exact Kp.refl _ | with_reducible assumption | with_reducible refine Kp.set ?_ _ _ ?_ | (dsimp only; omega) | with_reducible refine Kp.drew ?_ | with_reducible refine Kp.drewN ?_ _ | with_reducible refine Kp.al ?_ _ | with_reducible refine Kp.trans ?_ (by with_reducible assumption))
  have K12 := K11.trans Q12
  clear hb12 K11 Q12
  go_wp2_with fail
  refine (syl_ok _ _ _).mono ?_
  rintro e w213 ⟨rfl, hb13⟩
  have Q13 : Kp w212 w213 := by repeat (first | exact Kp.refl _ | with_reducible assumption | with_reducible refine Kp.set ?_ _ _ ?_ | (dsimp only; omega) | with_reducible refine Kp.drew ?_ | with_reducible refine Kp.drewN ?_ _ | with_reducible refine Kp.al ?_ _ | with_reducible refine Kp.trans ?_ (by with_reducible assumption))
  have K13 := K12.trans Q13
  clear hb13 K12 Q13
  go_wp2_with fail
  refine (sung_t _ _ _ _ _ _ _ _ (HT.out.below (KB.out.trans (by repeat (first | exact Kp.refl _ | with_reducible assumption | with_reducible refine Kp.set ?_ _ _ ?_ | (dsimp only; omega) | with_reducible refine Kp.drew ?_ | with_reducible refine Kp.drewN ?_ _ | with_reducible refine Kp.al ?_ _ | with_reducible refine Kp.trans ?_ (by with_reducible assumption))))) (sys_new _ _ [(5, 5), (6, 2), (7, 1)] 3 _ rfl rfl) (by omega) (by decide) (by decide +kernel)).mono ?_
  rintro e w214 ⟨rfl, hb14⟩
  have Q14 : Kp w213 w214 := by repeat (first | exact Kp.refl _ | with_reducible assumption | with_reducible refine Kp.set ?_ _ _ ?_ | (dsimp only; omega) | with_reducible refine Kp.drew ?_ | with_reducible refine Kp.drewN ?_ _ | with_reducible refine Kp.al ?_ _ | with_reducible refine Kp.trans ?_ (by with_reducible assumption))
  have K14 := K13.trans Q14
  clear hb14 K13 Q14
  go_wp2_with fail
  go_ret
  exact ⟨rfl, KB.out.trans (by repeat (first | exact Kp.refl _ | with_reducible assumption | with_reducible refine Kp.set ?_ _ _ ?_ | (dsimp only; omega) | with_reducible refine Kp.drew ?_ | with_reducible refine Kp.drewN ?_ _ | with_reducible refine Kp.al ?_ _ | with_reducible refine Kp.trans ?_ (by with_reducible assumption)))⟩
end Go.Proofs.YtaobndijldidfaaDoor
