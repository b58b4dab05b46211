/- GamutKnown: the walk. -/
import Derived.Test.YtaobndijldidfaaDoorGt
set_option linter.unusedSimpArgs false
set_option linter.unusedVariables false
namespace Go.Proofs.YtaobndijldidfaaDoor
open Go.RowKit

set_option maxRecDepth 100000 in
set_option maxHeartbeats 8000000 in
theorem known_ok (w : World) (ht0 : Tab w) :
    Calls Tryd.prog 8 #[] w fun e w' => e = .returned (.bool true) ∧ Kp w w' := by
  have HT := Lib.hid ht0
  clear ht0
  go_enter Tryd.func8, Tryd.ntmps8
  go_wp2_with fail
  obtain ⟨wb, ewb⟩ : ∃ wb : World, wb = ((w.alloc (.cells #[.int .i64 6, .int .i64 3, .int .i64 (-1)] 36)).alloc (.cells #[.int .i64 3, .int .i64 4, .int .i64 1] 36)).alloc (.cells #[.int .i64 3, .int .i64 2, .int .i64 0] 36) := ⟨_, rfl⟩
  obtain ⟨g, eg⟩ : ∃ g, g = w.heap.size := ⟨_, rfl⟩
  have c0 : wb.cell? ⟨g, 0, none⟩ = some (.int .i64 6) := by rw [ewb, eg]; simp [go_sem]
  have c1 : wb.cell? ⟨g, 1, none⟩ = some (.int .i64 3) := by rw [ewb, eg]; simp [go_sem]
  have c2 : wb.cell? ⟨g, 2, none⟩ = some (.int .i64 (-1)) := by rw [ewb, eg]; simp [go_sem]
  have c3 : wb.cell? ⟨g + 1, 0, none⟩ = some (.int .i64 3) := by rw [ewb, eg]; simp [go_sem]
  have c4 : wb.cell? ⟨g + 1, 1, none⟩ = some (.int .i64 4) := by rw [ewb, eg]; simp [go_sem]
  have c5 : wb.cell? ⟨g + 1, 2, none⟩ = some (.int .i64 1) := by rw [ewb, eg]; simp [go_sem]
  have c6 : wb.cell? ⟨g + 2, 0, none⟩ = some (.int .i64 3) := by rw [ewb, eg]; simp [go_sem]
  have c7 : wb.cell? ⟨g + 2, 1, none⟩ = some (.int .i64 2) := by rw [ewb, eg]; simp [go_sem]
  have c8 : wb.cell? ⟨g + 2, 2, none⟩ = some (.int .i64 0) := by rw [ewb, eg]; simp [go_sem]
  have KB := Lib.hid (show Kp w wb by rw [ewb]; repeat (first | exact Kp.refl _ | with_reducible assumption | with_reducible refine Kp.set ?_ _ _ ?_ | (dsimp only; omega) | with_reducible refine Kp.drew ?_ | with_reducible refine Kp.drewN ?_ _ | with_reducible refine Kp.al ?_ _ | with_reducible refine Kp.trans ?_ (by with_reducible assumption)))
  have HTB := Lib.hid (HT.out.below KB.out)
  rw [← ewb]
  rw [← eg]
  clear ewb eg
  have NN := Lib.hid (fun (w' : World) (k : Kp wb w') => And.intro (k.get c0) (And.intro (k.get c1) (And.intro (k.get c2) (And.intro (k.get c3) (And.intro (k.get c4) (And.intro (k.get c5) (And.intro (k.get c6) (And.intro (k.get c7) (k.get c8)))))))))
  have gl := cell_lt c8
  go_cut [68] (fun v wz => v = .bool false ∧ Kp wb wz)
  case first =>
    go_region_held3 (fun w' => w'.cell? ⟨g, 0, none⟩ = some (.int .i64 6) ∧ w'.cell? ⟨g, 1, none⟩ = some (.int .i64 3) ∧ w'.cell? ⟨g, 2, none⟩ = some (.int .i64 (-1)) ∧ w'.cell? ⟨g + 1, 0, none⟩ = some (.int .i64 3) ∧ w'.cell? ⟨g + 1, 1, none⟩ = some (.int .i64 4) ∧ w'.cell? ⟨g + 1, 2, none⟩ = some (.int .i64 1) ∧ w'.cell? ⟨g + 2, 0, none⟩ = some (.int .i64 3) ∧ w'.cell? ⟨g + 2, 1, none⟩ = some (.int .i64 2) ∧ w'.cell? ⟨g + 2, 2, none⟩ = some (.int .i64 0))
      (exact NN.out _ (by repeat (first | exact Kp.refl _ | with_reducible assumption | with_reducible refine Kp.set ?_ _ _ ?_ | (dsimp only; omega) | with_reducible refine Kp.drew ?_ | with_reducible refine Kp.drewN ?_ _ | with_reducible refine Kp.al ?_ _ | with_reducible refine Kp.trans ?_ (by with_reducible assumption))))
      (first
        | (go_at_call 31; refine (named_ok _ (HTB.out.below (by repeat (first | exact Kp.refl _ | with_reducible assumption | with_reducible refine Kp.set ?_ _ _ ?_ | (dsimp only; omega) | with_reducible refine Kp.drew ?_ | with_reducible refine Kp.drewN ?_ _ | with_reducible refine Kp.al ?_ _ | with_reducible refine Kp.trans ?_ (by with_reducible assumption))))).mono ?_; rintro e wx ⟨rfl, hkx⟩; have KX : Kp wb wx := (by repeat (first | exact Kp.refl _ | with_reducible assumption | with_reducible refine Kp.set ?_ _ _ ?_ | (dsimp only; omega) | with_reducible refine Kp.drew ?_ | with_reducible refine Kp.drewN ?_ _ | with_reducible refine Kp.al ?_ _ | with_reducible refine Kp.trans ?_ (by with_reducible assumption))); clear hkx)
        | (go_at_call 33; refine (natural_i _ _ (by decide) (by decide)).mono ?_; rintro e wx ⟨rfl, hkx⟩; have KX : Kp wb wx := (by repeat (first | exact Kp.refl _ | with_reducible assumption | with_reducible refine Kp.set ?_ _ _ ?_ | (dsimp only; omega) | with_reducible refine Kp.drew ?_ | with_reducible refine Kp.drewN ?_ _ | with_reducible refine Kp.al ?_ _ | with_reducible refine Kp.trans ?_ (by with_reducible assumption))); clear hkx)
        | (go_at_call 34; refine (syl_ok _ _ _).mono ?_; rintro e wx ⟨rfl, hkx⟩; have KX : Kp wb wx := (by repeat (first | exact Kp.refl _ | with_reducible assumption | with_reducible refine Kp.set ?_ _ _ ?_ | (dsimp only; omega) | with_reducible refine Kp.drew ?_ | with_reducible refine Kp.drewN ?_ _ | with_reducible refine Kp.al ?_ _ | with_reducible refine Kp.trans ?_ (by with_reducible assumption))); clear hkx)
        | (go_at_call 32; refine (sung_t _ _ _ _ _ _ _ _ (HTB.out.below (by repeat (first | exact Kp.refl _ | with_reducible assumption | with_reducible refine Kp.set ?_ _ _ ?_ | (dsimp only; omega) | with_reducible refine Kp.drew ?_ | with_reducible refine Kp.drewN ?_ _ | with_reducible refine Kp.al ?_ _ | with_reducible refine Kp.trans ?_ (by with_reducible assumption)))) (by first | exact sys_one _ _ _ _ | exact sys_nil _ _) (by decide) (by decide) (by decide +kernel)).mono ?_; rintro e wx ⟨rfl, hkx⟩; have KX : Kp wb wx := (by repeat (first | exact Kp.refl _ | with_reducible assumption | with_reducible refine Kp.set ?_ _ _ ?_ | (dsimp only; omega) | with_reducible refine Kp.drew ?_ | with_reducible refine Kp.drewN ?_ _ | with_reducible refine Kp.al ?_ _ | with_reducible refine Kp.trans ?_ (by with_reducible assumption))); clear hkx))
    go_wp2_with fail
    go_meet
    exact ⟨rfl, by assumption⟩
  case rest =>
    obtain ⟨rfl, KC⟩ := hcut
    obtain ⟨w1, ew1⟩ : ∃ w1 : World, w1 = wc := ⟨_, rfl⟩
    subst ew1
    obtain ⟨b0, b1, b2, b3, b4, b5, b6, b7, b8⟩ := NN.out w1 KC
    clear c0 c1 c2 c3 c4 c5 c6 c7 c8
    have gl2 := KC.low
    have HT1 := Lib.hid (HTB.out.below KC)
    have KC1 := Lib.hid (KB.out.trans KC)
    have NC := Lib.hid (fun (w' : World) (k : Kp w1 w') => And.intro (k.get b6) (And.intro (k.get b7) (k.get b8)))
    clear KC
    go_wp2_with fail
    refine (natural_i _ _ (by decide) (by decide)).mono ?_
    rintro e w11 ⟨rfl, hb1⟩
    have Q1 : Kp w1 w11 := by repeat (first | exact Kp.refl _ | with_reducible assumption | with_reducible refine Kp.set ?_ _ _ ?_ | (dsimp only; omega) | with_reducible refine Kp.drew ?_ | with_reducible refine Kp.drewN ?_ _ | with_reducible refine Kp.al ?_ _ | with_reducible refine Kp.trans ?_ (by with_reducible assumption))
    have K1 := Q1
    clear hb1 Q1
    go_wp2_with fail
    refine (gplace_ok _ _ _ _ (by decide) (by decide) (by decide) (by decide) (by decide) (by decide) (by decide) (by decide)).mono ?_
    rintro e w12 ⟨rfl, hb2⟩
    have Q2 : Kp w11 w12 := by repeat (first | exact Kp.refl _ | with_reducible assumption | with_reducible refine Kp.set ?_ _ _ ?_ | (dsimp only; omega) | with_reducible refine Kp.drew ?_ | with_reducible refine Kp.drewN ?_ _ | with_reducible refine Kp.al ?_ _ | with_reducible refine Kp.trans ?_ (by with_reducible assumption))
    have K2 := K1.trans Q2
    clear hb2 K1 Q2
    go_wp2_with fail
    refine (natural_i _ _ (by decide) (by decide)).mono ?_
    rintro e w13 ⟨rfl, hb3⟩
    have Q3 : Kp w12 w13 := by repeat (first | exact Kp.refl _ | with_reducible assumption | with_reducible refine Kp.set ?_ _ _ ?_ | (dsimp only; omega) | with_reducible refine Kp.drew ?_ | with_reducible refine Kp.drewN ?_ _ | with_reducible refine Kp.al ?_ _ | with_reducible refine Kp.trans ?_ (by with_reducible assumption))
    have K3 := K2.trans Q3
    clear hb3 K2 Q3
    go_wp2_with fail
    refine (gplace_ok _ _ _ _ (by decide) (by decide) (by decide) (by decide) (by decide) (by decide) (by decide) (by decide)).mono ?_
    rintro e w14 ⟨rfl, hb4⟩
    have Q4 : Kp w13 w14 := by repeat (first | exact Kp.refl _ | with_reducible assumption | with_reducible refine Kp.set ?_ _ _ ?_ | (dsimp only; omega) | with_reducible refine Kp.drew ?_ | with_reducible refine Kp.drewN ?_ _ | with_reducible refine Kp.al ?_ _ | with_reducible refine Kp.trans ?_ (by with_reducible assumption))
    have K4 := K3.trans Q4
    clear hb4 K3 Q4
    obtain ⟨n6, n7, n8⟩ := NC.out w14 K4
    go_wp2_with fail
    refine (gplace_out 3 2 0 _ (by decide) (by decide) (by decide) (by decide) (by decide) (by decide) (by decide)).mono ?_
    rintro e w15 ⟨rfl, hb5⟩
    have Q5 : Kp w14 w15 := by repeat (first | exact Kp.refl _ | with_reducible assumption | with_reducible refine Kp.set ?_ _ _ ?_ | (dsimp only; omega) | with_reducible refine Kp.drew ?_ | with_reducible refine Kp.drewN ?_ _ | with_reducible refine Kp.al ?_ _ | with_reducible refine Kp.trans ?_ (by with_reducible assumption))
    have K5 := K4.trans Q5
    clear hb5 K4 Q5
    clear n6 n7 n8
    go_wp2_with fail
    refine (syl_ok _ _ _).mono ?_
    rintro e w16 ⟨rfl, hb6⟩
    have Q6 : Kp w15 w16 := by repeat (first | exact Kp.refl _ | with_reducible assumption | with_reducible refine Kp.set ?_ _ _ ?_ | (dsimp only; omega) | with_reducible refine Kp.drew ?_ | with_reducible refine Kp.drewN ?_ _ | with_reducible refine Kp.al ?_ _ | with_reducible refine Kp.trans ?_ (by with_reducible assumption))
    have K6 := K5.trans Q6
    clear hb6 K5 Q6
    go_wp2_with fail
    refine (pitch_t 3 4 6 3 (-1) _ (HT1.out.below (by repeat (first | exact Kp.refl _ | with_reducible assumption | with_reducible refine Kp.set ?_ _ _ ?_ | (dsimp only; omega) | with_reducible refine Kp.drew ?_ | with_reducible refine Kp.drewN ?_ _ | with_reducible refine Kp.al ?_ _ | with_reducible refine Kp.trans ?_ (by with_reducible assumption)))) (by decide) (by decide)).mono ?_
    rintro e w17 ⟨rfl, hb7⟩
    have Q7 : Kp w16 w17 := by repeat (first | exact Kp.refl _ | with_reducible assumption | with_reducible refine Kp.set ?_ _ _ ?_ | (dsimp only; omega) | with_reducible refine Kp.drew ?_ | with_reducible refine Kp.drewN ?_ _ | with_reducible refine Kp.al ?_ _ | with_reducible refine Kp.trans ?_ (by with_reducible assumption))
    have K7 := K6.trans Q7
    clear hb7 K6 Q7
    go_wp2_with fail
    refine (syl_ok _ _ _).mono ?_
    rintro e w18 ⟨rfl, hb8⟩
    have Q8 : Kp w17 w18 := by repeat (first | exact Kp.refl _ | with_reducible assumption | with_reducible refine Kp.set ?_ _ _ ?_ | (dsimp only; omega) | with_reducible refine Kp.drew ?_ | with_reducible refine Kp.drewN ?_ _ | with_reducible refine Kp.al ?_ _ | with_reducible refine Kp.trans ?_ (by with_reducible assumption))
    have c1_0_8 := hb8.get (b := w17.heap.size) (o := 0) (v := .int .i64 (6)) (by first | with_reducible assumption | (simp [go_sem]; done) | (simp [go_sem, *]; done))
    have c1_1_8 := hb8.get (b := w17.heap.size) (o := 1) (v := .int .i64 (3)) (by first | with_reducible assumption | (simp [go_sem]; done) | (simp [go_sem, *]; done))
    have c1_2_8 := hb8.get (b := w17.heap.size) (o := 2) (v := .int .i64 (-1)) (by first | with_reducible assumption | (simp [go_sem]; done) | (simp [go_sem, *]; done))
    have l1_8 := cell_lt c1_0_8
    have K8 := K7.trans Q8
    clear hb8 K7 Q8
    go_wp2_with fail
    refine (pitch_t 7 6 2 5 0 _ (HT1.out.below (by repeat (first | exact Kp.refl _ | with_reducible assumption | with_reducible refine Kp.set ?_ _ _ ?_ | (dsimp only; omega) | with_reducible refine Kp.drew ?_ | with_reducible refine Kp.drewN ?_ _ | with_reducible refine Kp.al ?_ _ | with_reducible refine Kp.trans ?_ (by with_reducible assumption)))) (by decide) (by decide)).mono ?_
    rintro e w19 ⟨rfl, hb9⟩
    have Q9 : Kp w18 w19 := by repeat (first | exact Kp.refl _ | with_reducible assumption | with_reducible refine Kp.set ?_ _ _ ?_ | (dsimp only; omega) | with_reducible refine Kp.drew ?_ | with_reducible refine Kp.drewN ?_ _ | with_reducible refine Kp.al ?_ _ | with_reducible refine Kp.trans ?_ (by with_reducible assumption))
    have c1_0_9 := Q9.get c1_0_8
    have c1_1_9 := Q9.get c1_1_8
    have c1_2_9 := Q9.get c1_2_8
    have l1_9 := cell_lt c1_0_9
    have K9 := K8.trans Q9
    clear hb9 c1_0_8 c1_1_8 c1_2_8 l1_8 K8 Q9
    go_wp2_with fail
    refine (syl_ok _ _ _).mono ?_
    rintro e w110 ⟨rfl, hb10⟩
    have Q10 : Kp w19 w110 := by repeat (first | exact Kp.refl _ | with_reducible assumption | with_reducible refine Kp.set ?_ _ _ ?_ | (dsimp only; omega) | with_reducible refine Kp.drew ?_ | with_reducible refine Kp.drewN ?_ _ | with_reducible refine Kp.al ?_ _ | with_reducible refine Kp.trans ?_ (by with_reducible assumption))
    have c2_0_10 := hb10.get (b := w19.heap.size) (o := 0) (v := .int .i64 (2)) (by first | with_reducible assumption | (simp [go_sem]; done) | (simp [go_sem, *]; done))
    have c2_1_10 := hb10.get (b := w19.heap.size) (o := 1) (v := .int .i64 (5)) (by first | with_reducible assumption | (simp [go_sem]; done) | (simp [go_sem, *]; done))
    have c2_2_10 := hb10.get (b := w19.heap.size) (o := 2) (v := .int .i64 (0)) (by first | with_reducible assumption | (simp [go_sem]; done) | (simp [go_sem, *]; done))
    have l2_10 := cell_lt c2_0_10
    have c1_0_10 := Q10.get c1_0_9
    have c1_1_10 := Q10.get c1_1_9
    have c1_2_10 := Q10.get c1_2_9
    have l1_10 := cell_lt c1_0_10
    have K10 := K9.trans Q10
    clear hb10 c1_0_9 c1_1_9 c1_2_9 l1_9 K9 Q10
    go_wp2_with fail
    refine (gpitch_no _ _ _ (by decide)).mono ?_
    rintro e w111 ⟨rfl, hb11⟩
    have Q11 : Kp w110 w111 := by repeat (first | exact Kp.refl _ | with_reducible assumption | with_reducible refine Kp.set ?_ _ _ ?_ | (dsimp only; omega) | with_reducible refine Kp.drew ?_ | with_reducible refine Kp.drewN ?_ _ | with_reducible refine Kp.al ?_ _ | with_reducible refine Kp.trans ?_ (by with_reducible assumption))
    have c1_0_11 := Q11.get c1_0_10
    have c1_1_11 := Q11.get c1_1_10
    have c1_2_11 := Q11.get c1_2_10
    have l1_11 := cell_lt c1_0_11
    have c2_0_11 := Q11.get c2_0_10
    have c2_1_11 := Q11.get c2_1_10
    have c2_2_11 := Q11.get c2_2_10
    have l2_11 := cell_lt c2_0_11
    have K11 := K10.trans Q11
    clear hb11 c1_0_10 c1_1_10 c1_2_10 l1_10 c2_0_10 c2_1_10 c2_2_10 l2_10 K10 Q11
    go_wp2_with fail
    obtain ⟨wd, ewd⟩ : ∃ wd : World, wd = w111.alloc (.cells #[.int .i64 0, .int .i64 0, .int .i64 0] 36) := ⟨_, rfl⟩
    have KD : Kp w1 wd := by rw [ewd]; repeat (first | exact Kp.refl _ | with_reducible assumption | with_reducible refine Kp.set ?_ _ _ ?_ | (dsimp only; omega) | with_reducible refine Kp.drew ?_ | with_reducible refine Kp.drewN ?_ _ | with_reducible refine Kp.al ?_ _ | with_reducible refine Kp.trans ?_ (by with_reducible assumption))
    obtain ⟨g1, eg1⟩ : ∃ g1, g1 = w17.heap.size := ⟨_, rfl⟩
    obtain ⟨g2, eg2⟩ : ∃ g2, g2 = w19.heap.size := ⟨_, rfl⟩
    have d0 : wd.cell? ⟨g1, 0, none⟩ = some (.int .i64 6) := by rw [ewd, eg1]; exact cell_al c1_0_11
    have d1 : wd.cell? ⟨g1, 1, none⟩ = some (.int .i64 3) := by rw [ewd, eg1]; exact cell_al c1_1_11
    have d2 : wd.cell? ⟨g1, 2, none⟩ = some (.int .i64 (-1)) := by rw [ewd, eg1]; exact cell_al c1_2_11
    have d3 : wd.cell? ⟨g2, 0, none⟩ = some (.int .i64 2) := by rw [ewd, eg2]; exact cell_al c2_0_11
    have d4 : wd.cell? ⟨g2, 1, none⟩ = some (.int .i64 5) := by rw [ewd, eg2]; exact cell_al c2_1_11
    have d5 : wd.cell? ⟨g2, 2, none⟩ = some (.int .i64 0) := by rw [ewd, eg2]; exact cell_al c2_2_11
    have d6 := KD.get b0
    have d7 := KD.get b1
    have d8 := KD.get b2
    have d9 := KD.get b3
    have d10 := KD.get b4
    have d11 := KD.get b5
    have HTD := Lib.hid (HT1.out.below KD)
    have KCD := Lib.hid (KC1.out.trans KD)
    rw [← ewd]
    rw [← eg1]
    rw [← eg2]
    have NN := Lib.hid (fun (w' : World) (k : Kp wd w') => And.intro (k.get d6) (And.intro (k.get d7) (And.intro (k.get d8) (And.intro (k.get d0) (And.intro (k.get d1) (And.intro (k.get d2) (And.intro (k.get d3) (And.intro (k.get d4) (k.get d5)))))))))
    have N3 := Lib.hid (fun (w' : World) (k : Kp wd w') => And.intro (k.get d9) (And.intro (k.get d10) (k.get d11)))
    have gld1 := cell_lt d0
    have gld2 := cell_lt d3
    have gld3 := cell_lt d6
    clear ewd eg1 eg2 KD c1_0_11 c1_1_11 c1_2_11 c2_0_11 c2_1_11 c2_2_11 b0 b1 b2 b3 b4 b5 b6 b7 b8 d9 d10 d11
    go_cut [138] (fun v wz => v = .bool false ∧ Kp wd wz)
    case first =>
      go_region_held3 (fun w' => w'.cell? ⟨g, 0, none⟩ = some (.int .i64 6) ∧ w'.cell? ⟨g, 1, none⟩ = some (.int .i64 3) ∧ w'.cell? ⟨g, 2, none⟩ = some (.int .i64 (-1)) ∧ w'.cell? ⟨g1, 0, none⟩ = some (.int .i64 6) ∧ w'.cell? ⟨g1, 1, none⟩ = some (.int .i64 3) ∧ w'.cell? ⟨g1, 2, none⟩ = some (.int .i64 (-1)) ∧ w'.cell? ⟨g2, 0, none⟩ = some (.int .i64 2) ∧ w'.cell? ⟨g2, 1, none⟩ = some (.int .i64 5) ∧ w'.cell? ⟨g2, 2, none⟩ = some (.int .i64 0))
        (exact NN.out _ (by repeat (first | exact Kp.refl _ | with_reducible assumption | with_reducible refine Kp.set ?_ _ _ ?_ | (dsimp only; omega) | with_reducible refine Kp.drew ?_ | with_reducible refine Kp.drewN ?_ _ | with_reducible refine Kp.al ?_ _ | with_reducible refine Kp.trans ?_ (by with_reducible assumption))))
        (first | (go_at_call 33; refine (natural_i _ _ (by decide) (by decide)).mono ?_; rintro e wx ⟨rfl, hkx⟩; have KX : Kp wd wx := (by repeat (first | exact Kp.refl _ | with_reducible assumption | with_reducible refine Kp.set ?_ _ _ ?_ | (dsimp only; omega) | with_reducible refine Kp.drew ?_ | with_reducible refine Kp.drewN ?_ _ | with_reducible refine Kp.al ?_ _ | with_reducible refine Kp.trans ?_ (by with_reducible assumption))); clear hkx))
      go_wp2_with fail
      go_meet
      exact ⟨rfl, by assumption⟩
    case rest =>
      obtain ⟨rfl, KC⟩ := hcut
      obtain ⟨w2, ew2⟩ : ∃ w2 : World, w2 = wc := ⟨_, rfl⟩
      subst ew2
      obtain ⟨b3, b4, b5⟩ := N3.out w2 KC
      have gl2 := KC.low
      have HT2 := Lib.hid (HTD.out.below KC)
      have KC2 := Lib.hid (KCD.out.trans KC)
      clear KC d0 d1 d2 d3 d4 d5 d6 d7 d8
      go_wp2_with fail
      refine (from_b _).mono ?_
      rintro e w21 ⟨⟨A1, c1, rfl, hp1⟩, hb1⟩
      have Q1 : Kp w2 w21 := by repeat (first | exact Kp.refl _ | with_reducible assumption | with_reducible refine Kp.set ?_ _ _ ?_ | (dsimp only; omega) | with_reducible refine Kp.drew ?_ | with_reducible refine Kp.drewN ?_ _ | with_reducible refine Kp.al ?_ _ | with_reducible refine Kp.trans ?_ (by with_reducible assumption))
      have K1 := Q1
      clear hb1 Q1
      have HP := Lib.hid hp1
      clear hp1
      go_wp2_with fail
      refine (solm_t _ _ _ _ _ _ _ (HT2.out.below (by repeat (first | exact Kp.refl _ | with_reducible assumption | with_reducible refine Kp.set ?_ _ _ ?_ | (dsimp only; omega) | with_reducible refine Kp.drew ?_ | with_reducible refine Kp.drewN ?_ _ | with_reducible refine Kp.al ?_ _ | with_reducible refine Kp.trans ?_ (by with_reducible assumption)))) HP.out (by omega) good_b sol_b mut_b).mono ?_
      rintro e w22 ⟨⟨A2, c2, rfl, hs2⟩, hb2⟩
      have Q2 : Kp w21 w22 := by repeat (first | exact Kp.refl _ | with_reducible assumption | with_reducible refine Kp.set ?_ _ _ ?_ | (dsimp only; omega) | with_reducible refine Kp.drew ?_ | with_reducible refine Kp.drewN ?_ _ | with_reducible refine Kp.al ?_ _ | with_reducible refine Kp.trans ?_ (by with_reducible assumption))
      have K2 := K1.trans Q2
      clear hb2 K1 Q2
      have HS1 := Lib.hid hs2; have HT3 := Lib.hid (HT2.out.below K2); have KC3 := Lib.hid (KC2.out.trans K2)
      replace b3 := K2.get b3
      replace b4 := K2.get b4
      replace b5 := K2.get b5
      have gl3 := K2.low
      clear hs2 K2
      go_wp2_with fail
      refine (natural_i _ _ (by decide) (by decide)).mono ?_
      rintro e w221 ⟨rfl, hb1⟩
      have Q1 : Kp w22 w221 := by repeat (first | exact Kp.refl _ | with_reducible assumption | with_reducible refine Kp.set ?_ _ _ ?_ | (dsimp only; omega) | with_reducible refine Kp.drew ?_ | with_reducible refine Kp.drewN ?_ _ | with_reducible refine Kp.al ?_ _ | with_reducible refine Kp.trans ?_ (by with_reducible assumption))
      have K1 := Q1
      clear hb1 Q1
      go_wp2_with fail
      refine (natural_i _ _ (by decide) (by decide)).mono ?_
      rintro e w222 ⟨rfl, hb2⟩
      have Q2 : Kp w221 w222 := by repeat (first | exact Kp.refl _ | with_reducible assumption | with_reducible refine Kp.set ?_ _ _ ?_ | (dsimp only; omega) | with_reducible refine Kp.drew ?_ | with_reducible refine Kp.drewN ?_ _ | with_reducible refine Kp.al ?_ _ | with_reducible refine Kp.trans ?_ (by with_reducible assumption))
      have K2 := K1.trans Q2
      clear hb2 K1 Q2
      go_wp2_with fail
      refine (solm_t _ _ _ _ _ _ _ (HT3.out.below (by repeat (first | exact Kp.refl _ | with_reducible assumption | with_reducible refine Kp.set ?_ _ _ ?_ | (dsimp only; omega) | with_reducible refine Kp.drew ?_ | with_reducible refine Kp.drewN ?_ _ | with_reducible refine Kp.al ?_ _ | with_reducible refine Kp.trans ?_ (by with_reducible assumption)))) (pts_new _ _ [(6, 3, 0), (3, 4, 0)] 2 _ rfl rfl) (by omega) good_c sol_c mut_c).mono ?_
      rintro e w223 ⟨⟨A3, c3, rfl, hs3⟩, hb3⟩
      have Q3 : Kp w222 w223 := by repeat (first | exact Kp.refl _ | with_reducible assumption | with_reducible refine Kp.set ?_ _ _ ?_ | (dsimp only; omega) | with_reducible refine Kp.drew ?_ | with_reducible refine Kp.drewN ?_ _ | with_reducible refine Kp.al ?_ _ | with_reducible refine Kp.trans ?_ (by with_reducible assumption))
      have K3 := K2.trans Q3
      clear hb3 K2 Q3
      have HS2 := Lib.hid hs3; have HT4 := Lib.hid (HT3.out.below K3); have KC4 := Lib.hid (KC3.out.trans K3)
      have HS3 := Lib.hid (HS1.out.kp K3)
      replace b3 := K3.get b3
      replace b4 := K3.get b4
      replace b5 := K3.get b5
      have gl4 := K3.low
      clear hs3 K3 HS1
      go_wp2_with fail
      refine (solm_d _ _ _ (HT4.out.below (by repeat (first | exact Kp.refl _ | with_reducible assumption | with_reducible refine Kp.set ?_ _ _ ?_ | (dsimp only; omega) | with_reducible refine Kp.drew ?_ | with_reducible refine Kp.drewN ?_ _ | with_reducible refine Kp.al ?_ _ | with_reducible refine Kp.trans ?_ (by with_reducible assumption)))) (pts_new _ _ [(3, 4, 1)] 1 _ rfl rfl)).mono ?_
      rintro e w2231 ⟨rfl, hb1⟩
      have Q1 : Kp w223 w2231 := by repeat (first | exact Kp.refl _ | with_reducible assumption | with_reducible refine Kp.set ?_ _ _ ?_ | (dsimp only; omega) | with_reducible refine Kp.drew ?_ | with_reducible refine Kp.drewN ?_ _ | with_reducible refine Kp.al ?_ _ | with_reducible refine Kp.trans ?_ (by with_reducible assumption))
      have K1 := Q1
      clear hb1 Q1
      clear b3 b4 b5
      go_wp2_with fail
      refine (solm_n _ (HT4.out.below (by repeat (first | exact Kp.refl _ | with_reducible assumption | with_reducible refine Kp.set ?_ _ _ ?_ | (dsimp only; omega) | with_reducible refine Kp.drew ?_ | with_reducible refine Kp.drewN ?_ _ | with_reducible refine Kp.al ?_ _ | with_reducible refine Kp.trans ?_ (by with_reducible assumption))))).mono ?_
      rintro e w2232 ⟨⟨A4, c4, rfl, -⟩, hb2⟩
      have Q2 : Kp w2231 w2232 := by repeat (first | exact Kp.refl _ | with_reducible assumption | with_reducible refine Kp.set ?_ _ _ ?_ | (dsimp only; omega) | with_reducible refine Kp.drew ?_ | with_reducible refine Kp.drewN ?_ _ | with_reducible refine Kp.al ?_ _ | with_reducible refine Kp.trans ?_ (by with_reducible assumption))
      have K2 := K1.trans Q2
      clear hb2 K1 Q2
      go_wp2_with fail
      refine (syl_ok _ _ _).mono ?_
      rintro e w2233 ⟨rfl, hb3⟩
      have Q3 : Kp w2232 w2233 := by repeat (first | exact Kp.refl _ | with_reducible assumption | with_reducible refine Kp.set ?_ _ _ ?_ | (dsimp only; omega) | with_reducible refine Kp.drew ?_ | with_reducible refine Kp.drewN ?_ _ | with_reducible refine Kp.al ?_ _ | with_reducible refine Kp.trans ?_ (by with_reducible assumption))
      have K3 := K2.trans Q3
      clear hb3 K2 Q3
      go_wp2_with fail
      refine (syl_ok _ _ _).mono ?_
      rintro e w2234 ⟨rfl, hb4⟩
      have Q4 : Kp w2233 w2234 := by repeat (first | exact Kp.refl _ | with_reducible assumption | with_reducible refine Kp.set ?_ _ _ ?_ | (dsimp only; omega) | with_reducible refine Kp.drew ?_ | with_reducible refine Kp.drewN ?_ _ | with_reducible refine Kp.al ?_ _ | with_reducible refine Kp.trans ?_ (by with_reducible assumption))
      have K4 := K3.trans Q4
      clear hb4 K3 Q4
      go_wp2_with fail
      refine (syl_ok _ _ _).mono ?_
      rintro e w2235 ⟨rfl, hb5⟩
      have Q5 : Kp w2234 w2235 := by repeat (first | exact Kp.refl _ | with_reducible assumption | with_reducible refine Kp.set ?_ _ _ ?_ | (dsimp only; omega) | with_reducible refine Kp.drew ?_ | with_reducible refine Kp.drewN ?_ _ | with_reducible refine Kp.al ?_ _ | with_reducible refine Kp.trans ?_ (by with_reducible assumption))
      have K5 := K4.trans Q5
      clear hb5 K4 Q5
      go_wp2_with fail
      refine (syl_ok _ _ _).mono ?_
      rintro e w2236 ⟨rfl, hb6⟩
      have Q6 : Kp w2235 w2236 := by repeat (first | exact Kp.refl _ | with_reducible assumption | with_reducible refine Kp.set ?_ _ _ ?_ | (dsimp only; omega) | with_reducible refine Kp.drew ?_ | with_reducible refine Kp.drewN ?_ _ | with_reducible refine Kp.al ?_ _ | with_reducible refine Kp.trans ?_ (by with_reducible assumption))
      have K6 := K5.trans Q6
      clear hb6 K5 Q6
      go_wp2_with fail
      refine (syl_ok _ _ _).mono ?_
      rintro e w2237 ⟨rfl, hb7⟩
      have Q7 : Kp w2236 w2237 := by repeat (first | exact Kp.refl _ | with_reducible assumption | with_reducible refine Kp.set ?_ _ _ ?_ | (dsimp only; omega) | with_reducible refine Kp.drew ?_ | with_reducible refine Kp.drewN ?_ _ | with_reducible refine Kp.al ?_ _ | with_reducible refine Kp.trans ?_ (by with_reducible assumption))
      have K7 := K6.trans Q7
      clear hb7 K6 Q7
      go_wp2_with fail
      refine (syl_ok _ _ _).mono ?_
      rintro e w2238 ⟨rfl, hb8⟩
      have Q8 : Kp w2237 w2238 := by repeat (first | exact Kp.refl _ | with_reducible assumption | with_reducible refine Kp.set ?_ _ _ ?_ | (dsimp only; omega) | with_reducible refine Kp.drew ?_ | with_reducible refine Kp.drewN ?_ _ | with_reducible refine Kp.al ?_ _ | with_reducible refine Kp.trans ?_ (by with_reducible assumption))
      have K8 := K7.trans Q8
      clear hb8 K7 Q8
      go_wp2_with fail
      refine (same_t _ _ _ _ _ _ _ _ _ (HS3.out.kp (by repeat (first | exact Kp.refl _ | with_reducible assumption | with_reducible refine Kp.set ?_ _ _ ?_ | (dsimp only; omega) | with_reducible refine Kp.drew ?_ | with_reducible refine Kp.drewN ?_ _ | with_reducible refine Kp.al ?_ _ | with_reducible refine Kp.trans ?_ (by with_reducible assumption)))) (sys_new _ _ [(5, 1), (5, 2), (5, 3), (5, 4), (5, 5), (5, 6)] 6 _ rfl rfl) (by omega) (by omega) rfl).mono ?_
      rintro e w2239 ⟨rfl, hb9⟩
      have Q9 : Kp w2238 w2239 := by repeat (first | exact Kp.refl _ | with_reducible assumption | with_reducible refine Kp.set ?_ _ _ ?_ | (dsimp only; omega) | with_reducible refine Kp.drew ?_ | with_reducible refine Kp.drewN ?_ _ | with_reducible refine Kp.al ?_ _ | with_reducible refine Kp.trans ?_ (by with_reducible assumption))
      have K9 := K8.trans Q9
      clear hb9 K8 Q9
      go_wp2_with fail
      refine (syl_ok _ _ _).mono ?_
      rintro e w22310 ⟨rfl, hb10⟩
      have Q10 : Kp w2239 w22310 := by repeat (first | exact Kp.refl _ | with_reducible assumption | with_reducible refine Kp.set ?_ _ _ ?_ | (dsimp only; omega) | with_reducible refine Kp.drew ?_ | with_reducible refine Kp.drewN ?_ _ | with_reducible refine Kp.al ?_ _ | with_reducible refine Kp.trans ?_ (by with_reducible assumption))
      have K10 := K9.trans Q10
      clear hb10 K9 Q10
      go_wp2_with fail
      refine (syl_ok _ _ _).mono ?_
      rintro e w22311 ⟨rfl, hb11⟩
      have Q11 : Kp w22310 w22311 := by repeat (first | exact Kp.refl _ | with_reducible assumption | with_reducible refine Kp.set ?_ _ _ ?_ | (dsimp only; omega) | with_reducible refine Kp.drew ?_ | with_reducible refine Kp.drewN ?_ _ | with_reducible refine Kp.al ?_ _ | with_reducible refine Kp.trans ?_ (by with_reducible assumption))
      have K11 := K10.trans Q11
      clear hb11 K10 Q11
      go_wp2_with fail
      refine (same_t _ _ _ _ _ _ _ _ _ (HS2.out.kp (by repeat (first | exact Kp.refl _ | with_reducible assumption | with_reducible refine Kp.set ?_ _ _ ?_ | (dsimp only; omega) | with_reducible refine Kp.drew ?_ | with_reducible refine Kp.drewN ?_ _ | with_reducible refine Kp.al ?_ _ | with_reducible refine Kp.trans ?_ (by with_reducible assumption)))) (sys_new _ _ [(4, 3), (5, 4)] 2 _ rfl rfl) (by omega) (by omega) rfl).mono ?_
      rintro e w22312 ⟨rfl, hb12⟩
      have Q12 : Kp w22311 w22312 := by repeat (first | exact Kp.refl _ | with_reducible assumption | with_reducible refine Kp.set ?_ _ _ ?_ | (dsimp only; omega) | with_reducible refine Kp.drew ?_ | with_reducible refine Kp.drewN ?_ _ | with_reducible refine Kp.al ?_ _ | with_reducible refine Kp.trans ?_ (by with_reducible assumption))
      have K12 := K11.trans Q12
      clear hb12 K11 Q12
      go_wp2_with fail
      refine (mut_1 _ _ _ (HT4.out.below (by repeat (first | exact Kp.refl _ | with_reducible assumption | with_reducible refine Kp.set ?_ _ _ ?_ | (dsimp only; omega) | with_reducible refine Kp.drew ?_ | with_reducible refine Kp.drewN ?_ _ | with_reducible refine Kp.al ?_ _ | with_reducible refine Kp.trans ?_ (by with_reducible assumption)))) (HS2.out.kp (by repeat (first | exact Kp.refl _ | with_reducible assumption | with_reducible refine Kp.set ?_ _ _ ?_ | (dsimp only; omega) | with_reducible refine Kp.drew ?_ | with_reducible refine Kp.drewN ?_ _ | with_reducible refine Kp.al ?_ _ | with_reducible refine Kp.trans ?_ (by with_reducible assumption))))).mono ?_
      rintro e w22313 ⟨⟨A5, c5, A6, c6, rfl, hi1, hb1⟩, hb13⟩
      have Q13 : Kp w22312 w22313 := by repeat (first | exact Kp.refl _ | with_reducible assumption | with_reducible refine Kp.set ?_ _ _ ?_ | (dsimp only; omega) | with_reducible refine Kp.drew ?_ | with_reducible refine Kp.drewN ?_ _ | with_reducible refine Kp.al ?_ _ | with_reducible refine Kp.trans ?_ (by with_reducible assumption))
      have K13 := K12.trans Q13
      clear hb13 K12 Q13
      have HI1 := Lib.hid hi1; have HB1 := Lib.hid hb1; have HT5 := Lib.hid (HT4.out.below K13); have KC5 := Lib.hid (KC4.out.trans K13)
      clear hi1 hb1 K13 HS2 HS3
      go_wp2_with fail
      refine (syl_ok _ _ _).mono ?_
      rintro e w223131 ⟨rfl, hb1⟩
      have Q1 : Kp w22313 w223131 := by repeat (first | exact Kp.refl _ | with_reducible assumption | with_reducible refine Kp.set ?_ _ _ ?_ | (dsimp only; omega) | with_reducible refine Kp.drew ?_ | with_reducible refine Kp.drewN ?_ _ | with_reducible refine Kp.al ?_ _ | with_reducible refine Kp.trans ?_ (by with_reducible assumption))
      have K1 := Q1
      clear hb1 Q1
      go_wp2_with fail
      refine (syl_ok _ _ _).mono ?_
      rintro e w223132 ⟨rfl, hb2⟩
      have Q2 : Kp w223131 w223132 := by repeat (first | exact Kp.refl _ | with_reducible assumption | with_reducible refine Kp.set ?_ _ _ ?_ | (dsimp only; omega) | with_reducible refine Kp.drew ?_ | with_reducible refine Kp.drewN ?_ _ | with_reducible refine Kp.al ?_ _ | with_reducible refine Kp.trans ?_ (by with_reducible assumption))
      have K2 := K1.trans Q2
      clear hb2 K1 Q2
      go_wp2_with fail
      refine (mut_2 _ _ _ (HT5.out.below (by repeat (first | exact Kp.refl _ | with_reducible assumption | with_reducible refine Kp.set ?_ _ _ ?_ | (dsimp only; omega) | with_reducible refine Kp.drew ?_ | with_reducible refine Kp.drewN ?_ _ | with_reducible refine Kp.al ?_ _ | with_reducible refine Kp.trans ?_ (by with_reducible assumption)))) (sys_new _ _ [(4, 6), (5, 4)] 2 _ rfl rfl)).mono ?_
      rintro e w223133 ⟨⟨A7, c7, A8, c8, rfl, hi2, hb2⟩, hb3⟩
      have Q3 : Kp w223132 w223133 := by repeat (first | exact Kp.refl _ | with_reducible assumption | with_reducible refine Kp.set ?_ _ _ ?_ | (dsimp only; omega) | with_reducible refine Kp.drew ?_ | with_reducible refine Kp.drewN ?_ _ | with_reducible refine Kp.al ?_ _ | with_reducible refine Kp.trans ?_ (by with_reducible assumption))
      have K3 := K2.trans Q3
      clear hb3 K2 Q3
      have HI2 := Lib.hid hi2; have HB2 := Lib.hid hb2; have HT6 := Lib.hid (HT5.out.below K3); have KC6 := Lib.hid (KC5.out.trans K3)
      have HI3 := Lib.hid (HI1.out.kp K3); have HB3 := Lib.hid (HB1.out.kp K3)
      clear hi2 hb2 K3 HI1 HB1
      go_wp2_with fail
      refine (awake_ok _ (HT6.out.below (by repeat (first | exact Kp.refl _ | with_reducible assumption | with_reducible refine Kp.set ?_ _ _ ?_ | (dsimp only; omega) | with_reducible refine Kp.drew ?_ | with_reducible refine Kp.drewN ?_ _ | with_reducible refine Kp.al ?_ _ | with_reducible refine Kp.trans ?_ (by with_reducible assumption))))).mono ?_
      rintro e w2231331 ⟨rfl, hb1⟩
      have Q1 : Kp w223133 w2231331 := by repeat (first | exact Kp.refl _ | with_reducible assumption | with_reducible refine Kp.set ?_ _ _ ?_ | (dsimp only; omega) | with_reducible refine Kp.drew ?_ | with_reducible refine Kp.drewN ?_ _ | with_reducible refine Kp.al ?_ _ | with_reducible refine Kp.trans ?_ (by with_reducible assumption))
      have K1 := Q1
      clear hb1 Q1
      go_wp2_with fail
      refine (sints_t _ _ _ _ _ _ _ _ _ (HI3.out.kp (by repeat (first | exact Kp.refl _ | with_reducible assumption | with_reducible refine Kp.set ?_ _ _ ?_ | (dsimp only; omega) | with_reducible refine Kp.drew ?_ | with_reducible refine Kp.drewN ?_ _ | with_reducible refine Kp.al ?_ _ | with_reducible refine Kp.trans ?_ (by with_reducible assumption)))) (ints_new _ _ _) (by omega) (by omega) rfl).mono ?_
      rintro e w2231332 ⟨rfl, hb2⟩
      have Q2 : Kp w2231331 w2231332 := by repeat (first | exact Kp.refl _ | with_reducible assumption | with_reducible refine Kp.set ?_ _ _ ?_ | (dsimp only; omega) | with_reducible refine Kp.drew ?_ | with_reducible refine Kp.drewN ?_ _ | with_reducible refine Kp.al ?_ _ | with_reducible refine Kp.trans ?_ (by with_reducible assumption))
      have K2 := K1.trans Q2
      clear hb2 K1 Q2
      go_wp2_with fail
      refine (sbools_t _ _ _ _ _ _ _ _ _ (HB3.out.kp (by repeat (first | exact Kp.refl _ | with_reducible assumption | with_reducible refine Kp.set ?_ _ _ ?_ | (dsimp only; omega) | with_reducible refine Kp.drew ?_ | with_reducible refine Kp.drewN ?_ _ | with_reducible refine Kp.al ?_ _ | with_reducible refine Kp.trans ?_ (by with_reducible assumption)))) (bls_new _ _ _) (by omega) (by omega) rfl).mono ?_
      rintro e w2231333 ⟨rfl, hb3⟩
      have Q3 : Kp w2231332 w2231333 := by repeat (first | exact Kp.refl _ | with_reducible assumption | with_reducible refine Kp.set ?_ _ _ ?_ | (dsimp only; omega) | with_reducible refine Kp.drew ?_ | with_reducible refine Kp.drewN ?_ _ | with_reducible refine Kp.al ?_ _ | with_reducible refine Kp.trans ?_ (by with_reducible assumption))
      have K3 := K2.trans Q3
      clear hb3 K2 Q3
      go_wp2_with fail
      refine (sints_t _ _ _ _ _ _ _ _ _ (HI2.out.kp (by repeat (first | exact Kp.refl _ | with_reducible assumption | with_reducible refine Kp.set ?_ _ _ ?_ | (dsimp only; omega) | with_reducible refine Kp.drew ?_ | with_reducible refine Kp.drewN ?_ _ | with_reducible refine Kp.al ?_ _ | with_reducible refine Kp.trans ?_ (by with_reducible assumption)))) (ints_new _ _ _) (by omega) (by omega) rfl).mono ?_
      rintro e w2231334 ⟨rfl, hb4⟩
      have Q4 : Kp w2231333 w2231334 := by repeat (first | exact Kp.refl _ | with_reducible assumption | with_reducible refine Kp.set ?_ _ _ ?_ | (dsimp only; omega) | with_reducible refine Kp.drew ?_ | with_reducible refine Kp.drewN ?_ _ | with_reducible refine Kp.al ?_ _ | with_reducible refine Kp.trans ?_ (by with_reducible assumption))
      have K4 := K3.trans Q4
      clear hb4 K3 Q4
      go_wp2_with fail
      refine (sbools_t _ _ _ _ _ _ _ _ _ (HB2.out.kp (by repeat (first | exact Kp.refl _ | with_reducible assumption | with_reducible refine Kp.set ?_ _ _ ?_ | (dsimp only; omega) | with_reducible refine Kp.drew ?_ | with_reducible refine Kp.drewN ?_ _ | with_reducible refine Kp.al ?_ _ | with_reducible refine Kp.trans ?_ (by with_reducible assumption)))) (bls_new _ _ _) (by omega) (by omega) rfl).mono ?_
      rintro e w2231335 ⟨rfl, hb5⟩
      have Q5 : Kp w2231334 w2231335 := by repeat (first | exact Kp.refl _ | with_reducible assumption | with_reducible refine Kp.set ?_ _ _ ?_ | (dsimp only; omega) | with_reducible refine Kp.drew ?_ | with_reducible refine Kp.drewN ?_ _ | with_reducible refine Kp.al ?_ _ | with_reducible refine Kp.trans ?_ (by with_reducible assumption))
      have K5 := K4.trans Q5
      clear hb5 K4 Q5
      go_wp2_with fail
      go_ret
      exact ⟨rfl, KC6.out.trans (by repeat (first | exact Kp.refl _ | with_reducible assumption | with_reducible refine Kp.set ?_ _ _ ?_ | (dsimp only; omega) | with_reducible refine Kp.drew ?_ | with_reducible refine Kp.drewN ?_ _ | with_reducible refine Kp.al ?_ _ | with_reducible refine Kp.trans ?_ (by with_reducible assumption)))⟩
end Go.Proofs.YtaobndijldidfaaDoor
