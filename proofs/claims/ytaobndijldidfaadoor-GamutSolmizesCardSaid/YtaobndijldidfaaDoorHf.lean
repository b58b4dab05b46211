/- Contracts of the reference's in and Smooth. -/
import Derived.Test.YtaobndijldidfaaDoorHb
import Derived.Test.YtaobndijldidfaaDoorGe
set_option linter.unusedSimpArgs false
set_option linter.unusedVariables false
namespace Go.Proofs.YtaobndijldidfaaDoor
open Go.RowKit

theorem hex_yes (p : Pt) (h s : Nat) (h1 : 1 ≤ h) (h2 : h ≤ 7) (h3 : 1 ≤ s) (h4 : s ≤ 6) (e : pitS ((h : Int), (s : Int)) = p) : hasHex p h = true := by
  unfold hasHex
  rw [List.any_eq_true]
  refine ⟨((h : Int), (s : Int)), ?_, by simp⟩
  rw [← e]
  exact mem_wys (x := ((h : Int), (s : Int))) ⟨by dsimp only; omega, by dsimp only; omega, by dsimp only; omega, by dsimp only; omega⟩
theorem hex_no (p : Pt) (h : Nat) (hn : ∀ s : Nat, 1 ≤ s → s < 7 → pitS ((h : Int), (s : Int)) ≠ p) : hasHex p h = false := by
  unfold hasHex
  rw [List.any_eq_false]
  rintro ⟨a, b⟩ hx
  obtain ⟨⟨_, _, v3, v4⟩, e⟩ := wys_mem hx
  dsimp only at v3 v4
  intro he
  have he' : a = (h : Int) := by simpa using he
  subst he'
  obtain ⟨n, rfl⟩ := Int.eq_ofNat_of_zero_le (show 0 ≤ b by omega)
  exact hn n (by omega) (by omega) e

set_option maxRecDepth 100000 in
set_option maxHeartbeats 4000000 in
theorem rin_nat (x y z : Int) (h : Nat) (w : World) (hh1 : 1 ≤ h) (hh2 : h ≤ 7) :
    Calls Tryd.prog 61 #[.agg #[.int .i64 x, .int .i64 y, .int .i64 z], .int .i64 (h : Int)] w fun e w' => e = .returned (.bool (hasHex (x, y, z) h)) ∧ Kp w w' := by
  go_enter Tryd.func61, Tryd.ntmps61
  go_wp2_with fail
  obtain ⟨wb, ewb⟩ : ∃ wb : World, wb = w.alloc (.cells #[.int .i64 x, .int .i64 y, .int .i64 z] 36) := ⟨_, rfl⟩
  have KB : Kp w wb := by rw [ewb]; repeat (first | exact Kp.refl _ | with_reducible assumption | with_reducible refine Kp.set ?_ _ _ ?_ | (dsimp only; omega) | with_reducible refine Kp.drew ?_ | with_reducible refine Kp.drewN ?_ _ | with_reducible refine Kp.al ?_ _ | with_reducible refine Kp.trans ?_ (by with_reducible assumption))
  obtain ⟨g, eg⟩ : ∃ g, g = w.heap.size := ⟨_, rfl⟩
  have p0 : wb.cell? ⟨g, 0, none⟩ = some (.int .i64 x) := by rw [ewb, eg]; simp [go_sem]
  have p1 : wb.cell? ⟨g, 1, none⟩ = some (.int .i64 y) := by rw [ewb, eg]; simp [go_sem]
  have p2 : wb.cell? ⟨g, 2, none⟩ = some (.int .i64 z) := by rw [ewb, eg]; simp [go_sem]
  rw [← ewb]
  rw [← eg]
  have NN := Lib.hid (fun (w' : World) (k : Kp wb w') => And.intro (k.get p0) (And.intro (k.get p1) (k.get p2)))
  have HKB := Lib.hid KB
  clear ewb eg p0 p1 p2 KB
  go_loopw [5] (fun i wr => ∃ s : Nat, 1 ≤ s ∧ s ≤ 7 ∧ i = .int .i64 (s : Int) ∧ (∀ j : Nat, 1 ≤ j → j < s → pitS ((h : Int), (j : Int)) ≠ (x, y, z)) ∧ Kp wb wr) (fun i _ => 7 - (intOf i).toNat)
  case atStart => exact ⟨1, by omega, by omega, rfl, fun j h1 h2 => absurd h1 (by omega), Kp.refl _⟩
  case round =>
    obtain ⟨s, hs1, hs, rfl, hpre, hK⟩ := hrel
    by_cases hst : s ≤ 6
    · have hd2 : decide ((s : Int) ≤ 6) = true := by simp; omega
      obtain ⟨y0, y1, y2⟩ := NN.out _ hK
      have gl := cell_lt y0
      have N5 := Lib.hid (fun (w' : World) (k : Kp wr w') => And.intro (k.get y0) (And.intro (k.get y1) (k.get y2)))
      have ct := fun w => rmade_ok (h : Int) (s : Int) w ⟨by omega, by omega, by omega, by omega⟩
      have HKR := Lib.hid hK
      by_cases heq : pitS ((h : Int), (s : Int)) = (x, y, z)
      · have HY := Lib.hid (hex_yes (x, y, z) h s hh1 hh2 hs1 hst heq)
        rw [heq] at ct
        dsimp only at ct
        have CT := Lib.hid ct
        clear ct heq hpre hK
        go_wp2_with fail
        go_region_held3 (fun w' => w'.cell? ⟨g, 0, none⟩ = some (.int .i64 x) ∧ w'.cell? ⟨g, 1, none⟩ = some (.int .i64 y) ∧ w'.cell? ⟨g, 2, none⟩ = some (.int .i64 z))
          (exact N5.out _ (by repeat (first | exact Kp.refl _ | with_reducible assumption | with_reducible refine Kp.set ?_ _ _ ?_ | (dsimp only; omega) | with_reducible refine Kp.drew ?_ | with_reducible refine Kp.drewN ?_ _ | with_reducible refine Kp.al ?_ _ | with_reducible refine Kp.trans ?_ (by with_reducible assumption))))
          (first | (go_at_call 49; refine (CT.out _).mono ?_; rintro e wx ⟨rfl, hkx⟩; have KX : Kp wr wx := (by repeat (first | exact Kp.refl _ | with_reducible assumption | with_reducible refine Kp.set ?_ _ _ ?_ | (dsimp only; omega) | with_reducible refine Kp.drew ?_ | with_reducible refine Kp.drewN ?_ _ | with_reducible refine Kp.al ?_ _ | with_reducible refine Kp.trans ?_ (by with_reducible assumption))); clear hkx))
        go_wp2_with fail
        go_ret
        rw [HY.out]
        exact ⟨rfl, HKB.out.trans (HKR.out.trans (by assumption))⟩
      · have HNE := Lib.hid (show ∀ j : Nat, 1 ≤ j → j < s + 1 → pitS ((h : Int), (j : Int)) ≠ (x, y, z) from fun j h1 h2 => by
          by_cases hj : j < s
          · exact hpre j h1 hj
          · obtain rfl : j = s := by omega
            exact heq)
        obtain ⟨px, epx⟩ : ∃ px, px = (pitS ((h : Int), (s : Int))).1 := ⟨_, rfl⟩
        obtain ⟨py, epy⟩ : ∃ py, py = (pitS ((h : Int), (s : Int))).2.1 := ⟨_, rfl⟩
        obtain ⟨pz, epz⟩ : ∃ pz, pz = (pitS ((h : Int), (s : Int))).2.2 := ⟨_, rfl⟩
        rw [← epx, ← epy, ← epz] at ct
        have hne : ¬ px = x ∨ (x = px ∧ ¬ py = y) ∨ (x = px ∧ y = py ∧ ¬ pz = z) := by
          by_cases a1 : px = x
          · by_cases a2 : py = y
            · refine .inr (.inr ⟨a1.symm, a2.symm, fun a3 => heq ?_⟩)
              refine Prod.ext ?_ (Prod.ext ?_ ?_)
              · rw [← epx]; exact a1
              · rw [← epy]; exact a2
              · rw [← epz]; exact a3
            · exact .inr (.inl ⟨a1.symm, a2⟩)
          · exact .inl a1
        have CT := Lib.hid ct
        clear ct heq hpre hK epx epy epz
        go_wp2_with fail
        rcases hne with a | ⟨rfl, a⟩ | ⟨rfl, rfl, a⟩
        · have d5 : (px == x) = false := by simpa using a
          go_region_held3 (fun w' => w'.cell? ⟨g, 0, none⟩ = some (.int .i64 x) ∧ w'.cell? ⟨g, 1, none⟩ = some (.int .i64 y) ∧ w'.cell? ⟨g, 2, none⟩ = some (.int .i64 z))
          (exact N5.out _ (by repeat (first | exact Kp.refl _ | with_reducible assumption | with_reducible refine Kp.set ?_ _ _ ?_ | (dsimp only; omega) | with_reducible refine Kp.drew ?_ | with_reducible refine Kp.drewN ?_ _ | with_reducible refine Kp.al ?_ _ | with_reducible refine Kp.trans ?_ (by with_reducible assumption))))
          (first | (go_at_call 49; refine (CT.out _).mono ?_; rintro e wx ⟨rfl, hkx⟩; have KX : Kp wr wx := (by repeat (first | exact Kp.refl _ | with_reducible assumption | with_reducible refine Kp.set ?_ _ _ ?_ | (dsimp only; omega) | with_reducible refine Kp.drew ?_ | with_reducible refine Kp.drewN ?_ _ | with_reducible refine Kp.al ?_ _ | with_reducible refine Kp.trans ?_ (by with_reducible assumption))); clear hkx))
          go_wp2_with fail
          go_roundw
          case rel => exact ⟨s + 1, by omega, by omega, by go_num, HNE.out, HKR.out.trans (by assumption)⟩
          case measure => simp [intOf]; omega
        · have d5 : (py == y) = false := by simpa using a
          go_region_held3 (fun w' => w'.cell? ⟨g, 0, none⟩ = some (.int .i64 x) ∧ w'.cell? ⟨g, 1, none⟩ = some (.int .i64 y) ∧ w'.cell? ⟨g, 2, none⟩ = some (.int .i64 z))
          (exact N5.out _ (by repeat (first | exact Kp.refl _ | with_reducible assumption | with_reducible refine Kp.set ?_ _ _ ?_ | (dsimp only; omega) | with_reducible refine Kp.drew ?_ | with_reducible refine Kp.drewN ?_ _ | with_reducible refine Kp.al ?_ _ | with_reducible refine Kp.trans ?_ (by with_reducible assumption))))
          (first | (go_at_call 49; refine (CT.out _).mono ?_; rintro e wx ⟨rfl, hkx⟩; have KX : Kp wr wx := (by repeat (first | exact Kp.refl _ | with_reducible assumption | with_reducible refine Kp.set ?_ _ _ ?_ | (dsimp only; omega) | with_reducible refine Kp.drew ?_ | with_reducible refine Kp.drewN ?_ _ | with_reducible refine Kp.al ?_ _ | with_reducible refine Kp.trans ?_ (by with_reducible assumption))); clear hkx))
          go_wp2_with fail
          go_roundw
          case rel => exact ⟨s + 1, by omega, by omega, by go_num, HNE.out, HKR.out.trans (by assumption)⟩
          case measure => simp [intOf]; omega
        · have d5 : (pz == z) = false := by simpa using a
          go_region_held3 (fun w' => w'.cell? ⟨g, 0, none⟩ = some (.int .i64 x) ∧ w'.cell? ⟨g, 1, none⟩ = some (.int .i64 y) ∧ w'.cell? ⟨g, 2, none⟩ = some (.int .i64 z))
          (exact N5.out _ (by repeat (first | exact Kp.refl _ | with_reducible assumption | with_reducible refine Kp.set ?_ _ _ ?_ | (dsimp only; omega) | with_reducible refine Kp.drew ?_ | with_reducible refine Kp.drewN ?_ _ | with_reducible refine Kp.al ?_ _ | with_reducible refine Kp.trans ?_ (by with_reducible assumption))))
          (first | (go_at_call 49; refine (CT.out _).mono ?_; rintro e wx ⟨rfl, hkx⟩; have KX : Kp wr wx := (by repeat (first | exact Kp.refl _ | with_reducible assumption | with_reducible refine Kp.set ?_ _ _ ?_ | (dsimp only; omega) | with_reducible refine Kp.drew ?_ | with_reducible refine Kp.drewN ?_ _ | with_reducible refine Kp.al ?_ _ | with_reducible refine Kp.trans ?_ (by with_reducible assumption))); clear hkx))
          go_wp2_with fail
          go_roundw
          case rel => exact ⟨s + 1, by omega, by omega, by go_num, HNE.out, HKR.out.trans (by assumption)⟩
          case measure => simp [intOf]; omega
    · obtain rfl : s = 7 := by omega
      have HN := Lib.hid (hex_no (x, y, z) h hpre)
      clear hpre
      go_wp2_with fail
      go_ret
      rw [HN.out]
      exact ⟨rfl, HKB.out.trans hK⟩
theorem rin_ok (p : Pt) (h : Int) (w : World) (h1 : 1 ≤ h ∧ h ≤ 7) :
    Calls Tryd.prog 61 #[.agg #[.int .i64 p.1, .int .i64 p.2.1, .int .i64 p.2.2], .int .i64 h] w fun e w' => e = .returned (.bool (hasHex p h)) ∧ Kp w w' := by
  obtain ⟨m, rfl⟩ := Int.eq_ofNat_of_zero_le (show 0 ≤ h by omega)
  exact rin_nat p.1 p.2.1 p.2.2 m w (by omega) (by omega)

set_option maxRecDepth 100000 in
set_option maxHeartbeats 4000000 in
theorem rsmooth_ok (a b c d : Int) (w : World) (ha : Vs a b) (hc : Vs c d) :
    Calls Tryd.prog 54 #[.agg #[.int .i64 a, .int .i64 b], .agg #[.int .i64 c, .int .i64 d]] w fun e w' => e = .returned (.bool (smB (a, b) (c, d))) ∧ Kp w w' := by
  have hsm : smB (a, b) (c, d) = (hasHex (pitS (c, d)) a || hasHex (pitS (a, b)) c) := rfl
  rw [hsm]
  have CM := Lib.hid (fun (w : World) (x : Sy) (h : Vs x.1 x.2) => rmade_ok x.1 x.2 w h)
  have CI := Lib.hid (fun (w : World) (p : Pt) (h : Int) (h1 : 1 ≤ h ∧ h ≤ 7) => rin_ok p h w h1)
  have HA := Lib.hid (show 1 ≤ a ∧ a ≤ 7 from ⟨ha.1, ha.2.1⟩)
  have HC := Lib.hid (show 1 ≤ c ∧ c ≤ 7 from ⟨hc.1, hc.2.1⟩)
  have CMA := CM.out
  have cma := fun w => rmade_ok a b w ha
  have cmc := fun w => rmade_ok c d w hc
  have ci1 := fun w => rin_ok (pitS (c, d)) a w HA.out
  have ci2 := fun w => rin_ok (pitS (a, b)) c w HC.out
  obtain ⟨p1, ep1⟩ : ∃ p, p = pitS (a, b) := ⟨_, rfl⟩
  obtain ⟨p2, ep2⟩ : ∃ p, p = pitS (c, d) := ⟨_, rfl⟩
  rw [← ep1] at cma ci2 ⊢
  rw [← ep2] at cmc ci1 ⊢
  obtain ⟨x1, ex1⟩ : ∃ x, x = p1.1 := ⟨_, rfl⟩
  obtain ⟨y1, ey1⟩ : ∃ x, x = p1.2.1 := ⟨_, rfl⟩
  obtain ⟨z1, ez1⟩ : ∃ x, x = p1.2.2 := ⟨_, rfl⟩
  obtain ⟨x2, ex2⟩ : ∃ x, x = p2.1 := ⟨_, rfl⟩
  obtain ⟨y2, ey2⟩ : ∃ x, x = p2.2.1 := ⟨_, rfl⟩
  obtain ⟨z2, ez2⟩ : ∃ x, x = p2.2.2 := ⟨_, rfl⟩
  rw [← ex1, ← ey1, ← ez1] at cma ci2
  rw [← ex2, ← ey2, ← ez2] at cmc ci1
  obtain ⟨q1, eq1⟩ : ∃ q, q = hasHex p2 a := ⟨_, rfl⟩
  obtain ⟨q2, eq2⟩ : ∃ q, q = hasHex p1 c := ⟨_, rfl⟩
  rw [← eq1] at ci1 ⊢
  rw [← eq2] at ci2 ⊢
  have CA := Lib.hid cma; have CC := Lib.hid cmc; have I1 := Lib.hid ci1; have I2 := Lib.hid ci2
  clear CM CI CMA cma cmc ci1 ci2 ep1 ep2 ex1 ey1 ez1 ex2 ey2 ez2 eq1 eq2 ha hc hsm HA HC
  go_enter Tryd.func54, Tryd.ntmps54
  go_wp2_with fail
  obtain ⟨wb, ewb⟩ : ∃ wb : World, wb = (w.alloc (.cells #[.int .i64 a, .int .i64 b] 34)).alloc (.cells #[.int .i64 c, .int .i64 d] 34) := ⟨_, rfl⟩
  have KB : Kp w wb := by rw [ewb]; repeat (first | exact Kp.refl _ | with_reducible assumption | with_reducible refine Kp.set ?_ _ _ ?_ | (dsimp only; omega) | with_reducible refine Kp.drew ?_ | with_reducible refine Kp.drewN ?_ _ | with_reducible refine Kp.al ?_ _ | with_reducible refine Kp.trans ?_ (by with_reducible assumption))
  obtain ⟨g, eg⟩ : ∃ g, g = w.heap.size := ⟨_, rfl⟩
  have p0 : wb.cell? ⟨g, 0, none⟩ = some (.int .i64 a) := by rw [ewb, eg]; simp [go_sem]
  have p1' : wb.cell? ⟨g, 1, none⟩ = some (.int .i64 b) := by rw [ewb, eg]; simp [go_sem]
  have p2' : wb.cell? ⟨g + 1, 0, none⟩ = some (.int .i64 c) := by rw [ewb, eg]; simp [go_sem]
  have p3 : wb.cell? ⟨g + 1, 1, none⟩ = some (.int .i64 d) := by rw [ewb, eg]; simp [go_sem]
  rw [← ewb]
  rw [← eg]
  have NN := Lib.hid (fun (w' : World) (k : Kp wb w') => And.intro (k.get p0) (And.intro (k.get p1') (And.intro (k.get p2') (k.get p3))))
  have HKB := Lib.hid KB
  have gl := cell_lt p3
  clear ewb eg KB
  cases q1 with
  | true =>
    refine wp_region_held_drew (S := (fun w' => w'.cell? ⟨g, 0, none⟩ = some (.int .i64 a) ∧ w'.cell? ⟨g, 1, none⟩ = some (.int .i64 b) ∧ w'.cell? ⟨g + 1, 0, none⟩ = some (.int .i64 c) ∧ w'.cell? ⟨g + 1, 1, none⟩ = some (.int .i64 d))) (by kernel_rfl) (NN.out _ (by repeat (first | exact Kp.refl _ | with_reducible assumption | with_reducible refine Kp.set ?_ _ _ ?_ | (dsimp only; omega) | with_reducible refine Kp.drew ?_ | with_reducible refine Kp.drewN ?_ _ | with_reducible refine Kp.al ?_ _ | with_reducible refine Kp.trans ?_ (by with_reducible assumption)))) (fun hHeld => ?_)
    refine wpAnyH_take (i := 0) (v := ?va0) rfl (by kernel_rfl) (by kernel_rfl) (by kernel_rfl) (fun _ _ _ h => h) (Or.inl ⟨by rfl, ?ya0⟩) hHeld ?ra0
    case ya0 =>
      intro w hSw
      (try dsimp only at hSw)
      go_simp
      try with_reducible rfl
    try simp only [Act.put, List.getElem_toArray, List.getElem_cons_zero, List.getElem_cons_succ, List.setIfInBounds_toArray, List.set_cons_zero, List.set_cons_succ]
    refine wpAnyH_take (i := 2) (v := ?va2) rfl (by kernel_rfl) (by kernel_rfl) (by kernel_rfl) (fun _ _ _ h => h) (Or.inl ⟨by rfl, ?ya2⟩) hHeld ?ra2
    case ya2 =>
      intro w hSw
      (try dsimp only at hSw)
      go_simp
      try with_reducible rfl
    try simp only [Act.put, List.getElem_toArray, List.getElem_cons_zero, List.getElem_cons_succ, List.setIfInBounds_toArray, List.set_cons_zero, List.set_cons_succ]
    refine wpAnyH_take (i := 3) (v := ?va3) rfl (by kernel_rfl) (by kernel_rfl) (by kernel_rfl) (fun _ _ _ h => h) (Or.inl ⟨by rfl, ?ya3⟩) hHeld ?ra3
    case ya3 =>
      intro w hSw
      (try dsimp only at hSw)
      go_simp
      try with_reducible rfl
    try simp only [Act.put, List.getElem_toArray, List.getElem_cons_zero, List.getElem_cons_succ, List.setIfInBounds_toArray, List.set_cons_zero, List.set_cons_succ]
    refine wpAnyH_ready (rs := [1]) (by kernel_rfl) (by simp) ?_
    refine AllReadyH.cons rfl (fun K hK => ?sa1) ?ma1
    case sa1 =>
      try simp only [List.getElem_toArray, List.getElem_cons_zero, List.getElem_cons_succ]
      go_simp
      refine (CC.out _).mono ?_
      rintro e wx ⟨rfl, hkx⟩
      have KX : Kp wb wx := by repeat (first | exact Kp.refl _ | with_reducible assumption | with_reducible refine Kp.set ?_ _ _ ?_ | (dsimp only; omega) | with_reducible refine Kp.drew ?_ | with_reducible refine Kp.drewN ?_ _ | with_reducible refine Kp.al ?_ _ | with_reducible refine Kp.trans ?_ (by with_reducible assumption))
      clear hkx
      go_wp2_with fail
      refine hK.out _ _ (NN.out _ (by repeat (first | exact Kp.refl _ | with_reducible assumption | with_reducible refine Kp.set ?_ _ _ ?_ | (dsimp only; omega) | with_reducible refine Kp.drew ?_ | with_reducible refine Kp.drewN ?_ _ | with_reducible refine Kp.al ?_ _ | with_reducible refine Kp.trans ?_ (by with_reducible assumption)))) (fun hHeld => ?_)
      clear hK K
      try simp only [Act.put, List.getElem_toArray, List.getElem_cons_zero, List.getElem_cons_succ, List.setIfInBounds_toArray, List.set_cons_zero, List.set_cons_succ]
      refine wpAnyH_ready (rs := [4]) (by kernel_rfl) (by simp) ?_
      refine AllReadyH.cons rfl (fun K hK => ?sa2) ?ma2
      case sa2 =>
        try simp only [List.getElem_toArray, List.getElem_cons_zero, List.getElem_cons_succ]
        go_simp
        refine (I1.out _).mono ?_
        rintro e wx ⟨rfl, hkx⟩
        have KX : Kp wb wx := by repeat (first | exact Kp.refl _ | with_reducible assumption | with_reducible refine Kp.set ?_ _ _ ?_ | (dsimp only; omega) | with_reducible refine Kp.drew ?_ | with_reducible refine Kp.drewN ?_ _ | with_reducible refine Kp.al ?_ _ | with_reducible refine Kp.trans ?_ (by with_reducible assumption))
        clear hkx
        go_wp2_with fail
        refine hK.out _ _ (NN.out _ (by repeat (first | exact Kp.refl _ | with_reducible assumption | with_reducible refine Kp.set ?_ _ _ ?_ | (dsimp only; omega) | with_reducible refine Kp.drew ?_ | with_reducible refine Kp.drewN ?_ _ | with_reducible refine Kp.al ?_ _ | with_reducible refine Kp.trans ?_ (by with_reducible assumption)))) (fun hHeld => ?_)
        clear hK K
        try simp only [Act.put, List.getElem_toArray, List.getElem_cons_zero, List.getElem_cons_succ, List.setIfInBounds_toArray, List.set_cons_zero, List.set_cons_succ]
        refine wpAnyH_take (i := 5) (v := ?va5) rfl (by kernel_rfl) (by kernel_rfl) (by kernel_rfl) (fun _ _ _ h => h) (Or.inl ⟨by rfl, ?ya5⟩) hHeld ?ra5
        case ya5 =>
          intro w hSw
          (try dsimp only at hSw)
          go_simp
          try with_reducible rfl
        try simp only [Act.put, List.getElem_toArray, List.getElem_cons_zero, List.getElem_cons_succ, List.setIfInBounds_toArray, List.set_cons_zero, List.set_cons_succ]
        refine wpAnyH_take (i := 6) (v := undef) rfl (by kernel_rfl) (by kernel_rfl) (by kernel_rfl) (fun _ _ _ h => h) (Or.inr ⟨by rfl, rfl⟩) hHeld ?qa6
        try simp only [Act.put, List.getElem_toArray, List.getElem_cons_zero, List.getElem_cons_succ, List.setIfInBounds_toArray, List.set_cons_zero, List.set_cons_succ]
        refine wpAnyH_take (i := 8) (v := undef) rfl (by kernel_rfl) (by kernel_rfl) (by kernel_rfl) (fun _ _ _ h => h) (Or.inr ⟨by rfl, rfl⟩) hHeld ?qa8
        try simp only [Act.put, List.getElem_toArray, List.getElem_cons_zero, List.getElem_cons_succ, List.setIfInBounds_toArray, List.set_cons_zero, List.set_cons_succ]
        refine wpAnyH_take (i := 9) (v := undef) rfl (by kernel_rfl) (by kernel_rfl) (by kernel_rfl) (fun _ _ _ h => h) (Or.inr ⟨by rfl, rfl⟩) hHeld ?qa9
        try simp only [Act.put, List.getElem_toArray, List.getElem_cons_zero, List.getElem_cons_succ, List.setIfInBounds_toArray, List.set_cons_zero, List.set_cons_succ]
        refine wpAnyH_take (i := 7) (v := undef) rfl (by kernel_rfl) (by kernel_rfl) (by kernel_rfl) (fun _ _ _ h => h) (Or.inr ⟨by rfl, rfl⟩) hHeld ?qa7
        try simp only [Act.put, List.getElem_toArray, List.getElem_cons_zero, List.getElem_cons_succ, List.setIfInBounds_toArray, List.set_cons_zero, List.set_cons_succ]
        refine wpAnyH_take (i := 10) (v := undef) rfl (by kernel_rfl) (by kernel_rfl) (by kernel_rfl) (fun _ _ _ h => h) (Or.inr ⟨by rfl, rfl⟩) hHeld ?qa10
        try simp only [Act.put, List.getElem_toArray, List.getElem_cons_zero, List.getElem_cons_succ, List.setIfInBounds_toArray, List.set_cons_zero, List.set_cons_succ]
        refine wpAnyH_take (i := 11) (v := ?va11) rfl (by kernel_rfl) (by kernel_rfl) (by kernel_rfl) (fun _ _ _ h => h) (Or.inl ⟨by rfl, ?ya11⟩) hHeld ?ra11
        case ya11 =>
          intro w hSw
          (try dsimp only at hSw)
          go_simp
          try with_reducible rfl
        try simp only [Act.put, List.getElem_toArray, List.getElem_cons_zero, List.getElem_cons_succ, List.setIfInBounds_toArray, List.set_cons_zero, List.set_cons_succ]
        refine wpAnyH_ready (rs := [12]) (by kernel_rfl) (by simp) ?_
        refine AllReadyH.cons rfl (fun K hK => ?sa3) ?ma3
        case sa3 =>
          try simp only [List.getElem_toArray, List.getElem_cons_zero, List.getElem_cons_succ]
          go_simp
          refine hK.out _ _ (NN.out _ (by repeat (first | exact Kp.refl _ | with_reducible assumption | with_reducible refine Kp.set ?_ _ _ ?_ | (dsimp only; omega) | with_reducible refine Kp.drew ?_ | with_reducible refine Kp.drewN ?_ _ | with_reducible refine Kp.al ?_ _ | with_reducible refine Kp.trans ?_ (by with_reducible assumption)))) (fun hHeld => ?_)
          clear hK K
          try simp only [Act.put, List.getElem_toArray, List.getElem_cons_zero, List.getElem_cons_succ, List.setIfInBounds_toArray, List.set_cons_zero, List.set_cons_succ]
          refine wpAnyH_done (by kernel_rfl) ?_ _
          go_wp2_with fail
          go_ret
          exact ⟨rfl, HKB.out.trans (by assumption)⟩
        exact AllReadyH.nil
      exact AllReadyH.nil
    exact AllReadyH.nil
  | false =>
    refine wp_region_held_drew (S := (fun w' => w'.cell? ⟨g, 0, none⟩ = some (.int .i64 a) ∧ w'.cell? ⟨g, 1, none⟩ = some (.int .i64 b) ∧ w'.cell? ⟨g + 1, 0, none⟩ = some (.int .i64 c) ∧ w'.cell? ⟨g + 1, 1, none⟩ = some (.int .i64 d))) (by kernel_rfl) (NN.out _ (by repeat (first | exact Kp.refl _ | with_reducible assumption | with_reducible refine Kp.set ?_ _ _ ?_ | (dsimp only; omega) | with_reducible refine Kp.drew ?_ | with_reducible refine Kp.drewN ?_ _ | with_reducible refine Kp.al ?_ _ | with_reducible refine Kp.trans ?_ (by with_reducible assumption)))) (fun hHeld => ?_)
    refine wpAnyH_take (i := 0) (v := ?vb0) rfl (by kernel_rfl) (by kernel_rfl) (by kernel_rfl) (fun _ _ _ h => h) (Or.inl ⟨by rfl, ?yb0⟩) hHeld ?rb0
    case yb0 =>
      intro w hSw
      (try dsimp only at hSw)
      go_simp
      try with_reducible rfl
    try simp only [Act.put, List.getElem_toArray, List.getElem_cons_zero, List.getElem_cons_succ, List.setIfInBounds_toArray, List.set_cons_zero, List.set_cons_succ]
    refine wpAnyH_take (i := 2) (v := ?vb2) rfl (by kernel_rfl) (by kernel_rfl) (by kernel_rfl) (fun _ _ _ h => h) (Or.inl ⟨by rfl, ?yb2⟩) hHeld ?rb2
    case yb2 =>
      intro w hSw
      (try dsimp only at hSw)
      go_simp
      try with_reducible rfl
    try simp only [Act.put, List.getElem_toArray, List.getElem_cons_zero, List.getElem_cons_succ, List.setIfInBounds_toArray, List.set_cons_zero, List.set_cons_succ]
    refine wpAnyH_take (i := 3) (v := ?vb3) rfl (by kernel_rfl) (by kernel_rfl) (by kernel_rfl) (fun _ _ _ h => h) (Or.inl ⟨by rfl, ?yb3⟩) hHeld ?rb3
    case yb3 =>
      intro w hSw
      (try dsimp only at hSw)
      go_simp
      try with_reducible rfl
    try simp only [Act.put, List.getElem_toArray, List.getElem_cons_zero, List.getElem_cons_succ, List.setIfInBounds_toArray, List.set_cons_zero, List.set_cons_succ]
    refine wpAnyH_ready (rs := [1]) (by kernel_rfl) (by simp) ?_
    refine AllReadyH.cons rfl (fun K hK => ?sb1) ?mb1
    case sb1 =>
      try simp only [List.getElem_toArray, List.getElem_cons_zero, List.getElem_cons_succ]
      go_simp
      refine (CC.out _).mono ?_
      rintro e wx ⟨rfl, hkx⟩
      have KX : Kp wb wx := by repeat (first | exact Kp.refl _ | with_reducible assumption | with_reducible refine Kp.set ?_ _ _ ?_ | (dsimp only; omega) | with_reducible refine Kp.drew ?_ | with_reducible refine Kp.drewN ?_ _ | with_reducible refine Kp.al ?_ _ | with_reducible refine Kp.trans ?_ (by with_reducible assumption))
      clear hkx
      go_wp2_with fail
      refine hK.out _ _ (NN.out _ (by repeat (first | exact Kp.refl _ | with_reducible assumption | with_reducible refine Kp.set ?_ _ _ ?_ | (dsimp only; omega) | with_reducible refine Kp.drew ?_ | with_reducible refine Kp.drewN ?_ _ | with_reducible refine Kp.al ?_ _ | with_reducible refine Kp.trans ?_ (by with_reducible assumption)))) (fun hHeld => ?_)
      clear hK K
      try simp only [Act.put, List.getElem_toArray, List.getElem_cons_zero, List.getElem_cons_succ, List.setIfInBounds_toArray, List.set_cons_zero, List.set_cons_succ]
      refine wpAnyH_ready (rs := [4]) (by kernel_rfl) (by simp) ?_
      refine AllReadyH.cons rfl (fun K hK => ?sb2) ?mb2
      case sb2 =>
        try simp only [List.getElem_toArray, List.getElem_cons_zero, List.getElem_cons_succ]
        go_simp
        refine (I1.out _).mono ?_
        rintro e wx ⟨rfl, hkx⟩
        have KX : Kp wb wx := by repeat (first | exact Kp.refl _ | with_reducible assumption | with_reducible refine Kp.set ?_ _ _ ?_ | (dsimp only; omega) | with_reducible refine Kp.drew ?_ | with_reducible refine Kp.drewN ?_ _ | with_reducible refine Kp.al ?_ _ | with_reducible refine Kp.trans ?_ (by with_reducible assumption))
        clear hkx
        go_wp2_with fail
        refine hK.out _ _ (NN.out _ (by repeat (first | exact Kp.refl _ | with_reducible assumption | with_reducible refine Kp.set ?_ _ _ ?_ | (dsimp only; omega) | with_reducible refine Kp.drew ?_ | with_reducible refine Kp.drewN ?_ _ | with_reducible refine Kp.al ?_ _ | with_reducible refine Kp.trans ?_ (by with_reducible assumption)))) (fun hHeld => ?_)
        clear hK K
        try simp only [Act.put, List.getElem_toArray, List.getElem_cons_zero, List.getElem_cons_succ, List.setIfInBounds_toArray, List.set_cons_zero, List.set_cons_succ]
        refine wpAnyH_take (i := 5) (v := ?vb5) rfl (by kernel_rfl) (by kernel_rfl) (by kernel_rfl) (fun _ _ _ h => h) (Or.inl ⟨by rfl, ?yb5⟩) hHeld ?rb5
        case yb5 =>
          intro w hSw
          (try dsimp only at hSw)
          go_simp
          try with_reducible rfl
        try simp only [Act.put, List.getElem_toArray, List.getElem_cons_zero, List.getElem_cons_succ, List.setIfInBounds_toArray, List.set_cons_zero, List.set_cons_succ]
        refine wpAnyH_take (i := 6) (v := ?vb6) rfl (by kernel_rfl) (by kernel_rfl) (by kernel_rfl) (fun _ _ _ h => h) (Or.inl ⟨by rfl, ?yb6⟩) hHeld ?rb6
        case yb6 =>
          intro w hSw
          (try dsimp only at hSw)
          go_simp
          try with_reducible rfl
        try simp only [Act.put, List.getElem_toArray, List.getElem_cons_zero, List.getElem_cons_succ, List.setIfInBounds_toArray, List.set_cons_zero, List.set_cons_succ]
        refine wpAnyH_take (i := 8) (v := ?vb8) rfl (by kernel_rfl) (by kernel_rfl) (by kernel_rfl) (fun _ _ _ h => h) (Or.inl ⟨by rfl, ?yb8⟩) hHeld ?rb8
        case yb8 =>
          intro w hSw
          (try dsimp only at hSw)
          go_simp
          try with_reducible rfl
        try simp only [Act.put, List.getElem_toArray, List.getElem_cons_zero, List.getElem_cons_succ, List.setIfInBounds_toArray, List.set_cons_zero, List.set_cons_succ]
        refine wpAnyH_take (i := 9) (v := ?vb9) rfl (by kernel_rfl) (by kernel_rfl) (by kernel_rfl) (fun _ _ _ h => h) (Or.inl ⟨by rfl, ?yb9⟩) hHeld ?rb9
        case yb9 =>
          intro w hSw
          (try dsimp only at hSw)
          go_simp
          try with_reducible rfl
        try simp only [Act.put, List.getElem_toArray, List.getElem_cons_zero, List.getElem_cons_succ, List.setIfInBounds_toArray, List.set_cons_zero, List.set_cons_succ]
        refine wpAnyH_ready (rs := [7]) (by kernel_rfl) (by simp) ?_
        refine AllReadyH.cons rfl (fun K hK => ?sb3) ?mb3
        case sb3 =>
          try simp only [List.getElem_toArray, List.getElem_cons_zero, List.getElem_cons_succ]
          go_simp
          refine (CA.out _).mono ?_
          rintro e wx ⟨rfl, hkx⟩
          have KX : Kp wb wx := by repeat (first | exact Kp.refl _ | with_reducible assumption | with_reducible refine Kp.set ?_ _ _ ?_ | (dsimp only; omega) | with_reducible refine Kp.drew ?_ | with_reducible refine Kp.drewN ?_ _ | with_reducible refine Kp.al ?_ _ | with_reducible refine Kp.trans ?_ (by with_reducible assumption))
          clear hkx
          go_wp2_with fail
          refine hK.out _ _ (NN.out _ (by repeat (first | exact Kp.refl _ | with_reducible assumption | with_reducible refine Kp.set ?_ _ _ ?_ | (dsimp only; omega) | with_reducible refine Kp.drew ?_ | with_reducible refine Kp.drewN ?_ _ | with_reducible refine Kp.al ?_ _ | with_reducible refine Kp.trans ?_ (by with_reducible assumption)))) (fun hHeld => ?_)
          clear hK K
          try simp only [Act.put, List.getElem_toArray, List.getElem_cons_zero, List.getElem_cons_succ, List.setIfInBounds_toArray, List.set_cons_zero, List.set_cons_succ]
          refine wpAnyH_ready (rs := [10]) (by kernel_rfl) (by simp) ?_
          refine AllReadyH.cons rfl (fun K hK => ?sb4) ?mb4
          case sb4 =>
            try simp only [List.getElem_toArray, List.getElem_cons_zero, List.getElem_cons_succ]
            go_simp
            refine (I2.out _).mono ?_
            rintro e wx ⟨rfl, hkx⟩
            have KX : Kp wb wx := by repeat (first | exact Kp.refl _ | with_reducible assumption | with_reducible refine Kp.set ?_ _ _ ?_ | (dsimp only; omega) | with_reducible refine Kp.drew ?_ | with_reducible refine Kp.drewN ?_ _ | with_reducible refine Kp.al ?_ _ | with_reducible refine Kp.trans ?_ (by with_reducible assumption))
            clear hkx
            go_wp2_with fail
            refine hK.out _ _ (NN.out _ (by repeat (first | exact Kp.refl _ | with_reducible assumption | with_reducible refine Kp.set ?_ _ _ ?_ | (dsimp only; omega) | with_reducible refine Kp.drew ?_ | with_reducible refine Kp.drewN ?_ _ | with_reducible refine Kp.al ?_ _ | with_reducible refine Kp.trans ?_ (by with_reducible assumption)))) (fun hHeld => ?_)
            clear hK K
            try simp only [Act.put, List.getElem_toArray, List.getElem_cons_zero, List.getElem_cons_succ, List.setIfInBounds_toArray, List.set_cons_zero, List.set_cons_succ]
            refine wpAnyH_take (i := 11) (v := ?vb11) rfl (by kernel_rfl) (by kernel_rfl) (by kernel_rfl) (fun _ _ _ h => h) (Or.inl ⟨by rfl, ?yb11⟩) hHeld ?rb11
            case yb11 =>
              intro w hSw
              (try dsimp only at hSw)
              go_simp
              try with_reducible rfl
            try simp only [Act.put, List.getElem_toArray, List.getElem_cons_zero, List.getElem_cons_succ, List.setIfInBounds_toArray, List.set_cons_zero, List.set_cons_succ]
            refine wpAnyH_ready (rs := [12]) (by kernel_rfl) (by simp) ?_
            refine AllReadyH.cons rfl (fun K hK => ?sb5) ?mb5
            case sb5 =>
              try simp only [List.getElem_toArray, List.getElem_cons_zero, List.getElem_cons_succ]
              go_simp
              refine hK.out _ _ (NN.out _ (by repeat (first | exact Kp.refl _ | with_reducible assumption | with_reducible refine Kp.set ?_ _ _ ?_ | (dsimp only; omega) | with_reducible refine Kp.drew ?_ | with_reducible refine Kp.drewN ?_ _ | with_reducible refine Kp.al ?_ _ | with_reducible refine Kp.trans ?_ (by with_reducible assumption)))) (fun hHeld => ?_)
              clear hK K
              try simp only [Act.put, List.getElem_toArray, List.getElem_cons_zero, List.getElem_cons_succ, List.setIfInBounds_toArray, List.set_cons_zero, List.set_cons_succ]
              refine wpAnyH_done (by kernel_rfl) ?_ _
              go_wp2_with fail
              go_ret
              exact ⟨rfl, HKB.out.trans (by assumption)⟩
            exact AllReadyH.nil
          exact AllReadyH.nil
        exact AllReadyH.nil
      exact AllReadyH.nil
    exact AllReadyH.nil
end Go.Proofs.YtaobndijldidfaaDoor
