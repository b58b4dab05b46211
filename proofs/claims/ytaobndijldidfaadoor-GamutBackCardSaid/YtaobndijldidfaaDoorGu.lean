/- GamutBack: the plain law and the walk. -/
import Derived.Test.YtaobndijldidfaaDoorGs
set_option linter.unusedSimpArgs false
set_option linter.unusedVariables false
namespace Go.Proofs.YtaobndijldidfaaDoor
open Go.RowKit

/-- How many ways stand ahead of a syllable. -/
def cnt (L : List Sy) (h s : Nat) : Nat := (L.filter fun x => decide (x.1 < (h : Int) ∨ (x.1 = (h : Int) ∧ x.2 < (s : Int)))).length
def bp (m : Nat) : Pt := (((m % 7 : Nat) : Int), ((m / 7 % 9 : Nat) : Int), ((m / 63 : Nat) : Int) - 1)
def backOk (p : Pt) (L : List Sy) : Bool :=
  decide (L.length ≤ 3) && decide (cnt L 1 1 = 0) && decide (cnt L 8 1 = L.length) &&
  (List.range 7).all fun h => decide (cnt L (h + 1) 7 = cnt L (h + 2) 1) && (List.range 6).all fun s =>
    if pitS (((h + 1 : Nat) : Int), ((s + 1 : Nat) : Int)) = p then decide (cnt L (h + 1) (s + 1) < L.length ∧ syAt L (cnt L (h + 1) (s + 1)) = (((h + 1 : Nat) : Int), ((s + 1 : Nat) : Int)) ∧ cnt L (h + 1) (s + 2) = cnt L (h + 1) (s + 1) + 1)
    else decide (cnt L (h + 1) (s + 2) = cnt L (h + 1) (s + 1))
theorem back_all : ((List.range 189).all fun m => backOk (bp m) (wys (bp m))) = true := by decide +kernel
structure BackF (p : Pt) (L : List Sy) : Prop where
  few : L.length ≤ 3
  first : cnt L 1 1 = 0
  last : cnt L 8 1 = L.length
  turn : ∀ h, 1 ≤ h → h ≤ 7 → cnt L h 7 = cnt L (h + 1) 1
  yes : ∀ h s : Nat, 1 ≤ h → h ≤ 7 → 1 ≤ s → s ≤ 6 → pitS ((h : Int), (s : Int)) = p → cnt L h s < L.length ∧ syAt L (cnt L h s) = ((h : Int), (s : Int)) ∧ cnt L h (s + 1) = cnt L h s + 1
  no : ∀ h s : Nat, 1 ≤ h → h ≤ 7 → 1 ≤ s → s ≤ 6 → pitS ((h : Int), (s : Int)) ≠ p → cnt L h (s + 1) = cnt L h s
theorem back_f (m : Nat) (hm : m < 189) : BackF (bp m) (wys (bp m)) := by
  have h := List.all_eq_true.1 back_all m (List.mem_range.2 hm)
  unfold backOk at h
  simp only [Bool.and_eq_true, decide_eq_true_eq, List.all_eq_true, List.mem_range] at h
  obtain ⟨⟨⟨h1, h2⟩, h3⟩, h4⟩ := h
  refine ⟨h1, h2, h3, fun h a b => ?_, fun h s a b c d e => ?_, fun h s a b c d e => ?_⟩
  · have := (h4 (h - 1) (by omega)).1
    rwa [show h - 1 + 1 = h by omega, show h - 1 + 2 = h + 1 by omega] at this
  · have := (h4 (h - 1) (by omega)).2 (s - 1) (by omega)
    rw [show h - 1 + 1 = h by omega, show s - 1 + 1 = s by omega, show s - 1 + 2 = s + 1 by omega, if_pos e] at this
    exact of_decide_eq_true this
  · have := (h4 (h - 1) (by omega)).2 (s - 1) (by omega)
    rw [show h - 1 + 1 = h by omega, show s - 1 + 1 = s by omega, show s - 1 + 2 = s + 1 by omega, if_neg e] at this
    exact of_decide_eq_true this

/- stubhere -/
set_option maxRecDepth 100000 in
set_option maxHeartbeats 8000000 in
theorem gback_walk (n : Int) (w : World) (ht0 : Tab w) :
    Calls Tryd.prog 9 #[.int .i64 n] w fun e w' => e = .returned (.bool true) ∧ Kp w w' := by
  have HT := Lib.hid ht0
  have CK := Lib.hid (fun w t => known_ok w t)
  obtain ⟨m, em⟩ : ∃ m : Nat, n % 189 = (m : Int) := ⟨(n % 189).toNat, by omega⟩
  have hm : m < 189 := by omega
  have cm := fun w => mod_any n 189 w (by omega) (by omega)
  rw [em] at cm
  have CM := Lib.hid cm
  have hF := back_f m hm
  have e1 : (m : Int).tmod 7 = (bp m).1 := by unfold bp; dsimp only; rw [Int.tmod_eq_emod_of_nonneg (by omega)]; omega
  have e2 : (m : Int).tdiv 7 = ((m / 7 : Nat) : Int) := by rw [Int.tdiv_eq_ediv_of_nonneg (by omega)]; omega
  have e3 : ((m / 7 : Nat) : Int).tmod 9 = (bp m).2.1 := by unfold bp; dsimp only; rw [Int.tmod_eq_emod_of_nonneg (by omega)]; omega
  have e4 : (m : Int).tdiv 63 = ((m / 63 : Nat) : Int) := by rw [Int.tdiv_eq_ediv_of_nonneg (by omega)]; omega
  have e5 : ((m / 63 : Nat) : Int) - 1 = (bp m).2.2 := rfl
  have hv : 0 ≤ (bp m).1 ∧ (bp m).1 ≤ 6 ∧ 0 ≤ (bp m).2.1 ∧ (bp m).2.1 ≤ 8 ∧ -1 ≤ (bp m).2.2 ∧ (bp m).2.2 ≤ 1 := by unfold bp; dsimp only; omega
  have epp : bp m = ((bp m).1, (bp m).2.1, (bp m).2.2) := rfl
  rw [epp] at hF
  obtain ⟨x, ex⟩ : ∃ x, x = (bp m).1 := ⟨_, rfl⟩
  obtain ⟨y, ey⟩ : ∃ y, y = (bp m).2.1 := ⟨_, rfl⟩
  obtain ⟨z, ez⟩ : ∃ z, z = (bp m).2.2 := ⟨_, rfl⟩
  rw [← ex] at e1 hv hF
  rw [← ey] at e3 hv hF
  rw [← ez] at e5 hv hF
  obtain ⟨a, ea⟩ : ∃ a : Int, a = ((m / 7 : Nat) : Int) := ⟨_, rfl⟩
  obtain ⟨b, eb⟩ : ∃ b : Int, b = ((m / 63 : Nat) : Int) := ⟨_, rfl⟩
  rw [← ea] at e2 e3
  rw [← eb] at e4 e5
  obtain ⟨v1, v2, v3, v4, v5, v6⟩ := hv
  have i1 : IntKind.i64.wrap x = x := IntWalk.i64_in _ (by omega)
  have i2 : IntKind.i64.wrap a = a := IntWalk.i64_in _ (by omega)
  have i3 : IntKind.i64.wrap y = y := IntWalk.i64_in _ (by omega)
  have i4 : IntKind.i64.wrap b = b := IntWalk.i64_in _ (by omega)
  have i5 : IntKind.i64.wrap z = z := IntWalk.i64_in _ (by omega)
  have CW := Lib.hid (fun w t => gways_ok x y z w t v1 v2 v3 v4 v5 v6)
  have HF := Lib.hid hF
  obtain ⟨L, eL⟩ : ∃ L, L = wys (x, y, z) := ⟨_, rfl⟩
  rw [← eL] at CW HF
  have hfew := HF.out.few
  obtain ⟨len, elen⟩ : ∃ len, len = L.length := ⟨_, rfl⟩
  rw [← elen] at CW hfew
  have d3 : decide (3 < (len : Int)) = false := by simp; omega
  have EL := Lib.hid elen
  clear em cm hF epp ex ey ez ea eb eL elen ht0
  go_enter Tryd.func9, Tryd.ntmps9
  go_wp2_with fail
  refine (CK.out _ HT.out).mono ?_
  rintro e w1 ⟨rfl, hb1⟩
  have Q1 : Kp w w1 := by repeat (first | exact Kp.refl _ | with_reducible assumption | with_reducible refine Kp.set ?_ _ _ ?_ | (dsimp only; omega) | with_reducible refine Kp.drew ?_ | with_reducible refine Kp.drewN ?_ _ | with_reducible refine Kp.al ?_ _ | with_reducible refine Kp.trans ?_ (by with_reducible assumption))
  have K1 := Q1
  clear hb1 Q1
  go_wp2_with fail
  refine (CM.out _).mono ?_
  rintro e _ ⟨rfl, rfl⟩
  go_wp2_with fail
  refine (CW.out _ (HT.out.below (by repeat (first | exact Kp.refl _ | with_reducible assumption | with_reducible refine Kp.set ?_ _ _ ?_ | (dsimp only; omega) | with_reducible refine Kp.drew ?_ | with_reducible refine Kp.drewN ?_ _ | with_reducible refine Kp.al ?_ _ | with_reducible refine Kp.trans ?_ (by with_reducible assumption))))).mono ?_
  rintro e w2 ⟨⟨A1, c1, rfl, hfr, hsy⟩, hb2⟩
  have Q2 : Kp w1 w2 := by repeat (first | exact Kp.refl _ | with_reducible assumption | with_reducible refine Kp.set ?_ _ _ ?_ | (dsimp only; omega) | with_reducible refine Kp.drew ?_ | with_reducible refine Kp.drewN ?_ _ | with_reducible refine Kp.al ?_ _ | with_reducible refine Kp.trans ?_ (by with_reducible assumption))
  have c1_0_2 := hb2.get (b := w1.heap.size) (o := 0) (v := .int .i64 (x)) (by first | with_reducible assumption | (simp [go_sem]; done) | (simp [go_sem, *]; done))
  have c1_1_2 := hb2.get (b := w1.heap.size) (o := 1) (v := .int .i64 (y)) (by first | with_reducible assumption | (simp [go_sem]; done) | (simp [go_sem, *]; done))
  have c1_2_2 := hb2.get (b := w1.heap.size) (o := 2) (v := .int .i64 (z)) (by first | with_reducible assumption | (simp [go_sem]; done) | (simp [go_sem, *]; done))
  have l1_2 := cell_lt c1_0_2
  have K2 := K1.trans Q2
  clear hb2 K1 Q2
  clear e1 e2 e3 e4 e5 i1 i2 i3 i4 i5 v1 v2 v3 v4 v5 v6
  have HS := Lib.hid hsy; have KA := Lib.hid K2; have HTA := Lib.hid (HT.out.below K2)
  obtain ⟨g, eg⟩ : ∃ g, g = w1.heap.size := ⟨_, rfl⟩
  rw [← eg] at c1_0_2 c1_1_2 c1_2_2
  have NN := Lib.hid (fun (w' : World) (k : Kp w2 w') => And.intro (k.get c1_0_2) (And.intro (k.get c1_1_2) (k.get c1_2_2)))
  have gl := cell_lt c1_0_2
  have hc0 := HF.out.first
  clear hfr hsy K2 c1_0_2 c1_1_2 c1_2_2
  go_wp2_with fail
  rw [← eg]
  clear eg
  go_loopw [7, 8] (fun v i wr => ∃ h : Nat, 1 ≤ h ∧ h ≤ 8 ∧ i = .int .i64 (h : Int) ∧ v = .int .i64 (cnt L h 1 : Nat) ∧ Kp w2 wr) (fun _ i _ => 8 - (intOf i).toNat)
  case atStart => exact ⟨1, by omega, by omega, rfl, by rw [hc0]; rfl, Kp.refl _⟩
  case round =>
    obtain ⟨h, hh1, hh, rfl, rfl, hK⟩ := hrel
    by_cases hlt : h ≤ 7
    · have hd : decide ((h : Int) ≤ 7) = true := by simp; omega
      go_wp2_with fail
      go_loopw [7, 9] (fun v i wr => ∃ s : Nat, 1 ≤ s ∧ s ≤ 7 ∧ i = .int .i64 (s : Int) ∧ v = .int .i64 (cnt L h s : Nat) ∧ Kp w2 wr) (fun _ i _ => 7 - (intOf i).toNat)
      case atStart => exact ⟨1, by omega, by omega, rfl, rfl, hK⟩
      case round =>
        obtain ⟨s, hs1, hs, rfl, rfl, hK2⟩ := hrel
        by_cases hst : s ≤ 6
        · have hd2 : decide ((s : Int) ≤ 6) = true := by simp; omega
          obtain ⟨z0, z1, z2⟩ := NN.out _ hK2
          have ct := fun w t => gpitch_ok (h : Int) (s : Int) w t ⟨by omega, by omega, by omega, by omega⟩
          by_cases heq : pitS ((h : Int), (s : Int)) = (x, y, z)
          · obtain ⟨f1, f2, f3⟩ := HF.out.yes h s hh1 hlt hs1 hst heq
            rw [heq] at ct
            dsimp only at ct
            obtain ⟨k, ek⟩ : ∃ k, k = cnt L h s := ⟨_, rfl⟩
            rw [← ek] at f1 f2 f3
            rw [← ek]
            rw [← EL.out] at f1
            obtain ⟨b, off, rfl, l0, l1⟩ := (HS.out.kp hK2).2 k f1
            rw [f2] at l0 l1
            dsimp only at l0 l1
            have dk : decide ((len : Int) ≤ (k : Int)) = false := by simp; omega
            have dkn : decide (len ≤ k) = false := by simp; omega
            have dkh : ¬ len ≤ k := by omega
            have j1 : (0 : Int) ≤ (k : Int) := by omega
            have j2 : (k : Int) < (len : Int) := by omega
            have i1 : IntKind.i64.wrap ((k : Int) + 1) = (k : Int) + 1 := IntWalk.i64_in _ (by omega)
            have F3 := Lib.hid f3; have CT := Lib.hid ct; have HKR := Lib.hid hK2
            clear f1 f2 f3 ct heq ek hK2
            go_wp2_with fail
            refine (syl_ok _ _ _).mono ?_
            rintro e wr1 ⟨rfl, hb1⟩
            have Q1 : Kp wr wr1 := by repeat (first | exact Kp.refl _ | with_reducible assumption | with_reducible refine Kp.set ?_ _ _ ?_ | (dsimp only; omega) | with_reducible refine Kp.drew ?_ | with_reducible refine Kp.drewN ?_ _ | with_reducible refine Kp.al ?_ _ | with_reducible refine Kp.trans ?_ (by with_reducible assumption))
            have K1 := Q1
            clear hb1 Q1
            go_wp2_with fail
            refine (CT.out _ (HTA.out.below (HKR.out.trans (by repeat (first | exact Kp.refl _ | with_reducible assumption | with_reducible refine Kp.set ?_ _ _ ?_ | (dsimp only; omega) | with_reducible refine Kp.drew ?_ | with_reducible refine Kp.drewN ?_ _ | with_reducible refine Kp.al ?_ _ | with_reducible refine Kp.trans ?_ (by with_reducible assumption)))))).mono ?_
            rintro e wr2 ⟨rfl, hb2⟩
            have Q2 : Kp wr1 wr2 := by repeat (first | exact Kp.refl _ | with_reducible assumption | with_reducible refine Kp.set ?_ _ _ ?_ | (dsimp only; omega) | with_reducible refine Kp.drew ?_ | with_reducible refine Kp.drewN ?_ _ | with_reducible refine Kp.al ?_ _ | with_reducible refine Kp.trans ?_ (by with_reducible assumption))
            have K2 := K1.trans Q2
            clear hb2 K1 Q2
            have y0 := K2.get z0
            have y1 := K2.get z1
            have y2 := K2.get z2
            have y3 := K2.get l0
            have y4 := K2.get l1
            have bl := cell_lt y3
            have gl3 := cell_lt y0
            clear z0 z1 z2 l0 l1
            go_wp2_with fail
            obtain ⟨wd, ewd⟩ : ∃ wd : World, wd = wr2.alloc (.cells #[.int .i64 x, .int .i64 y, .int .i64 z] 36) := ⟨_, rfl⟩
            have KD : Kp wr2 wd := by rw [ewd]; repeat (first | exact Kp.refl _ | with_reducible assumption | with_reducible refine Kp.set ?_ _ _ ?_ | (dsimp only; omega) | with_reducible refine Kp.drew ?_ | with_reducible refine Kp.drewN ?_ _ | with_reducible refine Kp.al ?_ _ | with_reducible refine Kp.trans ?_ (by with_reducible assumption))
            have u0 := KD.get y3
            have u1 := KD.get y4
            have ul := cell_lt u0
            rw [← ewd]
            have NN2 := Lib.hid (fun (w' : World) (k : Kp wd w') => And.intro (k.get u0) (k.get u1))
            have KDD := Lib.hid (HKR.out.trans (K2.trans KD))
            clear ewd KD K2 y0 y1 y2 y3 y4
            go_region_held3 (fun w' => w'.cell? ⟨b, off + k * 2, none⟩ = some (.int .i64 (h : Int)) ∧ w'.cell? ⟨b, off + k * 2 + 1, none⟩ = some (.int .i64 (s : Int)))
              (exact NN2.out _ (by repeat (first | exact Kp.refl _ | with_reducible assumption | with_reducible refine Kp.set ?_ _ _ ?_ | (dsimp only; omega) | with_reducible refine Kp.drew ?_ | with_reducible refine Kp.drewN ?_ _ | with_reducible refine Kp.al ?_ _ | with_reducible refine Kp.trans ?_ (by with_reducible assumption))))
              (first | (go_at_call 34; refine (syl_ok _ _ _).mono ?_; rintro e wx ⟨rfl, hkx⟩; have KX : Kp wd wx := (by repeat (first | exact Kp.refl _ | with_reducible assumption | with_reducible refine Kp.set ?_ _ _ ?_ | (dsimp only; omega) | with_reducible refine Kp.drew ?_ | with_reducible refine Kp.drewN ?_ _ | with_reducible refine Kp.al ?_ _ | with_reducible refine Kp.trans ?_ (by with_reducible assumption))); clear hkx))
            go_wp2_with fail
            go_roundw
            case rel => exact ⟨s + 1, by omega, by omega, by go_num, by rw [F3.out]; go_num, KDD.out.trans (by assumption)⟩
            case measure => simp [intOf]; omega
          · have F3 := Lib.hid (HF.out.no h s hh1 hlt hs1 hst heq)
            obtain ⟨px, epx⟩ : ∃ px, px = (pitS ((h : Int), (s : Int))).1 := ⟨_, rfl⟩
            obtain ⟨py, epy⟩ : ∃ py, py = (pitS ((h : Int), (s : Int))).2.1 := ⟨_, rfl⟩
            obtain ⟨pz, epz⟩ : ∃ pz, pz = (pitS ((h : Int), (s : Int))).2.2 := ⟨_, rfl⟩
            rw [← epx, ← epy, ← epz] at ct
            have hne : ¬ px = x ∨ (px = x ∧ ¬ py = y) ∨ (px = x ∧ py = y ∧ ¬ pz = z) := by
              by_cases a1 : px = x
              · by_cases a2 : py = y
                · refine .inr (.inr ⟨a1, a2, fun a3 => heq ?_⟩)
                  refine Prod.ext ?_ (Prod.ext ?_ ?_)
                  · rw [← epx]; exact a1
                  · rw [← epy]; exact a2
                  · rw [← epz]; exact a3
                · exact .inr (.inl ⟨a1, a2⟩)
              · exact .inl a1
            obtain ⟨k, ek⟩ : ∃ k, k = cnt L h s := ⟨_, rfl⟩
            rw [← ek] at F3
            rw [← ek]
            have CT := Lib.hid ct; have HKR := Lib.hid hK2
            clear ct heq epx epy epz ek hK2
            rcases hne with a | ⟨rfl, a⟩ | ⟨rfl, rfl, a⟩
            · have d5 : (px == x) = false := by simpa using a
              go_wp2_with fail
              refine (syl_ok _ _ _).mono ?_
              rintro e wr1 ⟨rfl, hb1⟩
              have Q1 : Kp wr wr1 := by repeat (first | exact Kp.refl _ | with_reducible assumption | with_reducible refine Kp.set ?_ _ _ ?_ | (dsimp only; omega) | with_reducible refine Kp.drew ?_ | with_reducible refine Kp.drewN ?_ _ | with_reducible refine Kp.al ?_ _ | with_reducible refine Kp.trans ?_ (by with_reducible assumption))
              have K1 := Q1
              clear hb1 Q1
              go_wp2_with fail
              refine (CT.out _ (HTA.out.below (HKR.out.trans (by repeat (first | exact Kp.refl _ | with_reducible assumption | with_reducible refine Kp.set ?_ _ _ ?_ | (dsimp only; omega) | with_reducible refine Kp.drew ?_ | with_reducible refine Kp.drewN ?_ _ | with_reducible refine Kp.al ?_ _ | with_reducible refine Kp.trans ?_ (by with_reducible assumption)))))).mono ?_
              rintro e wr2 ⟨rfl, hb2⟩
              have Q2 : Kp wr1 wr2 := by repeat (first | exact Kp.refl _ | with_reducible assumption | with_reducible refine Kp.set ?_ _ _ ?_ | (dsimp only; omega) | with_reducible refine Kp.drew ?_ | with_reducible refine Kp.drewN ?_ _ | with_reducible refine Kp.al ?_ _ | with_reducible refine Kp.trans ?_ (by with_reducible assumption))
              have K2 := K1.trans Q2
              clear hb2 K1 Q2
              have y0 := K2.get z0
              have y1 := K2.get z1
              have y2 := K2.get z2
              have gl3 := cell_lt y0
              clear z0 z1 z2
              go_wp2_with fail
              go_roundw
              case rel => exact ⟨s + 1, by omega, by omega, by go_num, by rw [F3.out], HKR.out.trans (by repeat (first | exact Kp.refl _ | with_reducible assumption | with_reducible refine Kp.set ?_ _ _ ?_ | (dsimp only; omega) | with_reducible refine Kp.drew ?_ | with_reducible refine Kp.drewN ?_ _ | with_reducible refine Kp.al ?_ _ | with_reducible refine Kp.trans ?_ (by with_reducible assumption)))⟩
              case measure => simp [intOf]; omega
            · have d5 : (py == y) = false := by simpa using a
              go_wp2_with fail
              refine (syl_ok _ _ _).mono ?_
              rintro e wr1 ⟨rfl, hb1⟩
              have Q1 : Kp wr wr1 := by repeat (first | exact Kp.refl _ | with_reducible assumption | with_reducible refine Kp.set ?_ _ _ ?_ | (dsimp only; omega) | with_reducible refine Kp.drew ?_ | with_reducible refine Kp.drewN ?_ _ | with_reducible refine Kp.al ?_ _ | with_reducible refine Kp.trans ?_ (by with_reducible assumption))
              have K1 := Q1
              clear hb1 Q1
              go_wp2_with fail
              refine (CT.out _ (HTA.out.below (HKR.out.trans (by repeat (first | exact Kp.refl _ | with_reducible assumption | with_reducible refine Kp.set ?_ _ _ ?_ | (dsimp only; omega) | with_reducible refine Kp.drew ?_ | with_reducible refine Kp.drewN ?_ _ | with_reducible refine Kp.al ?_ _ | with_reducible refine Kp.trans ?_ (by with_reducible assumption)))))).mono ?_
              rintro e wr2 ⟨rfl, hb2⟩
              have Q2 : Kp wr1 wr2 := by repeat (first | exact Kp.refl _ | with_reducible assumption | with_reducible refine Kp.set ?_ _ _ ?_ | (dsimp only; omega) | with_reducible refine Kp.drew ?_ | with_reducible refine Kp.drewN ?_ _ | with_reducible refine Kp.al ?_ _ | with_reducible refine Kp.trans ?_ (by with_reducible assumption))
              have K2 := K1.trans Q2
              clear hb2 K1 Q2
              have y0 := K2.get z0
              have y1 := K2.get z1
              have y2 := K2.get z2
              have gl3 := cell_lt y0
              clear z0 z1 z2
              go_wp2_with fail
              go_roundw
              case rel => exact ⟨s + 1, by omega, by omega, by go_num, by rw [F3.out], HKR.out.trans (by repeat (first | exact Kp.refl _ | with_reducible assumption | with_reducible refine Kp.set ?_ _ _ ?_ | (dsimp only; omega) | with_reducible refine Kp.drew ?_ | with_reducible refine Kp.drewN ?_ _ | with_reducible refine Kp.al ?_ _ | with_reducible refine Kp.trans ?_ (by with_reducible assumption)))⟩
              case measure => simp [intOf]; omega
            · have d5 : (pz == z) = false := by simpa using a
              go_wp2_with fail
              refine (syl_ok _ _ _).mono ?_
              rintro e wr1 ⟨rfl, hb1⟩
              have Q1 : Kp wr wr1 := by repeat (first | exact Kp.refl _ | with_reducible assumption | with_reducible refine Kp.set ?_ _ _ ?_ | (dsimp only; omega) | with_reducible refine Kp.drew ?_ | with_reducible refine Kp.drewN ?_ _ | with_reducible refine Kp.al ?_ _ | with_reducible refine Kp.trans ?_ (by with_reducible assumption))
              have K1 := Q1
              clear hb1 Q1
              go_wp2_with fail
              refine (CT.out _ (HTA.out.below (HKR.out.trans (by repeat (first | exact Kp.refl _ | with_reducible assumption | with_reducible refine Kp.set ?_ _ _ ?_ | (dsimp only; omega) | with_reducible refine Kp.drew ?_ | with_reducible refine Kp.drewN ?_ _ | with_reducible refine Kp.al ?_ _ | with_reducible refine Kp.trans ?_ (by with_reducible assumption)))))).mono ?_
              rintro e wr2 ⟨rfl, hb2⟩
              have Q2 : Kp wr1 wr2 := by repeat (first | exact Kp.refl _ | with_reducible assumption | with_reducible refine Kp.set ?_ _ _ ?_ | (dsimp only; omega) | with_reducible refine Kp.drew ?_ | with_reducible refine Kp.drewN ?_ _ | with_reducible refine Kp.al ?_ _ | with_reducible refine Kp.trans ?_ (by with_reducible assumption))
              have K2 := K1.trans Q2
              clear hb2 K1 Q2
              have y0 := K2.get z0
              have y1 := K2.get z1
              have y2 := K2.get z2
              have gl3 := cell_lt y0
              clear z0 z1 z2
              go_wp2_with fail
              go_roundw
              case rel => exact ⟨s + 1, by omega, by omega, by go_num, by rw [F3.out], HKR.out.trans (by repeat (first | exact Kp.refl _ | with_reducible assumption | with_reducible refine Kp.set ?_ _ _ ?_ | (dsimp only; omega) | with_reducible refine Kp.drew ?_ | with_reducible refine Kp.drewN ?_ _ | with_reducible refine Kp.al ?_ _ | with_reducible refine Kp.trans ?_ (by with_reducible assumption)))⟩
              case measure => simp [intOf]; omega
        · obtain rfl : s = 7 := by omega
          have ht := HF.out.turn h hh1 hlt
          go_wp2_with fail
          go_roundw
          case rel => exact ⟨h + 1, by omega, by omega, by go_num, by rw [ht], hK2⟩
          case measure => simp [intOf]; omega
    · obtain rfl : h = 8 := by omega
      have hl := HF.out.last
      rw [← EL.out] at hl
      rw [hl]
      go_wp2_with fail
      go_ret
      exact ⟨rfl, KA.out.trans hK⟩
end Go.Proofs.YtaobndijldidfaaDoor
