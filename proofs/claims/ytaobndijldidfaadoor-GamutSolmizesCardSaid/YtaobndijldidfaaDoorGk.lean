/- gamut.Solmize at a list that is too long, and at a pitch that is not valid or not in the gamut. -/
import Derived.Test.YtaobndijldidfaaDoorGi
set_option linter.unusedSimpArgs false
set_option linter.unusedVariables false
namespace Go.Proofs.YtaobndijldidfaaDoor
open Go.RowKit

set_option maxRecDepth 100000 in
set_option maxHeartbeats 2000000 in
theorem solmize_long (A : Option Addr) (n c : Nat) (w : World) (hn : 400 < n) :
    Calls Tryd.prog 13 #[.slice A n c] w fun e w' => e = .returned (.tuple #[.slice none 0 0, .int .i64 0, .int .i64 11]) ∧ Kp w w' := by
  have t0 : decide (400 < (n : Int)) = true := by simp; omega
  go_enter Tryd.func13, Tryd.ntmps13
  go_wp2_with fail
  go_ret3
  exact ⟨rfl, by repeat (first | exact Kp.refl _ | with_reducible assumption | with_reducible refine Kp.set ?_ _ _ ?_ | (dsimp only; omega) | with_reducible refine Kp.drew ?_ | with_reducible refine Kp.drewN ?_ _ | with_reducible refine Kp.al ?_ _ | with_reducible refine Kp.trans ?_ (by with_reducible assumption))⟩

set_option maxRecDepth 100000 in
set_option maxHeartbeats 4000000 in
theorem solmize_bad (A : Option Addr) (n c k0 : Nat) (ps : List Pt) (w : World) (ht0 : Tab w) (hx0 : Pts w A n ps) (hn : n ≤ 400) (hk0 : k0 < n) (hg : ∀ j, j < k0 → Vp (ptAt ps j).1 (ptAt ps j).2.1 (ptAt ps j).2.2 ∧ wys (ptAt ps j) ≠ []) (E : Int)
    (hE : (¬ Vp (ptAt ps k0).1 (ptAt ps k0).2.1 (ptAt ps k0).2.2 ∧ E = 2) ∨ (Vp (ptAt ps k0).1 (ptAt ps k0).2.1 (ptAt ps k0).2.2 ∧ wys (ptAt ps k0) = [] ∧ E = 18)) :
    Calls Tryd.prog 13 #[.slice A n c] w fun e w' => e = .returned (.tuple #[.slice none 0 0, .int .i64 0, .int .i64 E]) ∧ Kp w w' := by
  have hmk := make_all n (by omega)
  have HX := Lib.hid hx0; have HG := Lib.hid hg; have HE := Lib.hid hE
  have HT := Lib.hid ht0
  have HL := Lib.hid hx0.1
  have hlow := ht0.lt
  have t0 : decide (400 < (n : Int)) = false := by simp; omega
  obtain ⟨ws, ews⟩ : ∃ ws, ws = ps.map wys := ⟨_, rfl⟩
  have EW := Lib.hid ews
  clear ht0 hx0 hg hE ews
  go_enter Tryd.func13, Tryd.ntmps13
  go_wp2_with fail
  clear hmk
  go_loopw [32] (fun v wr => ∃ k : Nat, k ≤ k0 ∧ v = .int .i64 (k : Int) ∧ AllB wr w.heap.size n ws k ∧ Kp w wr) (fun v _ => n - (intOf v).toNat)
  case atStart => exact ⟨0, by omega, rfl, AllB.made w n ws, by repeat (first | exact Kp.refl _ | with_reducible assumption | with_reducible refine Kp.set ?_ _ _ ?_ | (dsimp only; omega) | with_reducible refine Kp.drew ?_ | with_reducible refine Kp.drewN ?_ _ | with_reducible refine Kp.al ?_ _ | with_reducible refine Kp.trans ?_ (by with_reducible assumption))⟩
  case round =>
    obtain ⟨k, hk, rfl, hAll, hK⟩ := hrel
    have hd : decide ((k : Int) < (n : Int)) = true := by simp; omega
    obtain ⟨b, off, rfl, e0, e1, e2⟩ := (HX.out.kp hK).2 k (by omega)
    have hcase : (k < k0 ∧ Vp (ptAt ps k).1 (ptAt ps k).2.1 (ptAt ps k).2.2 ∧ wys (ptAt ps k) ≠ []) ∨ (k = k0 ∧ ¬ Vp (ptAt ps k).1 (ptAt ps k).2.1 (ptAt ps k).2.2 ∧ E = 2) ∨ (k = k0 ∧ Vp (ptAt ps k).1 (ptAt ps k).2.1 (ptAt ps k).2.2 ∧ wys (ptAt ps k) = [] ∧ E = 18) := by
      by_cases h : k < k0
      · exact .inl ⟨h, HG.out k h⟩
      · obtain rfl : k = k0 := by omega
        rcases HE.out with h | h
        · exact .inr (.inl ⟨rfl, h⟩)
        · exact .inr (.inr ⟨rfl, h⟩)
    have epp : ((ptAt ps k).1, (ptAt ps k).2.1, (ptAt ps k).2.2) = ptAt ps k := rfl
    rcases hcase with ⟨hlt, ⟨v1, v2, v3, v4, v5, v6⟩, hne⟩ | ⟨rfl, hv, rfl⟩ | ⟨rfl, ⟨v1, v2, v3, v4, v5, v6⟩, hne, rfl⟩
    · have hlsk : lsAt ws k = wys (ptAt ps k) := by rw [EW.out]; exact ls_map ps k (by have := HL.out; omega)
      rw [← hlsk] at hne
      have cw := fun w t => gways_ok (ptAt ps k).1 (ptAt ps k).2.1 (ptAt ps k).2.2 w t v1 v2 v3 v4 v5 v6
      rw [epp, ← hlsk] at cw
      obtain ⟨s, es⟩ : ∃ s, s = (ptAt ps k).1 := ⟨_, rfl⟩
      obtain ⟨o, eo⟩ : ∃ o, o = (ptAt ps k).2.1 := ⟨_, rfl⟩
      obtain ⟨a, ea⟩ : ∃ a, a = (ptAt ps k).2.2 := ⟨_, rfl⟩
      rw [← es] at e0 cw
      rw [← eo] at e1 cw
      rw [← ea] at e2 cw
      obtain ⟨m, em⟩ : ∃ m, m = (lsAt ws k).length := ⟨_, rfl⟩
      have hm1 : 1 ≤ m := by rw [em]; exact List.length_pos_iff.2 hne
      rw [← em] at cw
      have EM := Lib.hid em
      have CW := Lib.hid cw
      have HAll := Lib.hid hAll
      have d0 : ((m : Int) == 0) = false := by simp; omega
      clear v1 v2 v3 v4 v5 v6 hlsk hne cw epp es eo ea em hAll
      go_wp2_with fail
      refine (CW.out _ (HT.out.below (by repeat (first | exact Kp.refl _ | with_reducible assumption | with_reducible refine Kp.set ?_ _ _ ?_ | (dsimp only; omega) | with_reducible refine Kp.drew ?_ | with_reducible refine Kp.drewN ?_ _ | with_reducible refine Kp.al ?_ _ | with_reducible refine Kp.trans ?_ (by with_reducible assumption))))).mono ?_
      rintro e wr1 ⟨⟨B, d, rfl, hfr, hsy⟩, hb1⟩
      have Q1 : Kp wr wr1 := by repeat (first | exact Kp.refl _ | with_reducible assumption | with_reducible refine Kp.set ?_ _ _ ?_ | (dsimp only; omega) | with_reducible refine Kp.drew ?_ | with_reducible refine Kp.drewN ?_ _ | with_reducible refine Kp.al ?_ _ | with_reducible refine Kp.trans ?_ (by with_reducible assumption))
      have c1_0_1 := hb1.get (b := wr.heap.size) (o := 0) (v := .int .i64 (s)) (by first | with_reducible assumption | (simp [go_sem]; done) | (simp [go_sem, *]; done))
      have c1_1_1 := hb1.get (b := wr.heap.size) (o := 1) (v := .int .i64 (o)) (by first | with_reducible assumption | (simp [go_sem]; done) | (simp [go_sem, *]; done))
      have c1_2_1 := hb1.get (b := wr.heap.size) (o := 2) (v := .int .i64 (a)) (by first | with_reducible assumption | (simp [go_sem]; done) | (simp [go_sem, *]; done))
      have l1_1 := cell_lt c1_0_1
      have K1 := Q1
      clear hb1 Q1
      have HFR := Lib.hid hfr; have HSY := Lib.hid hsy
      have hgr := hK.low
      have hAl1 := HAll.out.kp K1
      obtain ⟨⟨v0, q0⟩, q1⟩ := hAl1.cell k (by omega)
      have HAl1 := Lib.hid hAl1
      have ql := cell_lt q0
      clear hfr hsy hAl1 HAll e0 e1 e2
      go_wp2_with fail
      go_roundw
      case rel => exact ⟨k + 1, by omega, by go_num, HAl1.out.put (by omega) EM.out (fun ad e => by have := HFR.out ad e; simp at this; omega) HSY.out, by repeat (first | exact Kp.refl _ | with_reducible assumption | with_reducible refine Kp.set ?_ _ _ ?_ | (dsimp only; omega) | with_reducible refine Kp.drew ?_ | with_reducible refine Kp.drewN ?_ _ | with_reducible refine Kp.al ?_ _ | with_reducible refine Kp.trans ?_ (by with_reducible assumption))⟩
      case measure => simp [intOf]; omega
    · have CW := Lib.hid (fun w => gways_no (ptAt ps k).1 (ptAt ps k).2.1 (ptAt ps k).2.2 w hv)
      obtain ⟨s, es⟩ : ∃ s, s = (ptAt ps k).1 := ⟨_, rfl⟩
      obtain ⟨o, eo⟩ : ∃ o, o = (ptAt ps k).2.1 := ⟨_, rfl⟩
      obtain ⟨a, ea⟩ : ∃ a, a = (ptAt ps k).2.2 := ⟨_, rfl⟩
      rw [← es] at e0 CW
      rw [← eo] at e1 CW
      rw [← ea] at e2 CW
      clear hv epp es eo ea hAll
      go_wp2_with fail
      refine (CW.out _).mono ?_
      rintro e wr1 ⟨rfl, hb1⟩
      have Q1 : Kp wr wr1 := by repeat (first | exact Kp.refl _ | with_reducible assumption | with_reducible refine Kp.set ?_ _ _ ?_ | (dsimp only; omega) | with_reducible refine Kp.drew ?_ | with_reducible refine Kp.drewN ?_ _ | with_reducible refine Kp.al ?_ _ | with_reducible refine Kp.trans ?_ (by with_reducible assumption))
      have c1_0_1 := hb1.get (b := wr.heap.size) (o := 0) (v := .int .i64 (s)) (by first | with_reducible assumption | (simp [go_sem]; done) | (simp [go_sem, *]; done))
      have c1_1_1 := hb1.get (b := wr.heap.size) (o := 1) (v := .int .i64 (o)) (by first | with_reducible assumption | (simp [go_sem]; done) | (simp [go_sem, *]; done))
      have c1_2_1 := hb1.get (b := wr.heap.size) (o := 2) (v := .int .i64 (a)) (by first | with_reducible assumption | (simp [go_sem]; done) | (simp [go_sem, *]; done))
      have l1_1 := cell_lt c1_0_1
      have K1 := Q1
      clear hb1 Q1
      go_wp2_with fail
      go_ret3
      exact ⟨rfl, by repeat (first | exact Kp.refl _ | with_reducible assumption | with_reducible refine Kp.set ?_ _ _ ?_ | (dsimp only; omega) | with_reducible refine Kp.drew ?_ | with_reducible refine Kp.drewN ?_ _ | with_reducible refine Kp.al ?_ _ | with_reducible refine Kp.trans ?_ (by with_reducible assumption))⟩
    · have cw := fun w t => gways_ok (ptAt ps k).1 (ptAt ps k).2.1 (ptAt ps k).2.2 w t v1 v2 v3 v4 v5 v6
      rw [epp, hne] at cw
      obtain ⟨s, es⟩ : ∃ s, s = (ptAt ps k).1 := ⟨_, rfl⟩
      obtain ⟨o, eo⟩ : ∃ o, o = (ptAt ps k).2.1 := ⟨_, rfl⟩
      obtain ⟨a, ea⟩ : ∃ a, a = (ptAt ps k).2.2 := ⟨_, rfl⟩
      rw [← es] at e0 cw
      rw [← eo] at e1 cw
      rw [← ea] at e2 cw
      have CW := Lib.hid cw
      clear v1 v2 v3 v4 v5 v6 hne cw epp es eo ea hAll
      go_wp2_with fail
      refine (CW.out _ (HT.out.below (by repeat (first | exact Kp.refl _ | with_reducible assumption | with_reducible refine Kp.set ?_ _ _ ?_ | (dsimp only; omega) | with_reducible refine Kp.drew ?_ | with_reducible refine Kp.drewN ?_ _ | with_reducible refine Kp.al ?_ _ | with_reducible refine Kp.trans ?_ (by with_reducible assumption))))).mono ?_
      rintro e wr1 ⟨⟨B, d, rfl, hfr, hsy⟩, hb1⟩
      have Q1 : Kp wr wr1 := by repeat (first | exact Kp.refl _ | with_reducible assumption | with_reducible refine Kp.set ?_ _ _ ?_ | (dsimp only; omega) | with_reducible refine Kp.drew ?_ | with_reducible refine Kp.drewN ?_ _ | with_reducible refine Kp.al ?_ _ | with_reducible refine Kp.trans ?_ (by with_reducible assumption))
      have c1_0_1 := hb1.get (b := wr.heap.size) (o := 0) (v := .int .i64 (s)) (by first | with_reducible assumption | (simp [go_sem]; done) | (simp [go_sem, *]; done))
      have c1_1_1 := hb1.get (b := wr.heap.size) (o := 1) (v := .int .i64 (o)) (by first | with_reducible assumption | (simp [go_sem]; done) | (simp [go_sem, *]; done))
      have c1_2_1 := hb1.get (b := wr.heap.size) (o := 2) (v := .int .i64 (a)) (by first | with_reducible assumption | (simp [go_sem]; done) | (simp [go_sem, *]; done))
      have l1_1 := cell_lt c1_0_1
      have K1 := Q1
      clear hb1 Q1
      clear hfr hsy
      go_wp2_with fail
      go_ret3
      exact ⟨rfl, by repeat (first | exact Kp.refl _ | with_reducible assumption | with_reducible refine Kp.set ?_ _ _ ?_ | (dsimp only; omega) | with_reducible refine Kp.drew ?_ | with_reducible refine Kp.drewN ?_ _ | with_reducible refine Kp.al ?_ _ | with_reducible refine Kp.trans ?_ (by with_reducible assumption))⟩
end Go.Proofs.YtaobndijldidfaaDoor
