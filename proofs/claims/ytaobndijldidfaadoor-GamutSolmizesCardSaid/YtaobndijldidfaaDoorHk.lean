/- Contracts of the reference's Solmize, from that of Best. -/
import Derived.Test.YtaobndijldidfaaDoorHj
set_option linter.unusedSimpArgs false
set_option linter.unusedVariables false
namespace Go.Proofs.YtaobndijldidfaaDoor
open Go.RowKit

theorem rsolmize_long (A : Option Addr) (n c : Nat) (w : World) (hn : 400 < n) :
    Calls Tryd.prog 15 #[.slice A n c] w fun e w' => e = .returned (.tuple #[.slice none 0 0, .int .i64 0, .int .i64 11]) ∧ Kp w w' := by
  have t0 : decide (400 < (n : Int)) = true := by simp; omega
  go_enter Tryd.func15, Tryd.ntmps15
  go_wp2_with fail
  go_ret3
  exact ⟨rfl, by repeat (first | exact Kp.refl _ | with_reducible assumption | with_reducible refine Kp.set ?_ _ _ ?_ | (dsimp only; omega) | with_reducible refine Kp.drew ?_ | with_reducible refine Kp.drewN ?_ _ | with_reducible refine Kp.al ?_ _ | with_reducible refine Kp.trans ?_ (by with_reducible assumption))⟩

set_option maxRecDepth 100000 in
set_option maxHeartbeats 4000000 in
theorem rsolmize_bad (A : Option Addr) (n c k0 : Nat) (ps : List Pt) (w : World) (hx0 : Pts w A n ps) (hn : n ≤ 400) (hk0 : k0 < n) (hg : ∀ j, j < k0 → Vp (ptAt ps j).1 (ptAt ps j).2.1 (ptAt ps j).2.2 ∧ wys (ptAt ps j) ≠ []) (E : Int)
    (hE : (¬ Vp (ptAt ps k0).1 (ptAt ps k0).2.1 (ptAt ps k0).2.2 ∧ E = 2) ∨ (Vp (ptAt ps k0).1 (ptAt ps k0).2.1 (ptAt ps k0).2.2 ∧ wys (ptAt ps k0) = [] ∧ E = 18)) :
    Calls Tryd.prog 15 #[.slice A n c] w fun e w' => e = .returned (.tuple #[.slice none 0 0, .int .i64 0, .int .i64 E]) ∧ Kp w w' := by
  have HX := Lib.hid hx0; have HG := Lib.hid hg; have HE := Lib.hid hE
  have t0 : decide (400 < (n : Int)) = false := by simp; omega
  clear hx0 hg hE
  go_enter Tryd.func15, Tryd.ntmps15
  go_wp2_with fail
  go_loopw [5] (fun v wr => ∃ k : Nat, k ≤ k0 ∧ v = .int .i64 (k : Int) ∧ Kp w wr) (fun v _ => n - (intOf v).toNat)
  case atStart => exact ⟨0, by omega, rfl, Kp.refl _⟩
  case round =>
    obtain ⟨k, hk, rfl, hK⟩ := hrel
    have hd : decide ((k : Int) < (n : Int)) = true := by simp; omega
    obtain ⟨b, off, rfl, e0, e1, e2⟩ := (HX.out.kp hK).2 k (by omega)
    have j1 : (0 : Int) ≤ (k : Int) := by omega
    have j2 : (k : Int) < (n : Int) := by omega
    have bl := cell_lt e0
    have hcase : (k < k0 ∧ Vp (ptAt ps k).1 (ptAt ps k).2.1 (ptAt ps k).2.2 ∧ wys (ptAt ps k) ≠ []) ∨ (k = k0 ∧ ¬ Vp (ptAt ps k).1 (ptAt ps k).2.1 (ptAt ps k).2.2 ∧ E = 2) ∨ (k = k0 ∧ Vp (ptAt ps k).1 (ptAt ps k).2.1 (ptAt ps k).2.2 ∧ wys (ptAt ps k) = [] ∧ E = 18) := by
      by_cases h : k < k0
      · exact .inl ⟨h, HG.out k h⟩
      · obtain rfl : k = k0 := by omega
        rcases HE.out with h | h
        · exact .inr (.inl ⟨rfl, h⟩)
        · exact .inr (.inr ⟨rfl, h⟩)
    have epp : ((ptAt ps k).1, (ptAt ps k).2.1, (ptAt ps k).2.2) = ptAt ps k := rfl
    rcases hcase with ⟨hlt, hv, hne⟩ | ⟨rfl, hv, rfl⟩ | ⟨rfl, hv, hne, rfl⟩
    · have cw := fun w => mways_ok (ptAt ps k).1 (ptAt ps k).2.1 (ptAt ps k).2.2 w hv
      obtain ⟨v1, v2, v3, v4, v5, v6⟩ := hv
      have cc := fun w => rcheck_ok (ptAt ps k).1 (ptAt ps k).2.1 (ptAt ps k).2.2 w v1 v2 v3 v4 v5 v6
      rw [epp] at cw
      obtain ⟨s, es⟩ : ∃ s, s = (ptAt ps k).1 := ⟨_, rfl⟩
      obtain ⟨o, eo⟩ : ∃ o, o = (ptAt ps k).2.1 := ⟨_, rfl⟩
      obtain ⟨a, ea⟩ : ∃ a, a = (ptAt ps k).2.2 := ⟨_, rfl⟩
      rw [← es] at e0 cw cc
      rw [← eo] at e1 cw cc
      rw [← ea] at e2 cw cc
      obtain ⟨m, em⟩ : ∃ m, m = (wys (ptAt ps k)).length := ⟨_, rfl⟩
      have hm1 : 1 ≤ m := by rw [em]; exact List.length_pos_iff.2 hne
      rw [← em] at cw
      have CW := Lib.hid cw; have CC := Lib.hid cc
      have d0 : ((m : Int) == 0) = false := by simp; omega
      have d0n : ¬ m = 0 := by omega
      clear v1 v2 v3 v4 v5 v6 hne cw cc epp es eo ea em
      go_wp2_with fail
      refine (CC.out _).mono ?_
      rintro e w1 ⟨rfl, hb1⟩
      have f0 := hb1.get e0
      have f1 := hb1.get e1
      have f2 := hb1.get e2
      have bl1 := cell_lt f0
      have KA := Lib.hid (hK.trans hb1)
      clear e0 e1 e2 hb1
      go_wp2_with fail
      refine (CW.out _).mono ?_
      rintro e w2 ⟨⟨B, d, rfl, -⟩, hb2⟩
      have KB := Lib.hid (KA.out.trans hb2)
      clear hb2
      go_wp2_with fail
      go_roundw
      case rel => exact ⟨k + 1, by omega, by go_num, KB.out⟩
      case measure => simp [intOf]; omega
    · have CC := Lib.hid (fun w => rcheck_no (ptAt ps k).1 (ptAt ps k).2.1 (ptAt ps k).2.2 w hv)
      obtain ⟨s, es⟩ : ∃ s, s = (ptAt ps k).1 := ⟨_, rfl⟩
      obtain ⟨o, eo⟩ : ∃ o, o = (ptAt ps k).2.1 := ⟨_, rfl⟩
      obtain ⟨a, ea⟩ : ∃ a, a = (ptAt ps k).2.2 := ⟨_, rfl⟩
      rw [← es] at e0 CC
      rw [← eo] at e1 CC
      rw [← ea] at e2 CC
      clear hv epp es eo ea
      go_wp2_with fail
      refine (CC.out _).mono ?_
      rintro e wr1 ⟨rfl, hb1⟩
      have Q1 : Kp wr wr1 := by repeat (first | exact Kp.refl _ | with_reducible assumption | with_reducible refine Kp.set ?_ _ _ ?_ | (dsimp only; omega) | with_reducible refine Kp.drew ?_ | with_reducible refine Kp.drewN ?_ _ | with_reducible refine Kp.al ?_ _ | with_reducible refine Kp.trans ?_ (by with_reducible assumption))
      have K1 := Q1
      clear hb1 Q1
      go_wp2_with fail
      go_ret3
      exact ⟨rfl, by repeat (first | exact Kp.refl _ | with_reducible assumption | with_reducible refine Kp.set ?_ _ _ ?_ | (dsimp only; omega) | with_reducible refine Kp.drew ?_ | with_reducible refine Kp.drewN ?_ _ | with_reducible refine Kp.al ?_ _ | with_reducible refine Kp.trans ?_ (by with_reducible assumption))⟩
    · have cw := fun w => mways_ok (ptAt ps k).1 (ptAt ps k).2.1 (ptAt ps k).2.2 w hv
      obtain ⟨v1, v2, v3, v4, v5, v6⟩ := hv
      have cc := fun w => rcheck_ok (ptAt ps k).1 (ptAt ps k).2.1 (ptAt ps k).2.2 w v1 v2 v3 v4 v5 v6
      rw [epp, hne] at cw
      obtain ⟨s, es⟩ : ∃ s, s = (ptAt ps k).1 := ⟨_, rfl⟩
      obtain ⟨o, eo⟩ : ∃ o, o = (ptAt ps k).2.1 := ⟨_, rfl⟩
      obtain ⟨a, ea⟩ : ∃ a, a = (ptAt ps k).2.2 := ⟨_, rfl⟩
      rw [← es] at e0 cw cc
      rw [← eo] at e1 cw cc
      rw [← ea] at e2 cw cc
      have CW := Lib.hid cw; have CC := Lib.hid cc
      clear v1 v2 v3 v4 v5 v6 hne cw cc epp es eo ea
      go_wp2_with fail
      refine (CC.out _).mono ?_
      rintro e w1 ⟨rfl, hb1⟩
      have f0 := hb1.get e0
      have f1 := hb1.get e1
      have f2 := hb1.get e2
      have bl1 := cell_lt f0
      have KA := Lib.hid (hK.trans hb1)
      clear e0 e1 e2 hb1
      go_wp2_with fail
      refine (CW.out _).mono ?_
      rintro e w2 ⟨⟨B, d, rfl, -⟩, hb2⟩
      have KB := Lib.hid (KA.out.trans hb2)
      clear hb2
      go_wp2_with fail
      go_ret3
      exact ⟨rfl, KB.out⟩

set_option maxRecDepth 100000 in
set_option maxHeartbeats 4000000 in
theorem rsolmize_ok (A : Option Addr) (n c : Nat) (ps : List Pt) (w : World) (hx0 : Pts w A n ps) (hn : n ≤ 60) (hg : ∀ p ∈ ps, Vp p.1 p.2.1 p.2.2 ∧ wys p ≠ []) :
    Calls Tryd.prog 15 #[.slice A n c] w fun e w' => (∃ A' c', e = .returned (.tuple #[.slice A' n c', .int .i64 (muts (ps.map wys)), .int .i64 0]) ∧ Sys w' A' n (sol none (ps.map wys))) ∧ Kp w w' := by
  have HX := Lib.hid hx0
  have HG := Lib.hid (show ∀ j, j < n → Vp (ptAt ps j).1 (ptAt ps j).2.1 (ptAt ps j).2.2 ∧ wys (ptAt ps j) ≠ [] from fun j hj => hg _ (by unfold ptAt; have := hx0.1; simp [List.getD, show j < ps.length by omega]))
  have CB := Lib.hid (fun w h => rbest_ok A n c ps w h hn hg)
  have t0 : decide (400 < (n : Int)) = false := by simp; omega
  clear hx0 hg
  go_enter Tryd.func15, Tryd.ntmps15
  go_wp2_with fail
  go_loopw [5] (fun v wr => ∃ k : Nat, k ≤ n ∧ v = .int .i64 (k : Int) ∧ Kp w wr) (fun v _ => n - (intOf v).toNat)
  case atStart => exact ⟨0, by omega, rfl, Kp.refl _⟩
  case round =>
    obtain ⟨k, hk, rfl, hK⟩ := hrel
    by_cases hlt : k < n
    · have hd : decide ((k : Int) < (n : Int)) = true := by simp; omega
      obtain ⟨hv, hne⟩ := HG.out k hlt
      obtain ⟨b, off, rfl, e0, e1, e2⟩ := (HX.out.kp hK).2 k (by omega)
      have j1 : (0 : Int) ≤ (k : Int) := by omega
      have j2 : (k : Int) < (n : Int) := by omega
      have bl := cell_lt e0
      have epp : ((ptAt ps k).1, (ptAt ps k).2.1, (ptAt ps k).2.2) = ptAt ps k := rfl
      have cw := fun w => mways_ok (ptAt ps k).1 (ptAt ps k).2.1 (ptAt ps k).2.2 w hv
      obtain ⟨v1, v2, v3, v4, v5, v6⟩ := hv
      have cc := fun w => rcheck_ok (ptAt ps k).1 (ptAt ps k).2.1 (ptAt ps k).2.2 w v1 v2 v3 v4 v5 v6
      rw [epp] at cw
      obtain ⟨s, es⟩ : ∃ s, s = (ptAt ps k).1 := ⟨_, rfl⟩
      obtain ⟨o, eo⟩ : ∃ o, o = (ptAt ps k).2.1 := ⟨_, rfl⟩
      obtain ⟨a, ea⟩ : ∃ a, a = (ptAt ps k).2.2 := ⟨_, rfl⟩
      rw [← es] at e0 cw cc
      rw [← eo] at e1 cw cc
      rw [← ea] at e2 cw cc
      obtain ⟨m, em⟩ : ∃ m, m = (wys (ptAt ps k)).length := ⟨_, rfl⟩
      have hm1 : 1 ≤ m := by rw [em]; exact List.length_pos_iff.2 hne
      rw [← em] at cw
      have CW := Lib.hid cw; have CC := Lib.hid cc
      have d0 : ((m : Int) == 0) = false := by simp; omega
      have d0n : ¬ m = 0 := by omega
      clear v1 v2 v3 v4 v5 v6 hne cw cc epp es eo ea em
      go_wp2_with fail
      refine (CC.out _).mono ?_
      rintro e w1 ⟨rfl, hb1⟩
      have f0 := hb1.get e0
      have f1 := hb1.get e1
      have f2 := hb1.get e2
      have bl1 := cell_lt f0
      have KA := Lib.hid (hK.trans hb1)
      clear e0 e1 e2 hb1
      go_wp2_with fail
      refine (CW.out _).mono ?_
      rintro e w2 ⟨⟨B, d, rfl, -⟩, hb2⟩
      have KB := Lib.hid (KA.out.trans hb2)
      clear hb2
      go_wp2_with fail
      go_roundw
      case rel => exact ⟨k + 1, by omega, by go_num, KB.out⟩
      case measure => simp [intOf]; omega
    · obtain rfl : n = k := by omega
      have hd : decide ((n : Int) < (n : Int)) = false := by simp
      go_wp2_with fail
      refine (CB.out _ (HX.out.kp hK)).mono ?_
      rintro e wr1 ⟨⟨B, d, rfl, hs⟩, hb1⟩
      have Q1 : Kp wr wr1 := by repeat (first | exact Kp.refl _ | with_reducible assumption | with_reducible refine Kp.set ?_ _ _ ?_ | (dsimp only; omega) | with_reducible refine Kp.drew ?_ | with_reducible refine Kp.drewN ?_ _ | with_reducible refine Kp.al ?_ _ | with_reducible refine Kp.trans ?_ (by with_reducible assumption))
      have K1 := Q1
      clear hb1 Q1
      have HS := Lib.hid hs
      clear hs
      go_wp2_with fail
      go_ret3
      exact ⟨⟨_, _, rfl, HS.out⟩, hK.trans (by repeat (first | exact Kp.refl _ | with_reducible assumption | with_reducible refine Kp.set ?_ _ _ ?_ | (dsimp only; omega) | with_reducible refine Kp.drew ?_ | with_reducible refine Kp.drewN ?_ _ | with_reducible refine Kp.al ?_ _ | with_reducible refine Kp.trans ?_ (by with_reducible assumption)))⟩
end Go.Proofs.YtaobndijldidfaaDoor
