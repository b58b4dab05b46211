/- GamutFewest: the walk. -/
import Derived.Test.YtaobndijldidfaaDoorGs
import Derived.Test.YtaobndijldidfaaDoorGw
import Derived.BigQuiet
set_option linter.unusedSimpArgs false
set_option linter.unusedVariables false
namespace Go.Proofs.YtaobndijldidfaaDoor
open Go.RowKit
/- stubhere -/

theorem vs_all {ss : List Sy} (h : ∀ y ∈ ss, Vs y.1 y.2) : ∀ j, j < ss.length → Vs (syAt ss j).1 (syAt ss j).2 := fun j hj => h _ (syAt_mem hj)
theorem flat_rev_succ (ps : List Pt) (m : Nat) (h : m < ps.length) : flat (ps.reverse.take (m + 1)) = flat (ps.reverse.take m) ++ [.int .i64 (ptAt ps (ps.length - 1 - m)).1, .int .i64 (ptAt ps (ps.length - 1 - m)).2.1, .int .i64 (ptAt ps (ps.length - 1 - m)).2.2] := by
  rw [List.take_succ_eq_append_getElem (by simpa using h), flat_app, List.getElem_reverse]
  have : ps.length - 1 - m < ps.length := by omega
  simp [flat, ptAt, List.getD, this]

set_option maxRecDepth 100000 in
set_option maxHeartbeats 8000000 in
theorem gfewest_walk (A : Option Addr) (n c : Nat) (xs : List Int) (w : World) (ht0 : Tab w) (hx : Ints w A n xs) (hmx : n ≤ maxLen) :
    Calls Tryd.prog 10 #[.slice A n c] w fun e w' => e = .returned (.bool true) ∧ Kp w w' := by
  obtain ⟨i0, hi0, hz0, hz1, hz2⟩ := info_parts pitch_info
  have HI := Lib.hid hi0; have HZ0 := Lib.hid hz0; have HZ1 := Lib.hid hz1; have HZ2 := Lib.hid hz2
  have HT := Lib.hid ht0; have HX := Lib.hid hx
  have CK := Lib.hid (fun w t => known_ok w t)
  have cm1 := fun w h => made_ok A n c xs w h hmx
  obtain ⟨k1, ek1⟩ : ∃ k, k = min n 30 := ⟨_, rfl⟩
  rw [← ek1] at cm1
  have hk1 : k1 ≤ 30 := by omega
  have hv1 := madeS_ok xs k1
  have hl1 := madeS_len xs k1 (by have := hx.1; omega)
  obtain ⟨S1, eS1⟩ : ∃ S, S = madeS xs k1 := ⟨_, rfl⟩
  rw [← eS1] at cm1 hv1 hl1
  have g1 := pit_good hv1
  have hj1 := vs_all hv1
  rw [hl1] at hj1
  have hf := full_of g1
  have hle := muts_least _ hf S1 (choice_self S1 hv1)
  have hmp := muts_path _ hf
  have hrv := muts_rev _ hf
  obtain ⟨hO1, hO2⟩ := choice_pit (sol_choice none _ hf)
  have hOl := sol_len none ((S1.map pitS).map wys)
  obtain ⟨ps, eps⟩ : ∃ ps, ps = S1.map pitS := ⟨_, rfl⟩
  have hpl : ps.length = k1 := by rw [eps]; simpa using hl1
  rw [← eps] at g1 hle hmp hrv hO1 hO2 hOl hf
  rw [← List.map_reverse] at hrv
  have hOl2 : (sol none (ps.map wys)).length = k1 := by rw [hOl]; simpa using hpl
  have cs1 := fun w B d t h => solmize_ok B k1 d ps w t h (by omega) g1
  have cs2 := fun w B d t h => solmize_ok B k1 d ps.reverse w t h (by omega) (fun p hp => g1 p (by simpa using hp))
  rw [hrv] at cs2
  have cv2 := fun w B d h => moves_ok B k1 d S1 w h (by omega)
  obtain ⟨O, eO⟩ : ∃ O, O = sol none (ps.map wys) := ⟨_, rfl⟩
  rw [← eO] at cs1 hmp hO1 hO2 hOl2
  have cv1 := fun w B d h => moves_ok B k1 d O w h (by omega)
  rw [← hmp] at cv1
  obtain ⟨M, eM⟩ : ∃ M, M = muts (ps.map wys) := ⟨_, rfl⟩
  rw [← eM] at cs1 cs2 cv1 hle
  obtain ⟨N, eN⟩ : ∃ N, N = movesN S1 := ⟨_, rfl⟩
  rw [← eN] at cv2 hle
  have hOv := vs_all hO2
  rw [hOl2] at hOv
  have hOp : ∀ i, i < k1 → pitS (syAt O i) = ptAt ps i := by
    intro i hi
    rw [← hO1]
    unfold ptAt syAt
    simp [List.getD, show i < O.length by omega]
  have dM : decide (N < M) = false := by simp; omega
  have cl1 := fun w B d t h => melody_ok B k1 d S1 w t h (by omega) hj1
  rw [← eps] at cl1
  have CM1 := Lib.hid cm1; have CL1 := Lib.hid cl1
  have CS1 := Lib.hid cs1; have CS2 := Lib.hid cs2; have CV1 := Lib.hid cv1; have CV2 := Lib.hid cv2; have HOV := Lib.hid hOv; have HOP := Lib.hid hOp; have HPL := Lib.hid hpl
  have r0 : IntKind.i64.wrap ((k1 : Int) - 1) = (k1 : Int) - 1 := IntWalk.i64_in _ (by omega)
  clear hi0 hz0 hz1 hz2 ht0 hx cm1 ek1 hv1 hl1 eS1 g1 hj1 hf hle hmp hrv hO1 hO2 hOl eps hpl hOl2 cs1 cs2 cv2 eO cv1 eM eN hOv hOp cl1 hmx
  go_enter Tryd.func10, Tryd.ntmps10
  go_wp2_with fail
  refine (CK.out _ HT.out).mono ?_
  rintro e w1 ⟨rfl, hb1⟩
  have Q1 : Kp w w1 := by repeat (first | exact Kp.refl _ | with_reducible assumption | with_reducible refine Kp.set ?_ _ _ ?_ | (dsimp only; omega) | with_reducible refine Kp.drew ?_ | with_reducible refine Kp.drewN ?_ _ | with_reducible refine Kp.al ?_ _ | with_reducible refine Kp.trans ?_ (by with_reducible assumption))
  have K1 := Q1
  clear hb1 Q1
  go_wp2_with fail
  refine (CM1.out _ (HX.out.kp (by repeat (first | exact Kp.refl _ | with_reducible assumption | with_reducible refine Kp.set ?_ _ _ ?_ | (dsimp only; omega) | with_reducible refine Kp.drew ?_ | with_reducible refine Kp.drewN ?_ _ | with_reducible refine Kp.al ?_ _ | with_reducible refine Kp.trans ?_ (by with_reducible assumption))))).mono ?_
  rintro e w2 ⟨⟨B1, d3, rfl, ho1⟩, hb2⟩
  have Q2 : Kp w1 w2 := by repeat (first | exact Kp.refl _ | with_reducible assumption | with_reducible refine Kp.set ?_ _ _ ?_ | (dsimp only; omega) | with_reducible refine Kp.drew ?_ | with_reducible refine Kp.drewN ?_ _ | with_reducible refine Kp.al ?_ _ | with_reducible refine Kp.trans ?_ (by with_reducible assumption))
  have K2 := K1.trans Q2
  clear hb2 K1 Q2
  have HO1 := Lib.hid (sys_of_own ho1); have KA := Lib.hid K2
  clear ho1 K2
  go_wp2_with fail
  refine (CL1.out _ _ _ (HT.out.below (KA.out.trans (by repeat (first | exact Kp.refl _ | with_reducible assumption | with_reducible refine Kp.set ?_ _ _ ?_ | (dsimp only; omega) | with_reducible refine Kp.drew ?_ | with_reducible refine Kp.drewN ?_ _ | with_reducible refine Kp.al ?_ _ | with_reducible refine Kp.trans ?_ (by with_reducible assumption))))) HO1.out).mono ?_
  rintro e w21 ⟨⟨B2, d4, rfl, ho2⟩, hb1⟩
  have Q1 : Kp w2 w21 := by repeat (first | exact Kp.refl _ | with_reducible assumption | with_reducible refine Kp.set ?_ _ _ ?_ | (dsimp only; omega) | with_reducible refine Kp.drew ?_ | with_reducible refine Kp.drewN ?_ _ | with_reducible refine Kp.al ?_ _ | with_reducible refine Kp.trans ?_ (by with_reducible assumption))
  have K1 := Q1
  clear hb1 Q1
  have HP1 := Lib.hid (pts_of_own ho2); have KB := Lib.hid (KA.out.trans K1); have HTB := Lib.hid (HT.out.below (KA.out.trans K1)); have HO2 := Lib.hid (HO1.out.kp K1)
  clear ho2 K1 HO1
  go_wp2_with fail
  refine (CS1.out _ _ _ HTB.out HP1.out).mono ?_
  rintro e w211 ⟨⟨B3, d5, rfl, hs3⟩, hb1⟩
  have Q1 : Kp w21 w211 := by repeat (first | exact Kp.refl _ | with_reducible assumption | with_reducible refine Kp.set ?_ _ _ ?_ | (dsimp only; omega) | with_reducible refine Kp.drew ?_ | with_reducible refine Kp.drewN ?_ _ | with_reducible refine Kp.al ?_ _ | with_reducible refine Kp.trans ?_ (by with_reducible assumption))
  have K1 := Q1
  clear hb1 Q1
  have HSO := Lib.hid hs3; have KC := Lib.hid (KB.out.trans K1); have HTC := Lib.hid (HTB.out.below K1); have HP2 := Lib.hid (HP1.out.kp K1); have HO3 := Lib.hid (HO2.out.kp K1)
  clear hs3 K1 HP1 HO2
  go_wp2_with fail
  refine (CV1.out _ _ _ HSO.out).mono ?_
  rintro e w2111 ⟨rfl, hb1⟩
  have Q1 : Kp w211 w2111 := by repeat (first | exact Kp.refl _ | with_reducible assumption | with_reducible refine Kp.set ?_ _ _ ?_ | (dsimp only; omega) | with_reducible refine Kp.drew ?_ | with_reducible refine Kp.drewN ?_ _ | with_reducible refine Kp.al ?_ _ | with_reducible refine Kp.trans ?_ (by with_reducible assumption))
  have K1 := Q1
  clear hb1 Q1
  go_wp2_with fail
  refine (CV2.out _ _ _ (HO3.out.kp (by repeat (first | exact Kp.refl _ | with_reducible assumption | with_reducible refine Kp.set ?_ _ _ ?_ | (dsimp only; omega) | with_reducible refine Kp.drew ?_ | with_reducible refine Kp.drewN ?_ _ | with_reducible refine Kp.al ?_ _ | with_reducible refine Kp.trans ?_ (by with_reducible assumption))))).mono ?_
  rintro e w2112 ⟨rfl, hb2⟩
  have Q2 : Kp w2111 w2112 := by repeat (first | exact Kp.refl _ | with_reducible assumption | with_reducible refine Kp.set ?_ _ _ ?_ | (dsimp only; omega) | with_reducible refine Kp.drew ?_ | with_reducible refine Kp.drewN ?_ _ | with_reducible refine Kp.al ?_ _ | with_reducible refine Kp.trans ?_ (by with_reducible assumption))
  have K2 := K1.trans Q2
  clear hb2 K1 Q2
  have HS4 := Lib.hid (HSO.out.kp K2); have HP4 := Lib.hid (HP2.out.kp K2); have KD := Lib.hid (KC.out.trans K2); have HTD := Lib.hid (HTC.out.below K2)
  clear K2 HSO HP2 HO3
  go_wp2_with fail
  obtain ⟨wz, ewz⟩ : ∃ wz : World, wz = w2112 := ⟨_, rfl⟩
  subst ewz
  go_loopw [10, 11] (fun l i wr => ∃ j : Nat, j ≤ k1 ∧ i = .int .i64 ((j : Int) - 1) ∧ wr.ownsRow wz.heap.size 36 3 l (k1 - j) (flat (ps.reverse.take (k1 - j))) ∧ Kp wz wr) (fun _ i _ => (intOf i + 1).toNat)
  case atStart => exact ⟨k1, Nat.le_refl _, rfl, by rw [Nat.sub_self]; exact World.ownsRow_nil _ _ _ _, Kp.refl _⟩
  case round =>
    obtain ⟨j, hj, rfl, hown, hK⟩ := hrel
    obtain ⟨B, d, rfl⟩ := ow_form hown
    have HO := Lib.hid hown
    clear hown
    by_cases hj0 : j = 0
    · subst hj0
      have em : ((0 : Nat) : Int) - 1 = -1 := rfl
      rw [em]
      have hall : ps.reverse.take (k1 - 0) = ps.reverse := List.take_of_length_le (by have := HPL.out; simp; omega)
      have HQ : Hid (Pts wr B k1 ps.reverse) := by
        have := pts_of_own HO.out
        rw [hall] at this
        exact this
      clear em hall
      rw [Nat.sub_zero]
      go_wp2_with fail
      refine (CS2.out _ _ _ (HTD.out.below hK) HQ.out).mono ?_
      rintro e wr1 ⟨⟨B5, d6, rfl, -⟩, hb1⟩
      have Q1 : Kp wr wr1 := by repeat (first | exact Kp.refl _ | with_reducible assumption | with_reducible refine Kp.set ?_ _ _ ?_ | (dsimp only; omega) | with_reducible refine Kp.drew ?_ | with_reducible refine Kp.drewN ?_ _ | with_reducible refine Kp.al ?_ _ | with_reducible refine Kp.trans ?_ (by with_reducible assumption))
      have K1 := Q1
      clear hb1 Q1
      go_wp2_with fail
      go_ret
      exact ⟨rfl, KD.out.trans (hK.trans (by repeat (first | exact Kp.refl _ | with_reducible assumption | with_reducible refine Kp.set ?_ _ _ ?_ | (dsimp only; omega) | with_reducible refine Kp.drew ?_ | with_reducible refine Kp.drewN ?_ _ | with_reducible refine Kp.al ?_ _ | with_reducible refine Kp.trans ?_ (by with_reducible assumption))))⟩
    · obtain ⟨i, ei⟩ : ∃ i : Nat, (j : Int) - 1 = i := ⟨j - 1, by omega⟩
      rw [ei]
      have hik : i < k1 := by omega
      obtain ⟨m, em⟩ : ∃ m, m = k1 - j := ⟨_, rfl⟩
      rw [← em] at HO
      rw [← em]
      have hm1 : k1 - i = m + 1 := by omega
      have hm30 : m ≤ 30 := by omega
      have efs := flat_rev_succ ps m (by have := HPL.out; omega)
      rw [show ps.length - 1 - m = i by have := HPL.out; omega] at efs
      obtain ⟨b, off, rfl, e0, e1⟩ := (HS4.out.kp hK).2 i hik
      obtain ⟨b', off', rfl, f0, f1, f2⟩ := (HP4.out.kp hK).2 i hik
      have ct := fun w t => gpitch_ok (syAt O i).1 (syAt O i).2 w t (HOV.out i hik)
      have epp : ((syAt O i).1, (syAt O i).2) = syAt O i := rfl
      rw [epp, HOP.out i hik] at ct
      obtain ⟨x, ex⟩ : ∃ x, x = (ptAt ps i).1 := ⟨_, rfl⟩
      obtain ⟨y, ey⟩ : ∃ y, y = (ptAt ps i).2.1 := ⟨_, rfl⟩
      obtain ⟨z, ez⟩ : ∃ z, z = (ptAt ps i).2.2 := ⟨_, rfl⟩
      rw [← ex] at f0 ct efs
      rw [← ey] at f1 ct efs
      rw [← ez] at f2 ct efs
      obtain ⟨s, es⟩ : ∃ s, s = (syAt O i).1 := ⟨_, rfl⟩
      obtain ⟨o, eo⟩ : ∃ o, o = (syAt O i).2 := ⟨_, rfl⟩
      rw [← es] at e0 ct
      rw [← eo] at e1 ct
      have q1 : (0 : Int) ≤ (i : Int) := by omega
      have q2 : (i : Int) < (k1 : Int) := by omega
      have dge : decide ((0 : Int) ≤ (i : Int)) = true := by simp
      have i1 : IntKind.i64.wrap ((i : Int) - 1) = (i : Int) - 1 := IntWalk.i64_in _ (by omega)
      have CT := Lib.hid ct; have EFS := Lib.hid efs; have HM1 := Lib.hid hm1; have HKR := Lib.hid hK
      have el := cell_lt e0
      have fl := cell_lt f0
      clear ct efs hm1 epp ex ey ez es eo ei em hK
      go_wp2_with fail
      refine (CT.out _ (HTD.out.below HKR.out)).mono ?_
      rintro e wr1 ⟨rfl, hb1⟩
      have Q1 : Kp wr wr1 := by repeat (first | exact Kp.refl _ | with_reducible assumption | with_reducible refine Kp.set ?_ _ _ ?_ | (dsimp only; omega) | with_reducible refine Kp.drew ?_ | with_reducible refine Kp.drewN ?_ _ | with_reducible refine Kp.al ?_ _ | with_reducible refine Kp.trans ?_ (by with_reducible assumption))
      have K1 := Q1
      clear hb1 Q1
      have y0 := K1.get f0
      have y1 := K1.get f1
      have y2 := K1.get f2
      have fl1 := cell_lt y0
      have HO1 := Lib.hid (ow_kp HO.out K1); have KE := Lib.hid (HKR.out.trans K1)
      clear e0 e1 f0 f1 f2 K1
      go_wp2_with fail
      go_quiet (fail)
      go_wp2_with (at_builtin; refine wpList_append_own _ rfl (.tmp 79) (.tmp 84) 24 rfl wz.heap.size 36 i0 (.agg #[.int .i64 0, .int .i64 0, .int .i64 0]) 3 24 Tryd.underlying24 HI.out HZ0.out HZ1.out HZ2.out rfl (by decide) _ m (flat (ps.reverse.take m)) rfl ?own ⟨wr1.heap.size + 1, 0, none⟩ 1 1 [.int .i64 x, .int .i64 y, .int .i64 z] rfl rfl ?c1 ?c2 ?c3 ?c4 ?c5 ?_)
      case own => exact ow_kp HO1.out (by repeat (first | exact Kp.refl _ | with_reducible assumption | with_reducible refine Kp.set ?_ _ _ ?_ | (dsimp only; omega) | with_reducible refine Kp.drew ?_ | with_reducible refine Kp.drewN ?_ _ | with_reducible refine Kp.al ?_ _ | with_reducible refine Kp.trans ?_ (by with_reducible assumption)))
      case c1 => simpa using cell3_new ((wr1.alloc (.cells #[.int .i64 x, .int .i64 y, .int .i64 z] 36)).drewN nq) (.int .i64 x) (.int .i64 y) (.int .i64 z) 36
      case c2 => simp [Value.oneCell']
      case c3 => simp only [maxLen]; omega
      case c4 => omega
      case c5 => have := KE.out.low; simp; omega
      intro v' w3 hown' hgrow _
      have kwa : Kp wr1 (((wr1.alloc (.cells #[.int .i64 x, .int .i64 y, .int .i64 z] 36)).drewN nq).alloc (.cells #[.int .i64 x, .int .i64 y, .int .i64 z] 36)) := by repeat (first | exact Kp.refl _ | with_reducible assumption | with_reducible refine Kp.set ?_ _ _ ?_ | (dsimp only; omega) | with_reducible refine Kp.drew ?_ | with_reducible refine Kp.drewN ?_ _ | with_reducible refine Kp.al ?_ _ | with_reducible refine Kp.trans ?_ (by with_reducible assumption))
      have hk2 := Lib.hid (ow_app KE.out HO1.out kwa hgrow)
      rw [← EFS.out] at hown'
      obtain ⟨g, cap, rfl⟩ := ownsRow_succ hown'
      have HO2 := Lib.hid hown'
      clear hgrow hown' kwa
      go_wp2_with fail
      go_roundw
      case rel => exact ⟨i, by omega, by go_num, by rw [HM1.out]; exact HO2.out, hk2.out⟩
      case measure => simp [intOf]
end Go.Proofs.YtaobndijldidfaaDoor
