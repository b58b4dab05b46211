/- GamutOctave: the walk. -/
import Derived.Test.YtaobndijldidfaaDoorGs
import Derived.Test.YtaobndijldidfaaDoorGw
import Derived.Test.YtaobndijldidfaaDoorGjo
set_option linter.unusedSimpArgs false
set_option linter.unusedVariables false
namespace Go.Proofs.YtaobndijldidfaaDoor
open Go.RowKit
/- stubhere -/

/-- A row of n elements of s integers each, in a block of its own. -/
def RowX (w : World) (base : Nat) (A : Option Addr) (n s : Nat) (f : Nat → Nat → Int) : Prop :=
  ∀ j, j < n → ∃ g t cs, A = some ⟨g, 0, none⟩ ∧ base ≤ g ∧ Blk w g t cs ∧ ∀ j, j < n → ∀ o, o < s → cs[j * s + o]? = some (.int .i64 (f j o))
theorem RowX.kp {w w' : World} {base n s : Nat} {A : Option Addr} {f : Nat → Nat → Int} (h : RowX w base A n s f) (k : Kp w w') : RowX w' base A n s f := fun j hj => by
  obtain ⟨g, t, cs, e, hb, hg, hc⟩ := h j hj
  exact ⟨g, t, cs, e, hb, hg.kp k, hc⟩
theorem RowX.at_ {w : World} {base n s : Nat} {A : Option Addr} {f : Nat → Nat → Int} (h : RowX w base A n s f) (j : Nat) (hj : j < n) :
    ∃ g, A = some ⟨g, 0, none⟩ ∧ base ≤ g ∧ ∀ o, o < s → Ow w g (j * s + o) (.int .i64 (f j o)) := by
  obtain ⟨g, t, cs, e, hb, hg, hc⟩ := h j hj
  exact ⟨g, e, hb, fun o ho => ⟨by rw [hg.cell, hc j hj o ho], hg.free _⟩⟩
theorem RowX.put {w : World} {base n s g : Nat} {f : Nat → Nat → Int} (h : RowX w base (some ⟨g, 0, none⟩) n s f) (k o : Nat) (hk : k < n) (ho : o < s) (v : Int) (f' : Nat → Nat → Int)
    (h1 : f' k o = v) (h2 : ∀ j o', j < n → o' < s → ¬ (j = k ∧ o' = o) → f' j o' = f j o') : RowX (w.setCell ⟨g, k * s + o, none⟩ (.int .i64 v)) base (some ⟨g, 0, none⟩) n s f' := fun j hj => by
  obtain ⟨g', t, cs, e, hb, hg, hc⟩ := h j hj
  injection e with e
  injection e with e _ _
  subst e
  refine ⟨g, t, _, rfl, hb, hg.set_ _ _, fun j hj o' ho' => ?_⟩
  have c0 := hc j hj o' ho'
  by_cases e : j = k ∧ o' = o
  · obtain ⟨rfl, rfl⟩ := e
    rw [h1]
    have hlt : j * s + o' < cs.size := (Array.getElem?_eq_some_iff.1 c0).1
    rw [Array.getElem?_setIfInBounds_self_of_lt hlt]
  · have hne : k * s + o ≠ j * s + o' := by
      intro hh
      have h3 : k = j := by
        rcases Nat.lt_trichotomy k j with h | h | h
        · have := Nat.mul_le_mul_right s h
          rw [Nat.succ_mul] at this
          omega
        · exact h
        · have := Nat.mul_le_mul_right s h
          rw [Nat.succ_mul] at this
          omega
      subst h3
      exact e ⟨rfl, by omega⟩
    rw [Array.getElem?_setIfInBounds_ne hne, c0, h2 j o' hj ho' e]
theorem RowX.far {w : World} {base n s : Nat} {A : Option Addr} {f : Nat → Nat → Int} (h : RowX w base A n s f) {p : Addr} (hp : p.block < base) (u : Value) : RowX (w.setCell p u) base A n s f := fun j hj => by
  obtain ⟨g, t, cs, e, hb, hg, hc⟩ := h j hj
  exact ⟨g, t, cs, e, hb, hg.far (by omega) u, hc⟩
theorem row_syls {w : World} {B : Nat} {t : TypeId} {A : Option Addr} {n c : Nat} {ss : List Sy} (h : w.ownsRow B t 2 (.slice A n c) n (flatS ss)) : RowX w B A n 2 fun j o => if o = 0 then (syAt ss j).1 else (syAt ss j).2 := fun j hj => by
  obtain ⟨hl, h⟩ := h
  have hl' : ss.length = n := by rw [flatS_len] at hl; omega
  rcases h with ⟨_, h0⟩ | ⟨g, cap, cur, e, hb, hg, _, _, _, ht⟩
  · omega
  · obtain rfl : A = some ⟨g, 0, none⟩ := by injection e
    refine ⟨g, t, cur, rfl, hb, hg, fun j hj o ho => ?_⟩
    have h2 : (cur.toList.take (n * 2))[j * 2 + o]? = cur.toList[j * 2 + o]? := List.getElem?_take_of_lt (by omega)
    rw [ht] at h2
    obtain ⟨f0, f1⟩ := flatS_at ss j (by omega)
    have hc : o = 0 ∨ o = 1 := by omega
    rcases hc with rfl | rfl
    · rw [Nat.add_zero, f0] at h2
      rw [Nat.add_zero]
      simpa using h2.symm
    · rw [f1] at h2
      simpa using h2.symm
theorem row_pts {w : World} {B : Nat} {t : TypeId} {A : Option Addr} {n c : Nat} {ps : List Pt} (h : w.ownsRow B t 3 (.slice A n c) n (flat ps)) : RowX w B A n 3 fun j o => if o = 0 then (ptAt ps j).1 else if o = 1 then (ptAt ps j).2.1 else (ptAt ps j).2.2 := fun j hj => by
  obtain ⟨hl, h⟩ := h
  have hl' : ps.length = n := by rw [flat_len] at hl; omega
  rcases h with ⟨_, h0⟩ | ⟨g, cap, cur, e, hb, hg, _, _, _, ht⟩
  · omega
  · obtain rfl : A = some ⟨g, 0, none⟩ := by injection e
    refine ⟨g, t, cur, rfl, hb, hg, fun j hj o ho => ?_⟩
    have h2 : (cur.toList.take (n * 3))[j * 3 + o]? = cur.toList[j * 3 + o]? := List.getElem?_take_of_lt (by omega)
    rw [ht] at h2
    obtain ⟨f0, f1, f2⟩ := flat_at ps j (by omega)
    have hc : o = 0 ∨ o = 1 ∨ o = 2 := by omega
    rcases hc with rfl | rfl | rfl
    · rw [Nat.add_zero, f0] at h2
      rw [Nat.add_zero]
      simpa using h2.symm
    · rw [f1] at h2
      simpa using h2.symm
    · rw [f2] at h2
      simpa using h2.symm
theorem RowX.sys {w : World} {base n : Nat} {A : Option Addr} {f : Nat → Nat → Int} (h : RowX w base A n 2 f) (ss : List Sy) (hl : ss.length = n) (hs : ∀ j, j < n → f j 0 = (syAt ss j).1 ∧ f j 1 = (syAt ss j).2) : Sys w A n ss :=
  ⟨hl, fun j hj => by
    obtain ⟨g, e, _, hc⟩ := h.at_ j hj
    have c0 := (hc 0 (by omega)).1
    have c1 := (hc 1 (by omega)).1
    rw [(hs j hj).1] at c0
    rw [(hs j hj).2] at c1
    exact ⟨g, 0, e, by simpa using c0, by simpa using c1⟩⟩
theorem RowX.pts {w : World} {base n : Nat} {A : Option Addr} {f : Nat → Nat → Int} (h : RowX w base A n 3 f) (ps : List Pt) (hl : ps.length = n) (hs : ∀ j, j < n → f j 0 = (ptAt ps j).1 ∧ f j 1 = (ptAt ps j).2.1 ∧ f j 2 = (ptAt ps j).2.2) : Pts w A n ps :=
  ⟨hl, fun j hj => by
    obtain ⟨g, e, _, hc⟩ := h.at_ j hj
    have c0 := (hc 0 (by omega)).1
    have c1 := (hc 1 (by omega)).1
    have c2 := (hc 2 (by omega)).1
    rw [(hs j hj).1] at c0
    rw [(hs j hj).2.1] at c1
    rw [(hs j hj).2.2] at c2
    exact ⟨g, 0, e, by simpa using c0, by simpa using c1, by simpa using c2⟩⟩
def hexM (x : Sy) : Sy := (1 + x.1 % 4, x.2)
def f1 (S : List Sy) (k j o : Nat) : Int := if o = 0 then (if j < k then 1 + (syAt S j).1 % 4 else (syAt S j).1) else (syAt S j).2
def f2 (P : List Pt) (k j o : Nat) : Int := if o = 0 then (ptAt P j).1 else if o = 1 then (if j < k then (ptAt P j).2.1 + 1 else (ptAt P j).2.1) else (ptAt P j).2.2
theorem syAt_map (S : List Sy) (f : Sy → Sy) (j : Nat) (h : j < S.length) : syAt (S.map f) j = f (syAt S j) := by unfold syAt; simp [List.getD, h]
theorem ptAt_map (S : List Pt) (f : Pt → Pt) (j : Nat) (h : j < S.length) : ptAt (S.map f) j = f (ptAt S j) := by unfold ptAt; simp [List.getD, h]
theorem vs_all' {ss : List Sy} (h : ∀ y ∈ ss, Vs y.1 y.2) : ∀ j, j < ss.length → Vs (syAt ss j).1 (syAt ss j).2 := fun j hj => h _ (syAt_mem hj)

set_option maxRecDepth 100000 in
set_option maxHeartbeats 8000000 in
theorem goctave_walk (A : Option Addr) (n c : Nat) (xs : List Int) (w : World) (ht0 : Tab w) (hx : Ints w A n xs) (hmx : n ≤ maxLen) :
    Calls Tryd.prog 4 #[.slice A n c] w fun e w' => e = .returned (.bool true) ∧ Kp w w' := by
  have HT := Lib.hid ht0; have HX := Lib.hid hx
  have CK := Lib.hid (fun w t => known_ok w t)
  have cm1 := fun w h => made_ok A n c xs w h hmx
  obtain ⟨k1, ek1⟩ : ∃ k, k = min n 30 := ⟨_, rfl⟩
  rw [← ek1] at cm1
  have hk1 : k1 ≤ 30 := by omega
  have hv1 := madeS_ok xs k1
  have hl1 := madeS_len xs k1 (by have := hx.1; omega)
  obtain ⟨S1, eS1⟩ : ∃ S, S = madeS xs k1 := ⟨_, rfl⟩
  rw [← eS1] at cm1 hv1 hl1
  have hj1 := vs_all' hv1
  rw [hl1] at hj1
  have hv2 : ∀ y ∈ S1.map hexM, Vs y.1 y.2 := by
    intro y hy
    obtain ⟨x, hx', rfl⟩ := List.mem_map.1 hy
    have := hv1 x hx'
    unfold Vs at this
    unfold hexM Vs
    dsimp only
    omega
  have hs2 : ∀ j, j < k1 → f1 S1 k1 j 0 = (syAt (S1.map hexM) j).1 ∧ f1 S1 k1 j 1 = (syAt (S1.map hexM) j).2 := by
    intro j hj
    rw [syAt_map S1 hexM j (by omega)]
    unfold f1 hexM
    simp [hj]
  have hl2 : (S1.map hexM).length = k1 := by simpa using hl1
  obtain ⟨S2, eS2⟩ : ∃ S, S = S1.map hexM := ⟨_, rfl⟩
  rw [← eS2] at hv2 hs2 hl2
  have hj2 := vs_all' hv2
  rw [hl2] at hj2
  have g1 := pit_good hv2
  have cl1 := fun w B d t h => melody_ok B k1 d S2 w t h (by omega) hj2
  obtain ⟨ps, eps⟩ : ∃ ps, ps = S2.map pitS := ⟨_, rfl⟩
  have hpl : ps.length = k1 := by rw [eps]; simpa using hl2
  rw [← eps] at cl1 g1
  have hpv : ∀ j, j < k1 → Vp (ptAt ps j).1 (ptAt ps j).2.1 (ptAt ps j).2.2 := fun j hj => (g1 _ (by unfold ptAt; simp [List.getD, show j < ps.length by omega])).1
  have hol := octave_law ps g1
  have hOl : (sol none (ps.map wys)).length = k1 := by rw [sol_len]; simpa using hpl
  have cs1 := fun w B d t h => solmize_own B k1 d ps w t h (by omega) g1
  have cs2 := fun (h4 : ∀ x ∈ sol none (ps.map wys), x.1 ≤ 4) w B d t h => solmize_ok B k1 d (ps.map up) w t h (by omega) (hol h4).1
  obtain ⟨O, eO⟩ : ∃ O, O = sol none (ps.map wys) := ⟨_, rfl⟩
  rw [← eO] at cs1 cs2 hol hOl
  obtain ⟨M, eM⟩ : ∃ M, M = muts (ps.map wys) := ⟨_, rfl⟩
  rw [← eM] at cs1 hol
  obtain ⟨M2, eM2⟩ : ∃ M, M = muts ((ps.map up).map wys) := ⟨_, rfl⟩
  rw [← eM2] at cs2 hol
  have CM1 := Lib.hid cm1; have CL1 := Lib.hid cl1; have CS1 := Lib.hid cs1; have CS2 := Lib.hid cs2; have HOL := Lib.hid hol; have HJ1 := Lib.hid hj1; have HS2 := Lib.hid hs2; have HL2 := Lib.hid hl2; have HPL := Lib.hid hpl; have HPV := Lib.hid hpv; have HOLen := Lib.hid hOl
  clear ht0 hx cm1 ek1 hv1 hl1 eS1 hj1 hv2 hs2 hl2 eS2 hj2 g1 cl1 eps hpl hol hOl cs1 cs2 eO eM eM2 hpv hmx
  go_enter Tryd.func4, Tryd.ntmps4
  go_wp2_with fail
  refine (CK.out _ HT.out).mono ?_
  rintro e w1 ⟨rfl, hb1⟩
  have Q1 : Kp w w1 := by repeat (first | exact Kp.refl _ | with_reducible assumption | with_reducible refine Kp.set ?_ _ _ ?_ | (dsimp only; omega) | with_reducible refine Kp.drew ?_ | with_reducible refine Kp.drewN ?_ _ | with_reducible refine Kp.al ?_ _ | with_reducible refine Kp.trans ?_ (by with_reducible assumption))
  have K1 := Q1
  clear hb1 Q1
  have HXA := Lib.hid (HX.out.kp K1); have HTA := Lib.hid (HT.out.below K1); have KA := Lib.hid K1
  clear K1
  go_wp2_with fail
  refine (CM1.out _ HXA.out).mono ?_
  rintro e w11 ⟨⟨B1, d3, rfl, ho1⟩, hb1⟩
  have Q1 : Kp w1 w11 := by repeat (first | exact Kp.refl _ | with_reducible assumption | with_reducible refine Kp.set ?_ _ _ ?_ | (dsimp only; omega) | with_reducible refine Kp.drew ?_ | with_reducible refine Kp.drewN ?_ _ | with_reducible refine Kp.al ?_ _ | with_reducible refine Kp.trans ?_ (by with_reducible assumption))
  have K1 := Q1
  clear hb1 Q1
  have hr1 : RowX w11 w1.heap.size B1 k1 2 (f1 S1 0) := row_syls ho1
  have HR1 := Lib.hid hr1; have KB := Lib.hid K1
  clear ho1 hr1 K1
  go_wp2_with fail
  go_loopw [5] (fun i wr => ∃ k : Nat, k ≤ k1 ∧ i = .int .i64 (k : Int) ∧ RowX wr w1.heap.size B1 k1 2 (f1 S1 k) ∧ Kp w1 wr) (fun i _ => k1 - (intOf i).toNat)
  case atStart => exact ⟨0, by omega, rfl, HR1.out, KB.out⟩
  case round =>
    obtain ⟨k, hk, rfl, hR, hK⟩ := hrel
    by_cases hlt : k < k1
    · have hd : decide ((k : Int) < (k1 : Int)) = true := by simp; omega
      obtain ⟨g, rfl, hg, hc⟩ := hR.at_ k hlt
      obtain ⟨c0, c1⟩ := hc 0 (by omega)
      obtain ⟨v1, v2, _, _⟩ := HJ1.out k hlt
      have ef : f1 S1 k k 0 = (syAt S1 k).1 := by unfold f1; simp
      have ef2 : f1 S1 (k + 1) k 0 = 1 + (syAt S1 k).1 % 4 := by unfold f1; simp
      rw [ef, Nat.add_zero] at c0
      rw [Nat.add_zero] at c1
      have e1 : (syAt S1 k).1.tmod 4 = (syAt S1 k).1 % 4 := by rw [Int.tmod_eq_emod_of_nonneg (by omega)]
      have b1 : 0 ≤ (syAt S1 k).1 % 4 ∧ (syAt S1 k).1 % 4 < 4 := by omega
      obtain ⟨y, ey⟩ : ∃ y, y = (syAt S1 k).1 % 4 := ⟨_, rfl⟩
      rw [← ey] at e1 b1 ef2
      obtain ⟨x, ex⟩ : ∃ x, x = (syAt S1 k).1 := ⟨_, rfl⟩
      rw [← ex] at c0 e1
      have i1 : IntKind.i64.wrap y = y := IntWalk.i64_in _ (by omega)
      have i2 : IntKind.i64.wrap (1 + y) = 1 + y := IntWalk.i64_in _ (by omega)
      have j1 : (0 : Int) ≤ (k : Int) := by omega
      have j2 : (k : Int) < (k1 : Int) := by omega
      have HR := Lib.hid hR; have EF2 := Lib.hid ef2; have HK := Lib.hid hK
      have gl := cell_lt c0
      clear hR hc v1 v2 ef ef2 b1 ey ex hK
      go_wp2_with fail
      go_roundw
      case rel => exact ⟨k + 1, by omega, by go_num, HR.out.put k 0 hlt (by omega) _ _ EF2.out (fun j o hj ho hne => by
        unfold f1
        by_cases ho0 : o = 0
        · have hjk : j ≠ k := fun e => hne ⟨e, ho0⟩
          by_cases h1 : j < k
          · simp [ho0, h1, show j < k + 1 by omega]
          · simp [ho0, h1, show ¬ j < k + 1 by omega]
        · simp [ho0]), HK.out.set _ _ (by dsimp only; omega)⟩
      case measure => simp [intOf]; omega
    · obtain rfl : k = k1 := by omega
      have hd : decide ((k : Int) < (k : Int)) = false := by simp
      have HSY := Lib.hid (hR.sys S2 HL2.out HS2.out)
      have KC := Lib.hid (KA.out.trans hK)
      have HTC := Lib.hid (HTA.out.below hK)
      clear hR hK
      obtain ⟨wp, ewp⟩ : ∃ wp : World, wp = wr := ⟨_, rfl⟩
      subst ewp
      go_wp2_with fail
      refine (CL1.out _ _ _ HTC.out HSY.out).mono ?_
      rintro e wp1 ⟨⟨B2, d4, rfl, ho2⟩, hb1⟩
      have Q1 : Kp wp wp1 := by repeat (first | exact Kp.refl _ | with_reducible assumption | with_reducible refine Kp.set ?_ _ _ ?_ | (dsimp only; omega) | with_reducible refine Kp.drew ?_ | with_reducible refine Kp.drewN ?_ _ | with_reducible refine Kp.al ?_ _ | with_reducible refine Kp.trans ?_ (by with_reducible assumption))
      have K1 := Q1
      clear hb1 Q1
      have hr2 : RowX wp1 wp.heap.size B2 k 3 (f2 ps 0) := row_pts ho2
      have hlow : ∀ g, 0 < k → B2 = some ⟨g, 0, none⟩ → g < wp1.heap.size := by
        intro g h0 e
        obtain ⟨g', t, cs, e', _, hb, _⟩ := hr2 0 h0
        rw [e] at e'
        injection e' with e'
        injection e' with e' _ _
        rw [e']
        exact hb.lt
      have HP := Lib.hid (pts_of_own ho2); have HR2 := Lib.hid hr2; have HLOW := Lib.hid hlow; have KD := Lib.hid K1; have HTD := Lib.hid (HTC.out.below K1)
      clear ho2 hr2 hlow K1
      go_wp2_with fail
      refine (CS1.out _ _ _ HTD.out HP.out).mono ?_
      rintro e wp11 ⟨⟨B3, d5, rfl, ho3⟩, hb1⟩
      have Q1 : Kp wp1 wp11 := by repeat (first | exact Kp.refl _ | with_reducible assumption | with_reducible refine Kp.set ?_ _ _ ?_ | (dsimp only; omega) | with_reducible refine Kp.drew ?_ | with_reducible refine Kp.drewN ?_ _ | with_reducible refine Kp.al ?_ _ | with_reducible refine Kp.trans ?_ (by with_reducible assumption))
      have K1 := Q1
      clear hb1 Q1
      have hr3 : RowX wp11 wp1.heap.size B3 k 2 (fun j o => if o = 0 then (syAt O j).1 else (syAt O j).2) := row_syls ho3
      have HR3 := Lib.hid hr3; have HR4 := Lib.hid (HR2.out.kp K1); have KE := Lib.hid (KD.out.trans K1)
      clear ho3 hr3 K1 HP HR2
      go_wp2_with fail
      go_loopw [11] (fun i wq => ∃ m : Nat, m ≤ k ∧ i = .int .i64 (m : Int) ∧ RowX wq wp.heap.size B2 k 3 (f2 ps m) ∧ RowX wq wp1.heap.size B3 k 2 (fun j o => if o = 0 then (syAt O j).1 else (syAt O j).2) ∧ (∀ j, j < m → (syAt O j).1 ≤ 4) ∧ Kp wp wq) (fun i _ => k - (intOf i).toNat)
      case atStart => exact ⟨0, by omega, rfl, HR4.out, HR3.out, fun j hj => absurd hj (by omega), KE.out⟩
      case round =>
        obtain ⟨m, hm, rfl, hL, hA, h4, hK⟩ := hrel
        by_cases hlt2 : m < k
        · have hd2 : decide ((m : Int) < (k : Int)) = true := by simp; omega
          obtain ⟨g3, rfl, _, hc3⟩ := hA.at_ m hlt2
          obtain ⟨a0, _⟩ := hc3 0 (by omega)
          rw [Nat.add_zero, if_pos rfl] at a0
          have j1 : (0 : Int) ≤ (m : Int) := by omega
          have j2 : (m : Int) < (k : Int) := by omega
          have gl3 := cell_lt a0
          by_cases hx4 : (syAt O m).1 ≤ 4
          · obtain ⟨g2, rfl, hg2, hc2⟩ := hL.at_ m hlt2
            obtain ⟨l0, l1⟩ := hc2 1 (by omega)
            have ef : f2 ps m m 1 = (ptAt ps m).2.1 := by unfold f2; simp
            have ef2 : f2 ps (m + 1) m 1 = (ptAt ps m).2.1 + 1 := by unfold f2; simp
            rw [ef] at l0
            obtain ⟨_, _, v3, v4, _, _⟩ := HPV.out m hlt2
            have d4 : decide (4 < (syAt O m).1) = false := by simp; omega
            have H4 := Lib.hid (show ∀ j, j < m + 1 → (syAt O j).1 ≤ 4 from fun j hj => by
              by_cases h : j < m
              · exact h4 j h
              · obtain rfl : j = m := by omega
                exact hx4)
            obtain ⟨x, ex⟩ : ∃ x, x = (syAt O m).1 := ⟨_, rfl⟩
            rw [← ex] at a0 d4
            obtain ⟨y, ey⟩ : ∃ y, y = (ptAt ps m).2.1 := ⟨_, rfl⟩
            rw [← ey] at l0 ef2 v3 v4
            have i1 : IntKind.i64.wrap (y + 1) = y + 1 := IntWalk.i64_in _ (by omega)
            have gl2 := cell_lt l0
            have HL := Lib.hid hL; have HA := Lib.hid hA; have EF2 := Lib.hid ef2; have HKK := Lib.hid hK
            have hlw := HLOW.out g2 (by omega) rfl
            clear hL hA hc2 hc3 h4 hx4 ef ef2 v3 v4 ex ey hK
            go_wp2_with fail
            go_roundw
            case rel => exact ⟨m + 1, by omega, by go_num, HL.out.put m 1 hlt2 (by omega) _ _ EF2.out (fun j o hj ho hne => by
              unfold f2
              by_cases ho0 : o = 0
              · simp [ho0]
              · by_cases ho1 : o = 1
                · have hjk : j ≠ m := fun e => hne ⟨e, ho1⟩
                  by_cases h1 : j < m
                  · simp [ho1, h1, show j < m + 1 by omega]
                  · simp [ho1, h1, show ¬ j < m + 1 by omega]
                · simp [ho0, ho1]), HA.out.far (by dsimp only; omega) _, H4.out, HKK.out.set _ _ (by dsimp only; omega)⟩
            case measure => simp [intOf]; omega
          · have d4 : decide (4 < (syAt O m).1) = true := by simp; omega
            have HKK := Lib.hid (KC.out.trans hK)
            obtain ⟨x, ex⟩ : ∃ x, x = (syAt O m).1 := ⟨_, rfl⟩
            rw [← ex] at a0 d4
            clear hL hA hc3 h4 hx4 ex hK
            go_wp2_with fail
            go_ret
            exact ⟨rfl, HKK.out⟩
        · obtain rfl : m = k := by omega
          have hd2 : decide ((m : Int) < (m : Int)) = false := by simp
          have hall : ∀ x ∈ O, x.1 ≤ 4 := by
            intro x hx
            obtain ⟨j, hj, e⟩ := List.getElem_of_mem hx
            have := h4 j (by have := HOLen.out; omega)
            unfold syAt at this
            simp [List.getD, hj, e] at this
            exact this
          have hle := (HOL.out hall).2
          have C2 := Lib.hid (CS2.out hall)
          have HQ := Lib.hid (hL.pts (ps.map up) (by have := HPL.out; simpa using this) (fun j hj => by
            rw [ptAt_map ps up j (by have := HPL.out; omega)]
            unfold f2 up
            simp [hj]))
          have dle : decide (M2 ≤ M) = true := decide_eq_true hle
          have HKK := Lib.hid (KC.out.trans hK); have HTQ := Lib.hid (HTC.out.below hK)
          clear hL hA h4 hall hle hK
          go_wp2_with fail
          refine (C2.out _ _ _ HTQ.out HQ.out).mono ?_
          rintro e wr1 ⟨⟨B4, d6, rfl, -⟩, hb1⟩
          have Q1 : Kp wr wr1 := by repeat (first | exact Kp.refl _ | with_reducible assumption | with_reducible refine Kp.set ?_ _ _ ?_ | (dsimp only; omega) | with_reducible refine Kp.drew ?_ | with_reducible refine Kp.drewN ?_ _ | with_reducible refine Kp.al ?_ _ | with_reducible refine Kp.trans ?_ (by with_reducible assumption))
          have K1 := Q1
          clear hb1 Q1
          go_wp2_with fail
          go_ret
          exact ⟨rfl, HKK.out.trans (by repeat (first | exact Kp.refl _ | with_reducible assumption | with_reducible refine Kp.set ?_ _ _ ?_ | (dsimp only; omega) | with_reducible refine Kp.drew ?_ | with_reducible refine Kp.drewN ?_ _ | with_reducible refine Kp.al ?_ _ | with_reducible refine Kp.trans ?_ (by with_reducible assumption)))⟩
end Go.Proofs.YtaobndijldidfaaDoor
