/- GamutSolmizes: the walk. -/
import Derived.Test.YtaobndijldidfaaDoorHk
import Derived.Test.YtaobndijldidfaaDoorGt
import Derived.BigQuiet
set_option linter.unusedSimpArgs false
set_option linter.unusedVariables false
namespace Go.Proofs.YtaobndijldidfaaDoor
open Go.RowKit
/- stubhere -/

/-- append(v, l...) of an argument that reads as a list of pitches. -/
theorem wpList_app_pts {P : Program} {w : World} {ops : Array Oper} {rest : List Oper} {o : Oper} {a : Act} {Q : Exit → Act → World → Prop} (hgd : o.guard = none) (s x : Operand) (t : TypeId)
    (ho : o.op = .call { callee := .builtin .append, args := #[s, x], argTypes := #[t, t] })
    (base : Nat) (e : TypeId) (i : TypeInfo) (z : Value) (bytes : Nat) (ht : P.underlying t = some (.slice e)) (hi : P.info? e = some i) (hz : i.zero = some z)
    (hsize : i.size = 3) (hby : i.bytes = bytes) (hzs : z.cells.size = 3)
    (v : Value) (n : Nat) (xs : List Value) (hs : a.eval s = v) (hown : w.ownsRow base e 3 v n xs)
    (A : Option Addr) (m c : Nat) (ps : List Pt) (hx : a.eval x = .slice A m c) (hsrc : Pts w A m ps) (hnil : A = none → m = 0 ∧ c = 0)
    (h63 : n + m ≤ maxLen) (hbytes : (n + m) * bytes ≤ 140737488355328) (hbase : base ≤ w.heap.size)
    (h : ∀ v' w', w'.ownsRow base e 3 v' (n + m) (xs ++ flat ps) → w.grownBy w' v.ownBlock → wpList P ops Q rest (a.put o.dst v') w') : wpList P ops Q (o :: rest) a w := by
  cases A with
  | none =>
    obtain ⟨rfl, rfl⟩ := hnil rfl
    have hn0 : ps = [] := List.eq_nil_of_length_eq_zero hsrc.1
    subst hn0
    exact wpList_append_own_none hgd s x t ho base e i 3 ht hi v n xs hs hown hx (h v w (by simpa [flat] using hown) ⟨rfl, rfl, rfl, Nat.le_refl _, fun _ _ _ => rfl⟩)
  | some ad =>
    exact wpList_append_own w hgd s x t ho base e i z 3 bytes ht hi hz hsize hby hzs (by decide) v n xs hs hown ad m c (flat ps) hx (by rw [flat_len, hsrc.1]) (pts_flat hsrc) (flat_one ps) h63 hbytes hbase (fun v' w' a b _ => h v' w' a b)

theorem first_bad {P : Nat → Prop} (n : Nat) (h : ¬ ∀ j, j < n → P j) : ∃ k0, k0 < n ∧ ¬ P k0 ∧ ∀ j, j < k0 → P j := by
  have hex : ∃ k, k < n ∧ ¬ P k := Classical.byContradiction fun hc => h (fun j hj => Classical.byContradiction fun hh => hc ⟨j, hj, hh⟩)
  have key : ∀ m, (∃ k, k < m ∧ k < n ∧ ¬ P k) → ∃ k0, k0 < n ∧ ¬ P k0 ∧ ∀ j, j < k0 → P j := by
    intro m
    induction m with
    | zero => rintro ⟨k, h, _⟩; omega
    | succ m ih =>
      rintro ⟨k, h1, h2, h3⟩
      by_cases hlow : ∃ k, k < m ∧ k < n ∧ ¬ P k
      · exact ih hlow
      · obtain rfl : k = m := Classical.byContradiction fun hne => hlow ⟨k, by omega, h2, h3⟩
        exact ⟨k, h2, h3, fun j hj => Classical.byContradiction fun hh => hlow ⟨j, hj, by omega, hh⟩⟩
  obtain ⟨k, h1, h2⟩ := hex
  exact key n ⟨k, h1, h1, h2⟩

theorem solm_same (ps : List Pt) (n : Nat) (hl : ps.length = n) (hn : n ≤ 60 ∨ 400 < n) : ∃ (m : Nat) (L : List Sy) (M E : Int), m ≤ 1000 ∧
    (∀ w A c, Tab w → Pts w A n ps → Calls Tryd.prog 13 #[.slice A n c] w fun e w' => (∃ A1 c1, e = .returned (.tuple #[.slice A1 m c1, .int .i64 M, .int .i64 E]) ∧ Sys w' A1 m L) ∧ Kp w w') ∧
    (∀ w A c, Pts w A n ps → Calls Tryd.prog 15 #[.slice A n c] w fun e w' => (∃ A1 c1, e = .returned (.tuple #[.slice A1 m c1, .int .i64 M, .int .i64 E]) ∧ Sys w' A1 m L) ∧ Kp w w') := by
  rcases hn with hn | hn
  · by_cases hv : ∀ j, j < n → Vp (ptAt ps j).1 (ptAt ps j).2.1 (ptAt ps j).2.2 ∧ wys (ptAt ps j) ≠ []
    · have hg : ∀ p ∈ ps, Vp p.1 p.2.1 p.2.2 ∧ wys p ≠ [] := by
        intro p hp
        obtain ⟨j, hj, e⟩ := List.getElem_of_mem hp
        have := hv j (by omega)
        have e2 : ptAt ps j = p := by unfold ptAt; simp [List.getD, hj, e]
        rwa [e2] at this
      exact ⟨n, _, _, 0, by omega, fun w A c t h => solmize_ok A n c ps w t h (by omega) hg, fun w A c h => rsolmize_ok A n c ps w h hn hg⟩
    · obtain ⟨k0, hk0, hb, hg⟩ := first_bad n hv
      have hE : ∃ E : Int, (¬ Vp (ptAt ps k0).1 (ptAt ps k0).2.1 (ptAt ps k0).2.2 ∧ E = 2) ∨ (Vp (ptAt ps k0).1 (ptAt ps k0).2.1 (ptAt ps k0).2.2 ∧ wys (ptAt ps k0) = [] ∧ E = 18) := by
        by_cases h1 : Vp (ptAt ps k0).1 (ptAt ps k0).2.1 (ptAt ps k0).2.2
        · exact ⟨18, .inr ⟨h1, Classical.byContradiction fun h2 => hb ⟨h1, h2⟩, rfl⟩⟩
        · exact ⟨2, .inl ⟨h1, rfl⟩⟩
      obtain ⟨E, hE⟩ := hE
      refine ⟨0, [], 0, E, by omega, fun w A c t h => (solmize_bad A n c k0 ps w t h (by omega) hk0 hg E hE).mono ?_, fun w A c h => (rsolmize_bad A n c k0 ps w h (by omega) hk0 hg E hE).mono ?_⟩
      all_goals
        rintro e w' ⟨e1, k⟩
        exact ⟨⟨_, _, e1, sys_nil _ _⟩, k⟩
  · refine ⟨0, [], 0, 11, by omega, fun w A c t h => (solmize_long A n c w hn).mono ?_, fun w A c h => (rsolmize_long A n c w hn).mono ?_⟩
    all_goals
      rintro e w' ⟨e1, k⟩
      exact ⟨⟨_, _, e1, sys_nil _ _⟩, k⟩

set_option maxRecDepth 100000 in
set_option maxHeartbeats 4000000 in
theorem gsolm_walk (A : Option Addr) (n c : Nat) (ps : List Pt) (w : World) (ht0 : Tab w) (hx : Pts w A n ps) (hmx : n ≤ maxLen) (hz : A = none → n = 0 ∧ c = 0) :
    Calls Tryd.prog 5 #[.slice A n c] w fun e w' => e = .returned (.bool true) ∧ Kp w w' := by
  have HT := Lib.hid ht0; have HX := Lib.hid hx; have HZ := Lib.hid hz
  have hl := hx.1
  have hmx' : (n : Int) ≤ 9223372036854775807 := by simp only [maxLen] at hmx; omega
  have CA := Lib.hid (fun w t => awake_ok w t)
  clear ht0 hx hz hmx
  by_cases hout : (60 < n ∧ n ≤ 400) ∨ 420 < n
  · rcases hout with ⟨h1, h2⟩ | h1
    · have d1 : decide (60 < (n : Int)) = true := by simp; omega
      have d2 : decide ((n : Int) ≤ 400) = true := by simp; omega
      go_enter Tryd.func5, Tryd.ntmps5
      go_wp2_with fail
      refine (CA.out _ HT.out).mono ?_
      rintro e w1 ⟨rfl, hb1⟩
      have Q1 : Kp w w1 := by repeat (first | exact Kp.refl _ | with_reducible assumption | with_reducible refine Kp.set ?_ _ _ ?_ | (dsimp only; omega) | with_reducible refine Kp.drew ?_ | with_reducible refine Kp.drewN ?_ _ | with_reducible refine Kp.al ?_ _ | with_reducible refine Kp.trans ?_ (by with_reducible assumption))
      have K1 := Q1
      clear hb1 Q1
      go_wp2_with fail
      go_ret
      exact ⟨rfl, by repeat (first | exact Kp.refl _ | with_reducible assumption | with_reducible refine Kp.set ?_ _ _ ?_ | (dsimp only; omega) | with_reducible refine Kp.drew ?_ | with_reducible refine Kp.drewN ?_ _ | with_reducible refine Kp.al ?_ _ | with_reducible refine Kp.trans ?_ (by with_reducible assumption))⟩
    · have d1 : decide (60 < (n : Int)) = true := by simp; omega
      have d2 : decide ((n : Int) ≤ 400) = false := by simp; omega
      have d3 : decide (420 < (n : Int)) = true := by simp; omega
      go_enter Tryd.func5, Tryd.ntmps5
      go_wp2_with fail
      refine (CA.out _ HT.out).mono ?_
      rintro e w1 ⟨rfl, hb1⟩
      have Q1 : Kp w w1 := by repeat (first | exact Kp.refl _ | with_reducible assumption | with_reducible refine Kp.set ?_ _ _ ?_ | (dsimp only; omega) | with_reducible refine Kp.drew ?_ | with_reducible refine Kp.drewN ?_ _ | with_reducible refine Kp.al ?_ _ | with_reducible refine Kp.trans ?_ (by with_reducible assumption))
      have K1 := Q1
      clear hb1 Q1
      go_wp2_with fail
      go_ret
      exact ⟨rfl, by repeat (first | exact Kp.refl _ | with_reducible assumption | with_reducible refine Kp.set ?_ _ _ ?_ | (dsimp only; omega) | with_reducible refine Kp.drew ?_ | with_reducible refine Kp.drewN ?_ _ | with_reducible refine Kp.al ?_ _ | with_reducible refine Kp.trans ?_ (by with_reducible assumption))⟩
  · obtain ⟨m, L, M, E, hm, cm1, cm2⟩ := solm_same ps n hl (by omega)
    have CM1 := Lib.hid cm1; have CM2 := Lib.hid cm2
    obtain ⟨i0, hi0, hz0, hz1, hz2⟩ := info_parts pitch_info
    have HI := Lib.hid hi0; have HZ0 := Lib.hid hz0; have HZ1 := Lib.hid hz1; have HZ2 := Lib.hid hz2
    have hn : n ≤ 420 := by omega
    have d3 : decide (420 < (n : Int)) = false := by simp; omega
    have hc : decide (60 < (n : Int)) = false ∨ (decide (60 < (n : Int)) = true ∧ decide ((n : Int) ≤ 400) = false) := by
      simp; omega
    clear hout cm1 cm2 hi0 hz0 hz1 hz2 hl
    rcases hc with d1 | ⟨d1, d2⟩
    all_goals
      go_enter Tryd.func5, Tryd.ntmps5
      go_wp2_with (at_builtin; refine wpList_app_pts rfl (.tmp 25) (.tmp 26) 24 rfl w.heap.size 36 i0 (.agg #[.int .i64 0, .int .i64 0, .int .i64 0]) 24 Tryd.underlying24 HI.out HZ0.out HZ1.out HZ2.out rfl (.slice (some ⟨w.heap.size, 0, none⟩) 0 0) 0 [] rfl ?own A n c ps rfl ?c0 HZ.out ?c3 ?c4 ?c5 ?_)
      case own => exact World.ownsRow_made w #[] 0 (Nat.le_refl _) (by decide) rfl
      case c0 => exact HX.out.kp ((Kp.refl w).al _)
      case c3 => simp only [maxLen]; omega
      case c4 => omega
      case c5 => simp
      intro v1 w1 hown hgrow
      have KE : Kp w w1 := Below.grown ((Kp.refl w).al _) hgrow (by simp) (fun j hj => by simp [Value.ownBlock] at hj; omega)
      obtain ⟨B7, d9, rfl⟩ := ow_form hown
      have hown' : Pts w1 B7 n ps := by simpa using pts_of_own hown
      have HS := Lib.hid hown'; have HXA := Lib.hid (HX.out.kp KE); have HTA := Lib.hid (HT.out.below KE); have KA := Lib.hid KE
      clear hown hgrow KE hown'
      go_wp2_with fail
      refine (CM1.out _ _ _ HTA.out HS.out).mono ?_
      rintro e w11 ⟨⟨A1, c1, rfl, hi1⟩, hb1⟩
      have Q1 : Kp w1 w11 := by repeat (first | exact Kp.refl _ | with_reducible assumption | with_reducible refine Kp.set ?_ _ _ ?_ | (dsimp only; omega) | with_reducible refine Kp.drew ?_ | with_reducible refine Kp.drewN ?_ _ | with_reducible refine Kp.al ?_ _ | with_reducible refine Kp.trans ?_ (by with_reducible assumption))
      have K1 := Q1
      clear hb1 Q1
      have HI1 := Lib.hid hi1; have HX2 := Lib.hid (HXA.out.kp K1); have HS2 := Lib.hid (HS.out.kp K1); have KB := Lib.hid (KA.out.trans K1); have HTB := Lib.hid (HTA.out.below K1)
      clear hi1 K1 HXA HS
      go_wp2_with fail
      refine (CM2.out _ _ _ HX2.out).mono ?_
      rintro e w111 ⟨⟨A3, c3, rfl, hi2⟩, hb1⟩
      have Q1 : Kp w11 w111 := by repeat (first | exact Kp.refl _ | with_reducible assumption | with_reducible refine Kp.set ?_ _ _ ?_ | (dsimp only; omega) | with_reducible refine Kp.drew ?_ | with_reducible refine Kp.drewN ?_ _ | with_reducible refine Kp.al ?_ _ | with_reducible refine Kp.trans ?_ (by with_reducible assumption))
      have K1 := Q1
      clear hb1 Q1
      have HI2 := Lib.hid hi2; have HI3 := Lib.hid (HI1.out.kp K1); have HX3 := Lib.hid (HX2.out.kp K1); have HS3 := Lib.hid (HS2.out.kp K1); have KC := Lib.hid (KB.out.trans K1); have HTC := Lib.hid (HTB.out.below K1)
      clear hi2 K1 HI1 HX2 HS2
      go_wp2_with fail
      obtain ⟨wz, ewz⟩ : ∃ wz : World, wz = w111 := ⟨_, rfl⟩
      subst ewz
      go_loopw [10] (fun v wr => ∃ k : Nat, k ≤ n ∧ v = .int .i64 (k : Int) ∧ Kp wz wr) (fun v _ => n - (intOf v).toNat)
      case atStart => exact ⟨0, by omega, rfl, Kp.refl _⟩
      case round =>
        obtain ⟨k, hk, rfl, hK⟩ := hrel
        by_cases hlt : k < n
        · have hd : decide ((k : Int) < (n : Int)) = true := by simp; omega
          obtain ⟨b, off, rfl, e0, e1, e2⟩ := (HX3.out.kp hK).2 k hlt
          obtain ⟨b', off', rfl, f0, f1, f2⟩ := (HS3.out.kp hK).2 k hlt
          have j1 : (0 : Int) ≤ (k : Int) := by omega
          have j2 : (k : Int) < (n : Int) := by omega
          have bl := cell_lt e0
          have bl' := cell_lt f0
          obtain ⟨s, es⟩ : ∃ s, s = (ptAt ps k).1 := ⟨_, rfl⟩
          obtain ⟨o, eo⟩ : ∃ o, o = (ptAt ps k).2.1 := ⟨_, rfl⟩
          obtain ⟨a, ea⟩ : ∃ a, a = (ptAt ps k).2.2 := ⟨_, rfl⟩
          rw [← es] at e0 f0
          rw [← eo] at e1 f1
          rw [← ea] at e2 f2
          clear es eo ea
          go_wp2_with fail
          go_quiet (fail)
          go_wp2_with fail
          go_roundw
          case rel => exact ⟨k + 1, by omega, by go_num, by repeat (first | exact Kp.refl _ | with_reducible assumption | with_reducible refine Kp.set ?_ _ _ ?_ | (dsimp only; omega) | with_reducible refine Kp.drew ?_ | with_reducible refine Kp.drewN ?_ _ | with_reducible refine Kp.al ?_ _ | with_reducible refine Kp.trans ?_ (by with_reducible assumption))⟩
          case measure => simp [intOf]; omega
        · obtain rfl : n = k := by omega
          have hd : decide ((n : Int) < (n : Int)) = false := by simp
          go_wp2_with fail
          refine (same_t _ _ _ _ _ _ _ _ _ (HI3.out.kp hK) (HI2.out.kp hK) hm hm rfl).mono ?_
          rintro e wr1 ⟨rfl, hb1⟩
          have Q1 : Kp wr wr1 := by repeat (first | exact Kp.refl _ | with_reducible assumption | with_reducible refine Kp.set ?_ _ _ ?_ | (dsimp only; omega) | with_reducible refine Kp.drew ?_ | with_reducible refine Kp.drewN ?_ _ | with_reducible refine Kp.al ?_ _ | with_reducible refine Kp.trans ?_ (by with_reducible assumption))
          have K1 := Q1
          clear hb1 Q1
          go_wp2_with fail
          refine (CA.out _ (HTC.out.below (hK.trans (by repeat (first | exact Kp.refl _ | with_reducible assumption | with_reducible refine Kp.set ?_ _ _ ?_ | (dsimp only; omega) | with_reducible refine Kp.drew ?_ | with_reducible refine Kp.drewN ?_ _ | with_reducible refine Kp.al ?_ _ | with_reducible refine Kp.trans ?_ (by with_reducible assumption)))))).mono ?_
          rintro e wr2 ⟨rfl, hb2⟩
          have Q2 : Kp wr1 wr2 := by repeat (first | exact Kp.refl _ | with_reducible assumption | with_reducible refine Kp.set ?_ _ _ ?_ | (dsimp only; omega) | with_reducible refine Kp.drew ?_ | with_reducible refine Kp.drewN ?_ _ | with_reducible refine Kp.al ?_ _ | with_reducible refine Kp.trans ?_ (by with_reducible assumption))
          have K2 := K1.trans Q2
          clear hb2 K1 Q2
          go_wp2_with fail
          go_ret
          exact ⟨rfl, KC.out.trans (hK.trans (by repeat (first | exact Kp.refl _ | with_reducible assumption | with_reducible refine Kp.set ?_ _ _ ?_ | (dsimp only; omega) | with_reducible refine Kp.drew ?_ | with_reducible refine Kp.drewN ?_ _ | with_reducible refine Kp.al ?_ _ | with_reducible refine Kp.trans ?_ (by with_reducible assumption))))⟩
end Go.Proofs.YtaobndijldidfaaDoor
