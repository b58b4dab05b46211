/- GamutMutations: the walk. -/
import Derived.Test.YtaobndijldidfaaDoorHg
import Derived.Test.YtaobndijldidfaaDoorGp
import Derived.Test.YtaobndijldidfaaDoorGt
set_option linter.unusedSimpArgs false
set_option linter.unusedVariables false
namespace Go.Proofs.YtaobndijldidfaaDoor
open Go.RowKit

theorem flatS_one (ps : List Sy) : ∀ u ∈ flatS ps, u.oneCell' = true := by
  induction ps with
  | nil => intro u hu; cases hu
  | cons p ps ih =>
    intro u hu
    simp only [flatS, List.mem_cons] at hu
    rcases hu with rfl | rfl | hu
    · rfl
    · rfl
    · exact ih u hu
theorem sys_flat {w : World} {ad : Addr} {n : Nat} {ps : List Sy} (h : Sys w (some ad) n ps) : ∀ j u, (flatS ps)[j]? = some u → w.cell? (ad.add j) = some u := by
  intro j u hu
  have hj : j < ps.length * 2 := by rw [← flatS_len]; exact (List.getElem?_eq_some_iff.1 hu).1
  have hl := h.1
  obtain ⟨b, off, e, c0, c1⟩ := h.2 (j / 2) (by omega)
  injection e with e
  subst e
  rw [add_none]
  obtain ⟨f0, f1⟩ := flatS_at ps (j / 2) (by omega)
  have : j = j / 2 * 2 ∨ j = j / 2 * 2 + 1 := by omega
  rcases this with e | e
  · rw [e] at hu ⊢
    rw [f0] at hu; cases hu; exact c0
  · rw [e] at hu ⊢
    rw [f1] at hu; cases hu; exact c1
/-- append(v, l...) of an argument that reads as a list of syllables. -/
theorem wpList_app_sys {P : Program} {w : World} {ops : Array Oper} {rest : List Oper} {o : Oper} {a : Act} {Q : Exit → Act → World → Prop} (hgd : o.guard = none) (s x : Operand) (t : TypeId)
    (ho : o.op = .call { callee := .builtin .append, args := #[s, x], argTypes := #[t, t] })
    (base : Nat) (e : TypeId) (i : TypeInfo) (z : Value) (bytes : Nat) (ht : P.underlying t = some (.slice e)) (hi : P.info? e = some i) (hz : i.zero = some z)
    (hsize : i.size = 2) (hby : i.bytes = bytes) (hzs : z.cells.size = 2)
    (v : Value) (n : Nat) (xs : List Value) (hs : a.eval s = v) (hown : w.ownsRow base e 2 v n xs)
    (A : Option Addr) (m c : Nat) (ss : List Sy) (hx : a.eval x = .slice A m c) (hsrc : Sys w A m ss) (hnil : A = none → m = 0 ∧ c = 0)
    (h63 : n + m ≤ maxLen) (hbytes : (n + m) * bytes ≤ 140737488355328) (hbase : base ≤ w.heap.size)
    (h : ∀ v' w', w'.ownsRow base e 2 v' (n + m) (xs ++ flatS ss) → w.grownBy w' v.ownBlock → wpList P ops Q rest (a.put o.dst v') w') : wpList P ops Q (o :: rest) a w := by
  cases A with
  | none =>
    obtain ⟨rfl, rfl⟩ := hnil rfl
    have hn0 : ss = [] := List.eq_nil_of_length_eq_zero hsrc.1
    subst hn0
    exact wpList_append_own_none hgd s x t ho base e i 2 ht hi v n xs hs hown hx (h v w (by simpa [flatS] using hown) ⟨rfl, rfl, rfl, Nat.le_refl _, fun _ _ _ => rfl⟩)
  | some ad =>
    exact wpList_append_own w hgd s x t ho base e i z 2 bytes ht hi hz hsize hby hzs (by decide) v n xs hs hown ad m c (flatS ss) hx (by rw [flatS_len, hsrc.1]) (sys_flat hsrc) (flatS_one ss) h63 hbytes hbase (fun v' w' a b _ => h v' w' a b)

theorem muts_same (ss : List Sy) (n : Nat) (hl : ss.length = n) : ∃ (m : Nat) (xs : List Int) (bs : List Bool) (E : Int), m ≤ 1000 ∧
    (∀ w A c, Tab w → Sys w A n ss → Calls Tryd.prog 27 #[.slice A n c] w fun e w' => (∃ A1 c1 A2 c2, e = .returned (.tuple #[.slice A1 m c1, .slice A2 m c2, .int .i64 E]) ∧ Ints w' A1 m xs ∧ Bls w' A2 m bs) ∧ Kp w w') ∧
    (∀ w A c, Sys w A n ss → Calls Tryd.prog 28 #[.slice A n c] w fun e w' => (∃ A1 c1 A2 c2, e = .returned (.tuple #[.slice A1 m c1, .slice A2 m c2, .int .i64 E]) ∧ Ints w' A1 m xs ∧ Bls w' A2 m bs) ∧ Kp w w') := by
  have hi0 : ∀ w A, Ints w A 0 [] := fun w A => ⟨rfl, fun k hk => absurd hk (by omega)⟩
  have hb0 : ∀ w A, Bls w A 0 [] := fun w A => ⟨rfl, fun k hk => absurd hk (by omega)⟩
  by_cases hn : n ≤ 400
  · by_cases hv : ∀ j, j < n → Vs (syAt ss j).1 (syAt ss j).2
    · exact ⟨_, _, _, 0, Nat.le_trans (mutTo_len ss n) (by omega), fun w A c t h => mutations_ok A n c ss w t h hn hv, fun w A c h => rmutations_ok A n c ss w h hn hv⟩
    · obtain ⟨k0, hk0, hb, hg⟩ : ∃ k0, k0 < n ∧ ¬ Vs (syAt ss k0).1 (syAt ss k0).2 ∧ ∀ j, j < k0 → Vs (syAt ss j).1 (syAt ss j).2 := by
        have hex : ∃ k, k < n ∧ ¬ Vs (syAt ss k).1 (syAt ss k).2 := by
          apply Classical.byContradiction
          intro hc
          exact hv (fun j hj => Classical.byContradiction fun hh => hc ⟨j, hj, hh⟩)
        have key : ∀ m, (∃ k, k < m ∧ k < n ∧ ¬ Vs (syAt ss k).1 (syAt ss k).2) → ∃ k0, k0 < n ∧ ¬ Vs (syAt ss k0).1 (syAt ss k0).2 ∧ ∀ j, j < k0 → Vs (syAt ss j).1 (syAt ss j).2 := by
          intro m
          induction m with
          | zero => rintro ⟨k, h, _⟩; omega
          | succ m ih =>
            rintro ⟨k, h1, h2, h3⟩
            by_cases hlow : ∃ k, k < m ∧ k < n ∧ ¬ Vs (syAt ss k).1 (syAt ss k).2
            · exact ih hlow
            · obtain rfl : k = m := by
                apply Classical.byContradiction
                intro hne
                exact hlow ⟨k, by omega, h2, h3⟩
              exact ⟨k, h2, h3, fun j hj => Classical.byContradiction fun hh => hlow ⟨j, hj, by omega, hh⟩⟩
        obtain ⟨k, h1, h2⟩ := hex
        exact key n ⟨k, h1, h1, h2⟩
      refine ⟨0, [], [], 2, by omega, fun w A c t h => (mutations_bad A n c k0 ss w t h hn hk0 hg hb).mono ?_, fun w A c h => (rmutations_bad A n c k0 ss w h hn hk0 hg hb).mono ?_⟩
      all_goals
        rintro e w' ⟨e1, k⟩
        exact ⟨⟨_, _, _, _, e1, hi0 _ _, hb0 _ _⟩, k⟩
  · refine ⟨0, [], [], 11, by omega, fun w A c t h => (mutations_long A n c w (by omega)).mono ?_, fun w A c h => (rmutations_long A n c w (by omega)).mono ?_⟩
    all_goals
      rintro e w' ⟨e1, k⟩
      exact ⟨⟨_, _, _, _, e1, hi0 _ _, hb0 _ _⟩, k⟩

set_option maxRecDepth 100000 in
set_option maxHeartbeats 4000000 in
theorem gmuts_walk (A : Option Addr) (n c : Nat) (ss : List Sy) (w : World) (ht0 : Tab w) (hx : Sys w A n ss) (hmx : n ≤ maxLen) (hz : A = none → n = 0 ∧ c = 0) :
    Calls Tryd.prog 7 #[.slice A n c] w fun e w' => e = .returned (.bool true) ∧ Kp w w' := by
  have HT := Lib.hid ht0; have HX := Lib.hid hx; have HZ := Lib.hid hz
  have hl := hx.1
  have hmx' : (n : Int) ≤ 9223372036854775807 := by simp only [maxLen] at hmx; omega
  have CA := Lib.hid (fun w t => awake_ok w t)
  clear ht0 hx hz hmx
  by_cases hout : (100 < n ∧ n ≤ 400) ∨ 420 < n
  · rcases hout with ⟨h1, h2⟩ | h1
    · have d1 : decide (100 < (n : Int)) = true := by simp; omega
      have d2 : decide ((n : Int) ≤ 400) = true := by simp; omega
      go_enter Tryd.func7, Tryd.ntmps7
      go_wp2_with fail
      refine (CA.out _ HT.out).mono ?_
      rintro e w1 ⟨rfl, hb1⟩
      have Q1 : Kp w w1 := by repeat (first | exact Kp.refl _ | with_reducible assumption | with_reducible refine Kp.set ?_ _ _ ?_ | (dsimp only; omega) | with_reducible refine Kp.drew ?_ | with_reducible refine Kp.drewN ?_ _ | with_reducible refine Kp.al ?_ _ | with_reducible refine Kp.trans ?_ (by with_reducible assumption))
      have K1 := Q1
      clear hb1 Q1
      go_wp2_with fail
      go_ret
      exact ⟨rfl, by repeat (first | exact Kp.refl _ | with_reducible assumption | with_reducible refine Kp.set ?_ _ _ ?_ | (dsimp only; omega) | with_reducible refine Kp.drew ?_ | with_reducible refine Kp.drewN ?_ _ | with_reducible refine Kp.al ?_ _ | with_reducible refine Kp.trans ?_ (by with_reducible assumption))⟩
    · have d1 : decide (100 < (n : Int)) = true := by simp; omega
      have d2 : decide ((n : Int) ≤ 400) = false := by simp; omega
      have d3 : decide (420 < (n : Int)) = true := by simp; omega
      go_enter Tryd.func7, Tryd.ntmps7
      go_wp2_with fail
      refine (CA.out _ HT.out).mono ?_
      rintro e w1 ⟨rfl, hb1⟩
      have Q1 : Kp w w1 := by repeat (first | exact Kp.refl _ | with_reducible assumption | with_reducible refine Kp.set ?_ _ _ ?_ | (dsimp only; omega) | with_reducible refine Kp.drew ?_ | with_reducible refine Kp.drewN ?_ _ | with_reducible refine Kp.al ?_ _ | with_reducible refine Kp.trans ?_ (by with_reducible assumption))
      have K1 := Q1
      clear hb1 Q1
      go_wp2_with fail
      go_ret
      exact ⟨rfl, by repeat (first | exact Kp.refl _ | with_reducible assumption | with_reducible refine Kp.set ?_ _ _ ?_ | (dsimp only; omega) | with_reducible refine Kp.drew ?_ | with_reducible refine Kp.drewN ?_ _ | with_reducible refine Kp.al ?_ _ | with_reducible refine Kp.trans ?_ (by with_reducible assumption))⟩
  · obtain ⟨m, xs, bs, E, hm, cm1, cm2⟩ := muts_same ss n hl
    have CM1 := Lib.hid cm1; have CM2 := Lib.hid cm2
    obtain ⟨i0, hi0, hz0, hz1, hz2⟩ := info_parts syl_info
    have HI := Lib.hid hi0; have HZ0 := Lib.hid hz0; have HZ1 := Lib.hid hz1; have HZ2 := Lib.hid hz2
    have hn : n ≤ 420 := by omega
    have d3 : decide (420 < (n : Int)) = false := by simp; omega
    have hc : decide (100 < (n : Int)) = false ∨ (decide (100 < (n : Int)) = true ∧ decide ((n : Int) ≤ 400) = false) := by
      simp; omega
    clear hout cm1 cm2 hi0 hz0 hz1 hz2 hl
    rcases hc with d1 | ⟨d1, d2⟩
    all_goals
      go_enter Tryd.func7, Tryd.ntmps7
      go_wp2_with (at_builtin; refine wpList_app_sys rfl (.tmp 24) (.tmp 25) 27 rfl w.heap.size 34 i0 (.agg #[.int .i64 0, .int .i64 0]) 16 Tryd.underlying27 HI.out HZ0.out HZ1.out HZ2.out rfl (.slice (some ⟨w.heap.size, 0, none⟩) 0 0) 0 [] rfl ?own A n c ss rfl ?c0 HZ.out ?c3 ?c4 ?c5 ?_)
      case own => exact World.ownsRow_made w #[] 0 (Nat.le_refl _) (by decide) rfl
      case c0 => exact HX.out.kp ((Kp.refl w).al _)
      case c3 => simp only [maxLen]; omega
      case c4 => omega
      case c5 => simp
      intro v1 w1 hown hgrow
      have KE : Kp w w1 := Below.grown ((Kp.refl w).al _) hgrow (by simp) (fun j hj => by simp [Value.ownBlock] at hj; omega)
      obtain ⟨B7, d9, rfl⟩ := ow_form hown
      have hown' : Sys w1 B7 n ss := by simpa using sys_of_own hown
      have HS := Lib.hid hown'; have HXA := Lib.hid (HX.out.kp KE); have HTA := Lib.hid (HT.out.below KE); have KA := Lib.hid KE
      clear hown hgrow KE hown'
      go_wp2_with fail
      refine (CM1.out _ _ _ HTA.out HS.out).mono ?_
      rintro e w11 ⟨⟨A1, c1, A2, c2, rfl, hi1, bo1⟩, hb1⟩
      have Q1 : Kp w1 w11 := by repeat (first | exact Kp.refl _ | with_reducible assumption | with_reducible refine Kp.set ?_ _ _ ?_ | (dsimp only; omega) | with_reducible refine Kp.drew ?_ | with_reducible refine Kp.drewN ?_ _ | with_reducible refine Kp.al ?_ _ | with_reducible refine Kp.trans ?_ (by with_reducible assumption))
      have K1 := Q1
      clear hb1 Q1
      have HI1 := Lib.hid hi1; have HB1 := Lib.hid bo1; have HX2 := Lib.hid (HXA.out.kp K1); have HS2 := Lib.hid (HS.out.kp K1); have KB := Lib.hid (KA.out.trans K1); have HTB := Lib.hid (HTA.out.below K1)
      clear hi1 bo1 K1 HXA HS
      go_wp2_with fail
      refine (CM2.out _ _ _ HX2.out).mono ?_
      rintro e w111 ⟨⟨A3, c3, A4, c4, rfl, hi2, bo2⟩, hb1⟩
      have Q1 : Kp w11 w111 := by repeat (first | exact Kp.refl _ | with_reducible assumption | with_reducible refine Kp.set ?_ _ _ ?_ | (dsimp only; omega) | with_reducible refine Kp.drew ?_ | with_reducible refine Kp.drewN ?_ _ | with_reducible refine Kp.al ?_ _ | with_reducible refine Kp.trans ?_ (by with_reducible assumption))
      have K1 := Q1
      clear hb1 Q1
      have HI2 := Lib.hid hi2; have HB2 := Lib.hid bo2; have HI3 := Lib.hid (HI1.out.kp K1); have HB3 := Lib.hid (HB1.out.kp K1); have HX3 := Lib.hid (HX2.out.kp K1); have HS3 := Lib.hid (HS2.out.kp K1); have KC := Lib.hid (KB.out.trans K1); have HTC := Lib.hid (HTB.out.below K1)
      clear hi2 bo2 K1 HI1 HB1 HX2 HS2
      go_wp2_with fail
      refine (sints_t _ _ _ _ _ _ _ _ _ HI3.out HI2.out hm hm rfl).mono ?_
      rintro e w1111 ⟨rfl, hb1⟩
      have Q1 : Kp w111 w1111 := by repeat (first | exact Kp.refl _ | with_reducible assumption | with_reducible refine Kp.set ?_ _ _ ?_ | (dsimp only; omega) | with_reducible refine Kp.drew ?_ | with_reducible refine Kp.drewN ?_ _ | with_reducible refine Kp.al ?_ _ | with_reducible refine Kp.trans ?_ (by with_reducible assumption))
      have K1 := Q1
      clear hb1 Q1
      go_wp2_with fail
      refine (sbools_t _ _ _ _ _ _ _ _ _ (HB3.out.kp (by repeat (first | exact Kp.refl _ | with_reducible assumption | with_reducible refine Kp.set ?_ _ _ ?_ | (dsimp only; omega) | with_reducible refine Kp.drew ?_ | with_reducible refine Kp.drewN ?_ _ | with_reducible refine Kp.al ?_ _ | with_reducible refine Kp.trans ?_ (by with_reducible assumption)))) (HB2.out.kp (by repeat (first | exact Kp.refl _ | with_reducible assumption | with_reducible refine Kp.set ?_ _ _ ?_ | (dsimp only; omega) | with_reducible refine Kp.drew ?_ | with_reducible refine Kp.drewN ?_ _ | with_reducible refine Kp.al ?_ _ | with_reducible refine Kp.trans ?_ (by with_reducible assumption)))) hm hm rfl).mono ?_
      rintro e w1112 ⟨rfl, hb2⟩
      have Q2 : Kp w1111 w1112 := by repeat (first | exact Kp.refl _ | with_reducible assumption | with_reducible refine Kp.set ?_ _ _ ?_ | (dsimp only; omega) | with_reducible refine Kp.drew ?_ | with_reducible refine Kp.drewN ?_ _ | with_reducible refine Kp.al ?_ _ | with_reducible refine Kp.trans ?_ (by with_reducible assumption))
      have K2 := K1.trans Q2
      clear hb2 K1 Q2
      go_wp2_with fail
      refine (same_t _ _ _ _ _ _ _ _ _ (HS3.out.kp (by repeat (first | exact Kp.refl _ | with_reducible assumption | with_reducible refine Kp.set ?_ _ _ ?_ | (dsimp only; omega) | with_reducible refine Kp.drew ?_ | with_reducible refine Kp.drewN ?_ _ | with_reducible refine Kp.al ?_ _ | with_reducible refine Kp.trans ?_ (by with_reducible assumption)))) (HX3.out.kp (by repeat (first | exact Kp.refl _ | with_reducible assumption | with_reducible refine Kp.set ?_ _ _ ?_ | (dsimp only; omega) | with_reducible refine Kp.drew ?_ | with_reducible refine Kp.drewN ?_ _ | with_reducible refine Kp.al ?_ _ | with_reducible refine Kp.trans ?_ (by with_reducible assumption)))) (by omega) (by omega) rfl).mono ?_
      rintro e w1113 ⟨rfl, hb3⟩
      have Q3 : Kp w1112 w1113 := by repeat (first | exact Kp.refl _ | with_reducible assumption | with_reducible refine Kp.set ?_ _ _ ?_ | (dsimp only; omega) | with_reducible refine Kp.drew ?_ | with_reducible refine Kp.drewN ?_ _ | with_reducible refine Kp.al ?_ _ | with_reducible refine Kp.trans ?_ (by with_reducible assumption))
      have K3 := K2.trans Q3
      clear hb3 K2 Q3
      go_wp2_with fail
      refine (CA.out _ (HTC.out.below (by repeat (first | exact Kp.refl _ | with_reducible assumption | with_reducible refine Kp.set ?_ _ _ ?_ | (dsimp only; omega) | with_reducible refine Kp.drew ?_ | with_reducible refine Kp.drewN ?_ _ | with_reducible refine Kp.al ?_ _ | with_reducible refine Kp.trans ?_ (by with_reducible assumption))))).mono ?_
      rintro e w1114 ⟨rfl, hb4⟩
      have Q4 : Kp w1113 w1114 := by repeat (first | exact Kp.refl _ | with_reducible assumption | with_reducible refine Kp.set ?_ _ _ ?_ | (dsimp only; omega) | with_reducible refine Kp.drew ?_ | with_reducible refine Kp.drewN ?_ _ | with_reducible refine Kp.al ?_ _ | with_reducible refine Kp.trans ?_ (by with_reducible assumption))
      have K4 := K3.trans Q4
      clear hb4 K3 Q4
      go_wp2_with fail
      go_ret
      exact ⟨rfl, KC.out.trans (by repeat (first | exact Kp.refl _ | with_reducible assumption | with_reducible refine Kp.set ?_ _ _ ?_ | (dsimp only; omega) | with_reducible refine Kp.drew ?_ | with_reducible refine Kp.drewN ?_ _ | with_reducible refine Kp.al ?_ _ | with_reducible refine Kp.trans ?_ (by with_reducible assumption)))⟩
end Go.Proofs.YtaobndijldidfaaDoor
