/- Contracts of the statements' own small functions: same, natural, syl, from, sung. -/
import Derived.Test.YtaobndijldidfaaDoorGl
import Derived.Test.YtaobndijldidfaaDoorGm
set_option linter.unusedSimpArgs false
set_option linter.unusedVariables false
namespace Go.Proofs.YtaobndijldidfaaDoor
open Go.RowKit

theorem sys_ext {xs ys : List Sy} (hl : xs.length = ys.length) (h : ∀ j, j < xs.length → syAt xs j = syAt ys j) : xs = ys := by
  refine List.ext_getElem hl fun j h1 h2 => ?_
  have := h j h1
  unfold syAt at this
  simpa [List.getD, h1, h2] using this

set_option maxRecDepth 100000 in
set_option maxHeartbeats 2000000 in
theorem same_ok (A B : Option Addr) (n c m d : Nat) (xs ys : List Sy) (w : World) (hx : Sys w A n xs) (hy : Sys w B m ys) (hn : n ≤ 1000) (hm : m ≤ 1000) :
    Calls Tryd.prog 16 #[.slice A n c, .slice B m d] w fun e w' => e = .returned (.bool (decide (xs = ys))) ∧ Kp w w' := by
  have HX := Lib.hid hx; have HY := Lib.hid hy
  by_cases hnm : n = m
  · subst hnm
    have d0 : ((n : Int) != (n : Int)) = false := by simp
    clear hx hy
    go_enter Tryd.func16, Tryd.ntmps16
    go_wp2_with fail
    go_loopw [5] (fun v wr => ∃ k : Nat, k ≤ n ∧ v = .int .i64 (k : Int) ∧ (∀ j, j < k → syAt xs j = syAt ys j) ∧ Kp w wr) (fun v _ => n - (intOf v).toNat)
    case atStart => exact ⟨0, by omega, rfl, fun j hj => absurd hj (by omega), Kp.refl _⟩
    case round =>
      obtain ⟨k, hk, rfl, heq, hK⟩ := hrel
      have HE := Lib.hid heq
      clear heq
      by_cases hlt : k < n
      · have hd : decide ((k : Int) < (n : Int)) = true := by simp; omega
        obtain ⟨b, off, rfl, e0, e1⟩ := (HX.out.kp hK).2 k hlt
        obtain ⟨b', off', rfl, f0, f1⟩ := (HY.out.kp hK).2 k hlt
        have j1 : (0 : Int) ≤ (k : Int) := by omega
        have j2 : (k : Int) < (n : Int) := by omega
        have bl := cell_lt e0
        have bl' := cell_lt f0
        by_cases he : syAt xs k = syAt ys k
        · rw [← he] at f0 f1
          have HQ := Lib.hid he
          obtain ⟨s, es⟩ : ∃ s, s = (syAt xs k).1 := ⟨_, rfl⟩
          obtain ⟨o, eo⟩ : ∃ o, o = (syAt xs k).2 := ⟨_, rfl⟩
          rw [← es] at e0 f0
          rw [← eo] at e1 f1
          clear he es eo
          go_wp2_with fail
          go_quiet (fail)
          go_wp2_with fail
          go_roundw
          case rel => exact ⟨k + 1, by omega, by go_num, fun j hj => by
            rcases Nat.lt_or_ge j k with h | h
            · exact HE.out j h
            · obtain rfl : j = k := by omega
              exact HQ.out, by repeat (first | exact Kp.refl _ | with_reducible assumption | with_reducible refine Kp.set ?_ _ _ ?_ | (dsimp only; omega) | with_reducible refine Kp.drew ?_ | with_reducible refine Kp.drewN ?_ _ | with_reducible refine Kp.al ?_ _ | with_reducible refine Kp.trans ?_ (by with_reducible assumption))⟩
          case measure => simp [intOf]; omega
        · have hne : ¬ xs = ys := fun h => he (by rw [h])
          have HNE := Lib.hid (decide_eq_false hne)
          have hparts : ¬ ((syAt xs k).1 = (syAt ys k).1 ∧ (syAt xs k).2 = (syAt ys k).2) := fun h => he (Prod.ext h.1 h.2)
          obtain ⟨s, es⟩ : ∃ s, s = (syAt xs k).1 := ⟨_, rfl⟩
          obtain ⟨o, eo⟩ : ∃ o, o = (syAt xs k).2 := ⟨_, rfl⟩
          obtain ⟨s', es'⟩ : ∃ s, s = (syAt ys k).1 := ⟨_, rfl⟩
          obtain ⟨o', eo'⟩ : ∃ o, o = (syAt ys k).2 := ⟨_, rfl⟩
          rw [← es] at e0 hparts
          rw [← eo] at e1 hparts
          rw [← es'] at f0 hparts
          rw [← eo'] at f1 hparts
          clear he es eo es' eo' hne
          by_cases h1 : s = s'
          · have h2 : ¬ o = o' := fun h => hparts ⟨h1, h⟩
            subst h1
            clear hparts
            have d2 : (o == o') = false := by simpa using h2
            go_wp2_with fail
            go_quiet (fail)
            go_wp2_with fail
            go_ret
            rw [HNE.out]
            exact ⟨rfl, by repeat (first | exact Kp.refl _ | with_reducible assumption | with_reducible refine Kp.set ?_ _ _ ?_ | (dsimp only; omega) | with_reducible refine Kp.drew ?_ | with_reducible refine Kp.drewN ?_ _ | with_reducible refine Kp.al ?_ _ | with_reducible refine Kp.trans ?_ (by with_reducible assumption))⟩
          · clear hparts
            have d2 : (s == s') = false := by simpa using h1
            go_wp2_with fail
            go_quiet (fail)
            go_wp2_with fail
            go_ret
            rw [HNE.out]
            exact ⟨rfl, by repeat (first | exact Kp.refl _ | with_reducible assumption | with_reducible refine Kp.set ?_ _ _ ?_ | (dsimp only; omega) | with_reducible refine Kp.drew ?_ | with_reducible refine Kp.drewN ?_ _ | with_reducible refine Kp.al ?_ _ | with_reducible refine Kp.trans ?_ (by with_reducible assumption))⟩
      · obtain rfl : n = k := by omega
        have hd : decide ((n : Int) < (n : Int)) = false := by simp
        have heq : xs = ys := sys_ext (by rw [HX.out.1, HY.out.1]) (fun j hj => HE.out j (by have := HX.out.1; omega))
        have HQ := Lib.hid (decide_eq_true heq)
        clear heq
        go_wp2_with fail
        go_ret
        rw [HQ.out]
        exact ⟨rfl, hK⟩
  · have d0 : ((n : Int) != (m : Int)) = true := by simp; omega
    have hne : ¬ xs = ys := fun h => hnm (by rw [← hx.1, ← hy.1, h])
    have HNE := Lib.hid (decide_eq_false hne)
    clear hx hy hne
    go_enter Tryd.func16, Tryd.ntmps16
    go_wp2_with fail
    go_ret
    rw [HNE.out]
    exact ⟨rfl, Kp.refl _⟩

theorem syl_ok (h s : Int) (w : World) :
    Calls Tryd.prog 34 #[.int .i64 h, .int .i64 s] w fun e w' => e = .returned (.agg #[.int .i64 h, .int .i64 s]) ∧ Kp w w' := by
  go_enter Tryd.func34, Tryd.ntmps34
  go_wp2_with fail
  exact bodyPost_ret (v := .agg #[.int .i64 h, .int .i64 s]) (by simp [results, Tryd.results34, go_sem]) rfl ⟨rfl, by repeat (first | exact Kp.refl _ | with_reducible assumption | with_reducible refine Kp.set ?_ _ _ ?_ | (dsimp only; omega) | with_reducible refine Kp.drew ?_ | with_reducible refine Kp.drewN ?_ _ | with_reducible refine Kp.al ?_ _ | with_reducible refine Kp.trans ?_ (by with_reducible assumption))⟩
def natP (p : Nat) : Pt := ((((p + 18) % 7 : Nat) : Int), (((p + 18) / 7 : Nat) : Int), 0)
theorem natural_ok (p : Nat) (w : World) (hp : p ≤ 30) :
    Calls Tryd.prog 33 #[.int .i64 (p : Int)] w fun e w' => e = .returned (.agg #[.int .i64 (natP p).1, .int .i64 (natP p).2.1, .int .i64 (natP p).2.2]) ∧ Kp w w' := by
  have i1 : IntKind.i64.wrap ((p : Int) + 18) = (p : Int) + 18 := IntWalk.i64_in _ (by omega)
  have e1 : ((p : Int) + 18).tmod 7 = (natP p).1 := by
    unfold natP; dsimp only
    rw [Int.tmod_eq_emod_of_nonneg (by omega)]; omega
  have e2 : ((p : Int) + 18).tdiv 7 = (natP p).2.1 := by
    unfold natP; dsimp only
    rw [Int.tdiv_eq_ediv_of_nonneg (by omega)]; omega
  have e3 : (natP p).2.2 = 0 := rfl
  obtain ⟨a, ea⟩ : ∃ a, a = (natP p).1 := ⟨_, rfl⟩
  obtain ⟨b, eb⟩ : ∃ b, b = (natP p).2.1 := ⟨_, rfl⟩
  rw [e3]
  rw [← ea] at e1 ⊢
  rw [← eb] at e2 ⊢
  have b1 : 0 ≤ a ∧ a ≤ 6 := by rw [ea]; unfold natP; dsimp only; omega
  have b2 : 0 ≤ b ∧ b ≤ 6 := by rw [eb]; unfold natP; dsimp only; omega
  have i2 : IntKind.i64.wrap a = a := IntWalk.i64_in _ (by omega)
  have i3 : IntKind.i64.wrap b = b := IntWalk.i64_in _ (by omega)
  clear ea eb e3 b1 b2
  go_enter Tryd.func33, Tryd.ntmps33
  go_wp2_with fail
  exact bodyPost_ret (v := .agg #[.int .i64 a, .int .i64 b, .int .i64 0]) (by simp [results, Tryd.results33, go_sem]) rfl ⟨rfl, by repeat (first | exact Kp.refl _ | with_reducible assumption | with_reducible refine Kp.set ?_ _ _ ?_ | (dsimp only; omega) | with_reducible refine Kp.drew ?_ | with_reducible refine Kp.drewN ?_ _ | with_reducible refine Kp.al ?_ _ | with_reducible refine Kp.trans ?_ (by with_reducible assumption))⟩
end Go.Proofs.YtaobndijldidfaaDoor
