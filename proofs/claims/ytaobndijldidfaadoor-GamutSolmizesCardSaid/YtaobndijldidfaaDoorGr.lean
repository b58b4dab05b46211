/- SameInts, SameBools. -/
import Derived.Test.YtaobndijldidfaaDoorGq
set_option linter.unusedSimpArgs false
set_option linter.unusedVariables false
namespace Go.Proofs.YtaobndijldidfaaDoor
open Go.RowKit

theorem sints_ext {xs ys : List Int} (hl : xs.length = ys.length) (h : ∀ j, j < xs.length → xs.getD j 0 = ys.getD j 0) : xs = ys := by
  refine List.ext_getElem hl fun j h1 h2 => ?_
  have := h j h1
  simpa [List.getD, h1, h2] using this
set_option maxRecDepth 100000 in
set_option maxHeartbeats 2000000 in
theorem sints_ok (A B : Option Addr) (n c m d : Nat) (xs ys : List Int) (w : World) (hx : Ints w A n xs) (hy : Ints w B m ys) (hn : n ≤ 1000) (hm : m ≤ 1000) :
    Calls Tryd.prog 29 #[.slice A n c, .slice B m d] w fun e w' => e = .returned (.bool (decide (xs = ys))) ∧ Kp w w' := by
  have HX := Lib.hid hx; have HY := Lib.hid hy
  by_cases hnm : n = m
  · subst hnm
    have d0 : ((n : Int) != (n : Int)) = false := by simp
    clear hx hy
    go_enter Tryd.func29, Tryd.ntmps29
    go_wp2_with fail
    go_loopw [5] (fun v wr => ∃ k : Nat, k ≤ n ∧ v = .int .i64 (k : Int) ∧ (∀ j, j < k → xs.getD j 0 = ys.getD j 0) ∧ Kp w wr) (fun v _ => n - (intOf v).toNat)
    case atStart => exact ⟨0, by omega, rfl, fun j hj => absurd hj (by omega), Kp.refl _⟩
    case round =>
      obtain ⟨k, hk, rfl, heq, hK⟩ := hrel
      have HE := Lib.hid heq
      clear heq
      by_cases hlt : k < n
      · have hd : decide ((k : Int) < (n : Int)) = true := by simp; omega
        obtain ⟨b, off, rfl, e0⟩ := (HX.out.kp hK).2 k hlt
        obtain ⟨b', off', rfl, f0⟩ := (HY.out.kp hK).2 k hlt
        have j1 : (0 : Int) ≤ (k : Int) := by omega
        have j2 : (k : Int) < (n : Int) := by omega
        have bl := cell_lt e0
        have bl' := cell_lt f0
        by_cases he : xs.getD k 0 = ys.getD k 0
        · rw [← he] at f0
          have HQ := Lib.hid he
          obtain ⟨s, es⟩ : ∃ s, s = xs.getD k 0 := ⟨_, rfl⟩
          rw [← es] at e0 f0
          have d2 : (s != s) = false := by simp
          clear he es
          go_wp2_with fail
          go_quiet (fail)
          go_wp2_with fail
          go_roundw
          case rel => exact ⟨k + 1, by omega, by go_num, fun j hj => by
            rcases Nat.lt_or_ge j k with h | h
            · exact HE.out j h
            · obtain rfl : j = k := by omega
              exact HQ.out, by repeat (first | exact Kp.refl _ | with_reducible assumption | with_reducible refine Kp.set ?_ _ _ ?_ | (dsimp only; omega) | with_reducible refine Kp.drew ?_ | with_reducible refine Kp.drewN ?_ _ | with_reducible refine Kp.al ?_ _ | with_reducible refine Kp.trans ?_ (by with_reducible assumption))⟩
          case measure => simp [intOf]; omega
        · have hne : ¬ xs = ys := fun h => he (by rw [h])
          have HNE := Lib.hid (decide_eq_false hne)
          obtain ⟨s, es⟩ : ∃ s, s = xs.getD k 0 := ⟨_, rfl⟩
          obtain ⟨s', es'⟩ : ∃ s, s = ys.getD k 0 := ⟨_, rfl⟩
          rw [← es] at e0 he
          rw [← es'] at f0 he
          clear es es' hne
          have d2 : (s == s') = false := by simpa using he
          have d3 : (s != s') = true := by simpa using he
          go_wp2_with fail
          go_quiet (fail)
          go_wp2_with fail
          go_ret
          rw [HNE.out]
          exact ⟨rfl, by repeat (first | exact Kp.refl _ | with_reducible assumption | with_reducible refine Kp.set ?_ _ _ ?_ | (dsimp only; omega) | with_reducible refine Kp.drew ?_ | with_reducible refine Kp.drewN ?_ _ | with_reducible refine Kp.al ?_ _ | with_reducible refine Kp.trans ?_ (by with_reducible assumption))⟩
      · obtain rfl : n = k := by omega
        have hd : decide ((n : Int) < (n : Int)) = false := by simp
        have heq : xs = ys := sints_ext (by rw [HX.out.1, HY.out.1]) (fun j hj => HE.out j (by have := HX.out.1; omega))
        have HQ := Lib.hid (decide_eq_true heq)
        clear heq
        go_wp2_with fail
        go_ret
        rw [HQ.out]
        exact ⟨rfl, hK⟩
  · have d0 : ((n : Int) != (m : Int)) = true := by simp; omega
    have hne : ¬ xs = ys := fun h => hnm (by rw [← hx.1, ← hy.1, h])
    have HNE := Lib.hid (decide_eq_false hne)
    clear hx hy hne
    go_enter Tryd.func29, Tryd.ntmps29
    go_wp2_with fail
    go_ret
    rw [HNE.out]
    exact ⟨rfl, Kp.refl _⟩

theorem sbools_ext {xs ys : List Bool} (hl : xs.length = ys.length) (h : ∀ j, j < xs.length → xs.getD j false = ys.getD j false) : xs = ys := by
  refine List.ext_getElem hl fun j h1 h2 => ?_
  have := h j h1
  simpa [List.getD, h1, h2] using this
set_option maxRecDepth 100000 in
set_option maxHeartbeats 2000000 in
theorem sbools_ok (A B : Option Addr) (n c m d : Nat) (xs ys : List Bool) (w : World) (hx : Bls w A n xs) (hy : Bls w B m ys) (hn : n ≤ 1000) (hm : m ≤ 1000) :
    Calls Tryd.prog 30 #[.slice A n c, .slice B m d] w fun e w' => e = .returned (.bool (decide (xs = ys))) ∧ Kp w w' := by
  have HX := Lib.hid hx; have HY := Lib.hid hy
  by_cases hnm : n = m
  · subst hnm
    have d0 : ((n : Int) != (n : Int)) = false := by simp
    clear hx hy
    go_enter Tryd.func30, Tryd.ntmps30
    go_wp2_with fail
    go_loopw [5] (fun v wr => ∃ k : Nat, k ≤ n ∧ v = .int .i64 (k : Int) ∧ (∀ j, j < k → xs.getD j false = ys.getD j false) ∧ Kp w wr) (fun v _ => n - (intOf v).toNat)
    case atStart => exact ⟨0, by omega, rfl, fun j hj => absurd hj (by omega), Kp.refl _⟩
    case round =>
      obtain ⟨k, hk, rfl, heq, hK⟩ := hrel
      have HE := Lib.hid heq
      clear heq
      by_cases hlt : k < n
      · have hd : decide ((k : Int) < (n : Int)) = true := by simp; omega
        obtain ⟨b, off, rfl, e0⟩ := (HX.out.kp hK).2 k hlt
        obtain ⟨b', off', rfl, f0⟩ := (HY.out.kp hK).2 k hlt
        have j1 : (0 : Int) ≤ (k : Int) := by omega
        have j2 : (k : Int) < (n : Int) := by omega
        have bl := cell_lt e0
        have bl' := cell_lt f0
        by_cases he : xs.getD k false = ys.getD k false
        · rw [← he] at f0
          have HQ := Lib.hid he
          obtain ⟨s, es⟩ : ∃ s, s = xs.getD k false := ⟨_, rfl⟩
          rw [← es] at e0 f0
          have d2 : (s != s) = false := by simp
          clear he es
          go_wp2_with fail
          go_quiet (fail)
          go_wp2_with fail
          go_roundw
          case rel => exact ⟨k + 1, by omega, by go_num, fun j hj => by
            rcases Nat.lt_or_ge j k with h | h
            · exact HE.out j h
            · obtain rfl : j = k := by omega
              exact HQ.out, by repeat (first | exact Kp.refl _ | with_reducible assumption | with_reducible refine Kp.set ?_ _ _ ?_ | (dsimp only; omega) | with_reducible refine Kp.drew ?_ | with_reducible refine Kp.drewN ?_ _ | with_reducible refine Kp.al ?_ _ | with_reducible refine Kp.trans ?_ (by with_reducible assumption))⟩
          case measure => simp [intOf]; omega
        · have hne : ¬ xs = ys := fun h => he (by rw [h])
          have HNE := Lib.hid (decide_eq_false hne)
          obtain ⟨s, es⟩ : ∃ s, s = xs.getD k false := ⟨_, rfl⟩
          obtain ⟨s', es'⟩ : ∃ s, s = ys.getD k false := ⟨_, rfl⟩
          rw [← es] at e0 he
          rw [← es'] at f0 he
          clear es es' hne
          have d2 : (s == s') = false := by simpa using he
          have d3 : (s != s') = true := by simpa using he
          go_wp2_with fail
          go_quiet (fail)
          go_wp2_with fail
          go_ret
          rw [HNE.out]
          exact ⟨rfl, by repeat (first | exact Kp.refl _ | with_reducible assumption | with_reducible refine Kp.set ?_ _ _ ?_ | (dsimp only; omega) | with_reducible refine Kp.drew ?_ | with_reducible refine Kp.drewN ?_ _ | with_reducible refine Kp.al ?_ _ | with_reducible refine Kp.trans ?_ (by with_reducible assumption))⟩
      · obtain rfl : n = k := by omega
        have hd : decide ((n : Int) < (n : Int)) = false := by simp
        have heq : xs = ys := sbools_ext (by rw [HX.out.1, HY.out.1]) (fun j hj => HE.out j (by have := HX.out.1; omega))
        have HQ := Lib.hid (decide_eq_true heq)
        clear heq
        go_wp2_with fail
        go_ret
        rw [HQ.out]
        exact ⟨rfl, hK⟩
  · have d0 : ((n : Int) != (m : Int)) = true := by simp; omega
    have hne : ¬ xs = ys := fun h => hnm (by rw [← hx.1, ← hy.1, h])
    have HNE := Lib.hid (decide_eq_false hne)
    clear hx hy hne
    go_enter Tryd.func30, Tryd.ntmps30
    go_wp2_with fail
    go_ret
    rw [HNE.out]
    exact ⟨rfl, Kp.refl _⟩
end Go.Proofs.YtaobndijldidfaaDoor
