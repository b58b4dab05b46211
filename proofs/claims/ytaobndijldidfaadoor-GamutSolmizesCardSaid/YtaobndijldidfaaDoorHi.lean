/- Contracts of the reference's cost and Moves. -/
import Derived.Test.YtaobndijldidfaaDoorHf
import Derived.Test.YtaobndijldidfaaDoorGw
import Derived.BigQuiet
set_option linter.unusedSimpArgs false
set_option linter.unusedVariables false
namespace Go.Proofs.YtaobndijldidfaaDoor
open Go.RowKit

set_option maxRecDepth 100000 in
set_option maxHeartbeats 2000000 in
theorem rcost_ok (x1 x2 y1 y2 : Int) (w : World) (hx : Vs x1 x2) (hy : Vs y1 y2) :
    Calls Tryd.prog 55 #[.agg #[.int .i64 x1, .int .i64 x2], .agg #[.int .i64 y1, .int .i64 y2]] w fun e w' => e = .returned (.tuple #[.int .i64 (stp (x1, x2) (y1, y2)).1, .int .i64 (stp (x1, x2) (y1, y2)).2]) ∧ Kp w w' := by
  by_cases he : x1 = y1
  · have hs : stp (x1, x2) (y1, y2) = (0, 0) := if_pos he
    rw [hs]
    have d1 : (x1 == y1) = true := by simpa using he
    clear he hs hx hy
    go_enter Tryd.func55, Tryd.ntmps55
    go_wp2_with fail
    go_ret2
    exact ⟨rfl, by repeat (first | exact Kp.refl _ | with_reducible assumption | with_reducible refine Kp.set ?_ _ _ ?_ | (dsimp only; omega) | with_reducible refine Kp.drew ?_ | with_reducible refine Kp.drewN ?_ _ | with_reducible refine Kp.al ?_ _ | with_reducible refine Kp.trans ?_ (by with_reducible assumption))⟩
  · have cs := fun w => rsmooth_ok x1 x2 y1 y2 w hx hy
    have hs : stp (x1, x2) (y1, y2) = if smB (x1, x2) (y1, y2) then (1, 0) else (1, 1) := if_neg he
    rw [hs]
    obtain ⟨q, eq⟩ : ∃ q, q = smB (x1, x2) (y1, y2) := ⟨_, rfl⟩
    rw [← eq] at cs ⊢
    have d1 : (x1 == y1) = false := by simpa using he
    have CS := Lib.hid cs
    clear he hs hx hy cs eq
    cases q with
    | true =>
      go_enter Tryd.func55, Tryd.ntmps55
      go_wp2_with fail
      refine (CS.out _).mono ?_
      rintro e w1 ⟨rfl, hb1⟩
      have Q1 : Kp w w1 := by repeat (first | exact Kp.refl _ | with_reducible assumption | with_reducible refine Kp.set ?_ _ _ ?_ | (dsimp only; omega) | with_reducible refine Kp.drew ?_ | with_reducible refine Kp.drewN ?_ _ | with_reducible refine Kp.al ?_ _ | with_reducible refine Kp.trans ?_ (by with_reducible assumption))
      have K1 := Q1
      clear hb1 Q1
      go_wp2_with fail
      go_ret2
      exact ⟨rfl, by repeat (first | exact Kp.refl _ | with_reducible assumption | with_reducible refine Kp.set ?_ _ _ ?_ | (dsimp only; omega) | with_reducible refine Kp.drew ?_ | with_reducible refine Kp.drewN ?_ _ | with_reducible refine Kp.al ?_ _ | with_reducible refine Kp.trans ?_ (by with_reducible assumption))⟩
    | false =>
      go_enter Tryd.func55, Tryd.ntmps55
      go_wp2_with fail
      refine (CS.out _).mono ?_
      rintro e w1 ⟨rfl, hb1⟩
      have Q1 : Kp w w1 := by repeat (first | exact Kp.refl _ | with_reducible assumption | with_reducible refine Kp.set ?_ _ _ ?_ | (dsimp only; omega) | with_reducible refine Kp.drew ?_ | with_reducible refine Kp.drewN ?_ _ | with_reducible refine Kp.al ?_ _ | with_reducible refine Kp.trans ?_ (by with_reducible assumption))
      have K1 := Q1
      clear hb1 Q1
      go_wp2_with fail
      go_ret2
      exact ⟨rfl, by repeat (first | exact Kp.refl _ | with_reducible assumption | with_reducible refine Kp.set ?_ _ _ ?_ | (dsimp only; omega) | with_reducible refine Kp.drew ?_ | with_reducible refine Kp.drewN ?_ _ | with_reducible refine Kp.al ?_ _ | with_reducible refine Kp.trans ?_ (by with_reducible assumption))⟩

set_option maxRecDepth 100000 in
set_option maxHeartbeats 2000000 in
theorem rmoves_ok (A : Option Addr) (n c : Nat) (ss : List Sy) (w : World) (hx : Sys w A n ss) (hn : n ≤ 1000) :
    Calls Tryd.prog 56 #[.slice A n c] w fun e w' => e = .returned (.int .i64 (movesN ss)) ∧ Kp w w' := by
  have HX := Lib.hid hx; have HL := Lib.hid hx.1
  clear hx
  go_enter Tryd.func56, Tryd.ntmps56
  go_wp2_with fail
  go_loopw [3, 4] (fun v i wr => ∃ k : Nat, 1 ≤ k ∧ k ≤ max n 1 ∧ i = .int .i64 (k : Int) ∧ v = .int .i64 (movesN (ss.take k)) ∧ Kp w wr) (fun _ i _ => 1 + n - (intOf i).toNat)
  case atStart => exact ⟨1, by omega, by omega, rfl, by
    have : movesN (ss.take 1) = 0 := by
      cases ss with
      | nil => rfl
      | cons x r => rfl
    rw [this], Kp.refl _⟩
  case round =>
    obtain ⟨k, hk1, hk, rfl, rfl, hK⟩ := hrel
    have hb := moves_bd (ss.take k)
    have hbl : (ss.take k).length ≤ k := by simp; omega
    by_cases hlt : k < n
    · have hd2 : decide ((k : Int) < (n : Int)) = true := by simp; omega
      have hms := moves_take ss k hk1 (by have := HL.out; omega)
      obtain ⟨j, ej⟩ : ∃ j, j = k - 1 := ⟨_, rfl⟩
      rw [← ej] at hms
      obtain ⟨b, off, rfl, g2, g3⟩ := (HX.out.kp hK).2 k hlt
      obtain ⟨b', off', e', g0, g1⟩ := (HX.out.kp hK).2 j (by omega)
      injection e' with e'
      injection e' with e'1 e'2 _
      subst e'1 e'2
      obtain ⟨a1, ea1⟩ : ∃ a1, a1 = (syAt ss j).1 := ⟨_, rfl⟩
      obtain ⟨b1, eb1⟩ : ∃ b1, b1 = (syAt ss k).1 := ⟨_, rfl⟩
      rw [← ea1] at g0 hms
      rw [← eb1] at g2 hms
      obtain ⟨M, eM⟩ : ∃ M, M = movesN (ss.take k) := ⟨_, rfl⟩
      rw [← eM] at hms hb
      rw [← eM]
      have bl := cell_lt g0
      have m1 : IntKind.i64.wrap ((k : Int) - 1) = (k : Int) - 1 := IntWalk.i64_in _ (by omega)
      have m2 : ((k : Int) - 1).toNat = j := by omega
      have M1' := Lib.hid m1; have M2' := Lib.hid m2
      have m3 : (0 : Int) ≤ (k : Int) - 1 := by omega
      have m4 : (1 : Int) ≤ (k : Int) := by omega
      have m5 : (k : Int) - 1 < (n : Int) := by omega
      have m6 : (k : Int) < (n : Int) := by omega
      have m7 : (0 : Int) ≤ (k : Int) := by omega
      have m8 : IntKind.i64.wrap (M + 1) = M + 1 := IntWalk.i64_in _ (by omega)
      by_cases he : b1 = a1
      · have d1 : (b1 == a1) = true := by simpa using he
        have d2 : (b1 != a1) = false := by simpa using he
        rw [if_pos he, Int.add_zero] at hms
        have HMS := Lib.hid hms
        clear he hms m1 m2 ea1 eb1 ej g1 g3 eM hb hbl
        go_wp2_with fail
        have m1 := M1'.out
        have m2 := M2'.out
        go_quiet (fail)
        clear m1 m2
        go_wp2_with fail
        go_roundw
        case rel => exact ⟨k + 1, by omega, by omega, by go_num, by rw [HMS.out], by repeat (first | exact Kp.refl _ | with_reducible assumption | with_reducible refine Kp.set ?_ _ _ ?_ | (dsimp only; omega) | with_reducible refine Kp.drew ?_ | with_reducible refine Kp.drewN ?_ _ | with_reducible refine Kp.al ?_ _ | with_reducible refine Kp.trans ?_ (by with_reducible assumption))⟩
        case measure => simp [intOf]; omega
      · have d1 : (b1 == a1) = false := by simpa using he
        have d2 : (b1 != a1) = true := by simpa using he
        rw [if_neg he] at hms
        have HMS := Lib.hid hms
        clear he hms m1 m2 ea1 eb1 ej g1 g3 eM hb hbl
        go_wp2_with fail
        have m1 := M1'.out
        have m2 := M2'.out
        go_quiet (fail)
        clear m1 m2
        go_wp2_with fail
        go_roundw
        case rel => exact ⟨k + 1, by omega, by omega, by go_num, by rw [HMS.out], by repeat (first | exact Kp.refl _ | with_reducible assumption | with_reducible refine Kp.set ?_ _ _ ?_ | (dsimp only; omega) | with_reducible refine Kp.drew ?_ | with_reducible refine Kp.drewN ?_ _ | with_reducible refine Kp.al ?_ _ | with_reducible refine Kp.trans ?_ (by with_reducible assumption))⟩
        case measure => simp [intOf]; omega
    · have hd2 : decide ((k : Int) < (n : Int)) = false := by simp; omega
      have ht : ss.take k = ss := List.take_of_length_le (by have := HL.out; omega)
      have HTK := Lib.hid ht
      clear ht hb hbl
      go_wp2_with fail
      go_ret
      rw [HTK.out]
      exact ⟨rfl, hK⟩
end Go.Proofs.YtaobndijldidfaaDoor
