/- Contract of the reference's Name. -/
import Derived.Test.YtaobndijldidfaaDoorHc
import Derived.Test.YtaobndijldidfaaDoorGm
set_option linter.unusedSimpArgs false
set_option linter.unusedVariables false
namespace Go.Proofs.YtaobndijldidfaaDoor
open Go.RowKit

/-- The reference's name, and whether no syllable has come yet, ahead of hexachord k. -/
def rnTo (p : Nat) : Nat → ByteArray × Bool
  | 0 => (letN p, true)
  | k + 1 => if k = 0 then (letN p, true) else if 1 ≤ (p : Int) - startN k + 1 ∧ (p : Int) - startN k + 1 ≤ 6 then
      ((if (rnTo p k).2 = false ∧ (p = 9 ∨ p = 16) then (rnTo p k).1 ++ ⟨#[32]⟩ ++ letN p else (rnTo p k).1) ++ ⟨#[32]⟩ ++ wordN ((p : Int) - startN k + 1).toNat, false) else rnTo p k
theorem rn_eq : ∀ p, p ≤ 19 → (rnTo p 8).1 = nameS p := by
  have h : ∀ p : Fin 20, (rnTo p 8).1.data = (nameS p).data := by decide +kernel
  intro p hp
  exact ByteArray.ext (h ⟨p, by omega⟩)
theorem rnTo_size (p : Nat) (hp : p ≤ 19) : ∀ k, (rnTo p k).1.size ≤ 10 + 20 * k
  | 0 => by have := letN_size p hp; unfold rnTo; dsimp only; omega
  | k + 1 => by
    have ih := rnTo_size p hp k
    have hl := letN_size p hp
    have hw := wordN_size ((p : Int) - startN k + 1).toNat
    have h1 : (⟨#[32]⟩ : ByteArray).size = 1 := rfl
    unfold rnTo
    split
    · dsimp only; omega
    · split
      · dsimp only
        rw [ByteArray.size_append, ByteArray.size_append, h1]
        split
        · rw [ByteArray.size_append, ByteArray.size_append, h1]; omega
        · omega
      · omega

set_option maxRecDepth 100000 in
set_option maxHeartbeats 4000000 in
theorem rname_ok (p : Nat) (hp : p ≤ 19) (w : World) :
    Calls Tryd.prog 24 #[.int .i64 (p : Int)] w fun e w' => e = .returned (.tuple #[.string (nameS p), .int .i64 0]) ∧ Kp w w' := by
  have CL := Lib.hid (fun w => rletter_ok p hp w)
  have HEQ := Lib.hid (rn_eq p hp)
  obtain ⟨nm, enm⟩ : ∃ nm, nm = letN p := ⟨_, rfl⟩
  rw [← enm] at CL
  have ENM := Lib.hid enm
  have d1 : decide ((p : Int) < 0) = false := by simp
  have d2 : decide (19 < (p : Int)) = false := by simp; omega
  have z2 : nm.size ≤ 5 := by rw [enm]; exact letN_size p hp
  clear enm
  go_enter Tryd.func24, Tryd.ntmps24
  go_wp2_with fail
  refine (CL.out _).mono ?_
  rintro e w1 ⟨rfl, hb⟩
  have HKL := Lib.hid hb
  clear hb
  go_wp2_with fail
  go_loopw [4, 5, 6] (fun t f h wr => ∃ k : Nat, 1 ≤ k ∧ k ≤ 8 ∧ h = .int .i64 (k : Int) ∧ t = .string (rnTo p k).1 ∧ f = .bool (rnTo p k).2 ∧ Kp w wr) (fun _ _ v _ => 8 - (intOf v).toNat)
  case atStart => exact ⟨1, by omega, by omega, rfl, by rw [ENM.out]; rfl, rfl, HKL.out⟩
  case round =>
    obtain ⟨k, hk1, hk, rfl, rfl, rfl, hK⟩ := hrel
    by_cases hlt : k < 8
    · have hd : decide ((k : Int) ≤ 7) = true := by simp; omega
      obtain ⟨b1, b2⟩ := startN_bd k
      have cb := fun w => begin_ok k w hk1 (by omega)
      have hN : rnTo p (k + 1) = if 1 ≤ (p : Int) - startN k + 1 ∧ (p : Int) - startN k + 1 ≤ 6 then
          ((if (rnTo p k).2 = false ∧ (p = 9 ∨ p = 16) then (rnTo p k).1 ++ ⟨#[32]⟩ ++ letN p else (rnTo p k).1) ++ ⟨#[32]⟩ ++ wordN ((p : Int) - startN k + 1).toNat, false) else rnTo p k := by
        conv => lhs; unfold rnTo
        rw [if_neg (by omega)]
      have hsz := rnTo_size p hp k
      rw [← ENM.out] at hN
      obtain ⟨st, est⟩ : ∃ st, st = startN k := ⟨_, rfl⟩
      rw [← est] at cb b1 b2 hN
      obtain ⟨tx, etx⟩ : ∃ tx, tx = (rnTo p k).1 := ⟨_, rfl⟩
      obtain ⟨fi, efi⟩ : ∃ fi, fi = (rnTo p k).2 := ⟨_, rfl⟩
      rw [← etx, ← efi] at hN
      rw [← etx] at hsz
      rw [← etx, ← efi]
      have ETX := Lib.hid etx; have EFI := Lib.hid efi
      have i1 : IntKind.i64.wrap ((p : Int) - st) = (p : Int) - st := IntWalk.i64_in _ (by omega)
      obtain ⟨s, es⟩ : ∃ s, s = (p : Int) - st + 1 := ⟨_, rfl⟩
      rw [← es] at hN
      have i2 : IntKind.i64.wrap ((p : Int) - st + 1) = s := by rw [es]; exact IntWalk.i64_in _ (by omega)
      have CB := Lib.hid cb
      clear cb est etx efi
      by_cases hs : 1 ≤ s ∧ s ≤ 6
      · have dd1 : decide (s < 1) = false := by simp; omega
        have dd2 : decide (6 < s) = false := by simp; omega
        have hws := wordN_size s.toNat
        have cw := fun w => rword_ok s.toNat w (by omega) (by omega)
        have esn : ((s.toNat : Nat) : Int) = s := by omega
        rw [esn] at cw
        obtain ⟨wd, ewd⟩ : ∃ wd, wd = wordN s.toNat := ⟨_, rfl⟩
        rw [if_pos hs] at hN
        rw [← ewd] at hN cw hws
        have CW := Lib.hid cw
        have y1 : ¬ 9223372036854775807 < tx.size + 1 := by omega
        have y2 : ¬ 9223372036854775807 < tx.size + 1 + wd.size := by omega
        have y3 : ¬ 9223372036854775807 < tx.size + 1 + nm.size := by omega
        have y4 : ¬ 9223372036854775807 < tx.size + 1 + nm.size + 1 := by omega
        have y5 : ¬ 9223372036854775807 < tx.size + 1 + nm.size + 1 + wd.size := by omega
        clear b1 b2 es esn cw ewd hs
        by_cases hcs : fi = false ∧ (p = 9 ∨ p = 16)
        · rw [if_pos hcs] at hN
          have HN := Lib.hid hN
          clear hN
          obtain ⟨rfl, h9⟩ := hcs
          rcases h9 with h9 | h9
          · have n9 : ((p : Int) == 9) = true := by simp; omega
            have k9 : (p == 9) = true := by simpa using h9
            clear h9
            go_wp2_with fail
            refine (CB.out _).mono ?_
            rintro e wr1 ⟨rfl, hb1⟩
            have Q1 : Kp wr wr1 := by repeat (first | exact Kp.refl _ | with_reducible assumption | with_reducible refine Kp.set ?_ _ _ ?_ | (dsimp only; omega) | with_reducible refine Kp.drew ?_ | with_reducible refine Kp.drewN ?_ _ | with_reducible refine Kp.al ?_ _ | with_reducible refine Kp.trans ?_ (by with_reducible assumption))
            have K1 := Q1
            clear hb1 Q1
            go_wp2_with fail
            refine (CL.out _).mono ?_
            rintro e wr2 ⟨rfl, hb2⟩
            have Q2 : Kp wr1 wr2 := by repeat (first | exact Kp.refl _ | with_reducible assumption | with_reducible refine Kp.set ?_ _ _ ?_ | (dsimp only; omega) | with_reducible refine Kp.drew ?_ | with_reducible refine Kp.drewN ?_ _ | with_reducible refine Kp.al ?_ _ | with_reducible refine Kp.trans ?_ (by with_reducible assumption))
            have K2 := K1.trans Q2
            clear hb2 K1 Q2
            go_wp2_with fail
            refine (CW.out _).mono ?_
            rintro e wr3 ⟨rfl, hb3⟩
            have Q3 : Kp wr2 wr3 := by repeat (first | exact Kp.refl _ | with_reducible assumption | with_reducible refine Kp.set ?_ _ _ ?_ | (dsimp only; omega) | with_reducible refine Kp.drew ?_ | with_reducible refine Kp.drewN ?_ _ | with_reducible refine Kp.al ?_ _ | with_reducible refine Kp.trans ?_ (by with_reducible assumption))
            have K3 := K2.trans Q3
            clear hb3 K2 Q3
            go_wp2_with fail
            go_roundw
            case rel => exact ⟨k + 1, by omega, by omega, by go_num, by rw [HN.out], by rw [HN.out], by repeat (first | exact Kp.refl _ | with_reducible assumption | with_reducible refine Kp.set ?_ _ _ ?_ | (dsimp only; omega) | with_reducible refine Kp.drew ?_ | with_reducible refine Kp.drewN ?_ _ | with_reducible refine Kp.al ?_ _ | with_reducible refine Kp.trans ?_ (by with_reducible assumption))⟩
            case measure => simp [intOf]; omega
          · have n9 : ((p : Int) == 9) = false := by simp; omega
            have k9 : (p == 9) = false := by simp; omega
            have n16 : ((p : Int) == 16) = true := by simp; omega
            have k16 : (p == 16) = true := by simpa using h9
            clear h9
            go_wp2_with fail
            refine (CB.out _).mono ?_
            rintro e wr1 ⟨rfl, hb1⟩
            have Q1 : Kp wr wr1 := by repeat (first | exact Kp.refl _ | with_reducible assumption | with_reducible refine Kp.set ?_ _ _ ?_ | (dsimp only; omega) | with_reducible refine Kp.drew ?_ | with_reducible refine Kp.drewN ?_ _ | with_reducible refine Kp.al ?_ _ | with_reducible refine Kp.trans ?_ (by with_reducible assumption))
            have K1 := Q1
            clear hb1 Q1
            go_wp2_with fail
            refine (CL.out _).mono ?_
            rintro e wr2 ⟨rfl, hb2⟩
            have Q2 : Kp wr1 wr2 := by repeat (first | exact Kp.refl _ | with_reducible assumption | with_reducible refine Kp.set ?_ _ _ ?_ | (dsimp only; omega) | with_reducible refine Kp.drew ?_ | with_reducible refine Kp.drewN ?_ _ | with_reducible refine Kp.al ?_ _ | with_reducible refine Kp.trans ?_ (by with_reducible assumption))
            have K2 := K1.trans Q2
            clear hb2 K1 Q2
            go_wp2_with fail
            refine (CW.out _).mono ?_
            rintro e wr3 ⟨rfl, hb3⟩
            have Q3 : Kp wr2 wr3 := by repeat (first | exact Kp.refl _ | with_reducible assumption | with_reducible refine Kp.set ?_ _ _ ?_ | (dsimp only; omega) | with_reducible refine Kp.drew ?_ | with_reducible refine Kp.drewN ?_ _ | with_reducible refine Kp.al ?_ _ | with_reducible refine Kp.trans ?_ (by with_reducible assumption))
            have K3 := K2.trans Q3
            clear hb3 K2 Q3
            go_wp2_with fail
            go_roundw
            case rel => exact ⟨k + 1, by omega, by omega, by go_num, by rw [HN.out], by rw [HN.out], by repeat (first | exact Kp.refl _ | with_reducible assumption | with_reducible refine Kp.set ?_ _ _ ?_ | (dsimp only; omega) | with_reducible refine Kp.drew ?_ | with_reducible refine Kp.drewN ?_ _ | with_reducible refine Kp.al ?_ _ | with_reducible refine Kp.trans ?_ (by with_reducible assumption))⟩
            case measure => simp [intOf]; omega
        · rw [if_neg hcs] at hN
          have HN := Lib.hid hN
          clear hN
          cases fi with
          | true =>
            clear hcs
            go_wp2_with fail
            refine (CB.out _).mono ?_
            rintro e wr1 ⟨rfl, hb1⟩
            have Q1 : Kp wr wr1 := by repeat (first | exact Kp.refl _ | with_reducible assumption | with_reducible refine Kp.set ?_ _ _ ?_ | (dsimp only; omega) | with_reducible refine Kp.drew ?_ | with_reducible refine Kp.drewN ?_ _ | with_reducible refine Kp.al ?_ _ | with_reducible refine Kp.trans ?_ (by with_reducible assumption))
            have K1 := Q1
            clear hb1 Q1
            go_wp2_with fail
            refine (CW.out _).mono ?_
            rintro e wr2 ⟨rfl, hb2⟩
            have Q2 : Kp wr1 wr2 := by repeat (first | exact Kp.refl _ | with_reducible assumption | with_reducible refine Kp.set ?_ _ _ ?_ | (dsimp only; omega) | with_reducible refine Kp.drew ?_ | with_reducible refine Kp.drewN ?_ _ | with_reducible refine Kp.al ?_ _ | with_reducible refine Kp.trans ?_ (by with_reducible assumption))
            have K2 := K1.trans Q2
            clear hb2 K1 Q2
            go_wp2_with fail
            go_roundw
            case rel => exact ⟨k + 1, by omega, by omega, by go_num, by rw [HN.out], by rw [HN.out], by repeat (first | exact Kp.refl _ | with_reducible assumption | with_reducible refine Kp.set ?_ _ _ ?_ | (dsimp only; omega) | with_reducible refine Kp.drew ?_ | with_reducible refine Kp.drewN ?_ _ | with_reducible refine Kp.al ?_ _ | with_reducible refine Kp.trans ?_ (by with_reducible assumption))⟩
            case measure => simp [intOf]; omega
          | false =>
            have hp9 : ¬ (p = 9 ∨ p = 16) := fun h => hcs ⟨rfl, h⟩
            have n9 : ((p : Int) == 9) = false := by simp; omega
            have n16 : ((p : Int) == 16) = false := by simp; omega
            have m9 : ¬ p = 9 := by omega
            have m16 : ¬ p = 16 := by omega
            have k9 : (p == 9) = false := by simp; omega
            have k16 : (p == 16) = false := by simp; omega
            clear hcs hp9
            go_wp2_with fail
            refine (CB.out _).mono ?_
            rintro e wr1 ⟨rfl, hb1⟩
            have Q1 : Kp wr wr1 := by repeat (first | exact Kp.refl _ | with_reducible assumption | with_reducible refine Kp.set ?_ _ _ ?_ | (dsimp only; omega) | with_reducible refine Kp.drew ?_ | with_reducible refine Kp.drewN ?_ _ | with_reducible refine Kp.al ?_ _ | with_reducible refine Kp.trans ?_ (by with_reducible assumption))
            have K1 := Q1
            clear hb1 Q1
            go_wp2_with fail
            refine (CW.out _).mono ?_
            rintro e wr2 ⟨rfl, hb2⟩
            have Q2 : Kp wr1 wr2 := by repeat (first | exact Kp.refl _ | with_reducible assumption | with_reducible refine Kp.set ?_ _ _ ?_ | (dsimp only; omega) | with_reducible refine Kp.drew ?_ | with_reducible refine Kp.drewN ?_ _ | with_reducible refine Kp.al ?_ _ | with_reducible refine Kp.trans ?_ (by with_reducible assumption))
            have K2 := K1.trans Q2
            clear hb2 K1 Q2
            go_wp2_with fail
            go_roundw
            case rel => exact ⟨k + 1, by omega, by omega, by go_num, by rw [HN.out], by rw [HN.out], by repeat (first | exact Kp.refl _ | with_reducible assumption | with_reducible refine Kp.set ?_ _ _ ?_ | (dsimp only; omega) | with_reducible refine Kp.drew ?_ | with_reducible refine Kp.drewN ?_ _ | with_reducible refine Kp.al ?_ _ | with_reducible refine Kp.trans ?_ (by with_reducible assumption))⟩
            case measure => simp [intOf]; omega
      · rw [if_neg hs] at hN
        have HN2 := Lib.hid hN
        have hs' : s < 1 ∨ 6 < s := by omega
        clear hN hs
        rcases hs' with h | h
        · have dd1 : decide (s < 1) = true := by simp; omega
          clear es b1 b2
          go_wp2_with fail
          refine (CB.out _).mono ?_
          rintro e wr1 ⟨rfl, hb1⟩
          have Q1 : Kp wr wr1 := by repeat (first | exact Kp.refl _ | with_reducible assumption | with_reducible refine Kp.set ?_ _ _ ?_ | (dsimp only; omega) | with_reducible refine Kp.drew ?_ | with_reducible refine Kp.drewN ?_ _ | with_reducible refine Kp.al ?_ _ | with_reducible refine Kp.trans ?_ (by with_reducible assumption))
          have K1 := Q1
          clear hb1 Q1
          go_wp2_with fail
          go_roundw
          case rel => exact ⟨k + 1, by omega, by omega, by go_num, by rw [HN2.out, ETX.out], by rw [HN2.out, EFI.out], by repeat (first | exact Kp.refl _ | with_reducible assumption | with_reducible refine Kp.set ?_ _ _ ?_ | (dsimp only; omega) | with_reducible refine Kp.drew ?_ | with_reducible refine Kp.drewN ?_ _ | with_reducible refine Kp.al ?_ _ | with_reducible refine Kp.trans ?_ (by with_reducible assumption))⟩
          case measure => simp [intOf]; omega
        · have dd1 : decide (s < 1) = false := by simp; omega
          have dd2 : decide (6 < s) = true := by simp; omega
          clear es b1 b2
          go_wp2_with fail
          refine (CB.out _).mono ?_
          rintro e wr1 ⟨rfl, hb1⟩
          have Q1 : Kp wr wr1 := by repeat (first | exact Kp.refl _ | with_reducible assumption | with_reducible refine Kp.set ?_ _ _ ?_ | (dsimp only; omega) | with_reducible refine Kp.drew ?_ | with_reducible refine Kp.drewN ?_ _ | with_reducible refine Kp.al ?_ _ | with_reducible refine Kp.trans ?_ (by with_reducible assumption))
          have K1 := Q1
          clear hb1 Q1
          go_wp2_with fail
          go_roundw
          case rel => exact ⟨k + 1, by omega, by omega, by go_num, by rw [HN2.out, ETX.out], by rw [HN2.out, EFI.out], by repeat (first | exact Kp.refl _ | with_reducible assumption | with_reducible refine Kp.set ?_ _ _ ?_ | (dsimp only; omega) | with_reducible refine Kp.drew ?_ | with_reducible refine Kp.drewN ?_ _ | with_reducible refine Kp.al ?_ _ | with_reducible refine Kp.trans ?_ (by with_reducible assumption))⟩
          case measure => simp [intOf]; omega
    · obtain rfl : k = 8 := by omega
      rw [HEQ.out]
      go_wp2_with fail
      go_ret2
      exact ⟨rfl, hK⟩
theorem rname_no (n : Int) (w : World) (h : n < 0 ∨ 19 < n) :
    Calls Tryd.prog 24 #[.int .i64 n] w fun e w' => e = .returned (.tuple #[.string ⟨#[]⟩, .int .i64 2]) ∧ Kp w w' := by
  rcases h with h | h
  all_goals
    go_enter Tryd.func24, Tryd.ntmps24
    go_wp2_with fail
    all_goals
      first
      | (exfalso; omega)
      | (go_ret2; exact ⟨rfl, by repeat (first | exact Kp.refl _ | with_reducible assumption | with_reducible refine Kp.set ?_ _ _ ?_ | (dsimp only; omega) | with_reducible refine Kp.drew ?_ | with_reducible refine Kp.drewN ?_ _ | with_reducible refine Kp.al ?_ _ | with_reducible refine Kp.trans ?_ (by with_reducible assumption))⟩)
end Go.Proofs.YtaobndijldidfaaDoor
