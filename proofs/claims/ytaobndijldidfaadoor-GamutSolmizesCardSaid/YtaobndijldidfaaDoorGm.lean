/- Contracts of gamut.Word, letter and Name. -/
import Derived.Test.YtaobndijldidfaaDoorGb
set_option linter.unusedSimpArgs false
set_option linter.unusedVariables false
namespace Go.Proofs.YtaobndijldidfaaDoor
open Go.RowKit

theorem bytes_beq (a b : ByteArray) : (a == b) = decide (a = b) := by
  obtain ⟨x⟩ := a
  obtain ⟨y⟩ := b
  have h : ((⟨x⟩ : ByteArray) == ⟨y⟩) = (x == y) := rfl
  rw [h, Bool.eq_iff_iff]
  simp
theorem bytes_ne {a b : ByteArray} (h : ¬ a = b) : (a != b) = true := by simp [bne, bytes_beq, h]
theorem bytes_same {a b : ByteArray} (h : a = b) : (a != b) = false := by simp [bne, bytes_beq, h]
theorem bytes_inj {a b : ByteArray} (h : a.toList = b.toList) : a = b := by
  rw [ByteArray.toList_eq, ByteArray.toList_eq] at h
  exact ByteArray.ext (Array.toList_inj.1 h)
def oneB : ByteArray := ⟨#[65, 66, 67, 68, 69, 70, 71, 97, 98, 99, 100, 101, 102, 103]⟩
def letN (p : Nat) : ByteArray := if p = 0 then ⟨#[71, 97, 109, 109, 97]⟩ else if p < 15 then oneB.extract (p - 1) p else oneB.extract (p - 8) (p - 7) ++ oneB.extract (p - 8) (p - 7)

set_option maxRecDepth 100000 in
set_option maxHeartbeats 2000000 in
theorem letter_ok (p : Nat) (hp : p ≤ 19) (w : World) :
    Calls Tryd.prog 50 #[.int .i64 (p : Int)] w fun e w' => e = .returned (.string (letN p)) ∧ w = w' := by
  have hcase : p = 0 ∨ p = 1 ∨ p = 2 ∨ p = 3 ∨ p = 4 ∨ p = 5 ∨ p = 6 ∨ p = 7 ∨ p = 8 ∨ p = 9 ∨ p = 10 ∨ p = 11 ∨ p = 12 ∨ p = 13 ∨ p = 14 ∨ p = 15 ∨ p = 16 ∨ p = 17 ∨ p = 18 ∨ p = 19 := by omega
  rcases hcase with rfl | rfl | rfl | rfl | rfl | rfl | rfl | rfl | rfl | rfl | rfl | rfl | rfl | rfl | rfl | rfl | rfl | rfl | rfl | rfl
  · go_enter Tryd.func50, Tryd.ntmps50
    go_wp2_with fail
    exact bodyPost_ret (v := .string (letN 0)) (by kernel_rfl) rfl ⟨rfl, rfl⟩
  · go_enter Tryd.func50, Tryd.ntmps50
    go_wp2_with fail
    exact bodyPost_ret (v := .string (letN 1)) (by kernel_rfl) rfl ⟨rfl, rfl⟩
  · go_enter Tryd.func50, Tryd.ntmps50
    go_wp2_with fail
    exact bodyPost_ret (v := .string (letN 2)) (by kernel_rfl) rfl ⟨rfl, rfl⟩
  · go_enter Tryd.func50, Tryd.ntmps50
    go_wp2_with fail
    exact bodyPost_ret (v := .string (letN 3)) (by kernel_rfl) rfl ⟨rfl, rfl⟩
  · go_enter Tryd.func50, Tryd.ntmps50
    go_wp2_with fail
    exact bodyPost_ret (v := .string (letN 4)) (by kernel_rfl) rfl ⟨rfl, rfl⟩
  · go_enter Tryd.func50, Tryd.ntmps50
    go_wp2_with fail
    exact bodyPost_ret (v := .string (letN 5)) (by kernel_rfl) rfl ⟨rfl, rfl⟩
  · go_enter Tryd.func50, Tryd.ntmps50
    go_wp2_with fail
    exact bodyPost_ret (v := .string (letN 6)) (by kernel_rfl) rfl ⟨rfl, rfl⟩
  · go_enter Tryd.func50, Tryd.ntmps50
    go_wp2_with fail
    exact bodyPost_ret (v := .string (letN 7)) (by kernel_rfl) rfl ⟨rfl, rfl⟩
  · go_enter Tryd.func50, Tryd.ntmps50
    go_wp2_with fail
    exact bodyPost_ret (v := .string (letN 8)) (by kernel_rfl) rfl ⟨rfl, rfl⟩
  · go_enter Tryd.func50, Tryd.ntmps50
    go_wp2_with fail
    exact bodyPost_ret (v := .string (letN 9)) (by kernel_rfl) rfl ⟨rfl, rfl⟩
  · go_enter Tryd.func50, Tryd.ntmps50
    go_wp2_with fail
    exact bodyPost_ret (v := .string (letN 10)) (by kernel_rfl) rfl ⟨rfl, rfl⟩
  · go_enter Tryd.func50, Tryd.ntmps50
    go_wp2_with fail
    exact bodyPost_ret (v := .string (letN 11)) (by kernel_rfl) rfl ⟨rfl, rfl⟩
  · go_enter Tryd.func50, Tryd.ntmps50
    go_wp2_with fail
    exact bodyPost_ret (v := .string (letN 12)) (by kernel_rfl) rfl ⟨rfl, rfl⟩
  · go_enter Tryd.func50, Tryd.ntmps50
    go_wp2_with fail
    exact bodyPost_ret (v := .string (letN 13)) (by kernel_rfl) rfl ⟨rfl, rfl⟩
  · go_enter Tryd.func50, Tryd.ntmps50
    go_wp2_with fail
    exact bodyPost_ret (v := .string (letN 14)) (by kernel_rfl) rfl ⟨rfl, rfl⟩
  · go_enter Tryd.func50, Tryd.ntmps50
    go_wp2_with fail
    exact bodyPost_ret (v := .string (letN 15)) (by kernel_rfl) rfl ⟨rfl, rfl⟩
  · go_enter Tryd.func50, Tryd.ntmps50
    go_wp2_with fail
    exact bodyPost_ret (v := .string (letN 16)) (by kernel_rfl) rfl ⟨rfl, rfl⟩
  · go_enter Tryd.func50, Tryd.ntmps50
    go_wp2_with fail
    exact bodyPost_ret (v := .string (letN 17)) (by kernel_rfl) rfl ⟨rfl, rfl⟩
  · go_enter Tryd.func50, Tryd.ntmps50
    go_wp2_with fail
    exact bodyPost_ret (v := .string (letN 18)) (by kernel_rfl) rfl ⟨rfl, rfl⟩
  · go_enter Tryd.func50, Tryd.ntmps50
    go_wp2_with fail
    exact bodyPost_ret (v := .string (letN 19)) (by kernel_rfl) rfl ⟨rfl, rfl⟩

set_option maxRecDepth 100000 in
theorem word_ok (s : Nat) (w : World) (ht0 : Tab w) (h1 : 1 ≤ s) (h2 : s ≤ 6) :
    Calls Tryd.prog 25 #[.int .i64 (s : Int)] w fun e w' => e = .returned (.tuple #[.string (wordN s), .int .i64 0]) ∧ w = w' := by
  have hc := ht0.2 s (by omega)
  have hl := ht0.lt
  have d1 : decide ((s : Int) < 1) = false := by simp; omega
  have d2 : decide (6 < (s : Int)) = false := by simp; omega
  have j1 : (0 : Int) ≤ (s : Int) := by omega
  have j2 : (s : Int) < 7 := by omega
  clear ht0
  go_enter Tryd.func25, Tryd.ntmps25
  go_wp2_with fail
  go_ret2
  exact ⟨rfl, rfl⟩
set_option maxRecDepth 100000 in
theorem word_no (s : Int) (w : World) (h : s < 1 ∨ 6 < s) :
    Calls Tryd.prog 25 #[.int .i64 s] w fun e w' => e = .returned (.tuple #[.string ⟨#[]⟩, .int .i64 2]) ∧ w = w' := by
  rcases h with h | h
  all_goals
    go_enter Tryd.func25, Tryd.ntmps25
    go_wp2_with fail
    all_goals
      first
      | (exfalso; omega)
      | (go_ret2; exact ⟨rfl, rfl⟩)
set_option maxRecDepth 100000 in
theorem name_no (n : Int) (w : World) (h : n < 0 ∨ 19 < n) :
    Calls Tryd.prog 23 #[.int .i64 n] w fun e w' => e = .returned (.tuple #[.string ⟨#[]⟩, .int .i64 2]) ∧ w = w' := by
  rcases h with h | h
  all_goals
    go_enter Tryd.func23, Tryd.ntmps23
    go_wp2_with fail
    all_goals
      first
      | (exfalso; omega)
      | (go_ret2; exact ⟨rfl, rfl⟩)
/-- The name and the last alteration ahead of hexachord k. -/
def nameTo (p : Nat) : Nat → ByteArray × Int
  | 0 => (letN p, 0)
  | k + 1 => if k = 0 then (letN p, 0) else if 1 ≤ (p : Int) - startN k + 1 ∧ (p : Int) - startN k + 1 ≤ 6 then
      ((if (nameTo p k).1 ≠ letN p ∧ altS k ((p : Int) - startN k + 1) ≠ (nameTo p k).2 then (nameTo p k).1 ++ (⟨#[32]⟩ ++ letN p) else (nameTo p k).1) ++ (⟨#[32]⟩ ++ wordN ((p : Int) - startN k + 1).toNat), altS k ((p : Int) - startN k + 1)) else nameTo p k
theorem letN_size (p : Nat) (hp : p ≤ 19) : (letN p).size ≤ 5 := by
  have h : ∀ p : Fin 20, (letN p).size ≤ 5 := by decide
  exact h ⟨p, by omega⟩
theorem wordN_size (k : Nat) : (wordN k).size ≤ 3 := by
  unfold wordN
  show Array.size _ ≤ 3
  repeat' split
  all_goals simp
theorem nameTo_size (p : Nat) (hp : p ≤ 19) : ∀ k, (nameTo p k).1.size ≤ 10 + 20 * k
  | 0 => by have := letN_size p hp; unfold nameTo; dsimp only; omega
  | k + 1 => by
    have ih := nameTo_size p hp k
    have hl := letN_size p hp
    have hw := wordN_size ((p : Int) - startN k + 1).toNat
    have h1 : (⟨#[32]⟩ : ByteArray).size = 1 := rfl
    unfold nameTo
    split
    · dsimp only; omega
    · split
      · dsimp only
        rw [ByteArray.size_append, ByteArray.size_append, h1]
        split
        · rw [ByteArray.size_append, ByteArray.size_append, h1]; omega
        · omega
      · omega
def nameS (p : Nat) : ByteArray := (nameTo p 8).1

set_option maxRecDepth 100000 in
set_option maxHeartbeats 2000000 in
theorem name_ok (p : Nat) (hp : p ≤ 19) (w : World) (ht0 : Tab w) :
    Calls Tryd.prog 23 #[.int .i64 (p : Int)] w fun e w' => e = .returned (.tuple #[.string (nameS p), .int .i64 0]) ∧ Kp w w' := by
  have HT := Lib.hid ht0
  have CL := Lib.hid (fun w => letter_ok p hp w)
  obtain ⟨nm, enm⟩ : ∃ nm, nm = letN p := ⟨_, rfl⟩
  rw [← enm] at CL
  have ENM := Lib.hid enm
  have d1 : decide ((p : Int) < 0) = false := by simp
  have d2 : decide (19 < (p : Int)) = false := by simp; omega
  clear ht0 enm
  go_enter Tryd.func23, Tryd.ntmps23
  go_wp2_with fail
  refine (CL.out _).mono ?_
  rintro e _ ⟨rfl, rfl⟩
  go_wp2_with fail
  go_loopw [5, 6, 7] (fun t l h wr => ∃ k : Nat, 1 ≤ k ∧ k ≤ 8 ∧ h = .int .i64 (k : Int) ∧ t = .string (nameTo p k).1 ∧ l = .int .i64 (nameTo p k).2 ∧ Kp w wr) (fun _ _ v _ => 8 - (intOf v).toNat)
  case atStart => exact ⟨1, by omega, by omega, rfl, by rw [ENM.out]; rfl, rfl, Kp.refl _⟩
  case round =>
    obtain ⟨k, hk1, hk, rfl, rfl, rfl, hK⟩ := hrel
    by_cases hlt : k < 8
    · have hd : decide ((k : Int) < 8) = true := by simp; omega
      have hst := hK.get (HT.out.1 k hlt)
      obtain ⟨b1, b2⟩ := startN_bd k
      have hN : nameTo p (k + 1) = if 1 ≤ (p : Int) - startN k + 1 ∧ (p : Int) - startN k + 1 ≤ 6 then
          ((if (nameTo p k).1 ≠ letN p ∧ altS k ((p : Int) - startN k + 1) ≠ (nameTo p k).2 then (nameTo p k).1 ++ (⟨#[32]⟩ ++ letN p) else (nameTo p k).1) ++ (⟨#[32]⟩ ++ wordN ((p : Int) - startN k + 1).toNat), altS k ((p : Int) - startN k + 1)) else nameTo p k := by
        conv => lhs; unfold nameTo
        rw [if_neg (by omega)]
      rw [← ENM.out] at hN
      obtain ⟨st, est⟩ : ∃ st, st = startN k := ⟨_, rfl⟩
      rw [← est] at hst b1 b2 hN
      obtain ⟨tx, etx⟩ : ∃ tx, tx = (nameTo p k).1 := ⟨_, rfl⟩
      obtain ⟨la, ela⟩ : ∃ la, la = (nameTo p k).2 := ⟨_, rfl⟩
      rw [← etx, ← ela] at hN
      rw [← etx, ← ela]
      have ETX := Lib.hid etx; have ELA := Lib.hid ela
      have i1 : IntKind.i64.wrap ((p : Int) - st) = (p : Int) - st := IntWalk.i64_in _ (by omega)
      have j1 : (0 : Int) ≤ (k : Int) := by omega
      have j2 : (k : Int) < 8 := by omega
      have hsl := cell_lt hst
      have z1 : tx.size ≤ 10 + 20 * k := by rw [etx]; exact nameTo_size p hp k
      have z2 : nm.size ≤ 5 := by rw [ENM.out]; exact letN_size p hp
      obtain ⟨s, es⟩ : ∃ s, s = (p : Int) - st + 1 := ⟨_, rfl⟩
      rw [← es] at hN
      have i2 : IntKind.i64.wrap ((p : Int) - st + 1) = s := by rw [es]; exact IntWalk.i64_in _ (by omega)
      have HN := Lib.hid hN
      by_cases hs : 1 ≤ s ∧ s ≤ 6
      · have dd1 : decide (s < 1) = false := by simp; omega
        have dd2 : decide (6 < s) = false := by simp; omega
        have hwd := hK.get (HT.out.2 s.toNat (by omega))
        obtain ⟨wd, ewd⟩ : ∃ wd, wd = wordN s.toNat := ⟨_, rfl⟩
        have cp := fun w t => gpitch_ok (k : Int) s w t ⟨by omega, by omega, by omega, by omega⟩
        have eal : (pitS ((k : Int), s)).2.2 = altS k s := rfl
        rw [eal] at cp
        rw [if_pos hs] at hN
        obtain ⟨al, eal2⟩ : ∃ al, al = altS k s := ⟨_, rfl⟩
        rw [← eal2] at cp hN
        rw [← ewd] at hN hwd
        have z3 : wd.size ≤ 3 := by rw [ewd]; exact wordN_size _
        obtain ⟨x, ex⟩ : ∃ x, x = (pitS ((k : Int), s)).1 := ⟨_, rfl⟩
        obtain ⟨y, ey⟩ : ∃ y, y = (pitS ((k : Int), s)).2.1 := ⟨_, rfl⟩
        rw [← ex, ← ey] at cp
        have CP := Lib.hid cp
        have q1 : (0 : Int) ≤ s := by omega
        have q2 : s < 7 := by omega
        obtain ⟨hs1, hs2⟩ := hs
        clear b1 b2 HN es cp eal eal2 ewd ex ey etx ela est
        go_wp2_with fail
        refine (CP.out _ (HT.out.below (by repeat (first | exact Kp.refl _ | with_reducible assumption | with_reducible refine Kp.set ?_ _ _ ?_ | (dsimp only; omega) | with_reducible refine Kp.drew ?_ | with_reducible refine Kp.drewN ?_ _ | with_reducible refine Kp.al ?_ _ | with_reducible refine Kp.trans ?_ (by with_reducible assumption))))).mono ?_
        rintro e wr1 ⟨rfl, hb1⟩
        have Q1 : Kp wr wr1 := by repeat (first | exact Kp.refl _ | with_reducible assumption | with_reducible refine Kp.set ?_ _ _ ?_ | (dsimp only; omega) | with_reducible refine Kp.drew ?_ | with_reducible refine Kp.drewN ?_ _ | with_reducible refine Kp.al ?_ _ | with_reducible refine Kp.trans ?_ (by with_reducible assumption))
        have K1 := Q1
        clear hb1 Q1
        have hwd1 := K1.get hwd
        have hwl := cell_lt hwd1
        have y1 : ¬ 9223372036854775807 < 1 + wd.size := by omega
        have y2 : ¬ 9223372036854775807 < tx.size + (1 + wd.size) := by omega
        have y3 : ¬ 9223372036854775807 < 1 + nm.size := by omega
        have y4 : ¬ 9223372036854775807 < tx.size + (1 + nm.size) := by omega
        have y5 : ¬ 9223372036854775807 < tx.size + (1 + nm.size) + (1 + wd.size) := by omega
        clear hwd hst
        by_cases ht : tx = nm
        · have dt : tx.toList = nm.toList := by rw [ht]
          rw [if_neg (fun h => h.1 ht)] at hN
          have HN := Lib.hid hN
          clear hN ht
          go_wp2_with fail
          go_roundw
          case rel => exact ⟨k + 1, by omega, by omega, by go_num, by rw [HN.out], by rw [HN.out], by repeat (first | exact Kp.refl _ | with_reducible assumption | with_reducible refine Kp.set ?_ _ _ ?_ | (dsimp only; omega) | with_reducible refine Kp.drew ?_ | with_reducible refine Kp.drewN ?_ _ | with_reducible refine Kp.al ?_ _ | with_reducible refine Kp.trans ?_ (by with_reducible assumption))⟩
          case measure => simp [intOf]; omega
        · have dt : ¬ tx.toList = nm.toList := fun h => ht (bytes_inj h)
          have dt2 : (tx.toList == nm.toList) = false := by simpa using dt
          by_cases ha : al = la
          · have da : (al != la) = false := by simpa using ha
            rw [if_neg (fun h => h.2 ha)] at hN
            have HN := Lib.hid hN
            clear hN ht ha
            go_wp2_with fail
            go_roundw
            case rel => exact ⟨k + 1, by omega, by omega, by go_num, by rw [HN.out], by rw [HN.out], by repeat (first | exact Kp.refl _ | with_reducible assumption | with_reducible refine Kp.set ?_ _ _ ?_ | (dsimp only; omega) | with_reducible refine Kp.drew ?_ | with_reducible refine Kp.drewN ?_ _ | with_reducible refine Kp.al ?_ _ | with_reducible refine Kp.trans ?_ (by with_reducible assumption))⟩
            case measure => simp [intOf]; omega
          · have da : (al != la) = true := by simpa using ha
            rw [if_pos ⟨ht, ha⟩] at hN
            have HN := Lib.hid hN
            clear hN ht ha
            go_wp2_with fail
            go_roundw
            case rel => exact ⟨k + 1, by omega, by omega, by go_num, by rw [HN.out], by rw [HN.out], by repeat (first | exact Kp.refl _ | with_reducible assumption | with_reducible refine Kp.set ?_ _ _ ?_ | (dsimp only; omega) | with_reducible refine Kp.drew ?_ | with_reducible refine Kp.drewN ?_ _ | with_reducible refine Kp.al ?_ _ | with_reducible refine Kp.trans ?_ (by with_reducible assumption))⟩
            case measure => simp [intOf]; omega
      · rw [if_neg hs] at hN
        have HN2 := Lib.hid hN
        have hs' : s < 1 ∨ 6 < s := by omega
        clear HN hN hs
        rcases hs' with h | h
        · have dd1 : decide (s < 1) = true := by simp; omega
          clear es etx ela est b1 b2
          go_wp2_with fail
          go_roundw
          case rel => exact ⟨k + 1, by omega, by omega, by go_num, by rw [HN2.out, ETX.out], by rw [HN2.out, ELA.out], hK⟩
          case measure => simp [intOf]; omega
        · have dd1 : decide (s < 1) = false := by simp; omega
          have dd2 : decide (6 < s) = true := by simp; omega
          clear es etx ela est b1 b2
          go_wp2_with fail
          go_roundw
          case rel => exact ⟨k + 1, by omega, by omega, by go_num, by rw [HN2.out, ETX.out], by rw [HN2.out, ELA.out], hK⟩
          case measure => simp [intOf]; omega
    · obtain rfl : k = 8 := by omega
      go_wp2_with fail
      go_ret2
      exact ⟨rfl, hK⟩
end Go.Proofs.YtaobndijldidfaaDoor
