/- Contracts of the small functions of package clef and of tactusref06. -/
import Derived.Test.YtgajdmefflndmaaBa
namespace Go.Proofs.Ytgajdmefflndmaa
open Go.RowKit

/-- The result of Check: 0, 8 (ErrKind) or 2 (ErrRange). -/
def cchk (st ln : Int) : Int := if st ≠ 0 ∧ st ≠ 3 ∧ st ≠ 4 then 8 else if ln < 1 ∨ 5 < ln then 2 else 0
/-- A clef is valid. -/
def Vc (st ln : Int) : Prop := (st = 0 ∨ st = 3 ∨ st = 4) ∧ 1 ≤ ln ∧ ln ≤ 5
theorem cchk_ok {st ln : Int} (h : Vc st ln) : cchk st ln = 0 := by unfold cchk; unfold Vc at h; rw [if_neg (by omega), if_neg (by omega)]
theorem cchk_no {st ln : Int} (h : ¬ Vc st ln) : cchk st ln = 8 ∨ cchk st ln = 2 := by
  unfold cchk; unfold Vc at h
  by_cases h1 : st ≠ 0 ∧ st ≠ 3 ∧ st ≠ 4
  · rw [if_pos h1]; omega
  · rw [if_neg h1, if_pos (by omega)]; omega
theorem ccheck_any (st ln : Int) (w : World) :
    Calls Try.prog 17 #[.agg #[.int .i64 st, .int .i64 ln]] w fun e w' => e = .returned (.int .i64 (cchk st ln)) ∧ Kp w w' := by
  by_cases hs : st = 0 ∨ st = 3 ∨ st = 4
  · by_cases hl : 1 ≤ ln ∧ ln ≤ 5
    · obtain ⟨l1, l2⟩ := hl
      rcases hs with rfl | rfl | rfl
      all_goals
        go_enter Try.func17, Try.ntmps17
        go_wp2
        go_ret
        refine ⟨ret_int ?_, by repeat (first | exact Kp.refl _ | with_reducible assumption | with_reducible refine Kp.set ?_ _ _ ?_ | (dsimp only; omega) | with_reducible refine Kp.drew ?_ | with_reducible refine Kp.drewN ?_ _ | with_reducible refine Kp.al ?_ _ | with_reducible refine Kp.trans ?_ (by with_reducible assumption))⟩
        unfold cchk
        rw [if_neg (by omega), if_neg (by omega)]
    · have hl' : ln < 1 ∨ 5 < ln := by omega
      clear hl
      rcases hs with rfl | rfl | rfl <;> rcases hl' with hl | hl
      all_goals
        go_enter Try.func17, Try.ntmps17
        go_wp2
        go_ret
        refine ⟨ret_int ?_, by repeat (first | exact Kp.refl _ | with_reducible assumption | with_reducible refine Kp.set ?_ _ _ ?_ | (dsimp only; omega) | with_reducible refine Kp.drew ?_ | with_reducible refine Kp.drewN ?_ _ | with_reducible refine Kp.al ?_ _ | with_reducible refine Kp.trans ?_ (by with_reducible assumption))⟩
        unfold cchk
        rw [if_neg (by omega), if_pos (by omega)]
  · have b0 : (st != 0) = true := by rw [bne_iff_ne]; omega
    have b3 : (st != 3) = true := by rw [bne_iff_ne]; omega
    have b4 : (st != 4) = true := by rw [bne_iff_ne]; omega
    have E : Hid (cchk st ln = 8) := by unfold cchk; rw [if_pos (by omega)]; exact rfl
    clear hs
    go_enter Try.func17, Try.ntmps17
    go_wp2
    go_ret
    exact ⟨ret_int E.out.symm, by repeat (first | exact Kp.refl _ | with_reducible assumption | with_reducible refine Kp.set ?_ _ _ ?_ | (dsimp only; omega) | with_reducible refine Kp.drew ?_ | with_reducible refine Kp.drewN ?_ _ | with_reducible refine Kp.al ?_ _ | with_reducible refine Kp.trans ?_ (by with_reducible assumption))⟩
theorem crcheck_any (st ln : Int) (w : World) :
    Calls Try.prog 18 #[.agg #[.int .i64 st, .int .i64 ln]] w fun e w' => e = .returned (.int .i64 (cchk st ln)) ∧ Kp w w' := by
  by_cases hs : st = 0 ∨ st = 3 ∨ st = 4
  · by_cases hl : 1 ≤ ln ∧ ln ≤ 5
    · obtain ⟨l1, l2⟩ := hl
      rcases hs with rfl | rfl | rfl
      all_goals
        go_enter Try.func18, Try.ntmps18
        go_wp2
        go_ret
        refine ⟨ret_int ?_, by repeat (first | exact Kp.refl _ | with_reducible assumption | with_reducible refine Kp.set ?_ _ _ ?_ | (dsimp only; omega) | with_reducible refine Kp.drew ?_ | with_reducible refine Kp.drewN ?_ _ | with_reducible refine Kp.al ?_ _ | with_reducible refine Kp.trans ?_ (by with_reducible assumption))⟩
        unfold cchk
        rw [if_neg (by omega), if_neg (by omega)]
    · have hl' : ln < 1 ∨ 5 < ln := by omega
      clear hl
      rcases hs with rfl | rfl | rfl <;> rcases hl' with hl | hl
      all_goals
        go_enter Try.func18, Try.ntmps18
        go_wp2
        go_ret
        refine ⟨ret_int ?_, by repeat (first | exact Kp.refl _ | with_reducible assumption | with_reducible refine Kp.set ?_ _ _ ?_ | (dsimp only; omega) | with_reducible refine Kp.drew ?_ | with_reducible refine Kp.drewN ?_ _ | with_reducible refine Kp.al ?_ _ | with_reducible refine Kp.trans ?_ (by with_reducible assumption))⟩
        unfold cchk
        rw [if_neg (by omega), if_pos (by omega)]
  · have b0 : (st != 0) = true := by rw [bne_iff_ne]; omega
    have b3 : (st != 3) = true := by rw [bne_iff_ne]; omega
    have b4 : (st != 4) = true := by rw [bne_iff_ne]; omega
    have E : Hid (cchk st ln = 8) := by unfold cchk; rw [if_pos (by omega)]; exact rfl
    clear hs
    go_enter Try.func18, Try.ntmps18
    go_wp2
    go_ret
    exact ⟨ret_int E.out.symm, by repeat (first | exact Kp.refl _ | with_reducible assumption | with_reducible refine Kp.set ?_ _ _ ?_ | (dsimp only; omega) | with_reducible refine Kp.drew ?_ | with_reducible refine Kp.drewN ?_ _ | with_reducible refine Kp.al ?_ _ | with_reducible refine Kp.trans ?_ (by with_reducible assumption))⟩

@[go_sem] theorem base_at0 (h : 0 < (ByteArray.mk #[28, 0, 0, 24, 32]).size) : (((ByteArray.mk #[28, 0, 0, 24, 32])[0]'h).toNat : Int) = 28 := rfl
@[go_sem] theorem base_at3 (h : 3 < (ByteArray.mk #[28, 0, 0, 24, 32]).size) : (((ByteArray.mk #[28, 0, 0, 24, 32])[3]'h).toNat : Int) = 24 := rfl
@[go_sem] theorem base_at4 (h : 4 < (ByteArray.mk #[28, 0, 0, 24, 32]).size) : (((ByteArray.mk #[28, 0, 0, 24, 32])[4]'h).toNat : Int) = 32 := rfl
@[go_sem] theorem flat_at0 (h : 0 < (ByteArray.mk #[48, 48, 50, 48, 48, 48, 49]).size) : (((ByteArray.mk #[48, 48, 50, 48, 48, 48, 49])[0]'h).toNat : Int) = 48 := rfl
@[go_sem] theorem flat_at1 (h : 1 < (ByteArray.mk #[48, 48, 50, 48, 48, 48, 49]).size) : (((ByteArray.mk #[48, 48, 50, 48, 48, 48, 49])[1]'h).toNat : Int) = 48 := rfl
@[go_sem] theorem flat_at2 (h : 2 < (ByteArray.mk #[48, 48, 50, 48, 48, 48, 49]).size) : (((ByteArray.mk #[48, 48, 50, 48, 48, 48, 49])[2]'h).toNat : Int) = 50 := rfl
@[go_sem] theorem flat_at3 (h : 3 < (ByteArray.mk #[48, 48, 50, 48, 48, 48, 49]).size) : (((ByteArray.mk #[48, 48, 50, 48, 48, 48, 49])[3]'h).toNat : Int) = 48 := rfl
@[go_sem] theorem flat_at4 (h : 4 < (ByteArray.mk #[48, 48, 50, 48, 48, 48, 49]).size) : (((ByteArray.mk #[48, 48, 50, 48, 48, 48, 49])[4]'h).toNat : Int) = 48 := rfl
@[go_sem] theorem flat_at5 (h : 5 < (ByteArray.mk #[48, 48, 50, 48, 48, 48, 49]).size) : (((ByteArray.mk #[48, 48, 50, 48, 48, 48, 49])[5]'h).toNat : Int) = 48 := rfl
@[go_sem] theorem flat_at6 (h : 6 < (ByteArray.mk #[48, 48, 50, 48, 48, 48, 49]).size) : (((ByteArray.mk #[48, 48, 50, 48, 48, 48, 49])[6]'h).toNat : Int) = 49 := rfl
/-- The number of the pitch at place 0. -/
def cbase (st : Int) : Int := if st = 0 then 28 else if st = 3 then 24 else 32
def low (st ln : Int) : Int := cbase st - 2 * (ln - 1)
theorem low_bd {st ln : Int} (h : Vc st ln) : 16 ≤ low st ln ∧ low st ln ≤ 32 := by
  obtain ⟨h, h1, h2⟩ := h
  rcases h with rfl | rfl | rfl <;> simp [low, cbase] <;> omega
theorem low_ok (st ln : Int) (w : World) (h : Vc st ln) :
    Calls Try.prog 31 #[.agg #[.int .i64 st, .int .i64 ln]] w fun e w' => e = .returned (.int .i64 (low st ln)) ∧ Kp w w' := by
  obtain ⟨h, h1, h2⟩ := h
  rcases h with rfl | rfl | rfl
  all_goals
    go_enter Try.func31, Try.ntmps31
    go_wp2_with fail
    go_quiet (fail)
    go_wp2_with fail
    go_ret
    exact ⟨ret_int (by simp [low, cbase]), by repeat (first | exact Kp.refl _ | with_reducible assumption | with_reducible refine Kp.set ?_ _ _ ?_ | (dsimp only; omega) | with_reducible refine Kp.drew ?_ | with_reducible refine Kp.drewN ?_ _ | with_reducible refine Kp.al ?_ _ | with_reducible refine Kp.trans ?_ (by with_reducible assumption))⟩
theorem rlow_ok (st ln : Int) (w : World) (h : Vc st ln) :
    Calls Try.prog 36 #[.agg #[.int .i64 st, .int .i64 ln]] w fun e w' => e = .returned (.int .i64 (low st ln)) ∧ Kp w w' := by
  obtain ⟨h, h1, h2⟩ := h
  rcases h with rfl | rfl | rfl
  all_goals
    go_enter Try.func36, Try.ntmps36
    go_wp2
    go_ret
    exact ⟨ret_int (by simp [low, cbase]), by repeat (first | exact Kp.refl _ | with_reducible assumption | with_reducible refine Kp.set ?_ _ _ ?_ | (dsimp only; omega) | with_reducible refine Kp.drew ?_ | with_reducible refine Kp.drewN ?_ _ | with_reducible refine Kp.al ?_ _ | with_reducible refine Kp.trans ?_ (by with_reducible assumption))⟩
theorem placed_yes (n : Int) (w : World) (h1 : -4 ≤ n) (h2 : n ≤ 12) :
    Calls Try.prog 32 #[.int .i64 n] w fun e w' => e = .returned (.bool true) ∧ w = w' := by
  go_enter Try.func32, Try.ntmps32
  go_wp2
  go_ret
  exact ⟨rfl, rfl⟩
theorem placed_no (n : Int) (w : World) (h : n < -4 ∨ 12 < n) :
    Calls Try.prog 32 #[.int .i64 n] w fun e w' => e = .returned (.bool false) ∧ w = w' := by
  have hd : decide (-4 ≤ n) = false ∨ (decide (-4 ≤ n) = true ∧ decide (n ≤ 12) = false) := by simp; omega
  rcases hd with hd | ⟨hd, he⟩
  all_goals
    go_enter Try.func32, Try.ntmps32
    go_wp2
    go_ret
    exact ⟨rfl, rfl⟩
theorem ron_yes (n : Int) (w : World) (h1 : -4 ≤ n) (h2 : n ≤ 12) :
    Calls Try.prog 37 #[.int .i64 n] w fun e w' => e = .returned (.bool true) ∧ w = w' := by
  go_enter Try.func37, Try.ntmps37
  go_wp2
  go_ret
  exact ⟨rfl, rfl⟩
theorem ron_no (n : Int) (w : World) (h : n < -4 ∨ 12 < n) :
    Calls Try.prog 37 #[.int .i64 n] w fun e w' => e = .returned (.bool false) ∧ w = w' := by
  have hd : decide (-4 ≤ n) = false ∨ (decide (-4 ≤ n) = true ∧ decide (n ≤ 12) = false) := by simp; omega
  rcases hd with hd | ⟨hd, he⟩
  all_goals
    go_enter Try.func37, Try.ntmps37
    go_wp2
    go_ret
    exact ⟨rfl, rfl⟩
/-- The error of a clef and a key. -/
instance (st ln : Int) : Decidable (Vc st ln) := by unfold Vc; infer_instance
def kerr (st ln key : Int) : Int := if Vc st ln then (if 0 ≤ key ∧ key ≤ 2 then 0 else 2) else cchk st ln
theorem kerr_ok {st ln key : Int} (h : Vc st ln) (h1 : 0 ≤ key) (h2 : key ≤ 2) : kerr st ln key = 0 := by unfold kerr; rw [if_pos h, if_pos ⟨h1, h2⟩]
theorem kerr_no {st ln key : Int} (h : ¬ (Vc st ln ∧ 0 ≤ key ∧ key ≤ 2)) : kerr st ln key = 8 ∨ kerr st ln key = 2 := by
  unfold kerr
  by_cases hc : Vc st ln
  · rw [if_pos hc, if_neg (fun k => h ⟨hc, k⟩)]; omega
  · rw [if_neg hc]; exact cchk_no hc
theorem keyed_any (st ln key : Int) (w : World) :
    Calls Try.prog 29 #[.agg #[.int .i64 st, .int .i64 ln], .int .i64 key] w fun e w' => e = .returned (.int .i64 (kerr st ln key)) ∧ Kp w w' := by
  by_cases hc : Vc st ln
  · by_cases hk : 0 ≤ key ∧ key ≤ 2
    · obtain ⟨k1, k2⟩ := hk
      have C := Lib.hid (cchk_ok hc); have E := Lib.hid (kerr_ok hc k1 k2)
      go_enter Try.func29, Try.ntmps29
      go_wp2_with fail
      refine (ccheck_any _ _ _).mono ?_
      rw [C.out]
      rintro e w1 ⟨rfl, hb1⟩
      have Q1 : Kp w w1 := by repeat (first | exact Kp.refl _ | with_reducible assumption | with_reducible refine Kp.set ?_ _ _ ?_ | (dsimp only; omega) | with_reducible refine Kp.drew ?_ | with_reducible refine Kp.drewN ?_ _ | with_reducible refine Kp.al ?_ _ | with_reducible refine Kp.trans ?_ (by with_reducible assumption))
      have K1 := Q1
      clear hb1 Q1
      go_wp2
      go_ret
      exact ⟨ret_int E.out.symm, by repeat (first | exact Kp.refl _ | with_reducible assumption | with_reducible refine Kp.set ?_ _ _ ?_ | (dsimp only; omega) | with_reducible refine Kp.drew ?_ | with_reducible refine Kp.drewN ?_ _ | with_reducible refine Kp.al ?_ _ | with_reducible refine Kp.trans ?_ (by with_reducible assumption))⟩
    · have C := Lib.hid (cchk_ok hc)
      have E : Hid (kerr st ln key = 2) := by unfold kerr; rw [if_pos hc, if_neg hk]; exact rfl
      have hk' : key < 0 ∨ 2 < key := by omega
      clear hk
      rcases hk' with hk | hk
      all_goals
        go_enter Try.func29, Try.ntmps29
        go_wp2_with fail
        refine (ccheck_any _ _ _).mono ?_
        rw [C.out]
        rintro e w1 ⟨rfl, hb1⟩
        have Q1 : Kp w w1 := by repeat (first | exact Kp.refl _ | with_reducible assumption | with_reducible refine Kp.set ?_ _ _ ?_ | (dsimp only; omega) | with_reducible refine Kp.drew ?_ | with_reducible refine Kp.drewN ?_ _ | with_reducible refine Kp.al ?_ _ | with_reducible refine Kp.trans ?_ (by with_reducible assumption))
        have K1 := Q1
        clear hb1 Q1
        go_wp2
        go_ret
        exact ⟨ret_int E.out.symm, by repeat (first | exact Kp.refl _ | with_reducible assumption | with_reducible refine Kp.set ?_ _ _ ?_ | (dsimp only; omega) | with_reducible refine Kp.drew ?_ | with_reducible refine Kp.drewN ?_ _ | with_reducible refine Kp.al ?_ _ | with_reducible refine Kp.trans ?_ (by with_reducible assumption))⟩
  · have E : Hid (kerr st ln key = cchk st ln) := by unfold kerr; rw [if_neg hc]; exact rfl
    rcases cchk_no hc with C | C
    all_goals
      have C' := Lib.hid C
      clear C
      go_enter Try.func29, Try.ntmps29
      go_wp2_with fail
      refine (ccheck_any _ _ _).mono ?_
      rw [C'.out]
      rintro e w1 ⟨rfl, hb1⟩
      have Q1 : Kp w w1 := by repeat (first | exact Kp.refl _ | with_reducible assumption | with_reducible refine Kp.set ?_ _ _ ?_ | (dsimp only; omega) | with_reducible refine Kp.drew ?_ | with_reducible refine Kp.drewN ?_ _ | with_reducible refine Kp.al ?_ _ | with_reducible refine Kp.trans ?_ (by with_reducible assumption))
      have K1 := Q1
      clear hb1 Q1
      go_wp2
      go_ret
      exact ⟨ret_int (by rw [E.out, C'.out]), by repeat (first | exact Kp.refl _ | with_reducible assumption | with_reducible refine Kp.set ?_ _ _ ?_ | (dsimp only; omega) | with_reducible refine Kp.drew ?_ | with_reducible refine Kp.drewN ?_ _ | with_reducible refine Kp.al ?_ _ | with_reducible refine Kp.trans ?_ (by with_reducible assumption))⟩
theorem rkeyed_any (st ln key : Int) (w : World) :
    Calls Try.prog 34 #[.agg #[.int .i64 st, .int .i64 ln], .int .i64 key] w fun e w' => e = .returned (.int .i64 (kerr st ln key)) ∧ Kp w w' := by
  by_cases hc : Vc st ln
  · by_cases hk : 0 ≤ key ∧ key ≤ 2
    · obtain ⟨k1, k2⟩ := hk
      have C := Lib.hid (cchk_ok hc); have E := Lib.hid (kerr_ok hc k1 k2)
      go_enter Try.func34, Try.ntmps34
      go_wp2_with fail
      refine (crcheck_any _ _ _).mono ?_
      rw [C.out]
      rintro e w1 ⟨rfl, hb1⟩
      have Q1 : Kp w w1 := by repeat (first | exact Kp.refl _ | with_reducible assumption | with_reducible refine Kp.set ?_ _ _ ?_ | (dsimp only; omega) | with_reducible refine Kp.drew ?_ | with_reducible refine Kp.drewN ?_ _ | with_reducible refine Kp.al ?_ _ | with_reducible refine Kp.trans ?_ (by with_reducible assumption))
      have K1 := Q1
      clear hb1 Q1
      go_wp2
      go_ret
      exact ⟨ret_int E.out.symm, by repeat (first | exact Kp.refl _ | with_reducible assumption | with_reducible refine Kp.set ?_ _ _ ?_ | (dsimp only; omega) | with_reducible refine Kp.drew ?_ | with_reducible refine Kp.drewN ?_ _ | with_reducible refine Kp.al ?_ _ | with_reducible refine Kp.trans ?_ (by with_reducible assumption))⟩
    · have C := Lib.hid (cchk_ok hc)
      have E : Hid (kerr st ln key = 2) := by unfold kerr; rw [if_pos hc, if_neg hk]; exact rfl
      have hk' : key < 0 ∨ 2 < key := by omega
      clear hk
      rcases hk' with hk | hk
      all_goals
        go_enter Try.func34, Try.ntmps34
        go_wp2_with fail
        refine (crcheck_any _ _ _).mono ?_
        rw [C.out]
        rintro e w1 ⟨rfl, hb1⟩
        have Q1 : Kp w w1 := by repeat (first | exact Kp.refl _ | with_reducible assumption | with_reducible refine Kp.set ?_ _ _ ?_ | (dsimp only; omega) | with_reducible refine Kp.drew ?_ | with_reducible refine Kp.drewN ?_ _ | with_reducible refine Kp.al ?_ _ | with_reducible refine Kp.trans ?_ (by with_reducible assumption))
        have K1 := Q1
        clear hb1 Q1
        go_wp2
        go_ret
        exact ⟨ret_int E.out.symm, by repeat (first | exact Kp.refl _ | with_reducible assumption | with_reducible refine Kp.set ?_ _ _ ?_ | (dsimp only; omega) | with_reducible refine Kp.drew ?_ | with_reducible refine Kp.drewN ?_ _ | with_reducible refine Kp.al ?_ _ | with_reducible refine Kp.trans ?_ (by with_reducible assumption))⟩
  · have E : Hid (kerr st ln key = cchk st ln) := by unfold kerr; rw [if_neg hc]; exact rfl
    rcases cchk_no hc with C | C
    all_goals
      have C' := Lib.hid C
      clear C
      go_enter Try.func34, Try.ntmps34
      go_wp2_with fail
      refine (crcheck_any _ _ _).mono ?_
      rw [C'.out]
      rintro e w1 ⟨rfl, hb1⟩
      have Q1 : Kp w w1 := by repeat (first | exact Kp.refl _ | with_reducible assumption | with_reducible refine Kp.set ?_ _ _ ?_ | (dsimp only; omega) | with_reducible refine Kp.drew ?_ | with_reducible refine Kp.drewN ?_ _ | with_reducible refine Kp.al ?_ _ | with_reducible refine Kp.trans ?_ (by with_reducible assumption))
      have K1 := Q1
      clear hb1 Q1
      go_wp2
      go_ret
      exact ⟨ret_int (by rw [E.out, C'.out]), by repeat (first | exact Kp.refl _ | with_reducible assumption | with_reducible refine Kp.set ?_ _ _ ?_ | (dsimp only; omega) | with_reducible refine Kp.drew ?_ | with_reducible refine Kp.drewN ?_ _ | with_reducible refine Kp.al ?_ _ | with_reducible refine Kp.trans ?_ (by with_reducible assumption))⟩
/-- The alteration of a step under a key. -/
def pl (key s : Int) : Int := if s = 6 ∧ 1 ≤ key ∨ s = 2 ∧ 2 ≤ key then -1 else 0
theorem plain_ok (key s : Int) (w : World) (k1 : 0 ≤ key) (k2 : key ≤ 2) (h1 : 0 ≤ s) (h2 : s ≤ 6) :
    Calls Try.prog 33 #[.int .i64 key, .int .i64 s] w fun e w' => e = .returned (.int .i64 (pl key s)) ∧ w = w' := by
  have hs : s = 0 ∨ s = 1 ∨ s = 2 ∨ s = 3 ∨ s = 4 ∨ s = 5 ∨ s = 6 := by omega
  have hk : key = 0 ∨ key = 1 ∨ key = 2 := by omega
  rcases hs with rfl | rfl | rfl | rfl | rfl | rfl | rfl <;> rcases hk with rfl | rfl | rfl
  all_goals
    go_enter Try.func33, Try.ntmps33
    go_wp2
    go_ret
    exact ⟨rfl, rfl⟩
theorem rflat_ok (key s : Int) (w : World) (k1 : 0 ≤ key) (k2 : key ≤ 2) (h1 : 0 ≤ s) (h2 : s ≤ 6) :
    Calls Try.prog 38 #[.int .i64 key, .int .i64 s] w fun e w' => e = .returned (.int .i64 (pl key s)) ∧ w = w' := by
  have hs : s = 0 ∨ s = 1 ∨ s = 2 ∨ s = 3 ∨ s = 4 ∨ s = 5 ∨ s = 6 := by omega
  have hk : key = 0 ∨ key = 1 ∨ key = 2 := by omega
  rcases hs with rfl | rfl | rfl | rfl | rfl | rfl | rfl <;> rcases hk with rfl | rfl | rfl
  all_goals
    go_enter Try.func38, Try.ntmps38
    go_wp2
    go_ret
    exact ⟨rfl, rfl⟩
end Go.Proofs.Ytgajdmefflndmaa
