/- Contracts of pitch.Text, pitch.Parse, tactuskit.Mod, tactuskit.Pitch. -/
import Derived.Test.YtmmpjajjebljpaaDoorPe
namespace Go.Proofs.YtmmpjajjebljpaaDoor
open Go.RowKit

theorem mod_pos (n m : Int) (w : World) (h : 0 ≤ n) (h1 : 1 ≤ m) (h2 : m ≤ 1000) :
    Calls Tryd.prog 20 #[.int .i64 n, .int .i64 m] w fun e w' => e = .returned (.int .i64 (n % m)) ∧ w = w' := by
  have b1 : 0 ≤ n % m := Int.emod_nonneg _ (by omega)
  have b2 : n % m < m := Int.emod_lt_of_pos _ (by omega)
  go_enter Tryd.func20, Tryd.ntmps20
  go_wp2
  go_ret
  exact ⟨rfl, rfl⟩
theorem tmod_neg (n m : Int) (h : n < 0) (h1 : 1 ≤ m) : (n.tmod m = 0 ∧ n % m = 0) ∨ (n.tmod m < 0 ∧ -m < n.tmod m ∧ n % m = n.tmod m + m) := by
  have e : n % m = n.tmod m + ((if 0 ≤ n ∨ m ∣ n then 0 else m.natAbs : Nat) : Int) := Int.emod_eq_tmod
  have b2 := Int.lt_tmod_of_pos n (show 0 < m by omega)
  have b3 : n.tmod m ≤ 0 := by
    have := Int.tmod_nonneg (a := -n) m (by omega)
    rw [Int.neg_tmod] at this; omega
  by_cases hd : m ∣ n
  · left
    have z : n.tmod m = 0 := Int.tmod_eq_zero_of_dvd hd
    rw [if_pos (.inr hd)] at e
    exact ⟨z, by omega⟩
  · right
    rw [if_neg (by omega)] at e
    have z : n.tmod m ≠ 0 := fun z => hd (Int.dvd_of_tmod_eq_zero z)
    omega
theorem mod_neg (n m : Int) (w : World) (h : n < 0) (h1 : 1 ≤ m) (h2 : m ≤ 1000) :
    Calls Tryd.prog 20 #[.int .i64 n, .int .i64 m] w fun e w' => e = .returned (.int .i64 (n % m)) ∧ w = w' := by
  rcases tmod_neg n m h h1 with ⟨a, b⟩ | ⟨a, b, c⟩
  · have A := Lib.hid a
    have B := Lib.hid b
    have a1 : 0 ≤ n.tmod m := by omega
    have a2 : n.tmod m ≤ 0 := by omega
    clear a b
    go_enter Tryd.func20, Tryd.ntmps20
    go_wp2
    go_ret
    exact ⟨ret_int (by rw [A.out, B.out]), rfl⟩
  · have C := Lib.hid c
    clear c
    go_enter Tryd.func20, Tryd.ntmps20
    go_wp2
    go_ret
    exact ⟨ret_int C.out.symm, rfl⟩
/-- Mod at any number. -/
theorem mod_any (n m : Int) (w : World) (h1 : 1 ≤ m) (h2 : m ≤ 1000) :
    Calls Tryd.prog 20 #[.int .i64 n, .int .i64 m] w fun e w' => e = .returned (.int .i64 (n % m)) ∧ w = w' := by
  by_cases h : 0 ≤ n
  · exact mod_pos n m w h h1 h2
  · exact mod_neg n m w (by omega) h1 h2

theorem kpitch_any (n : Int) (w : World) :
    Calls Tryd.prog 15 #[.int .i64 n] w fun e w' => e = .returned (.agg #[.int .i64 (n % 189 / 3 % 7), .int .i64 (n % 189 / 21), .int .i64 (n % 189 % 3 - 1)]) ∧ Kp w w' := by
  go_enter Tryd.func15, Tryd.ntmps15
  go_wp2_with fail
  refine (mod_any _ _ _ (by omega) (by omega)).mono ?_
  rintro e w1 ⟨rfl, rfl⟩
  have b1 : 0 ≤ n % 189 := by omega
  have b2 : n % 189 ≤ 188 := by omega
  go_wp2_with fail
  exact bodyPost_ret (v := .agg #[.int .i64 (n % 189 / 3 % 7), .int .i64 (n % 189 / 21), .int .i64 (n % 189 % 3 - 1)]) (by simp [results, Tryd.results15, go_sem]) rfl ⟨rfl, by repeat (first | exact Kp.refl _ | with_reducible assumption | with_reducible refine Kp.set ?_ _ _ ?_ | (dsimp only; omega) | with_reducible refine Kp.drew ?_ | with_reducible refine Kp.drewN ?_ _ | with_reducible refine Kp.al ?_ _ | with_reducible refine Kp.trans ?_ (by with_reducible assumption))⟩

/-- The text of a valid pitch. -/
def ptx (s o a : Int) : ByteArray := strOfNums (if a = 0 then [ltr s.toNat, 48 + o] else [ltr s.toNat, if a = 1 then 35 else 98, 48 + o])

theorem ttext_any (n a : Int) (w : World) (h1 : 0 ≤ n) (h2 : n ≤ 62) (h3 : -1 ≤ a) (h4 : a ≤ 1) :
    Calls Tryd.prog 34 #[.agg #[.int .i64 n, .int .i64 a]] w fun e w' => e = .returned (.string (ptx (n % 7) (n / 7) a)) ∧ Kp w w' := by
  obtain ⟨m, rfl⟩ := Int.eq_ofNat_of_zero_le h1
  have e7 : ((m : Int) % 7).toNat = m % 7 := by omega
  unfold ptx
  rw [e7]
  by_cases h0 : a = 0
  · subst h0
    exact text0 m w (by omega)
  · rw [if_neg h0]
    exact text2 m a w (by omega) (by omega)
theorem ptext_ok (s o a : Int) (w : World) (h1 : 0 ≤ s) (h2 : s ≤ 6) (h3 : 0 ≤ o) (h4 : o ≤ 8) (h5 : -1 ≤ a) (h6 : a ≤ 1) :
    Calls Tryd.prog 11 #[.agg #[.int .i64 s, .int .i64 o, .int .i64 a]] w fun e w' => e = .returned (.tuple #[.string (ptx s o a), .int .i64 0]) ∧ Kp w w' := by
  go_enter Tryd.func11, Tryd.ntmps11
  go_wp2_with fail
  refine (check_ok _ _ _ _ h1 h2 h3 h4 h5 h6).mono ?_
  rintro e w1 ⟨rfl, hb1⟩
  obtain ⟨hc1, hf1⟩ := hb1.cells
  go_wp2_with fail
  refine (of_any _ _ _ _ h1 h2 h3 h4).mono ?_
  rintro e w2 ⟨rfl, hb2⟩
  go_wp2_with fail
  refine (ttext_any _ _ _ (by omega) (by omega) h5 h6).mono ?_
  have e1 : (7 * o + s) / 7 = o := by omega
  have e2 : (7 * o + s) % 7 = s := by omega
  rw [e1, e2]
  clear e1 e2
  rintro e w3 ⟨rfl, hb3⟩
  go_wp2_with fail
  go_ret2
  exact ⟨rfl, by repeat (first | exact Kp.refl _ | with_reducible assumption | with_reducible refine Kp.set ?_ _ _ ?_ | (dsimp only; omega) | with_reducible refine Kp.drew ?_ | with_reducible refine Kp.drewN ?_ _ | with_reducible refine Kp.al ?_ _ | with_reducible refine Kp.trans ?_ (by with_reducible assumption))⟩
theorem ptext_no (s o a : Int) (w : World) (h : ¬ (0 ≤ s ∧ s ≤ 6 ∧ 0 ≤ o ∧ o ≤ 8 ∧ -1 ≤ a ∧ a ≤ 1)) :
    Calls Tryd.prog 11 #[.agg #[.int .i64 s, .int .i64 o, .int .i64 a]] w fun e w' => e = .returned (.tuple #[.string ⟨#[]⟩, .int .i64 2]) ∧ Kp w w' := by
  have H := Lib.hid h; clear h
  go_enter Tryd.func11, Tryd.ntmps11
  go_wp2_with fail
  refine (check_no _ _ _ _ H.out).mono ?_
  rintro e w1 ⟨rfl, hb1⟩
  go_wp2_with fail
  go_ret2
  exact ⟨rfl, by repeat (first | exact Kp.refl _ | with_reducible assumption | with_reducible refine Kp.set ?_ _ _ ?_ | (dsimp only; omega) | with_reducible refine Kp.drew ?_ | with_reducible refine Kp.drewN ?_ _ | with_reducible refine Kp.al ?_ _ | with_reducible refine Kp.trans ?_ (by with_reducible assumption))⟩
end Go.Proofs.YtmmpjajjebljpaaDoor
