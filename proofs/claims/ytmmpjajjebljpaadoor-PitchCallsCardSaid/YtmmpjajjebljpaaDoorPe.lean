/- Contracts of tone.read. -/
import Derived.Test.YtmmpjajjebljpaaDoorPd
import Derived.Test.YtmmpjajjebljpaaDoorShelf
namespace Go.Proofs.YtmmpjajjebljpaaDoor
open Go.RowKit

/-- The place of a byte among the letters, and among the signs of alteration. -/
def ix7 (c : UInt8) : Int := Lib.indexByte [99, 100, 101, 102, 103, 97, 98] c
def ix3 (c : UInt8) : Int := Lib.indexByte [98, 32, 35] c
theorem ixb_lt (l : List UInt8) (c : UInt8) : Lib.indexByte l c < l.length := by
  induction l with
  | nil => simp [Lib.indexByte]
  | cons b l ih =>
    have e : ((b :: l).length : Int) = l.length + 1 := by simp
    rw [e]
    unfold Lib.indexByte
    by_cases h1 : (b == c) = true
    · rw [if_pos h1]; omega
    · rw [if_neg h1]
      by_cases h2 : (Lib.indexByte l c == -1) = true
      · rw [if_pos h2]; omega
      · rw [if_neg h2]; omega
theorem ix7_bd (c : UInt8) : -1 ≤ ix7 c ∧ ix7 c ≤ 6 := by
  have h1 := Lib.indexByte_ge [99, 100, 101, 102, 103, 97, 98] c
  have h2 := ixb_lt [99, 100, 101, 102, 103, 97, 98] c
  exact ⟨h1, Int.lt_add_one_iff.1 h2⟩
theorem ix3_bd (c : UInt8) : -1 ≤ ix3 c ∧ ix3 c ≤ 2 := by
  have h1 := Lib.indexByte_ge [98, 32, 35] c
  have h2 := ixb_lt [98, 32, 35] c
  exact ⟨h1, Int.lt_add_one_iff.1 h2⟩
@[go_sem] theorem at20 (x y : UInt8) (h : 0 < (ByteArray.mk #[x, y]).size) : (ByteArray.mk #[x, y])[0]'h = x := rfl
@[go_sem] theorem at21 (x y : UInt8) (h : 1 < (ByteArray.mk #[x, y]).size) : (ByteArray.mk #[x, y])[1]'h = y := rfl
@[go_sem] theorem at30 (x y z : UInt8) (h : 0 < (ByteArray.mk #[x, y, z]).size) : (ByteArray.mk #[x, y, z])[0]'h = x := rfl
@[go_sem] theorem at31 (x y z : UInt8) (h : 1 < (ByteArray.mk #[x, y, z]).size) : (ByteArray.mk #[x, y, z])[1]'h = y := rfl
@[go_sem] theorem at32 (x y z : UInt8) (h : 2 < (ByteArray.mk #[x, y, z]).size) : (ByteArray.mk #[x, y, z])[2]'h = z := rfl
theorem ib7 (c : UInt8) (w : World) : Calls Tryd.prog 38 #[.string ⟨#[99, 100, 101, 102, 103, 97, 98]⟩, .int .u8 (c.toNat : Int)] w fun e w' => e = .returned (.int .i64 (ix7 c)) ∧ w' = w := by
  have h := Tryd.strings_IndexByte ⟨#[99, 100, 101, 102, 103, 97, 98]⟩ (c.toNat : Int) w
  have e : ((c.toNat : Int).toNat).toUInt8 = c := by simp
  rw [e] at h
  exact h
theorem ib3 (c : UInt8) (w : World) : Calls Tryd.prog 38 #[.string ⟨#[98, 32, 35]⟩, .int .u8 (c.toNat : Int)] w fun e w' => e = .returned (.int .i64 (ix3 c)) ∧ w' = w := by
  have h := Tryd.strings_IndexByte ⟨#[98, 32, 35]⟩ (c.toNat : Int) w
  have e : ((c.toNat : Int).toNat).toUInt8 = c := by simp
  rw [e] at h
  exact h

theorem read_len (s : ByteArray) (w : World) (hs : s.size ≤ maxLen) (h : s.size < 2 ∨ 3 < s.size) :
    Calls Tryd.prog 35 #[.agg #[.int .i64 0, .int .i64 0], .string s] w fun e w' => e = .returned (.tuple #[.agg #[.int .i64 0, .int .i64 0], .bool false]) ∧ Kp w w' := by
  unfold maxLen at hs
  rcases h with h | h
  all_goals
    go_enter Tryd.func35, Tryd.ntmps35
    go_wp2_with fail
    exact bodyPost_ret (v := .tuple #[.agg #[.int .i64 0, .int .i64 0], .bool false]) (by simp [results, Tryd.results35, go_sem]) rfl ⟨rfl, by repeat (first | exact Kp.refl _ | with_reducible refine Kp.set ?_ _ _ ?_ | (dsimp only; omega) | with_reducible refine Kp.drew ?_ | with_reducible refine Kp.al ?_ _)⟩

theorem read2_ok (x y : UInt8) (w : World) (h1 : 0 ≤ ix7 x) (h2 : ix7 x ≤ 6) (h3 : 48 ≤ (y.toNat : Int)) (h4 : (y.toNat : Int) ≤ 56) :
    Calls Tryd.prog 35 #[.agg #[.int .i64 0, .int .i64 0], .string ⟨#[x, y]⟩] w fun e w' => e = .returned (.tuple #[.agg #[.int .i64 (7 * ((y.toNat : Int) - 48) + ix7 x), .int .i64 0], .bool true]) ∧ Kp w w' := by
  have e1 : IntKind.i64.wrap (y.toNat : Int) = (y.toNat : Int) := IntWalk.i64_in _ (by have := y.toNat_lt; omega)
  have e2 : IntKind.i64.wrap ((y.toNat : Int) - 48) = (y.toNat : Int) - 48 := IntWalk.i64_in _ (by have := y.toNat_lt; omega)
  go_enter Tryd.func35, Tryd.ntmps35
  go_wp2_with fail
  go_quiet ((go_at_call 38; exact Calls.quiet_of_same (ib7 _ _)))
  clear e1 e2
  go_wp2_with (go_at_call 38; refine (ib3 _ _).mono ?_; rintro e w' ⟨rfl, rfl⟩)
  exact bodyPost_ret (v := .tuple #[.agg #[.int .i64 (7 * ((y.toNat : Int) - 48) + ix7 x), .int .i64 0], .bool true]) (by simp [results, Tryd.results35, go_sem]) rfl ⟨rfl, by repeat (first | exact Kp.refl _ | with_reducible refine Kp.set ?_ _ _ ?_ | (dsimp only; omega) | with_reducible refine Kp.drew ?_ | with_reducible refine Kp.drewN ?_ _ | with_reducible refine Kp.al ?_ _)⟩
theorem read3_ok (x y z : UInt8) (w : World) (h1 : 0 ≤ ix7 x) (h2 : ix7 x ≤ 6) (h3 : 48 ≤ (z.toNat : Int)) (h4 : (z.toNat : Int) ≤ 56) (h5 : 0 ≤ ix3 y) (h6 : ix3 y ≤ 2) (h7 : ix3 y ≠ 1) :
    Calls Tryd.prog 35 #[.agg #[.int .i64 0, .int .i64 0], .string ⟨#[x, y, z]⟩] w fun e w' => e = .returned (.tuple #[.agg #[.int .i64 (7 * ((z.toNat : Int) - 48) + ix7 x), .int .i64 (ix3 y - 1)], .bool true]) ∧ Kp w w' := by
  have h8 : (ix3 y == 1) = false := by simpa using h7
  clear h7
  have e1 : IntKind.i64.wrap (z.toNat : Int) = (z.toNat : Int) := IntWalk.i64_in _ (by have := z.toNat_lt; omega)
  have e2 : IntKind.i64.wrap ((z.toNat : Int) - 48) = (z.toNat : Int) - 48 := IntWalk.i64_in _ (by have := z.toNat_lt; omega)
  go_enter Tryd.func35, Tryd.ntmps35
  go_wp2_with fail
  go_quiet ((go_at_call 38; exact Calls.quiet_of_same (ib7 _ _)))
  clear e1 e2
  go_wp2_with (go_at_call 38; refine (ib3 _ _).mono ?_; rintro e w' ⟨rfl, rfl⟩)
  exact bodyPost_ret (v := .tuple #[.agg #[.int .i64 (7 * ((z.toNat : Int) - 48) + ix7 x), .int .i64 (ix3 y - 1)], .bool true]) (by simp [results, Tryd.results35, go_sem]) rfl ⟨rfl, by repeat (first | exact Kp.refl _ | with_reducible refine Kp.set ?_ _ _ ?_ | (dsimp only; omega) | with_reducible refine Kp.drew ?_ | with_reducible refine Kp.drewN ?_ _ | with_reducible refine Kp.al ?_ _)⟩
theorem read3_no (x y z : UInt8) (w : World) (h1 : 0 ≤ ix7 x) (h2 : ix7 x ≤ 6) (h3 : 48 ≤ (z.toNat : Int)) (h4 : (z.toNat : Int) ≤ 56) (h5 : ix3 y < 0 ∨ ix3 y = 1) :
    Calls Tryd.prog 35 #[.agg #[.int .i64 0, .int .i64 0], .string ⟨#[x, y, z]⟩] w fun e w' => e = .returned (.tuple #[.agg #[.int .i64 0, .int .i64 0], .bool false]) ∧ Kp w w' := by
  rcases h5 with h5 | h5
  ·
    have e1 : IntKind.i64.wrap (z.toNat : Int) = (z.toNat : Int) := IntWalk.i64_in _ (by have := z.toNat_lt; omega)
    have e2 : IntKind.i64.wrap ((z.toNat : Int) - 48) = (z.toNat : Int) - 48 := IntWalk.i64_in _ (by have := z.toNat_lt; omega)
    go_enter Tryd.func35, Tryd.ntmps35
    go_wp2_with fail
    go_quiet ((go_at_call 38; exact Calls.quiet_of_same (ib7 _ _)))
    clear e1 e2
    go_wp2_with (go_at_call 38; refine (ib3 _ _).mono ?_; rintro e w' ⟨rfl, rfl⟩)
    exact bodyPost_ret (v := .tuple #[.agg #[.int .i64 0, .int .i64 0], .bool false]) (by simp [results, Tryd.results35, go_sem]) rfl ⟨rfl, by repeat (first | exact Kp.refl _ | with_reducible refine Kp.set ?_ _ _ ?_ | (dsimp only; omega) | with_reducible refine Kp.drew ?_ | with_reducible refine Kp.drewN ?_ _ | with_reducible refine Kp.al ?_ _)⟩
  · have h6 : (ix3 y == 1) = true := by simpa using h5
    have h7 : 0 ≤ ix3 y := by omega
    have H5 := Lib.hid h5; clear h5
    have e1 : IntKind.i64.wrap (z.toNat : Int) = (z.toNat : Int) := IntWalk.i64_in _ (by have := z.toNat_lt; omega)
    have e2 : IntKind.i64.wrap ((z.toNat : Int) - 48) = (z.toNat : Int) - 48 := IntWalk.i64_in _ (by have := z.toNat_lt; omega)
    go_enter Tryd.func35, Tryd.ntmps35
    go_wp2_with fail
    go_quiet ((go_at_call 38; exact Calls.quiet_of_same (ib7 _ _)))
    clear e1 e2
    go_wp2_with (go_at_call 38; refine (ib3 _ _).mono ?_; rintro e w' ⟨rfl, rfl⟩)
    exact bodyPost_ret (v := .tuple #[.agg #[.int .i64 0, .int .i64 0], .bool false]) (by simp [results, Tryd.results35, go_sem]) rfl ⟨rfl, by repeat (first | exact Kp.refl _ | with_reducible refine Kp.set ?_ _ _ ?_ | (dsimp only; omega) | with_reducible refine Kp.drew ?_ | with_reducible refine Kp.drewN ?_ _ | with_reducible refine Kp.al ?_ _)⟩
theorem read2_bad (x y : UInt8) (w : World) (h : ix7 x < 0 ∨ (0 ≤ ix7 x ∧ (y.toNat : Int) < 48) ∨ (0 ≤ ix7 x ∧ 56 < (y.toNat : Int))) :
    Calls Tryd.prog 35 #[.agg #[.int .i64 0, .int .i64 0], .string ⟨#[x, y]⟩] w fun e w' => e = .returned (.tuple #[.agg #[.int .i64 0, .int .i64 0], .bool false]) ∧ Kp w w' := by
  rcases h with h | ⟨h, h'⟩ | ⟨h, h'⟩
  all_goals
    have e1 : IntKind.i64.wrap (y.toNat : Int) = (y.toNat : Int) := IntWalk.i64_in _ (by have := y.toNat_lt; omega)
    have e2 : IntKind.i64.wrap ((y.toNat : Int) - 48) = (y.toNat : Int) - 48 := IntWalk.i64_in _ (by have := y.toNat_lt; omega)
    go_enter Tryd.func35, Tryd.ntmps35
    go_wp2_with fail
    go_quiet ((go_at_call 38; exact Calls.quiet_of_same (ib7 _ _)))
    clear e1 e2
    go_wp2_with (go_at_call 38; refine (ib3 _ _).mono ?_; rintro e w' ⟨rfl, rfl⟩)
    exact bodyPost_ret (v := .tuple #[.agg #[.int .i64 0, .int .i64 0], .bool false]) (by simp [results, Tryd.results35, go_sem]) rfl ⟨rfl, by repeat (first | exact Kp.refl _ | with_reducible refine Kp.set ?_ _ _ ?_ | (dsimp only; omega) | with_reducible refine Kp.drew ?_ | with_reducible refine Kp.drewN ?_ _ | with_reducible refine Kp.al ?_ _)⟩
theorem read3_bad (x y z : UInt8) (w : World) (h : ix7 x < 0 ∨ (0 ≤ ix7 x ∧ (z.toNat : Int) < 48) ∨ (0 ≤ ix7 x ∧ 56 < (z.toNat : Int))) :
    Calls Tryd.prog 35 #[.agg #[.int .i64 0, .int .i64 0], .string ⟨#[x, y, z]⟩] w fun e w' => e = .returned (.tuple #[.agg #[.int .i64 0, .int .i64 0], .bool false]) ∧ Kp w w' := by
  rcases h with h | ⟨h, h'⟩ | ⟨h, h'⟩
  all_goals
    have e1 : IntKind.i64.wrap (z.toNat : Int) = (z.toNat : Int) := IntWalk.i64_in _ (by have := z.toNat_lt; omega)
    have e2 : IntKind.i64.wrap ((z.toNat : Int) - 48) = (z.toNat : Int) - 48 := IntWalk.i64_in _ (by have := z.toNat_lt; omega)
    go_enter Tryd.func35, Tryd.ntmps35
    go_wp2_with fail
    go_quiet ((go_at_call 38; exact Calls.quiet_of_same (ib7 _ _)))
    clear e1 e2
    go_wp2_with (go_at_call 38; refine (ib3 _ _).mono ?_; rintro e w' ⟨rfl, rfl⟩)
    exact bodyPost_ret (v := .tuple #[.agg #[.int .i64 0, .int .i64 0], .bool false]) (by simp [results, Tryd.results35, go_sem]) rfl ⟨rfl, by repeat (first | exact Kp.refl _ | with_reducible refine Kp.set ?_ _ _ ?_ | (dsimp only; omega) | with_reducible refine Kp.drew ?_ | with_reducible refine Kp.drewN ?_ _ | with_reducible refine Kp.al ?_ _)⟩
end Go.Proofs.YtmmpjajjebljpaaDoor
