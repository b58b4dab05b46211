/- Contracts of pitch.Check, pitch.Number, tactuskit.Mod in a seat without the other functions of package pitch. -/
import Derived.Test.YtaobndijldidfaaDoorKt
import Derived.IntWalk
import Derived.LoopTactic
namespace Go.Proofs.YtaobndijldidfaaDoor
open Go.RowKit

theorem Kp.lt {w w1 : World} {o : Obj} (h : Kp (w.alloc o) w1) : w.heap.size < w1.heap.size := by have := h.low; simp at this; omega
theorem cell_setb {w : World} {b o : Nat} {v : Value} {p : Addr} {x : Value} (hp : p.block ≠ b) (h : w.cell? ⟨b, o, none⟩ = some v) : (w.setCell p x).cell? ⟨b, o, none⟩ = some v := cell_set (fun e => hp (by rw [e])) h
/-- A pitch is valid. -/
def Vp (s o a : Int) : Prop := 0 ≤ s ∧ s ≤ 6 ∧ 0 ≤ o ∧ o ≤ 8 ∧ -1 ≤ a ∧ a ≤ 1
/-- The result of Check: 0, or 2 (ErrRange). -/
def chk (s o a : Int) : Int := if 0 ≤ s ∧ s ≤ 6 ∧ 0 ≤ o ∧ o ≤ 8 ∧ -1 ≤ a ∧ a ≤ 1 then 0 else 2
theorem check_any (s o a : Int) (w : World) :
    Calls Tryd.prog 45 #[.agg #[.int .i64 s, .int .i64 o, .int .i64 a]] w fun e w' => e = .returned (.int .i64 (chk s o a)) ∧ Kp w w' := by
  go_enter Tryd.func45, Tryd.ntmps45
  go_wp2
  all_goals go_ret
  all_goals
    refine ⟨ret_int ?_, (Kp.refl _).al _⟩
    unfold chk
    first | rw [if_neg (by omega)] | rw [if_pos (by omega)]
theorem check_ok (s o a : Int) (w : World) (h1 : 0 ≤ s) (h2 : s ≤ 6) (h3 : 0 ≤ o) (h4 : o ≤ 8) (h5 : -1 ≤ a) (h6 : a ≤ 1) :
    Calls Tryd.prog 45 #[.agg #[.int .i64 s, .int .i64 o, .int .i64 a]] w fun e w' => e = .returned (.int .i64 0) ∧ Kp w w' := by
  have := check_any s o a w
  unfold chk at this
  rwa [if_pos (by omega)] at this
theorem check_no (s o a : Int) (w : World) (h : ¬ (0 ≤ s ∧ s ≤ 6 ∧ 0 ≤ o ∧ o ≤ 8 ∧ -1 ≤ a ∧ a ≤ 1)) :
    Calls Tryd.prog 45 #[.agg #[.int .i64 s, .int .i64 o, .int .i64 a]] w fun e w' => e = .returned (.int .i64 2) ∧ Kp w w' := by
  have := check_any s o a w
  unfold chk at this
  rwa [if_neg h] at this
theorem of_any (s o a : Int) (w : World) (h1 : 0 ≤ s) (h2 : s ≤ 6) (h3 : 0 ≤ o) (h4 : o ≤ 8) :
    Calls Tryd.prog 57 #[.agg #[.int .i64 s, .int .i64 o, .int .i64 a]] w fun e w' => e = .returned (.agg #[.int .i64 (7 * o + s), .int .i64 a]) ∧ Kp w w' := by
  go_enter Tryd.func57, Tryd.ntmps57
  go_wp2
  exact bodyPost_ret (v := .agg #[.int .i64 (7 * o + s), .int .i64 a]) (by simp [results, Tryd.results57, go_sem]) rfl ⟨rfl, ((Kp.refl _).al _).al _⟩
@[go_sem] theorem fld_tone0 (x y : Value) (w : World) : Sem.run Tryd.prog (Instr.field 86 (.agg #[x, y]) 0) w = .ok x w := by kernel_rfl
@[go_sem] theorem fld_tone1 (x y : Value) (w : World) : Sem.run Tryd.prog (Instr.field 86 (.agg #[x, y]) 1) w = .ok y w := by kernel_rfl
theorem number_ok (s o a : Int) (w : World) (h1 : 0 ≤ s) (h2 : s ≤ 6) (h3 : 0 ≤ o) (h4 : o ≤ 8) (h5 : -1 ≤ a) (h6 : a ≤ 1) :
    Calls Tryd.prog 43 #[.agg #[.int .i64 s, .int .i64 o, .int .i64 a]] w fun e w' => e = .returned (.tuple #[.int .i64 (7 * o + s), .int .i64 0]) ∧ Kp w w' := by
  go_enter Tryd.func43, Tryd.ntmps43
  go_wp2_with fail
  refine (check_ok _ _ _ _ h1 h2 h3 h4 h5 h6).mono ?_
  rintro e w1 ⟨rfl, hb1⟩
  obtain ⟨hc1, hf1⟩ := hb1.cells
  go_wp2_with fail
  refine (of_any _ _ _ _ h1 h2 h3 h4).mono ?_
  rintro e w2 ⟨rfl, hb2⟩
  go_wp2_with fail
  go_ret2
  exact ⟨rfl, ((Kp.refl _).al _).trans (hb1.trans hb2)⟩
theorem number_no (s o a : Int) (w : World) (h : ¬ (0 ≤ s ∧ s ≤ 6 ∧ 0 ≤ o ∧ o ≤ 8 ∧ -1 ≤ a ∧ a ≤ 1)) :
    Calls Tryd.prog 43 #[.agg #[.int .i64 s, .int .i64 o, .int .i64 a]] w fun e w' => e = .returned (.tuple #[.int .i64 0, .int .i64 2]) ∧ Kp w w' := by
  have H := Lib.hid h; clear h
  go_enter Tryd.func43, Tryd.ntmps43
  go_wp2_with fail
  refine (check_no _ _ _ _ H.out).mono ?_
  rintro e w1 ⟨rfl, hb1⟩
  obtain ⟨hc1, hf1⟩ := hb1.cells
  go_wp2_with fail
  go_ret2
  exact ⟨rfl, ((Kp.refl _).al _).trans hb1⟩
theorem mod_pos (n m : Int) (w : World) (h : 0 ≤ n) (h1 : 1 ≤ m) (h2 : m ≤ 1000) :
    Calls Tryd.prog 36 #[.int .i64 n, .int .i64 m] w fun e w' => e = .returned (.int .i64 (n % m)) ∧ w = w' := by
  have b1 : 0 ≤ n % m := Int.emod_nonneg _ (by omega)
  have b2 : n % m < m := Int.emod_lt_of_pos _ (by omega)
  go_enter Tryd.func36, Tryd.ntmps36
  go_wp2
  go_ret
  exact ⟨rfl, rfl⟩
theorem tmod_neg (n m : Int) (h : n < 0) (h1 : 1 ≤ m) : (n.tmod m = 0 ∧ n % m = 0) ∨ (n.tmod m < 0 ∧ -m < n.tmod m ∧ n % m = n.tmod m + m) := by
  have e : n % m = n.tmod m + ((if 0 ≤ n ∨ m ∣ n then 0 else m.natAbs : Nat) : Int) := Int.emod_eq_tmod
  have b2 := Int.lt_tmod_of_pos n (show 0 < m by omega)
  have b3 : n.tmod m ≤ 0 := by
    have := Int.tmod_nonneg (a := -n) m (by omega)
    rw [Int.neg_tmod] at this; omega
  by_cases hd : m ∣ n
  · left
    have z : n.tmod m = 0 := Int.tmod_eq_zero_of_dvd hd
    rw [if_pos (.inr hd)] at e
    exact ⟨z, by omega⟩
  · right
    rw [if_neg (by omega)] at e
    have z : n.tmod m ≠ 0 := fun z => hd (Int.dvd_of_tmod_eq_zero z)
    omega
theorem mod_neg (n m : Int) (w : World) (h : n < 0) (h1 : 1 ≤ m) (h2 : m ≤ 1000) :
    Calls Tryd.prog 36 #[.int .i64 n, .int .i64 m] w fun e w' => e = .returned (.int .i64 (n % m)) ∧ w = w' := by
  rcases tmod_neg n m h h1 with ⟨a, b⟩ | ⟨a, b, c⟩
  · have A := Lib.hid a
    have B := Lib.hid b
    have a1 : 0 ≤ n.tmod m := by omega
    have a2 : n.tmod m ≤ 0 := by omega
    clear a b
    go_enter Tryd.func36, Tryd.ntmps36
    go_wp2
    go_ret
    exact ⟨ret_int (by rw [A.out, B.out]), rfl⟩
  · have C := Lib.hid c
    clear c
    go_enter Tryd.func36, Tryd.ntmps36
    go_wp2
    go_ret
    exact ⟨ret_int C.out.symm, rfl⟩
/-- Mod at any number. -/
theorem mod_any (n m : Int) (w : World) (h1 : 1 ≤ m) (h2 : m ≤ 1000) :
    Calls Tryd.prog 36 #[.int .i64 n, .int .i64 m] w fun e w' => e = .returned (.int .i64 (n % m)) ∧ w = w' := by
  by_cases h : 0 ≤ n
  · exact mod_pos n m w h h1 h2
  · exact mod_neg n m w (by omega) h1 h2
theorem rcheck_any (s o a : Int) (w : World) :
    Calls Tryd.prog 40 #[.agg #[.int .i64 s, .int .i64 o, .int .i64 a]] w fun e w' => e = .returned (.int .i64 (chk s o a)) ∧ Kp w w' := by
  go_enter Tryd.func40, Tryd.ntmps40
  go_wp2
  all_goals go_ret
  all_goals
    refine ⟨ret_int ?_, (Kp.refl _).al _⟩
    unfold chk
    first | rw [if_neg (by omega)] | rw [if_pos (by omega)]
theorem rcheck_ok (s o a : Int) (w : World) (h1 : 0 ≤ s) (h2 : s ≤ 6) (h3 : 0 ≤ o) (h4 : o ≤ 8) (h5 : -1 ≤ a) (h6 : a ≤ 1) :
    Calls Tryd.prog 40 #[.agg #[.int .i64 s, .int .i64 o, .int .i64 a]] w fun e w' => e = .returned (.int .i64 0) ∧ Kp w w' := by
  have := rcheck_any s o a w
  unfold chk at this
  rwa [if_pos (by omega)] at this
theorem rcheck_no (s o a : Int) (w : World) (h : ¬ Vp s o a) :
    Calls Tryd.prog 40 #[.agg #[.int .i64 s, .int .i64 o, .int .i64 a]] w fun e w' => e = .returned (.int .i64 2) ∧ Kp w w' := by
  have := rcheck_any s o a w
  unfold chk at this
  unfold Vp at h
  rwa [if_neg h] at this
end Go.Proofs.YtaobndijldidfaaDoor
