/- Contracts of the small functions of package pitch: Check, of, tone.pitch, tone.height. -/
import Derived.Test.YtmmpjajjebljpaaDoorKt
namespace Go.Proofs.YtmmpjajjebljpaaDoor
open Go.RowKit

/-- The result of Check: 0, or 2 (ErrRange). -/
def chk (s o a : Int) : Int := if 0 ≤ s ∧ s ≤ 6 ∧ 0 ≤ o ∧ o ≤ 8 ∧ -1 ≤ a ∧ a ≤ 1 then 0 else 2

theorem check_any (s o a : Int) (w : World) :
    Calls Tryd.prog 27 #[.agg #[.int .i64 s, .int .i64 o, .int .i64 a]] w fun e w' => e = .returned (.int .i64 (chk s o a)) ∧ Kp w w' := by
  go_enter Tryd.func27, Tryd.ntmps27
  go_wp2
  all_goals go_ret
  all_goals
    refine ⟨ret_int ?_, (Kp.refl _).al _⟩
    unfold chk
    first | rw [if_neg (by omega)] | rw [if_pos (by omega)]

theorem check_ok (s o a : Int) (w : World) (h1 : 0 ≤ s) (h2 : s ≤ 6) (h3 : 0 ≤ o) (h4 : o ≤ 8) (h5 : -1 ≤ a) (h6 : a ≤ 1) :
    Calls Tryd.prog 27 #[.agg #[.int .i64 s, .int .i64 o, .int .i64 a]] w fun e w' => e = .returned (.int .i64 0) ∧ Kp w w' := by
  have := check_any s o a w
  unfold chk at this
  rwa [if_pos (by omega)] at this

theorem check_no (s o a : Int) (w : World) (h : ¬ (0 ≤ s ∧ s ≤ 6 ∧ 0 ≤ o ∧ o ≤ 8 ∧ -1 ≤ a ∧ a ≤ 1)) :
    Calls Tryd.prog 27 #[.agg #[.int .i64 s, .int .i64 o, .int .i64 a]] w fun e w' => e = .returned (.int .i64 2) ∧ Kp w w' := by
  have := check_any s o a w
  unfold chk at this
  rwa [if_neg h] at this

theorem of_any (s o a : Int) (w : World) (h1 : 0 ≤ s) (h2 : s ≤ 6) (h3 : 0 ≤ o) (h4 : o ≤ 8) :
    Calls Tryd.prog 33 #[.agg #[.int .i64 s, .int .i64 o, .int .i64 a]] w fun e w' => e = .returned (.agg #[.int .i64 (7 * o + s), .int .i64 a]) ∧ Kp w w' := by
  go_enter Tryd.func33, Tryd.ntmps33
  go_wp2
  exact bodyPost_ret (v := .agg #[.int .i64 (7 * o + s), .int .i64 a]) (by simp [results, Tryd.results33, go_sem]) rfl ⟨rfl, ((Kp.refl _).al _).al _⟩

theorem tpitch_ok (n a : Int) (w : World) (h1 : 0 ≤ n) (h2 : n ≤ 62) (h3 : -1 ≤ a) (h4 : a ≤ 1) :
    Calls Tryd.prog 36 #[.agg #[.int .i64 n, .int .i64 a]] w fun e w' => e = .returned (.tuple #[.agg #[.int .i64 (n % 7), .int .i64 (n / 7), .int .i64 a], .int .i64 0]) ∧ Kp w w' := by
  go_enter Tryd.func36, Tryd.ntmps36
  go_wp2
  exact bodyPost_ret (v := .tuple #[.agg #[.int .i64 (n % 7), .int .i64 (n / 7), .int .i64 a], .int .i64 0]) (by simp [results, Tryd.results36, go_sem]) rfl ⟨rfl, ((Kp.refl _).al _).al _⟩

theorem tpitch_no (n a : Int) (w : World) (h : ¬ (0 ≤ n ∧ n ≤ 62 ∧ -1 ≤ a ∧ a ≤ 1)) :
    Calls Tryd.prog 36 #[.agg #[.int .i64 n, .int .i64 a]] w fun e w' => e = .returned (.tuple #[.agg #[.int .i64 0, .int .i64 0, .int .i64 0], .int .i64 2]) ∧ Kp w w' := by
  have H := Lib.hid h; clear h
  go_enter Tryd.func36, Tryd.ntmps36
  go_wp2
  all_goals first | (exfalso; have := H.out; omega) | exact bodyPost_ret (v := .tuple #[.agg #[.int .i64 0, .int .i64 0, .int .i64 0], .int .i64 2]) (by simp [results, Tryd.results36, go_sem]) rfl ⟨rfl, ((Kp.refl _).al _).al _⟩

/-- What the table of half-tones holds. -/
def halfOf (k : Int) : Int := if k = 0 then 0 else if k = 1 then 2 else if k = 2 then 4 else if k = 3 then 5 else if k = 4 then 7 else if k = 5 then 9 else 11

def Tab (w : World) : Prop := 0 < w.heap.size ∧ w.cell? ⟨0, 0, none⟩ = some (.int .i64 0) ∧ w.cell? ⟨0, 1, none⟩ = some (.int .i64 2) ∧ w.cell? ⟨0, 2, none⟩ = some (.int .i64 4) ∧ w.cell? ⟨0, 3, none⟩ = some (.int .i64 5) ∧ w.cell? ⟨0, 4, none⟩ = some (.int .i64 7) ∧ w.cell? ⟨0, 5, none⟩ = some (.int .i64 9) ∧ w.cell? ⟨0, 6, none⟩ = some (.int .i64 11)

theorem Tab.below {w w' : World} (h : Tab w) (hb : Kp w w') : Tab w' := by
  obtain ⟨h0, c0, c1, c2, c3, c4, c5, c6⟩ := h
  have hc : ∀ o, w'.cell? ⟨0, o, none⟩ = w.cell? ⟨0, o, none⟩ := fun o => Below.cell hb (p := ⟨0, o, none⟩) h0
  exact ⟨Nat.lt_of_lt_of_le h0 hb.low, by rw [hc, c0], by rw [hc, c1], by rw [hc, c2], by rw [hc, c3], by rw [hc, c4], by rw [hc, c5], by rw [hc, c6]⟩

theorem Tab.at {w : World} (h : Tab w) (k : Nat) (hk : k < 7) : w.cell? ⟨0, k, none⟩ = some (.int .i64 (halfOf k)) := by
  obtain ⟨h0, c0, c1, c2, c3, c4, c5, c6⟩ := h
  match k, hk with
  | 0, _ => exact c0
  | 1, _ => exact c1
  | 2, _ => exact c2
  | 3, _ => exact c3
  | 4, _ => exact c4
  | 5, _ => exact c5
  | 6, _ => exact c6

theorem theight_any (n : Nat) (a : Int) (w : World) (ht : Tab w) (h2 : n ≤ 62) (h3 : -1 ≤ a) (h4 : a ≤ 1) :
    Calls Tryd.prog 37 #[.agg #[.int .i64 (n : Int), .int .i64 a]] w fun e w' => e = .returned (.int .i64 (12 * ((n : Int) / 7) + halfOf ((n : Int) % 7) + a)) ∧ ∃ k, w' = (w.alloc (.cells #[.int .i64 (n : Int), .int .i64 a] 49)).drewN k := by
  have hc := ht.at (n % 7) (by omega)
  have hb : 0 ≤ halfOf ((n : Int) % 7) ∧ halfOf ((n : Int) % 7) ≤ 11 := by unfold halfOf; omega
  have h0 := ht.1
  have HT := Lib.hid ht; clear ht
  go_enter Tryd.func37, Tryd.ntmps37
  go_wp2
  go_quiet (fail)
  go_wp2
  go_ret
  exact ⟨rfl, _, rfl⟩
theorem theight_exact (n a : Int) (w : World) (ht : Tab w) (h1 : 0 ≤ n) (h2 : n ≤ 62) (h3 : -1 ≤ a) (h4 : a ≤ 1) :
    Calls Tryd.prog 37 #[.agg #[.int .i64 n, .int .i64 a]] w fun e w' => e = .returned (.int .i64 (12 * (n / 7) + halfOf (n % 7) + a)) ∧ ∃ k, w' = (w.alloc (.cells #[.int .i64 n, .int .i64 a] 49)).drewN k := by
  obtain ⟨m, rfl⟩ := Int.eq_ofNat_of_zero_le h1
  exact theight_any m a w ht (by omega) h3 h4
theorem theight_int (n a : Int) (w : World) (ht : Tab w) (h1 : 0 ≤ n) (h2 : n ≤ 62) (h3 : -1 ≤ a) (h4 : a ≤ 1) :
    Calls Tryd.prog 37 #[.agg #[.int .i64 n, .int .i64 a]] w fun e w' => e = .returned (.int .i64 (12 * (n / 7) + halfOf (n % 7) + a)) ∧ Kp w w' := by
  refine (theight_exact n a w ht h1 h2 h3 h4).mono ?_
  rintro e w' ⟨rfl, k, rfl⟩
  exact ⟨rfl, ((Kp.refl _).al _).drewN _⟩
end Go.Proofs.YtmmpjajjebljpaaDoor
