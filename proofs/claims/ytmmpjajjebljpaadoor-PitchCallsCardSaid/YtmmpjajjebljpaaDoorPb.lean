/- Contracts of Number, Height, Of, Move. -/
import Derived.Test.YtmmpjajjebljpaaDoorPa
namespace Go.Proofs.YtmmpjajjebljpaaDoor
open Go.RowKit

@[go_sem] theorem fld_tone0 (x y : Value) (w : World) : Sem.run Tryd.prog (Instr.field 49 (.agg #[x, y]) 0) w = .ok x w := by kernel_rfl
@[go_sem] theorem fld_tone1 (x y : Value) (w : World) : Sem.run Tryd.prog (Instr.field 49 (.agg #[x, y]) 1) w = .ok y w := by kernel_rfl

theorem number_ok (s o a : Int) (w : World) (h1 : 0 ≤ s) (h2 : s ≤ 6) (h3 : 0 ≤ o) (h4 : o ≤ 8) (h5 : -1 ≤ a) (h6 : a ≤ 1) :
    Calls Tryd.prog 17 #[.agg #[.int .i64 s, .int .i64 o, .int .i64 a]] w fun e w' => e = .returned (.tuple #[.int .i64 (7 * o + s), .int .i64 0]) ∧ Kp w w' := by
  go_enter Tryd.func17, Tryd.ntmps17
  go_wp2_with fail
  refine (check_ok _ _ _ _ h1 h2 h3 h4 h5 h6).mono ?_
  rintro e w1 ⟨rfl, hb1⟩
  obtain ⟨hc1, hf1⟩ := hb1.cells
  go_wp2_with fail
  refine (of_any _ _ _ _ h1 h2 h3 h4).mono ?_
  rintro e w2 ⟨rfl, hb2⟩
  go_wp2_with fail
  go_ret2
  exact ⟨rfl, ((Kp.refl _).al _).trans (hb1.trans hb2)⟩

theorem number_no (s o a : Int) (w : World) (h : ¬ (0 ≤ s ∧ s ≤ 6 ∧ 0 ≤ o ∧ o ≤ 8 ∧ -1 ≤ a ∧ a ≤ 1)) :
    Calls Tryd.prog 17 #[.agg #[.int .i64 s, .int .i64 o, .int .i64 a]] w fun e w' => e = .returned (.tuple #[.int .i64 0, .int .i64 2]) ∧ Kp w w' := by
  have H := Lib.hid h; clear h
  go_enter Tryd.func17, Tryd.ntmps17
  go_wp2_with fail
  refine (check_no _ _ _ _ H.out).mono ?_
  rintro e w1 ⟨rfl, hb1⟩
  obtain ⟨hc1, hf1⟩ := hb1.cells
  go_wp2_with fail
  go_ret2
  exact ⟨rfl, ((Kp.refl _).al _).trans hb1⟩

/-- The height of a pitch. -/
def ht (s o a : Int) : Int := 12 * o + halfOf s + a

theorem ht_eq (s o a : Int) (h1 : 0 ≤ s) (h2 : s ≤ 6) : 12 * ((7 * o + s) / 7) + halfOf ((7 * o + s) % 7) + a = ht s o a := by
  unfold ht
  have e1 : (7 * o + s) / 7 = o := by omega
  have e2 : (7 * o + s) % 7 = s := by omega
  rw [e1, e2]

theorem height_ok (s o a : Int) (w : World) (ht0 : Tab w) (h1 : 0 ≤ s) (h2 : s ≤ 6) (h3 : 0 ≤ o) (h4 : o ≤ 8) (h5 : -1 ≤ a) (h6 : a ≤ 1) :
    Calls Tryd.prog 22 #[.agg #[.int .i64 s, .int .i64 o, .int .i64 a]] w fun e w' => e = .returned (.tuple #[.int .i64 (ht s o a), .int .i64 0]) ∧ Kp w w' := by
  go_enter Tryd.func22, Tryd.ntmps22
  go_wp2_with fail
  refine (check_ok _ _ _ _ h1 h2 h3 h4 h5 h6).mono ?_
  rintro e w1 ⟨rfl, hb1⟩
  obtain ⟨hc1, hf1⟩ := hb1.cells
  go_wp2_with fail
  refine (of_any _ _ _ _ h1 h2 h3 h4).mono ?_
  rintro e w2 ⟨rfl, hb2⟩
  go_wp2_with fail
  have hb := ((Kp.refl _).al _).trans (hb1.trans hb2)
  refine (theight_int _ _ _ (ht0.below hb) (by omega) (by omega) h5 h6).mono ?_
  rw [ht_eq _ _ _ h1 h2]
  rintro e w3 ⟨rfl, hb3⟩
  go_wp2_with fail
  go_ret2
  exact ⟨rfl, hb.trans hb3⟩

theorem height_no (s o a : Int) (w : World) (h : ¬ (0 ≤ s ∧ s ≤ 6 ∧ 0 ≤ o ∧ o ≤ 8 ∧ -1 ≤ a ∧ a ≤ 1)) :
    Calls Tryd.prog 22 #[.agg #[.int .i64 s, .int .i64 o, .int .i64 a]] w fun e w' => e = .returned (.tuple #[.int .i64 0, .int .i64 2]) ∧ Kp w w' := by
  have H := Lib.hid h; clear h
  go_enter Tryd.func22, Tryd.ntmps22
  go_wp2_with fail
  refine (check_no _ _ _ _ H.out).mono ?_
  rintro e w1 ⟨rfl, hb1⟩
  obtain ⟨hc1, hf1⟩ := hb1.cells
  go_wp2_with fail
  go_ret2
  exact ⟨rfl, ((Kp.refl _).al _).trans hb1⟩

theorem Of_ok (n a : Int) (w : World) (h1 : 0 ≤ n) (h2 : n ≤ 62) (h3 : -1 ≤ a) (h4 : a ≤ 1) :
    Calls Tryd.prog 18 #[.int .i64 n, .int .i64 a] w fun e w' => e = .returned (.tuple #[.agg #[.int .i64 (n % 7), .int .i64 (n / 7), .int .i64 a], .int .i64 0]) ∧ Kp w w' := by
  go_enter Tryd.func18, Tryd.ntmps18
  go_wp2_with fail
  refine (tpitch_ok _ _ _ h1 h2 h3 h4).mono ?_
  rintro e w1 ⟨rfl, hb1⟩
  obtain ⟨hc1, hf1⟩ := hb1.cells
  go_wp2_with fail
  exact bodyPost_ret (v := .tuple #[.agg #[.int .i64 (n % 7), .int .i64 (n / 7), .int .i64 a], .int .i64 0]) (by simp [results, Tryd.results18, go_sem, hc1]) rfl ⟨rfl, (((((Kp.refl _).al _).trans hb1).set _ _ (Nat.le_refl _)).set _ _ (Nat.le_refl _)).set _ _ (Nat.le_refl _)⟩

theorem Of_no (n a : Int) (w : World) (h : ¬ (0 ≤ n ∧ n ≤ 62 ∧ -1 ≤ a ∧ a ≤ 1)) :
    Calls Tryd.prog 18 #[.int .i64 n, .int .i64 a] w fun e w' => e = .returned (.tuple #[.agg #[.int .i64 0, .int .i64 0, .int .i64 0], .int .i64 2]) ∧ Kp w w' := by
  have H := Lib.hid h; clear h
  go_enter Tryd.func18, Tryd.ntmps18
  go_wp2_with fail
  refine (tpitch_no _ _ _ H.out).mono ?_
  rintro e w1 ⟨rfl, hb1⟩
  obtain ⟨hc1, hf1⟩ := hb1.cells
  go_wp2_with fail
  exact bodyPost_ret (v := .tuple #[.agg #[.int .i64 0, .int .i64 0, .int .i64 0], .int .i64 2]) (by simp [results, Tryd.results18, go_sem, hc1]) rfl ⟨rfl, (((((Kp.refl _).al _).trans hb1).set _ _ (Nat.le_refl _)).set _ _ (Nat.le_refl _)).set _ _ (Nat.le_refl _)⟩

theorem move_ok (s o a n : Int) (w : World) (h1 : 0 ≤ s) (h2 : s ≤ 6) (h3 : 0 ≤ o) (h4 : o ≤ 8) (h5 : -1 ≤ a) (h6 : a ≤ 1) (h9 : 0 ≤ 7 * o + s + n) (h10 : 7 * o + s + n ≤ 62) :
    Calls Tryd.prog 21 #[.agg #[.int .i64 s, .int .i64 o, .int .i64 a], .int .i64 n] w fun e w' => e = .returned (.tuple #[.agg #[.int .i64 ((7 * o + s + n) % 7), .int .i64 ((7 * o + s + n) / 7), .int .i64 a], .int .i64 0]) ∧ Kp w w' := by
  have h7 : -62 ≤ n := by omega
  have h8 : n ≤ 62 := by omega
  go_enter Tryd.func21, Tryd.ntmps21
  go_wp2_with fail
  refine (check_ok _ _ _ _ h1 h2 h3 h4 h5 h6).mono ?_
  rintro e w1 ⟨rfl, hb1⟩
  obtain ⟨hc1, hf1⟩ := hb1.cells
  have z1 : w.heap.size + 1 < w1.heap.size := by have := hb1.low; simp at this; omega
  have z1' : w.heap.size < w1.heap.size := by omega
  go_wp2_with fail
  refine (of_any _ _ _ _ h1 h2 h3 h4).mono ?_
  rintro e w2 ⟨rfl, hb2⟩
  obtain ⟨hc2, hf2⟩ := hb2.cells
  have z2 : w.heap.size + 1 < w2.heap.size := by have := hb2.low; omega
  have z2' : w.heap.size < w2.heap.size := by omega
  go_wp2_with fail
  refine (tpitch_ok _ _ _ h9 h10 h5 h6).mono ?_
  rintro e w3 ⟨rfl, hb3⟩
  obtain ⟨hc3, hf3⟩ := hb3.cells
  have K := ((hb1.trans hb2).al _).trans hb3
  have q0 := K.get (b := w.heap.size + 1) (o := 0) (v := .int .i64 0) (by simp)
  have q1 := K.get (b := w.heap.size + 1) (o := 1) (v := .int .i64 0) (by simp)
  have q2 := K.get (b := w.heap.size + 1) (o := 2) (v := .int .i64 0) (by simp)
  go_wp2_with fail
  exact bodyPost_ret (v := .tuple #[.agg #[.int .i64 ((7 * o + s + n) % 7), .int .i64 ((7 * o + s + n) / 7), .int .i64 a], .int .i64 0]) (by simp [results, Tryd.results21, go_sem, q0, q1, q2]) rfl ⟨rfl, ((((((((Kp.refl _).al _).al _).trans hb1).trans hb2).al _).trans hb3).set _ _ (by simp) |>.set _ _ (by simp)).set _ _ (by simp)⟩

theorem move_far (s o a n : Int) (w : World) (h1 : 0 ≤ s) (h2 : s ≤ 6) (h3 : 0 ≤ o) (h4 : o ≤ 8) (h5 : -1 ≤ a) (h6 : a ≤ 1) (h : n < -62 ∨ 62 < n) :
    Calls Tryd.prog 21 #[.agg #[.int .i64 s, .int .i64 o, .int .i64 a], .int .i64 n] w fun e w' => e = .returned (.tuple #[.agg #[.int .i64 0, .int .i64 0, .int .i64 0], .int .i64 2]) ∧ Kp w w' := by
  rcases h with h | h
  all_goals
    go_enter Tryd.func21, Tryd.ntmps21
    go_wp2_with fail
    refine (check_ok _ _ _ _ h1 h2 h3 h4 h5 h6).mono ?_
    rintro e w1 ⟨rfl, hb1⟩
    obtain ⟨hc1, hf1⟩ := hb1.cells
    go_wp2_with fail
    exact bodyPost_ret (v := .tuple #[.agg #[.int .i64 0, .int .i64 0, .int .i64 0], .int .i64 2]) (by simp [results, Tryd.results21, go_sem, hc1]) rfl ⟨rfl, ((((((Kp.refl _).al _).al _).trans hb1).set _ _ (by simp)).set _ _ (by simp)).set _ _ (by simp)⟩

theorem move_out (s o a n : Int) (w : World) (h1 : 0 ≤ s) (h2 : s ≤ 6) (h3 : 0 ≤ o) (h4 : o ≤ 8) (h5 : -1 ≤ a) (h6 : a ≤ 1) (h7 : -62 ≤ n) (h8 : n ≤ 62) (h : 7 * o + s + n < 0 ∨ 62 < 7 * o + s + n) :
    Calls Tryd.prog 21 #[.agg #[.int .i64 s, .int .i64 o, .int .i64 a], .int .i64 n] w fun e w' => e = .returned (.tuple #[.agg #[.int .i64 0, .int .i64 0, .int .i64 0], .int .i64 2]) ∧ Kp w w' := by
  have H := Lib.hid h; clear h
  go_enter Tryd.func21, Tryd.ntmps21
  go_wp2_with fail
  refine (check_ok _ _ _ _ h1 h2 h3 h4 h5 h6).mono ?_
  rintro e w1 ⟨rfl, hb1⟩
  obtain ⟨hc1, hf1⟩ := hb1.cells
  have z1 : w.heap.size + 1 < w1.heap.size := by have := hb1.low; simp at this; omega
  have z1' : w.heap.size < w1.heap.size := by omega
  go_wp2_with fail
  refine (of_any _ _ _ _ h1 h2 h3 h4).mono ?_
  rintro e w2 ⟨rfl, hb2⟩
  obtain ⟨hc2, hf2⟩ := hb2.cells
  have z2 : w.heap.size + 1 < w2.heap.size := by have := hb2.low; omega
  have z2' : w.heap.size < w2.heap.size := by omega
  go_wp2_with fail
  refine (tpitch_no _ _ _ (by have := H.out; omega)).mono ?_
  rintro e w3 ⟨rfl, hb3⟩
  obtain ⟨hc3, hf3⟩ := hb3.cells
  have K := ((hb1.trans hb2).al _).trans hb3
  have q0 := K.get (b := w.heap.size + 1) (o := 0) (v := .int .i64 0) (by simp)
  have q1 := K.get (b := w.heap.size + 1) (o := 1) (v := .int .i64 0) (by simp)
  have q2 := K.get (b := w.heap.size + 1) (o := 2) (v := .int .i64 0) (by simp)
  go_wp2_with fail
  exact bodyPost_ret (v := .tuple #[.agg #[.int .i64 0, .int .i64 0, .int .i64 0], .int .i64 2]) (by simp [results, Tryd.results21, go_sem, q0, q1, q2]) rfl ⟨rfl, ((((((((Kp.refl _).al _).al _).trans hb1).trans hb2).al _).trans hb3).set _ _ (by simp) |>.set _ _ (by simp)).set _ _ (by simp)⟩

theorem move_no (s o a n : Int) (w : World) (h : ¬ (0 ≤ s ∧ s ≤ 6 ∧ 0 ≤ o ∧ o ≤ 8 ∧ -1 ≤ a ∧ a ≤ 1)) :
    Calls Tryd.prog 21 #[.agg #[.int .i64 s, .int .i64 o, .int .i64 a], .int .i64 n] w fun e w' => e = .returned (.tuple #[.agg #[.int .i64 0, .int .i64 0, .int .i64 0], .int .i64 2]) ∧ Kp w w' := by
  have H := Lib.hid h; clear h
  go_enter Tryd.func21, Tryd.ntmps21
  go_wp2_with fail
  refine (check_no _ _ _ _ H.out).mono ?_
  rintro e w1 ⟨rfl, hb1⟩
  obtain ⟨hc1, hf1⟩ := hb1.cells
  go_wp2_with fail
  exact bodyPost_ret (v := .tuple #[.agg #[.int .i64 0, .int .i64 0, .int .i64 0], .int .i64 2]) (by simp [results, Tryd.results21, go_sem, hc1]) rfl ⟨rfl, ((((((Kp.refl _).al _).al _).trans hb1).set _ _ (by simp)).set _ _ (by simp)).set _ _ (by simp)⟩
end Go.Proofs.YtmmpjajjebljpaaDoor
