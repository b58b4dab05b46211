/- Contracts of pitch.Parse. -/
import Derived.Test.YtmmpjajjebljpaaDoorPf
namespace Go.Proofs.YtmmpjajjebljpaaDoor
open Go.RowKit

theorem Kp.lt {w w1 : World} {o : Obj} (h : Kp (w.alloc o) w1) : w.heap.size < w1.heap.size := by have := h.low; simp at this; omega
theorem all8 {p : UInt8 → Prop} (h : ∀ k : Fin 256, p (UInt8.ofNat k)) (x : UInt8) : p x := by
  have e := h ⟨x.toNat, x.toNat_lt⟩
  simpa using e
theorem ix7_back (x : UInt8) : 0 ≤ ix7 x → UInt8.ofNat (ltr (ix7 x).toNat).toNat = x := all8 (p := fun x => 0 ≤ ix7 x → UInt8.ofNat (ltr (ix7 x).toNat).toNat = x) (by decide +kernel) x
theorem ix3_back (y : UInt8) : 0 ≤ ix3 y → ix3 y ≠ 1 → ¬ (ix3 y - 1 = 0) ∧ UInt8.ofNat (if ix3 y - 1 = 1 then 35 else 98 : Int).toNat = y :=
  all8 (p := fun y => 0 ≤ ix3 y → ix3 y ≠ 1 → ¬ (ix3 y - 1 = 0) ∧ UInt8.ofNat (if ix3 y - 1 = 1 then 35 else 98 : Int).toNat = y) (by decide +kernel) y
theorem pt2 (x y : UInt8) (h : 0 ≤ ix7 x) : (⟨#[x, y]⟩ : ByteArray) = ptx (ix7 x) ((y.toNat : Int) - 48) 0 := by
  have e : (48 : Int) + ((y.toNat : Int) - 48) = (y.toNat : Int) := by omega
  have e7 : UInt8.ofNat (ltr (ix7 x).toNat).toNat = x := ix7_back x h
  simp [ptx, strOfNums, e, e7]
theorem pt3 (x y z : UInt8) (h : 0 ≤ ix7 x) (h2 : 0 ≤ ix3 y) (h3 : ix3 y ≠ 1) : (⟨#[x, y, z]⟩ : ByteArray) = ptx (ix7 x) ((z.toNat : Int) - 48) (ix3 y - 1) := by
  have e : (48 : Int) + ((z.toNat : Int) - 48) = (z.toNat : Int) := by omega
  have e7 : UInt8.ofNat (ltr (ix7 x).toNat).toNat = x := ix7_back x h
  have e3 : ¬ (ix3 y - 1 = 0) ∧ UInt8.ofNat (if ix3 y - 1 = 1 then 35 else 98 : Int).toNat = y := ix3_back y h2 h3
  simp [ptx, strOfNums, e, e7, e3]
theorem ptx2 (s o : Int) (h1 : 0 ≤ s) (h2 : s ≤ 6) (h3 : 0 ≤ o) (h4 : o ≤ 8) : ∃ x y : UInt8, ptx s o 0 = ⟨#[x, y]⟩ ∧ ix7 x = s ∧ (y.toNat : Int) = 48 + o := by
  refine ⟨UInt8.ofNat (ltr s.toNat).toNat, UInt8.ofNat (48 + o).toNat, by simp [ptx, strOfNums], ?_, ?_⟩
  · obtain ⟨k, rfl⟩ := Int.eq_ofNat_of_zero_le h1
    have : k < 7 := by omega
    match k, this with
    | 0, _ => decide
    | 1, _ => decide
    | 2, _ => decide
    | 3, _ => decide
    | 4, _ => decide
    | 5, _ => decide
    | 6, _ => decide
  · simp; omega
theorem ptx3 (s o a : Int) (h1 : 0 ≤ s) (h2 : s ≤ 6) (h3 : 0 ≤ o) (h4 : o ≤ 8) (h5 : a = 1 ∨ a = -1) : ∃ x y z : UInt8, ptx s o a = ⟨#[x, y, z]⟩ ∧ ix7 x = s ∧ (z.toNat : Int) = 48 + o ∧ ix3 y = a + 1 := by
  refine ⟨UInt8.ofNat (ltr s.toNat).toNat, if a = 1 then 35 else 98, UInt8.ofNat (48 + o).toNat, ?_, ?_, ?_, ?_⟩
  · rcases h5 with rfl | rfl <;> simp [ptx, strOfNums]
  · obtain ⟨k, rfl⟩ := Int.eq_ofNat_of_zero_le h1
    have : k < 7 := by omega
    match k, this with
    | 0, _ => decide
    | 1, _ => decide
    | 2, _ => decide
    | 3, _ => decide
    | 4, _ => decide
    | 5, _ => decide
    | 6, _ => decide
  · simp; omega
  · rcases h5 with rfl | rfl <;> decide

theorem read_ok (s o a : Int) (w : World) (h1 : 0 ≤ s) (h2 : s ≤ 6) (h3 : 0 ≤ o) (h4 : o ≤ 8) (h5 : -1 ≤ a) (h6 : a ≤ 1) :
    Calls Tryd.prog 35 #[.agg #[.int .i64 0, .int .i64 0], .string (ptx s o a)] w fun e w' => e = .returned (.tuple #[.agg #[.int .i64 (7 * o + s), .int .i64 a], .bool true]) ∧ Kp w w' := by
  by_cases h0 : a = 0
  · subst h0
    obtain ⟨x, y, e, rfl, ey⟩ := ptx2 s o h1 h2 h3 h4
    rw [e]
    obtain rfl : o = (y.toNat : Int) - 48 := by omega
    exact read2_ok x y w h1 h2 (by omega) (by omega)
  · obtain ⟨x, y, z, e, rfl, ez, ey⟩ := ptx3 s o a h1 h2 h3 h4 (by omega)
    rw [e]
    obtain rfl : o = (z.toNat : Int) - 48 := by omega
    obtain rfl : a = ix3 y - 1 := by omega
    exact read3_ok x y z w h1 h2 (by omega) (by omega) (by omega) (by omega) (by omega)

/-- A text that is that of no pitch. -/
def NoText (b : ByteArray) : Prop := ∀ s o a : Int, 0 ≤ s → s ≤ 6 → 0 ≤ o → o ≤ 8 → -1 ≤ a → a ≤ 1 → b ≠ ptx s o a

theorem read_no (b : ByteArray) (w : World) (hs : b.size ≤ maxLen) (h : NoText b) :
    Calls Tryd.prog 35 #[.agg #[.int .i64 0, .int .i64 0], .string b] w fun e w' => e = .returned (.tuple #[.agg #[.int .i64 0, .int .i64 0], .bool false]) ∧ Kp w w' := by
  by_cases hl : b.size < 2 ∨ 3 < b.size
  · exact read_len b w hs hl
  · obtain ⟨⟨l⟩⟩ := b
    have hl' : l.length = 2 ∨ l.length = 3 := by
      have : (ByteArray.mk ⟨l⟩).size = l.length := rfl
      omega
    match l, hl' with
    | [x, y], _ =>
      show Calls Tryd.prog 35 #[.agg #[.int .i64 0, .int .i64 0], .string ⟨#[x, y]⟩] w _
      have hb := ix7_bd x
      refine read2_bad x y w ?_
      by_cases hc : 0 ≤ ix7 x ∧ 48 ≤ (y.toNat : Int) ∧ (y.toNat : Int) ≤ 56
      · exact absurd (pt2 x y hc.1) (h _ _ _ (by omega) (by omega) (by omega) (by omega) (by omega) (by omega))
      · omega
    | [x, y, z], _ =>
      show Calls Tryd.prog 35 #[.agg #[.int .i64 0, .int .i64 0], .string ⟨#[x, y, z]⟩] w _
      have hb := ix7_bd x
      have hb3 := ix3_bd y
      by_cases hc : 0 ≤ ix7 x ∧ 48 ≤ (z.toNat : Int) ∧ (z.toNat : Int) ≤ 56
      · refine read3_no x y z w hc.1 hb.2 hc.2.1 hc.2.2 ?_
        by_cases hd : 0 ≤ ix3 y ∧ ix3 y ≠ 1
        · exact absurd (pt3 x y z hc.1 hd.1 hd.2) (h _ _ _ (by omega) (by omega) (by omega) (by omega) (by omega) (by omega))
        · omega
      · exact read3_bad x y z w (by omega)

theorem parse_ok (s o a : Int) (w : World) (h1 : 0 ≤ s) (h2 : s ≤ 6) (h3 : 0 ≤ o) (h4 : o ≤ 8) (h5 : -1 ≤ a) (h6 : a ≤ 1) :
    Calls Tryd.prog 13 #[.string (ptx s o a)] w fun e w' => e = .returned (.tuple #[.agg #[.int .i64 s, .int .i64 o, .int .i64 a], .int .i64 0]) ∧ Kp w w' := by
  go_enter Tryd.func13, Tryd.ntmps13
  go_wp2_with fail
  refine (read_ok _ _ _ _ h1 h2 h3 h4 h5 h6).mono ?_
  rintro e w1 ⟨rfl, hb1⟩
  obtain ⟨hc1, hf1⟩ := hb1.cells
  go_wp2_with fail
  refine (tpitch_ok _ _ _ (by omega) (by omega) h5 h6).mono ?_
  have e1 : (7 * o + s) / 7 = o := by omega
  have e2 : (7 * o + s) % 7 = s := by omega
  rw [e1, e2]
  clear e1 e2
  rintro e w2 ⟨rfl, hb2⟩
  have K := (hb1.al _).trans hb2
  obtain ⟨q0, p0⟩ := K.own (b := w.heap.size) (o := 0) (v := .int .i64 0) (by simp [go_sem]) (by simp [go_sem])
  obtain ⟨q1, p1⟩ := K.own (b := w.heap.size) (o := 1) (v := .int .i64 0) (by simp [go_sem]) (by simp [go_sem])
  obtain ⟨q2, p2⟩ := K.own (b := w.heap.size) (o := 2) (v := .int .i64 0) (by simp [go_sem]) (by simp [go_sem])
  go_wp2_with fail
  exact bodyPost_ret (v := .tuple #[.agg #[.int .i64 s, .int .i64 o, .int .i64 a], .int .i64 0]) (by simp [results, Tryd.results13, go_sem, q0, q1, q2]) rfl ⟨rfl, by repeat (first | exact Kp.refl _ | with_reducible assumption | with_reducible refine Kp.set ?_ _ _ ?_ | (dsimp only; omega) | with_reducible refine Kp.drew ?_ | with_reducible refine Kp.drewN ?_ _ | with_reducible refine Kp.al ?_ _ | with_reducible refine Kp.trans ?_ (by with_reducible assumption))⟩
theorem parse_no (b : ByteArray) (w : World) (hs : b.size ≤ maxLen) (h : NoText b) :
    Calls Tryd.prog 13 #[.string b] w fun e w' => e = .returned (.tuple #[.agg #[.int .i64 0, .int .i64 0, .int .i64 0], .int .i64 3]) ∧ Kp w w' := by
  go_enter Tryd.func13, Tryd.ntmps13
  go_wp2_with fail
  refine (read_no _ _ hs h).mono ?_
  rintro e w1 ⟨rfl, hb1⟩
  obtain ⟨hc1, hf1⟩ := hb1.cells
  have z1 := hb1.lt
  go_wp2_with fail
  exact bodyPost_ret (v := .tuple #[.agg #[.int .i64 0, .int .i64 0, .int .i64 0], .int .i64 3]) (by simp [results, Tryd.results13, go_sem, hc1, z1]) rfl ⟨rfl, by repeat (first | exact Kp.refl _ | with_reducible assumption | with_reducible refine Kp.set ?_ _ _ ?_ | (dsimp only; omega) | with_reducible refine Kp.drew ?_ | with_reducible refine Kp.drewN ?_ _ | with_reducible refine Kp.al ?_ _ | with_reducible refine Kp.trans ?_ (by with_reducible assumption))⟩
end Go.Proofs.YtmmpjajjebljpaaDoor
