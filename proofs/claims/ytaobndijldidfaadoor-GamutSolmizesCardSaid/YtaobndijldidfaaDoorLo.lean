/- Openers: parameters that are slices of ints, of pitches, of syllables, read as lists. -/
import Derived.Test.YtaobndijldidfaaDoorLa
import Derived.Test.YtaobndijldidfaaDoorGa
import Derived.Deep.Slices
namespace Go.Proofs.YtaobndijldidfaaDoor
open Go.ChangeShapes Go.WideShapes Go.RowKit Go.Deep

section
variable {H : Type} {enc : TypeId × Value → H} {W : World} {base b0 : Nat} {sp : Nat → Bool} {held : Bool} {r : Reach} {v : Value} {d : DataW H} {p : List MemPlace}
theorem addr_plain {w : World} {a : Addr} {v : Value} (h : w.cell? (a.add 0) = some v) : ∃ b off, a = ⟨b, off, none⟩ := by
  obtain ⟨b, off, spot⟩ := a
  have hs : spot = none := by simpa [Addr.add] using World.cell?_spot h
  subst hs
  exact ⟨b, off, rfl⟩
theorem add_plain (b off j : Nat) : (⟨b, off, none⟩ : Addr).add j = ⟨b, off + j, none⟩ := by
  unfold Addr.add; split
  · next h => rw [h, Nat.add_zero]
  · rfl
theorem slice_parts {a0 a : Option Addr} {l c l' c' : Nat} (h : [Value.slice a0 l c] = [Value.slice a l' c']) : a0 = a ∧ l = l' ∧ c = c' := by
  injection h with h _
  injection h with h1 h2 h3
  exact ⟨h1, h2, h3⟩

theorem open_intlist (hv : Value.okWide Tryd.prog W r b0 22 v) (h : DataW.Trod enc Tryd.prog W base sp held 22 v d p) :
    ∃ A n c xs, v = .slice A n c ∧ Ints W A n xs ∧ n ≤ maxLen ∧ (A = none → n = 0 ∧ c = 0) := by
  obtain ⟨a0, len, cap, rfl⟩ := okWide_slice Tryd.underlying22 hv
  obtain ⟨fuel, hf⟩ := h
  rcases open_slice1 Tryd.underlying22 (by kernel_rfl) hf with ⟨h0, _⟩ | ⟨a, l, c, m, n, V, D, Pl, h0, _, hl, hm, hmm, _, hx⟩
  · obtain ⟨rfl, rfl, rfl⟩ := slice_parts h0
    exact ⟨none, 0, 0, [], rfl, ⟨rfl, fun k hk => absurd hk (by omega)⟩, by simp [maxLen], fun _ => ⟨rfl, rfl⟩⟩
  · obtain ⟨rfl, rfl, rfl⟩ := slice_parts h0
    obtain ⟨X, hX⟩ := choose_lt (α := Int) (n := len) (p := fun i x => W.cell? (a.add i) = some (.int .i64 x)) (fun i hi => by
      obtain ⟨h1, h2⟩ := hx i (by rw [hmm]; split <;> omega)
      obtain ⟨x, e, -, -⟩ := DataW.trod_int Tryd.underlying3 h2
      injection e with e
      exact ⟨x, by rw [h1, e]⟩)
    refine ⟨some a, len, cap, (List.range len).map X, rfl, ⟨by simp, fun k hk => ?_⟩, by omega, fun e => by cases e⟩
    obtain ⟨b, off, rfl⟩ := addr_plain (hX 0 (by omega))
    refine ⟨b, off, rfl, ?_⟩
    have := hX k hk
    rw [add_plain] at this
    simpa [List.getD, hk] using this

theorem open_pitches (hv : Value.okWide Tryd.prog W r b0 24 v) (h : DataW.Trod enc Tryd.prog W base sp held 24 v d p) :
    ∃ A n c ps, v = .slice A n c ∧ Pts W A n ps ∧ n ≤ maxLen ∧ (A = none → n = 0 ∧ c = 0) := by
  obtain ⟨a0, len, cap, rfl⟩ := okWide_slice Tryd.underlying24 hv
  obtain ⟨fuel, hf⟩ := h
  have hC : Tryd.prog.cellsOf 36 = 3 := by kernel_rfl
  have hC1 : Tryd.prog.cellsOf 3 = 1 := by kernel_rfl
  rcases open_slice Tryd.underlying24 hf with ⟨h0, _⟩ | ⟨a, l, c, m, n, D, Pl, h0, _, hl, hm, hmm, _, hx⟩
  · obtain ⟨rfl, rfl, rfl⟩ := slice_parts h0
    exact ⟨none, 0, 0, [], rfl, ⟨rfl, fun k hk => absurd hk (by omega)⟩, by simp [maxLen], fun _ => ⟨rfl, rfl⟩⟩
  · obtain ⟨rfl, rfl, rfl⟩ := slice_parts h0
    rw [hC] at hx
    obtain ⟨X, hX⟩ := choose_lt (α := Int × Int × Int) (n := len) (p := fun i x => W.cell? ((a.add (i * 3)).add 0) = some (.int .i64 x.1) ∧ W.cell? ((a.add (i * 3)).add 1) = some (.int .i64 x.2.1) ∧ W.cell? ((a.add (i * 3)).add 2) = some (.int .i64 x.2.2)) (fun i hi => by
      obtain ⟨cs, h1, h2⟩ := hx i (by rw [hmm]; split <;> omega)
      obtain ⟨_, hlen, hat⟩ := World.cells?_some h1
      match cs, hlen with
      | [c0, c1, c2], _ =>
        obtain ⟨y0, y1, y2, n', _, _, t0, t1, t2⟩ := trod_struct3 Tryd.underlying36 h2
        obtain ⟨x0, e0, -, -⟩ := DataW.trod_int Tryd.underlying3 t0
        obtain ⟨x1, e1, -, -⟩ := DataW.trod_int Tryd.underlying3 t1
        obtain ⟨x2, e2, -, -⟩ := DataW.trod_int Tryd.underlying3 t2
        rw [hC1] at e0 e1 e2
        simp at e0 e1 e2
        subst e0 e1 e2
        exact ⟨(x0, x1, x2), hat 0 (by omega), hat 1 (by omega), hat 2 (by omega)⟩)
    refine ⟨some a, len, cap, (List.range len).map X, rfl, ⟨by simp, fun k hk => ?_⟩, by omega, fun e => by cases e⟩
    obtain ⟨b, off, rfl⟩ := addr_plain (by simpa [Addr.add] using (hX 0 (by omega)).1 : W.cell? (a.add 0) = some (.int .i64 (X 0).1))
    have := hX k hk
    simp only [add_plain, Nat.add_zero] at this
    exact ⟨b, off, rfl, by simpa [ptAt, List.getD, hk] using this⟩
theorem open_syls (hv : Value.okWide Tryd.prog W r b0 27 v) (h : DataW.Trod enc Tryd.prog W base sp held 27 v d p) :
    ∃ A n c ps, v = .slice A n c ∧ Sys W A n ps ∧ n ≤ maxLen ∧ (A = none → n = 0 ∧ c = 0) := by
  obtain ⟨a0, len, cap, rfl⟩ := okWide_slice Tryd.underlying27 hv
  obtain ⟨fuel, hf⟩ := h
  have hC : Tryd.prog.cellsOf 34 = 2 := by kernel_rfl
  have hC1 : Tryd.prog.cellsOf 3 = 1 := by kernel_rfl
  rcases open_slice Tryd.underlying27 hf with ⟨h0, _⟩ | ⟨a, l, c, m, n, D, Pl, h0, _, hl, hm, hmm, _, hx⟩
  · obtain ⟨rfl, rfl, rfl⟩ := slice_parts h0
    exact ⟨none, 0, 0, [], rfl, ⟨rfl, fun k hk => absurd hk (by omega)⟩, by simp [maxLen], fun _ => ⟨rfl, rfl⟩⟩
  · obtain ⟨rfl, rfl, rfl⟩ := slice_parts h0
    rw [hC] at hx
    obtain ⟨X, hX⟩ := choose_lt (α := Int × Int) (n := len) (p := fun i x => W.cell? ((a.add (i * 2)).add 0) = some (.int .i64 x.1) ∧ W.cell? ((a.add (i * 2)).add 1) = some (.int .i64 x.2)) (fun i hi => by
      obtain ⟨cs, h1, h2⟩ := hx i (by rw [hmm]; split <;> omega)
      obtain ⟨_, hlen, hat⟩ := World.cells?_some h1
      match cs, hlen with
      | [c0, c1], _ =>
        obtain ⟨y0, y1, n', _, _, t0, t1⟩ := trod_struct2 Tryd.underlying34 h2
        obtain ⟨x0, e0, -, -⟩ := DataW.trod_int Tryd.underlying3 t0
        obtain ⟨x1, e1, -, -⟩ := DataW.trod_int Tryd.underlying3 t1
        rw [hC1] at e0 e1
        simp at e0 e1
        subst e0 e1
        exact ⟨(x0, x1), hat 0 (by omega), hat 1 (by omega)⟩)
    refine ⟨some a, len, cap, (List.range len).map X, rfl, ⟨by simp, fun k hk => ?_⟩, by omega, fun e => by cases e⟩
    obtain ⟨b, off, rfl⟩ := addr_plain (by simpa [Addr.add] using (hX 0 (by omega)).1 : W.cell? (a.add 0) = some (.int .i64 (X 0).1))
    have := hX k hk
    simp only [add_plain, Nat.add_zero] at this
    exact ⟨b, off, rfl, by simpa [syAt, List.getD, hk] using this⟩
end
end Go.Proofs.YtaobndijldidfaaDoor
