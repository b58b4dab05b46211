/- Solmize's memory: the block of the lists of ways, the block of costs. -/
import Derived.Test.YtaobndijldidfaaDoorGg
import Derived.Laws.MakeOwn
namespace Go.Proofs.YtaobndijldidfaaDoor
open Go.RowKit

theorem Sys.far {w : World} {A : Option Addr} {n : Nat} {ss : List Sy} (h : Sys w A n ss) {p : Addr} (u : Value) (hp : ∀ ad, A = some ad → p.block ≠ ad.block) : Sys (w.setCell p u) A n ss :=
  ⟨h.1, fun k hk => by
    obtain ⟨b, off, e, c0, c1⟩ := h.2 k hk
    have := hp _ e
    exact ⟨b, off, e, cell_setb this c0, cell_setb this c1⟩⟩
theorem Blk.new2 (w : World) (t t' : TypeId) (X Y : Array Value) : Blk ((w.alloc (.cells X t)).alloc (.cells Y t')) (w.heap.size + 1) t' Y := by
  have := Blk.new (w.alloc (.cells X t)) t' Y
  rwa [World.size_alloc] at this
/-- The block g of n slices: the first k are the lists. -/
def AllB (w : World) (g n : Nat) (ws : List (List Sy)) (k : Nat) : Prop :=
  ∃ cs : Array Value, Blk w g 27 cs ∧ cs.size = n ∧ ∀ j, j < k → ∃ A c, cs[j]? = some (.slice A (lsAt ws j).length c) ∧ (∀ ad, A = some ad → g < ad.block) ∧ Sys w A (lsAt ws j).length (lsAt ws j)
theorem AllB.kp {w w' : World} {g n : Nat} {ws : List (List Sy)} {k : Nat} (h : AllB w g n ws k) (hk : Kp w w') : AllB w' g n ws k := by
  obtain ⟨cs, hb, hs, hj⟩ := h
  exact ⟨cs, hb.kp hk, hs, fun j hlt => by obtain ⟨A, c, e, hA, hy⟩ := hj j hlt; exact ⟨A, c, e, hA, hy.kp hk⟩⟩
theorem AllB.put {w : World} {g n : Nat} {ws : List (List Sy)} {k : Nat} {A : Option Addr} {m c : Nat} (h : AllB w g n ws k) (hk : k < n) (hm : m = (lsAt ws k).length) (hA : ∀ ad, A = some ad → g < ad.block) (hy : Sys w A m (lsAt ws k)) :
    AllB (w.setCell ⟨g, k, none⟩ (.slice A m c)) g n ws (k + 1) := by
  obtain ⟨cs, hb, hs, hj⟩ := h
  refine ⟨_, hb.set_ k _, by simp [hs], fun j hlt => ?_⟩
  by_cases e : j = k
  · subst e
    subst hm
    exact ⟨A, c, by simp [hs, hk], hA, hy.far _ (fun ad ea => by have := hA ad ea; dsimp only; omega)⟩
  · obtain ⟨A', c', e', hA', hy'⟩ := hj j (by omega)
    refine ⟨A', c', ?_, hA', hy'.far _ (fun ad ea => by have := hA' ad ea; dsimp only; omega)⟩
    rw [Array.getElem?_setIfInBounds_ne (by omega)]
    exact e'
theorem AllB.cell {w : World} {g n : Nat} {ws : List (List Sy)} {k : Nat} (h : AllB w g n ws k) (i : Nat) (hi : i < n) : (∃ v, w.cell? ⟨g, i, none⟩ = some v) ∧ w.frozen? ⟨g, i, none⟩ = false := by
  obtain ⟨cs, hb, hs, _⟩ := h
  exact ⟨⟨cs[i]'(by omega), by rw [hb.cell]; simp [hs, hi]⟩, hb.free i⟩
theorem AllB.at_ {w : World} {g n : Nat} {ws : List (List Sy)} {k : Nat} (h : AllB w g n ws k) (j : Nat) (hj : j < k) : ∃ A c, w.cell? ⟨g, j, none⟩ = some (.slice A (lsAt ws j).length c) ∧ Sys w A (lsAt ws j).length (lsAt ws j) := by
  obtain ⟨cs, hb, _, h⟩ := h
  obtain ⟨A, c, e, _, hy⟩ := h j hj
  exact ⟨A, c, by rw [hb.cell, e], hy⟩

/-- The block g of n rows of eight costs. -/
def BestB (w : World) (g n : Nat) (B : Nat → Nat → Co) : Prop :=
  ∃ cs : Array Value, Blk w g 65 cs ∧ cs.size = n * 24 ∧ ∀ i h, i < n → h < 8 → cs[i * 24 + h * 3]? = some (.int .i64 (B i h).1) ∧ cs[i * 24 + h * 3 + 1]? = some (.int .i64 (B i h).2.1) ∧ cs[i * 24 + h * 3 + 2]? = some (.bool (B i h).2.2)
theorem BestB.kp {w w' : World} {g n : Nat} {B : Nat → Nat → Co} (h : BestB w g n B) (hk : Kp w w') : BestB w' g n B := by
  obtain ⟨cs, hb, hs, hj⟩ := h
  exact ⟨cs, hb.kp hk, hs, hj⟩
theorem BestB.far {w : World} {g n : Nat} {B : Nat → Nat → Co} (h : BestB w g n B) {p : Addr} (u : Value) (hp : g ≠ p.block) : BestB (w.setCell p u) g n B := by
  obtain ⟨cs, hb, hs, hj⟩ := h
  exact ⟨cs, hb.far hp u, hs, hj⟩
theorem BestB.cell {w : World} {g n : Nat} {B : Nat → Nat → Co} (hB : BestB w g n B) (i h : Nat) (hi : i < n) (hh : h < 8) :
    w.cell? ⟨g, i * 24 + h * 3, none⟩ = some (.int .i64 (B i h).1) ∧ w.cell? ⟨g, i * 24 + h * 3 + 1, none⟩ = some (.int .i64 (B i h).2.1) ∧ w.cell? ⟨g, i * 24 + h * 3 + 2, none⟩ = some (.bool (B i h).2.2) ∧
    w.frozen? ⟨g, i * 24 + h * 3, none⟩ = false ∧ w.frozen? ⟨g, i * 24 + h * 3 + 1, none⟩ = false ∧ w.frozen? ⟨g, i * 24 + h * 3 + 2, none⟩ = false := by
  obtain ⟨cs, hb, _, hj⟩ := hB
  obtain ⟨c0, c1, c2⟩ := hj i h hi hh
  exact ⟨by rw [hb.cell, c0], by rw [hb.cell, c1], by rw [hb.cell, c2], hb.free _, hb.free _, hb.free _⟩
/-- One cost has been written. -/
def upd (B : Nat → Nat → Co) (i h : Nat) (c : Co) : Nat → Nat → Co := fun i' h' => if i' = i ∧ h' = h then c else B i' h'
theorem BestB.put {w : World} {g n : Nat} {B : Nat → Nat → Co} (hB : BestB w g n B) (i h : Nat) (hi : i < n) (hh : h < 8) (c : Co) :
    BestB (((w.setCell ⟨g, i * 24 + h * 3, none⟩ (.int .i64 c.1)).setCell ⟨g, i * 24 + h * 3 + 1, none⟩ (.int .i64 c.2.1)).setCell ⟨g, i * 24 + h * 3 + 2, none⟩ (.bool c.2.2)) g n (upd B i h c) := by
  obtain ⟨cs, hb, hs, hj⟩ := hB
  refine ⟨_, ((hb.set_ _ _).set_ _ _).set_ _ _, by simp [hs], fun i' h' hi' hh' => ?_⟩
  obtain ⟨c0, c1, c2⟩ := hj i' h' hi' hh'
  unfold upd
  by_cases e : i' = i ∧ h' = h
  · obtain ⟨rfl, rfl⟩ := e
    rw [if_pos ⟨rfl, rfl⟩]
    have b1 : i' * 24 + h' * 3 + 2 < cs.size := by rw [hs]; omega
    refine ⟨?_, ?_, ?_⟩
    · rw [Array.getElem?_setIfInBounds_ne (by omega), Array.getElem?_setIfInBounds_ne (by omega), Array.getElem?_setIfInBounds_self_of_lt (by omega)]
    · rw [Array.getElem?_setIfInBounds_ne (by omega), Array.getElem?_setIfInBounds_self_of_lt (by simp; omega)]
    · rw [Array.getElem?_setIfInBounds_self_of_lt (by simp; omega)]
  · rw [if_neg e]
    have e' : i ≠ i' ∨ h ≠ h' := by omega
    refine ⟨?_, ?_, ?_⟩
    · rw [Array.getElem?_setIfInBounds_ne (by omega), Array.getElem?_setIfInBounds_ne (by omega), Array.getElem?_setIfInBounds_ne (by omega), c0]
    · rw [Array.getElem?_setIfInBounds_ne (by omega), Array.getElem?_setIfInBounds_ne (by omega), Array.getElem?_setIfInBounds_ne (by omega), c1]
    · rw [Array.getElem?_setIfInBounds_ne (by omega), Array.getElem?_setIfInBounds_ne (by omega), Array.getElem?_setIfInBounds_ne (by omega), c2]
def zeros8 : Array Value := #[.int .i64 0, .int .i64 0, .bool false, .int .i64 0, .int .i64 0, .bool false, .int .i64 0, .int .i64 0, .bool false, .int .i64 0, .int .i64 0, .bool false, .int .i64 0, .int .i64 0, .bool false, .int .i64 0, .int .i64 0, .bool false, .int .i64 0, .int .i64 0, .bool false, .int .i64 0, .int .i64 0, .bool false]
theorem made_at (n i : Nat) (h : i < n) : (madeCells zeros8 n)[i]? = some (zeros8[i % 24]!) := by
  unfold madeCells
  simp [h]
  rfl
theorem BestB.made (w : World) (n : Nat) : BestB (w.alloc (.cells (madeCells zeros8 (n * 24)) 65)) w.heap.size n (fun _ _ => (0, 0, false)) := by
  refine ⟨_, Blk.new w _ _, size_madeCells _ _, fun i h hi hh => ?_⟩
  rw [made_at _ _ (by omega), made_at _ _ (by omega), made_at _ _ (by omega)]
  have e0 : (i * 24 + h * 3) % 24 = h * 3 := by omega
  have e1 : (i * 24 + h * 3 + 1) % 24 = h * 3 + 1 := by omega
  have e2 : (i * 24 + h * 3 + 2) % 24 = h * 3 + 2 := by omega
  rw [e0, e1, e2]
  have : h = 0 ∨ h = 1 ∨ h = 2 ∨ h = 3 ∨ h = 4 ∨ h = 5 ∨ h = 6 ∨ h = 7 := by omega
  rcases this with rfl | rfl | rfl | rfl | rfl | rfl | rfl | rfl <;> exact ⟨rfl, rfl, rfl⟩
theorem AllB.made (w : World) (n : Nat) (ws : List (List Sy)) : AllB (w.alloc (.cells (madeCells #[.slice none 0 0] n) 27)) w.heap.size n ws 0 :=
  ⟨_, Blk.new w _ _, size_madeCells _ _, fun j hj => absurd hj (by omega)⟩
theorem run_make_rows {P : Program} (t e : TypeId) (i : TypeInfo) (z : Value) (ht : P.underlying t = some (.slice e)) (hi : P.info? e = some i) (hz : i.zero = some z)
    (n : Nat) (hbytes : i.bytes * n ≤ 281474976710656) (h63 : n ≤ 9223372036854775807) (w : World) :
    (Instr.makeSlice t (.int .i64 (n : Int)) (.int .i64 (n : Int))).run P w = .ok (.slice (some ⟨w.heap.size, 0, none⟩) n n) (w.alloc (.cells (madeCells z.cells (n * i.size)) e)) := by
  have hb : (i.bytes : Int) * (n : Int) ≤ 281474976710656 := by
    have h : ((i.bytes * n : Nat) : Int) ≤ 281474976710656 := by omega
    rwa [Int.natCast_mul] at h
  have hr := run_make (P := P) w t e i z ht hi hz .i64 .i64 n n (by omega) (by omega) hb (by omega)
  simp only [Int.toNat_natCast] at hr
  exact hr
theorem all_info : (Tryd.prog.info? 27).map (fun i => (i.zero, i.size, i.bytes)) = some (some (.slice none 0 0), 1, 24) := by kernel_rfl
theorem best_info : (Tryd.prog.info? 65).map (fun i => (i.zero, i.size, i.bytes)) = some (some (.agg zeros8), 24, 192) := by kernel_rfl
theorem make_all (n : Nat) (hn : n ≤ 1000) (w : World) : (Instr.makeSlice 61 (.int .i64 (n : Int)) (.int .i64 (n : Int))).run Tryd.prog w = .ok (.slice (some ⟨w.heap.size, 0, none⟩) n n) (w.alloc (.cells (madeCells #[.slice none 0 0] (n * 1)) 27)) := by
  obtain ⟨i0, hi0, hz0, hz1, hz2⟩ := info_parts all_info
  have := run_make_rows 61 27 i0 _ Tryd.underlying61 hi0 hz0 n (by rw [hz2]; omega) (by omega) w
  rw [hz1] at this
  exact this
theorem make_best (n : Nat) (hn : n ≤ 1000) (w : World) : (Instr.makeSlice 62 (.int .i64 (n : Int)) (.int .i64 (n : Int))).run Tryd.prog w = .ok (.slice (some ⟨w.heap.size, 0, none⟩) n n) (w.alloc (.cells (madeCells zeros8 (n * 24)) 65)) := by
  obtain ⟨i0, hi0, hz0, hz1, hz2⟩ := info_parts best_info
  have := run_make_rows 62 65 i0 _ Tryd.underlying62 hi0 hz0 n (by rw [hz2]; omega) (by omega) w
  rw [hz1] at this
  exact this
end Go.Proofs.YtaobndijldidfaaDoor
