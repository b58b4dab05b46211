/- Seat of law04: lists in memory, blocks that are known whole, the two tables, pitch.Of. -/
import Derived.Test.YtaobndijldidfaaDoorBa
import Derived.Test.YtaobndijldidfaaDoorOw
namespace Go.Proofs.YtaobndijldidfaaDoor
open Go.RowKit

/-- A slice that reads as a list of integers. -/
def Ints (w : World) (A : Option Addr) (n : Nat) (xs : List Int) : Prop := xs.length = n ∧ ∀ k, k < n → ∃ b off, A = some ⟨b, off, none⟩ ∧ w.cell? ⟨b, off + k, none⟩ = some (.int .i64 (xs.getD k 0))
theorem Ints.kp {w w' : World} {A : Option Addr} {n : Nat} {xs : List Int} (h : Ints w A n xs) (k : Kp w w') : Ints w' A n xs :=
  ⟨h.1, fun j hj => by obtain ⟨b, off, e, hc⟩ := h.2 j hj; exact ⟨b, off, e, k.get hc⟩⟩
/-- A slice that reads as a list of pitches. -/
abbrev Pt := Int × Int × Int
def ptAt (ps : List Pt) (k : Nat) : Pt := ps.getD k (0, 0, 0)
def Pts (w : World) (A : Option Addr) (n : Nat) (ps : List Pt) : Prop := ps.length = n ∧ ∀ k, k < n → ∃ b off, A = some ⟨b, off, none⟩ ∧ w.cell? ⟨b, off + k * 3, none⟩ = some (.int .i64 (ptAt ps k).1) ∧ w.cell? ⟨b, off + k * 3 + 1, none⟩ = some (.int .i64 (ptAt ps k).2.1) ∧ w.cell? ⟨b, off + k * 3 + 2, none⟩ = some (.int .i64 (ptAt ps k).2.2)
theorem Pts.kp {w w' : World} {A : Option Addr} {n : Nat} {ps : List Pt} (h : Pts w A n ps) (k : Kp w w') : Pts w' A n ps :=
  ⟨h.1, fun j hj => by obtain ⟨b, off, e, c0, c1, c2⟩ := h.2 j hj; exact ⟨b, off, e, k.get c0, k.get c1, k.get c2⟩⟩
/-- A slice that reads as a list of syllables. -/
abbrev Sy := Int × Int
def syAt (ss : List Sy) (k : Nat) : Sy := ss.getD k (0, 0)
def Sys (w : World) (A : Option Addr) (n : Nat) (ss : List Sy) : Prop := ss.length = n ∧ ∀ k, k < n → ∃ b off, A = some ⟨b, off, none⟩ ∧ w.cell? ⟨b, off + k * 2, none⟩ = some (.int .i64 (syAt ss k).1) ∧ w.cell? ⟨b, off + k * 2 + 1, none⟩ = some (.int .i64 (syAt ss k).2)
theorem Sys.kp {w w' : World} {A : Option Addr} {n : Nat} {ss : List Sy} (h : Sys w A n ss) (k : Kp w w') : Sys w' A n ss :=
  ⟨h.1, fun j hj => by obtain ⟨b, off, e, c0, c1⟩ := h.2 j hj; exact ⟨b, off, e, k.get c0, k.get c1⟩⟩

/-- Block g is just these cells, none frozen. -/
def Blk (w : World) (g : Nat) (t : TypeId) (cs : Array Value) : Prop := w.heap[g]? = some (.cells cs t (0, 0))
section
variable {w w' : World} {g : Nat} {t : TypeId} {cs : Array Value}
theorem Blk.lt (h : Blk w g t cs) : g < w.heap.size := (Array.getElem?_eq_some_iff.1 h).1
theorem Blk.cell (h : Blk w g t cs) (i : Nat) : w.cell? ⟨g, i, none⟩ = cs[i]? := by unfold Blk at h; simp [World.cell?, h]
theorem Blk.free (h : Blk w g t cs) (i : Nat) : w.frozen? ⟨g, i, none⟩ = false := by unfold Blk at h; simp [World.frozen?, h]
theorem Blk.new (w : World) (t : TypeId) (cs : Array Value) : Blk (w.alloc (.cells cs t)) w.heap.size t cs := heap_alloc_new w _
theorem Blk.al (h : Blk w g t cs) (o : Obj) : Blk (w.alloc o) g t cs := (Below.heap_alloc w o g h.lt).trans h
theorem Blk.kp (h : Blk w g t cs) (k : Kp w w') : Blk w' g t cs := (k.block g h.lt).trans h
theorem Blk.drew (h : Blk w g t cs) : Blk w.drew g t cs := h
theorem Blk.set_ (h : Blk w g t cs) (i : Nat) (u : Value) : Blk (w.setCell ⟨g, i, none⟩ u) g t (cs.setIfInBounds i u) := by
  unfold Blk at h ⊢
  simp [World.setCell, Array.getElem?_modify, h]
theorem Blk.far (h : Blk w g t cs) {p : Addr} (hp : g ≠ p.block) (u : Value) : Blk (w.setCell p u) g t cs := (Below.heap_setCell w p u g hp).trans h
end

/-- The table of the places at which the hexachords begin. -/
def startN (k : Nat) : Int := if k = 2 then 3 else if k = 3 then 6 else if k = 4 then 7 else if k = 5 then 10 else if k = 6 then 13 else if k = 7 then 14 else 0
def wordN (k : Nat) : ByteArray := ⟨if k = 1 then #[117, 116] else if k = 2 then #[114, 101] else if k = 3 then #[109, 105] else if k = 4 then #[102, 97] else if k = 5 then #[115, 111, 108] else if k = 6 then #[108, 97] else #[]⟩
def Tab (w : World) : Prop := (∀ k, k < 8 → w.cell? ⟨0, k, none⟩ = some (.int .i64 (startN k))) ∧ (∀ k, k < 7 → w.cell? ⟨1, k, none⟩ = some (.string (wordN k)))
theorem Tab.below {w w' : World} (h : Tab w) (hb : Kp w w') : Tab w' := ⟨fun k hk => hb.get (h.1 k hk), fun k hk => hb.get (h.2 k hk)⟩
theorem Tab.lt {w : World} (h : Tab w) : 1 < w.heap.size := cell_lt (h.2 0 (by decide))
theorem startN_bd (k : Nat) : 0 ≤ startN k ∧ startN k ≤ 14 := by unfold startN; omega

theorem tpitch_ok (n a : Int) (w : World) (h1 : 0 ≤ n) (h2 : n ≤ 62) (h3 : -1 ≤ a) (h4 : a ≤ 1) :
    Calls Tryd.prog 59 #[.agg #[.int .i64 n, .int .i64 a]] w fun e w' => e = .returned (.tuple #[.agg #[.int .i64 (n % 7), .int .i64 (n / 7), .int .i64 a], .int .i64 0]) ∧ Kp w w' := by
  go_enter Tryd.func59, Tryd.ntmps59
  go_wp2
  exact bodyPost_ret (v := .tuple #[.agg #[.int .i64 (n % 7), .int .i64 (n / 7), .int .i64 a], .int .i64 0]) (by simp [results, Tryd.results59, go_sem]) rfl ⟨rfl, ((Kp.refl _).al _).al _⟩
theorem Of_ok (n a : Int) (w : World) (h1 : 0 ≤ n) (h2 : n ≤ 62) (h3 : -1 ≤ a) (h4 : a ≤ 1) :
    Calls Tryd.prog 48 #[.int .i64 n, .int .i64 a] w fun e w' => e = .returned (.tuple #[.agg #[.int .i64 (n % 7), .int .i64 (n / 7), .int .i64 a], .int .i64 0]) ∧ Kp w w' := by
  go_enter Tryd.func48, Tryd.ntmps48
  have s1 : w.heap.size ≤ w.heap.size := by omega
  go_wp2_with fail
  refine (tpitch_ok _ _ _ h1 h2 h3 h4).mono ?_
  rintro e w1 ⟨rfl, hb1⟩
  have Q1 : Kp w w1 := by repeat (first | exact Kp.refl _ | with_reducible assumption | with_reducible refine Kp.set ?_ _ _ ?_ | (dsimp only; omega) | with_reducible refine Kp.drew ?_ | with_reducible refine Kp.drewN ?_ _ | with_reducible refine Kp.al ?_ _ | with_reducible refine Kp.trans ?_ (by with_reducible assumption))
  have c1_0_1 := hb1.get (b := w.heap.size) (o := 0) (v := .int .i64 (0)) (by first | with_reducible assumption | (simp [go_sem]; done) | (simp [go_sem, *]; done))
  have f1_0_1 := hb1.free (b := w.heap.size) (o := 0) (v := .int .i64 (0)) (by first | with_reducible assumption | (simp [go_sem]; done) | (simp [go_sem, *]; done)) (by first | with_reducible assumption | (simp [go_sem]; done) | (simp [go_sem, *]; done))
  have c1_1_1 := hb1.get (b := w.heap.size) (o := 1) (v := .int .i64 (0)) (by first | with_reducible assumption | (simp [go_sem]; done) | (simp [go_sem, *]; done))
  have f1_1_1 := hb1.free (b := w.heap.size) (o := 1) (v := .int .i64 (0)) (by first | with_reducible assumption | (simp [go_sem]; done) | (simp [go_sem, *]; done)) (by first | with_reducible assumption | (simp [go_sem]; done) | (simp [go_sem, *]; done))
  have c1_2_1 := hb1.get (b := w.heap.size) (o := 2) (v := .int .i64 (0)) (by first | with_reducible assumption | (simp [go_sem]; done) | (simp [go_sem, *]; done))
  have f1_2_1 := hb1.free (b := w.heap.size) (o := 2) (v := .int .i64 (0)) (by first | with_reducible assumption | (simp [go_sem]; done) | (simp [go_sem, *]; done)) (by first | with_reducible assumption | (simp [go_sem]; done) | (simp [go_sem, *]; done))
  have l1_1 := cell_lt c1_0_1
  have K1 := Q1
  clear hb1 Q1
  go_wp2_with fail
  exact bodyPost_ret (v := .tuple #[.agg #[.int .i64 (n % 7), .int .i64 (n / 7), .int .i64 a], .int .i64 0]) (by simp [results, Tryd.results48, go_sem, *]) rfl ⟨rfl, by repeat (first | exact Kp.refl _ | with_reducible assumption | with_reducible refine Kp.set ?_ _ _ ?_ | (dsimp only; omega) | with_reducible refine Kp.drew ?_ | with_reducible refine Kp.drewN ?_ _ | with_reducible refine Kp.al ?_ _ | with_reducible refine Kp.trans ?_ (by with_reducible assumption))⟩
end Go.Proofs.YtaobndijldidfaaDoor
