/- The iterator clefs: it gives the fifteen clefs in their order, to every loop body that keeps what the iterator has made. -/
import Derived.Test.YtgajdmefflndmaaBh
import Derived.RangeFuncNested
import Derived.RangeFuncBound
import Derived.RangeFuncCalls
import Derived.RangeFuncLeaves
import Derived.Shelf.Abstract
import Derived.Shelf.RegionOpen
import Derived.WalkKit
import Derived.OwnWalkIn
import Derived.TacticsInMore
import Derived.LoopNIn
import Derived.LoopIn
namespace Go.Proofs.Ytgajdmefflndmaa
open Go.RowKit Go.Shelf
attribute [local go_sem] Oper.semAt_some

/-- Blocks of cells from D on stay as they are. -/
def Kr (D : Nat) (W W' : World) : Prop := ∀ b c t f, D ≤ b → W.heap[b]? = some (.cells c t f) → W'.heap[b]? = some (.cells c t f)
theorem Kr.trans {D : Nat} {A B C : World} (h : Kr D A B) (k : Kr D B C) : Kr D A C := fun b c t f hb hc => k b c t f hb (h b c t f hb hc)
theorem Kr.refl (D : Nat) (W : World) : Kr D W W := fun _ _ _ _ _ h => h
theorem Kr.of_kp {D : Nat} {W W' : World} (h : Kp W W') : Kr D W W' := fun b _ _ _ _ hc => (h.block b (Array.getElem?_eq_some_iff.1 hc).1).trans hc
theorem Kr.put {D : Nat} (W : World) (l : Nat) (o o' : Obj) (hl : W.heap[l]? = some o) (ho : o.isCells = false) : Kr D W (W.putObj l o') := by
  intro b c t f _ hc
  by_cases e : b = l
  · subst e; rw [hl] at hc; cases hc; cases ho
  · exact (World.putObj_heap_other e).trans hc
theorem Kr.set {D : Nat} {W W' : World} (h : Kr D W W') (p : Addr) (v : Value) (hp : p.block < D) : Kr D W (W'.setCell p v) := fun b c t f hb hc =>
  (Below.heap_setCell W' p v b (by omega)).trans (h b c t f hb hc)

/-- The clef with a number, and the first k clefs. -/
def clefAt (k : Nat) : Int × Int := ((if k / 5 = 0 then 0 else if k / 5 = 1 then 3 else 4), (k % 5 : Nat) + 1)
theorem clefAt_ok (k : Nat) : Vc (clefAt k).1 (clefAt k).2 := by
  unfold Vc clefAt
  have : k % 5 < 5 := Nat.mod_lt _ (by decide)
  refine ⟨?_, by dsimp only; omega, by dsimp only; omega⟩
  dsimp only
  split <;> (try split) <;> omega
/-- A valid clef. -/
abbrev VC := { x : Int × Int // Vc x.1 x.2 }
def clefV (k : Nat) : VC := ⟨clefAt k, clefAt_ok k⟩
def clefs (k : Nat) : List VC := (List.range k).map clefV
theorem clefs_succ (k : Nat) : clefs (k + 1) = clefs k ++ [clefV k] := by simp [clefs, List.range_succ]
theorem clefs_len (k : Nat) : (clefs k).length = k := by simp [clefs]
theorem clefs_prefix {k : Nat} (h : k ≤ 15) : clefs k <+: clefs 15 := by
  rw [List.prefix_iff_eq_take, clefs_len]
  unfold clefs
  rw [← List.map_take, List.take_range, Nat.min_eq_left h]
def encC (x : VC) : Array Value := #[.agg #[.int .i64 x.1.1, .int .i64 x.1.2]]
def stepAt (i : Nat) : Int := if i = 0 then 0 else if i = 1 then 3 else 4
theorem clefAt_at (i j : Nat) (hj : j < 5) : clefAt (5 * i + j) = (stepAt i, (j : Int) + 1) := by
  have h1 : (5 * i + j) / 5 = i := by omega
  have h2 : (5 * i + j) % 5 = j := by omega
  simp [clefAt, stepAt, h1, h2]

set_option maxRecDepth 100000 in
set_option maxHeartbeats 1000000 in
theorem clefs_in (F : Fence) (n : Nat) (hF : F.fn 46) (hro : F.round = none) (hn : 1 ≤ n) (l D : Nat) (J Jx : List VC → World → Prop) (W : World) (hD : D ≤ W.heap.size) (hJ : AbidesFrom W.heap.size J)
    (hY : ∀ pre x W1, J pre W1 → pre.length < 15 → YieldAt F (n - 1) Try.prog l (encC x) W1 fun e W' =>
      (e = .returned (.bool true) ∧ J (pre ++ [x]) W' ∧ Kr D W1 W') ∨ (e = .returned (.bool false) ∧ Jx (pre ++ [x]) W'))
    (h0 : J [] W) :
    CallsIn F n Try.prog 46 #[.func (.yield l) #[] #[]] W fun e W' => (∃ v, e = .returned v) ∧
      ((∃ ys, ys = clefs 15 ∧ J ys W') ∨ (∃ pre, pre <+: clefs 15 ∧ Jx pre W')) := by
  refine callsIn_of_wp Try.func46 rfl hF ?_ hro
  simp only [Try.ntmps46, List.size_toArray, List.length_cons, List.length_nil, Nat.reduceAdd, Nat.reduceSub, Array.replicate_succ, Array.replicate_zero, List.push_toArray, List.append_toArray, List.nil_append, List.cons_append]
  have HY := Lib.hid hY
  have HJ := Lib.hid hJ
  clear hY hJ
  gi_wp2
  have hB0 : (W.alloc (.cells #[.int .i64 0, .int .i64 3, .int .i64 4] 3)).heap[W.heap.size]? = some (.cells #[.int .i64 0, .int .i64 3, .int .i64 4] 3 (0, 0)) := heap_alloc_new W _
  have hJ0 : J [] (W.alloc (.cells #[.int .i64 0, .int .i64 3, .int .i64 4] 3)) := HJ.out _ _ _ none h0 (World.grownBy_alloc _ _ none) (fun r e => by cases e)
  have HB0 := Lib.hid hB0
  have HJ0 := Lib.hid hJ0
  clear hB0 hJ0 h0
  gi_loopw [7] (fun v wr => ∃ i : Nat, i ≤ 3 ∧ v = .int .i64 (i : Int) ∧ wr.heap[W.heap.size]? = some (.cells #[.int .i64 0, .int .i64 3, .int .i64 4] 3 (0, 0)) ∧ J (clefs (5 * i)) wr) (fun v _ => 3 - (intOf v).toNat)
  case atStart => exact ⟨0, by omega, rfl, HB0.out, HJ0.out⟩
  case round =>
    obtain ⟨i, hi, rfl, hblk, hJi⟩ := hrel
    have HBk := Lib.hid hblk
    have HJi := Lib.hid hJi
    have hcell : ∀ k, wr.cell? ⟨W.heap.size, k, none⟩ = #[Value.int .i64 0, .int .i64 3, .int .i64 4][k]? := fun k => by simp [World.cell?, hblk]
    clear hblk hJi
    by_cases hlt : i < 3
    · have hd : decide ((i : Int) < 3) = true := by simp; omega
      have hc : wr.cell? ⟨W.heap.size, i, none⟩ = some (.int .i64 (stepAt i)) := by
        rw [hcell]
        have : i = 0 ∨ i = 1 ∨ i = 2 := by omega
        rcases this with rfl | rfl | rfl <;> rfl
      clear hcell
      gi_wp2
      gi_loopw [11] (fun v wr => ∃ j : Nat, j ≤ 5 ∧ v = .int .i64 (j : Int) ∧ wr.heap[W.heap.size]? = some (.cells #[.int .i64 0, .int .i64 3, .int .i64 4] 3 (0, 0)) ∧ J (clefs (5 * i + j)) wr) (fun v _ => 5 - (intOf v).toNat)
      case atStart => exact ⟨0, by omega, rfl, HBk.out, HJi.out⟩
      case round =>
        clear HBk HJi hc
        obtain ⟨j, hj, rfl, hblk, hJj⟩ := hrel
        have HBk := Lib.hid hblk
        clear hblk
        by_cases hlj : j < 5
        · have hdj : decide ((j : Int) < 5) = true := by simp; omega
          obtain ⟨fn, tmps, assign, body, hy, hR⟩ := HY.out (clefs (5 * i + j)) (clefV (5 * i + j)) wr hJj (by rw [clefs_len]; omega)
          simp only [encC, clefV, clefAt_at i j hlj] at hy
          have HR := Lib.hid hR
          clear hR hJj
          gi_wp2
          refine HR.out.mono ?_
          rintro e W3 (⟨rfl, hJ3, hk3⟩ | ⟨rfl, hJx3⟩)
          · have HJ3 := Lib.hid hJ3
            have HK3 := Lib.hid hk3
            clear hJ3 hk3
            gi_wp2
            go_roundw
            case rel => exact ⟨j + 1, by omega, by go_num, HK3.out _ _ _ _ hD HBk.out, by
              have e : 5 * i + (j + 1) = 5 * i + j + 1 := by omega
              rw [e, clefs_succ]; exact HJ3.out⟩
            case measure => simp [intOf]; omega
          · have HX := Lib.hid hJx3
            clear hJx3
            gi_wp2
            refine bodyPost_ret (results_none rfl _ _ _) rfl ?_
            refine ⟨⟨_, rfl⟩, .inr ⟨_, ?_, HX.out⟩⟩
            rw [← clefs_succ]
            exact clefs_prefix (by omega)
        · have hdj : decide ((j : Int) < 5) = false := by simp; omega
          obtain rfl : j = 5 := by omega
          have HJj := Lib.hid hJj
          clear hJj
          gi_wp2
          go_roundw
          case rel => exact ⟨i + 1, by omega, by go_num, HBk.out, by have e : 5 * (i + 1) = 5 * i + 5 := by omega
                                                                     rw [e]; exact HJj.out⟩
          case measure => simp [intOf]; omega
    · have hd : decide ((i : Int) < 3) = false := by simp; omega
      obtain rfl : i = 3 := by omega
      clear hcell
      gi_wp2
      go_end0
      exact ⟨⟨_, rfl⟩, .inl ⟨_, rfl, HJi.out⟩⟩
end Go.Proofs.Ytgajdmefflndmaa
