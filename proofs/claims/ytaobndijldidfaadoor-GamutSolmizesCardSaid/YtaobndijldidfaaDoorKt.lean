/- Small words used in all contracts: what was there before a call is there behind it (Kp). -/
import Derived.Test.YtaobndijldidfaaDoorProg
import Derived.WalkKit
import Derived.Deep.QuietTactic
import Derived.BigQuiet
import Derived.RegionTactic
import Derived.BigRegion
import Derived.Lib.Hide
import Derived.Outline
import Derived.WalkSmall
import Derived.LoopN
import Derived.Deep.RegionWith
import Derived.Deep.RegionHeld3
import Derived.Deep.DeepCutAuto
import Derived.Deep.LoopGhost
import Derived.WalkSpells
import Derived.WalkLawsBesides
namespace Go.Proofs.YtaobndijldidfaaDoor
open Go.RowKit

/-- All that was there is as it was. -/
def Kp (w w' : World) : Prop := Below w.heap.size w w'
theorem Kp.refl (w : World) : Kp w w := Below.refl _ _
theorem Kp.trans {a b c : World} (h : Kp a b) (k : Kp b c) : Kp a c := Below.trans h (Below.mono k h.size)
theorem Kp.al {a b : World} (h : Kp a b) (o : Obj) : Kp a (b.alloc o) := Below.alloc h h.size o
theorem Kp.drew {a b : World} (h : Kp a b) : Kp a b.drew := Below.drew h
theorem Kp.drewN {a b : World} (h : Kp a b) (n : Nat) : Kp a (b.drewN n) := below_drewN h n
theorem Kp.set {a b : World} (h : Kp a b) (p : Addr) (v : Value) (hp : a.heap.size ≤ p.block) : Kp a (b.setCell p v) := Below.setCell h hp v
theorem Kp.low {a b : World} (h : Kp a b) : a.heap.size ≤ b.heap.size := h.size
theorem Kp.cells {W w1 : World} (hb : Kp W w1) : (∀ b o, b < W.heap.size → w1.cell? ⟨b, o, none⟩ = W.cell? ⟨b, o, none⟩) ∧ (∀ b o, b < W.heap.size → w1.frozen? ⟨b, o, none⟩ = W.frozen? ⟨b, o, none⟩) :=
  ⟨fun b o h => Below.cell hb (p := ⟨b, o, none⟩) h, fun b o h => Below.frozen hb (p := ⟨b, o, none⟩) h⟩

theorem cell_lt {w : World} {b o : Nat} {v : Value} (h : w.cell? ⟨b, o, none⟩ = some v) : b < w.heap.size := by
  by_cases hb : b < w.heap.size
  · exact hb
  · have e : w.heap[b]? = none := by simp; omega
    simp [World.cell?, e] at h
theorem Kp.get {W w1 : World} (hb : Kp W w1) {b o : Nat} {v : Value} (h : W.cell? ⟨b, o, none⟩ = some v) : w1.cell? ⟨b, o, none⟩ = some v := by
  rw [hb.cells.1 b o (cell_lt h)]; exact h
theorem Kp.free {W w1 : World} (hb : Kp W w1) {b o : Nat} {v : Value} (h : W.cell? ⟨b, o, none⟩ = some v) (hf : W.frozen? ⟨b, o, none⟩ = false) : w1.frozen? ⟨b, o, none⟩ = false := by
  rw [hb.cells.2 b o (cell_lt h)]; exact hf

theorem cell_al {w : World} {b o : Nat} {v : Value} {x : Obj} (h : w.cell? ⟨b, o, none⟩ = some v) : (w.alloc x).cell? ⟨b, o, none⟩ = some v := Kp.get ((Kp.refl w).al x) h
theorem cell_drew {w : World} {b o : Nat} {v : Value} (h : w.cell? ⟨b, o, none⟩ = some v) : w.drew.cell? ⟨b, o, none⟩ = some v := Kp.get ((Kp.refl w).drew) h
theorem cell_drewN {w : World} {b o n : Nat} {v : Value} (h : w.cell? ⟨b, o, none⟩ = some v) : (w.drewN n).cell? ⟨b, o, none⟩ = some v := Kp.get ((Kp.refl w).drewN n) h
theorem cell_set {w : World} {b o : Nat} {v : Value} {p : Addr} {x : Value} (hp : p ≠ ⟨b, o, none⟩) (h : w.cell? ⟨b, o, none⟩ = some v) : (w.setCell p x).cell? ⟨b, o, none⟩ = some v := (World.cell?_setCell_other w p _ x hp).trans h

/-- A cell of the call's own: what it holds, and that it may be written. -/
def Ow (w : World) (b o : Nat) (v : Value) : Prop := w.cell? ⟨b, o, none⟩ = some v ∧ w.frozen? ⟨b, o, none⟩ = false
theorem Ow.kp {w w' : World} {b o : Nat} {v : Value} (h : Ow w b o v) (k : Kp w w') : Ow w' b o v := ⟨k.get h.1, k.free h.1 h.2⟩

theorem Kp.own {W w1 : World} (hb : Kp W w1) {b o : Nat} {v : Value} (h : W.cell? ⟨b, o, none⟩ = some v) (hf : W.frozen? ⟨b, o, none⟩ = false) : w1.cell? ⟨b, o, none⟩ = some v ∧ w1.frozen? ⟨b, o, none⟩ = false := ⟨hb.get h, hb.free h hf⟩

theorem ret_int {k : IntKind} {a b : Int} (h : a = b) : Ending.returned (.int k a) = .returned (.int k b) := by rw [h]
theorem ret_bool {a b : Bool} (h : a = b) : Ending.returned (.bool a) = .returned (.bool b) := by rw [h]
end Go.Proofs.YtaobndijldidfaaDoor
