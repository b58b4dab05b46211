/- Contract of tactusref03.Text. -/
import Derived.Test.YtmmpjajjebljpaaDoorRb
namespace Go.Proofs.YtmmpjajjebljpaaDoor
open Go.RowKit

theorem sl_letters (s : Nat) (h : s ≤ 6) (w : World) : (Instr.slice 9 (.string ⟨#[99, 100, 101, 102, 103, 97, 98]⟩) (some (.int .i64 (s : Int))) (some (.int .i64 ((s : Int) + 1))) none).run Tryd.prog w = .ok (.string (strOfNums [ltr s])) w := by
  have : s = 0 ∨ s = 1 ∨ s = 2 ∨ s = 3 ∨ s = 4 ∨ s = 5 ∨ s = 6 := by omega
  rcases this with rfl | rfl | rfl | rfl | rfl | rfl | rfl <;> (show Sem.run _ _ _ = _; kernel_rfl)
theorem sl_digits (s : Nat) (h : s ≤ 8) (w : World) : (Instr.slice 9 (.string ⟨#[48, 49, 50, 51, 52, 53, 54, 55, 56]⟩) (some (.int .i64 (s : Int))) (some (.int .i64 ((s : Int) + 1))) none).run Tryd.prog w = .ok (.string (strOfNums [48 + (s : Int)])) w := by
  have : s = 0 ∨ s = 1 ∨ s = 2 ∨ s = 3 ∨ s = 4 ∨ s = 5 ∨ s = 6 ∨ s = 7 ∨ s = 8 := by omega
  rcases this with rfl | rfl | rfl | rfl | rfl | rfl | rfl | rfl | rfl <;> (show Sem.run _ _ _ = _; kernel_rfl)
/-- One letter, an alteration, one digit. -/
def tx1 (s : Nat) (b : ByteArray) : ByteArray := strOfNums [ltr s] ++ b
theorem cat1 (s : Nat) (b : ByteArray) (hb : b.size ≤ 1) (w : World) : (Op.stringOp .add (strOfNums [ltr s]) b).run Tryd.prog w = .ok (.string (tx1 s b)) w := run_string_add w _ _ (by simp [strOfNums, ByteArray.size]) (by omega)
theorem cat2 (s : Nat) (b : ByteArray) (o : Nat) (hb : b.size ≤ 1) (w : World) : (Op.stringOp .add (tx1 s b) (strOfNums [48 + (o : Int)])).run Tryd.prog w = .ok (.string (tx1 s b ++ strOfNums [48 + (o : Int)])) w := by
  have e : (tx1 s b).size = 1 + b.size := by unfold tx1; rw [ByteArray.size_append]; rfl
  exact run_string_add w _ _ (by rw [e]; omega) (by simp [strOfNums, ByteArray.size])
theorem tx_is (s o : Nat) (a : Int) (b : ByteArray) (h : (a = 0 ∧ b = ⟨#[]⟩) ∨ (a = 1 ∧ b = ⟨#[35]⟩) ∨ (a = -1 ∧ b = ⟨#[98]⟩)) : tx1 s b ++ strOfNums [48 + (o : Int)] = ptx s o a := by
  rcases h with ⟨rfl, rfl⟩ | ⟨rfl, rfl⟩ | ⟨rfl, rfl⟩ <;> simp [tx1, ptx, strOfNums, ByteArray.mk_append_mk]
end Go.Proofs.YtmmpjajjebljpaaDoor
