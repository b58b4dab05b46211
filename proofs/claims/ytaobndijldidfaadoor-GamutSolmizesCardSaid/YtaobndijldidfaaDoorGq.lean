/- named, SameInts, SameBools. -/
import Derived.Test.YtaobndijldidfaaDoorGp
set_option linter.unusedSimpArgs false
set_option linter.unusedVariables false
namespace Go.Proofs.YtaobndijldidfaaDoor
open Go.RowKit

def wantV : Array Value := #[.string ⟨#[71, 97, 109, 109, 97, 32, 117, 116]⟩, .string ⟨#[65, 32, 114, 101]⟩, .string ⟨#[66, 32, 109, 105]⟩, .string ⟨#[67, 32, 102, 97, 32, 117, 116]⟩, .string ⟨#[68, 32, 115, 111, 108, 32, 114, 101]⟩, .string ⟨#[69, 32, 108, 97, 32, 109, 105]⟩, .string ⟨#[70, 32, 102, 97, 32, 117, 116]⟩, .string ⟨#[71, 32, 115, 111, 108, 32, 114, 101, 32, 117, 116]⟩, .string ⟨#[97, 32, 108, 97, 32, 109, 105, 32, 114, 101]⟩, .string ⟨#[98, 32, 102, 97, 32, 98, 32, 109, 105]⟩, .string ⟨#[99, 32, 115, 111, 108, 32, 102, 97, 32, 117, 116]⟩, .string ⟨#[100, 32, 108, 97, 32, 115, 111, 108, 32, 114, 101]⟩, .string ⟨#[101, 32, 108, 97, 32, 109, 105]⟩, .string ⟨#[102, 32, 102, 97, 32, 117, 116]⟩, .string ⟨#[103, 32, 115, 111, 108, 32, 114, 101, 32, 117, 116]⟩, .string ⟨#[97, 97, 32, 108, 97, 32, 109, 105, 32, 114, 101]⟩, .string ⟨#[98, 98, 32, 102, 97, 32, 98, 98, 32, 109, 105]⟩, .string ⟨#[99, 99, 32, 115, 111, 108, 32, 102, 97]⟩, .string ⟨#[100, 100, 32, 108, 97, 32, 115, 111, 108]⟩, .string ⟨#[101, 101, 32, 108, 97]⟩]
theorem want_at : ∀ k, k < 20 → wantV[k]? = some (.string (nameS k)) := by
  intro k hk
  have hcase : k = 0 ∨ k = 1 ∨ k = 2 ∨ k = 3 ∨ k = 4 ∨ k = 5 ∨ k = 6 ∨ k = 7 ∨ k = 8 ∨ k = 9 ∨ k = 10 ∨ k = 11 ∨ k = 12 ∨ k = 13 ∨ k = 14 ∨ k = 15 ∨ k = 16 ∨ k = 17 ∨ k = 18 ∨ k = 19 := by omega
  rcases hcase with rfl | rfl | rfl | rfl | rfl | rfl | rfl | rfl | rfl | rfl | rfl | rfl | rfl | rfl | rfl | rfl | rfl | rfl | rfl | rfl
  · exact (by kernel_rfl : wantV[0]? = some (Value.string (nameS 0)))
  · exact (by kernel_rfl : wantV[1]? = some (Value.string (nameS 1)))
  · exact (by kernel_rfl : wantV[2]? = some (Value.string (nameS 2)))
  · exact (by kernel_rfl : wantV[3]? = some (Value.string (nameS 3)))
  · exact (by kernel_rfl : wantV[4]? = some (Value.string (nameS 4)))
  · exact (by kernel_rfl : wantV[5]? = some (Value.string (nameS 5)))
  · exact (by kernel_rfl : wantV[6]? = some (Value.string (nameS 6)))
  · exact (by kernel_rfl : wantV[7]? = some (Value.string (nameS 7)))
  · exact (by kernel_rfl : wantV[8]? = some (Value.string (nameS 8)))
  · exact (by kernel_rfl : wantV[9]? = some (Value.string (nameS 9)))
  · exact (by kernel_rfl : wantV[10]? = some (Value.string (nameS 10)))
  · exact (by kernel_rfl : wantV[11]? = some (Value.string (nameS 11)))
  · exact (by kernel_rfl : wantV[12]? = some (Value.string (nameS 12)))
  · exact (by kernel_rfl : wantV[13]? = some (Value.string (nameS 13)))
  · exact (by kernel_rfl : wantV[14]? = some (Value.string (nameS 14)))
  · exact (by kernel_rfl : wantV[15]? = some (Value.string (nameS 15)))
  · exact (by kernel_rfl : wantV[16]? = some (Value.string (nameS 16)))
  · exact (by kernel_rfl : wantV[17]? = some (Value.string (nameS 17)))
  · exact (by kernel_rfl : wantV[18]? = some (Value.string (nameS 18)))
  · exact (by kernel_rfl : wantV[19]? = some (Value.string (nameS 19)))

set_option maxRecDepth 100000 in
set_option maxHeartbeats 4000000 in
theorem named_ok (w : World) (ht0 : Tab w) :
    Calls Tryd.prog 31 #[] w fun e w' => e = .returned (.bool true) ∧ Kp w w' := by
  have HT := Lib.hid ht0
  have CN := Lib.hid (fun w => name_no 20 w (.inr (by omega)))
  clear ht0
  go_enter Tryd.func31, Tryd.ntmps31
  go_wp2_with fail
  obtain ⟨w1, ew1⟩ : ∃ w1 : World, w1 = w.alloc (.cells wantV 9) := ⟨_, rfl⟩
  have hB : Blk w1 w.heap.size 9 wantV := by rw [ew1]; exact Blk.new _ _ _
  have HK1 : Kp w w1 := by rw [ew1]; repeat (first | exact Kp.refl _ | with_reducible assumption | with_reducible refine Kp.set ?_ _ _ ?_ | (dsimp only; omega) | with_reducible refine Kp.drew ?_ | with_reducible refine Kp.drewN ?_ _ | with_reducible refine Kp.al ?_ _ | with_reducible refine Kp.trans ?_ (by with_reducible assumption))
  have ew2 := ew1
  unfold wantV at ew2
  rw [← ew2]
  clear ew1 ew2
  obtain ⟨g, eg⟩ : ∃ g, g = w.heap.size := ⟨_, rfl⟩
  rw [← eg] at hB ⊢
  have HB := Lib.hid hB
  clear hB eg
  go_loopw [2] (fun v wr => ∃ k : Nat, k ≤ 20 ∧ v = .int .i64 (k : Int) ∧ Kp w1 wr) (fun v _ => 20 - (intOf v).toNat)
  case atStart => exact ⟨0, by omega, rfl, Kp.refl _⟩
  case round =>
    obtain ⟨k, hk, rfl, hK⟩ := hrel
    by_cases hlt : k < 20
    · have hd : decide ((k : Int) < 20) = true := by simp; omega
      have hc : wr.cell? ⟨g, k, none⟩ = some (.string (nameS k)) := by rw [(HB.out.kp hK).cell, want_at k hlt]
      have CK := Lib.hid (fun w t => name_ok k (by omega) w t)
      obtain ⟨nm, enm⟩ : ∃ nm, nm = nameS k := ⟨_, rfl⟩
      rw [← enm] at hc CK
      have j1 : (0 : Int) ≤ (k : Int) := by omega
      have j2 : (k : Int) < 20 := by omega
      clear enm
      go_wp2_with fail
      refine (CK.out _ (HT.out.below (HK1.trans hK))).mono ?_
      rintro e w2 ⟨rfl, hb⟩
      have hc2 := hb.get hc
      have gl := cell_lt hc2
      clear hc
      go_wp2_with fail
      go_roundw
      case rel => exact ⟨k + 1, by omega, by go_num, by repeat (first | exact Kp.refl _ | with_reducible assumption | with_reducible refine Kp.set ?_ _ _ ?_ | (dsimp only; omega) | with_reducible refine Kp.drew ?_ | with_reducible refine Kp.drewN ?_ _ | with_reducible refine Kp.al ?_ _ | with_reducible refine Kp.trans ?_ (by with_reducible assumption))⟩
      case measure => simp [intOf]; omega
    · obtain rfl : k = 20 := by omega
      go_wp2_with fail
      refine (CN.out _).mono ?_
      rintro e _ ⟨rfl, rfl⟩
      go_wp2_with fail
      go_ret
      exact ⟨rfl, HK1.trans hK⟩
end Go.Proofs.YtaobndijldidfaaDoor
