/- Contracts of clef.need and tactusref06.needs. -/
import Derived.Test.YtgajdmefflndmaaBf
namespace Go.Proofs.Ytgajdmefflndmaa
open Go.RowKit

/-- A slice that reads as a list of integers. -/
def Ints (w : World) (A : Option Addr) (n : Nat) (xs : List Int) : Prop := xs.length = n ∧ ∀ k, k < n → ∃ b off, A = some ⟨b, off, none⟩ ∧ w.cell? ⟨b, off + k, none⟩ = some (.int .i64 (xs.getD k 0))
theorem Ints.kp {w w' : World} {A : Option Addr} {n : Nat} {xs : List Int} (h : Ints w A n xs) (k : Kp w w') : Ints w' A n xs :=
  ⟨h.1, fun j hj => by obtain ⟨b, off, e, hc⟩ := h.2 j hj; exact ⟨b, off, e, k.get hc⟩⟩
/-- All numbers have places, and the sum of their ledger lines. -/
def Fit (L : Int) (xs : List Int) : Prop := ∀ k, k < xs.length → -4 ≤ xs.getD k 0 - L ∧ xs.getD k 0 - L ≤ 12
def lsum (L : Int) (xs : List Int) (k : Nat) : Int := ((xs.take k).map fun n => led (n - L)).sum
theorem lsum_zero (L : Int) (xs : List Int) : lsum L xs 0 = 0 := by simp [lsum]
theorem lsum_succ (L : Int) (xs : List Int) (k : Nat) (h : k < xs.length) : lsum L xs (k + 1) = lsum L xs k + led (xs.getD k 0 - L) := by
  unfold lsum
  rw [List.take_succ_eq_append_getElem h, List.map_append, List.sum_append]
  simp [h]
theorem lsum_bd (L : Int) (xs : List Int) : ∀ k, k ≤ xs.length → (∀ j, j < k → -4 ≤ xs.getD j 0 - L ∧ xs.getD j 0 - L ≤ 12) → 0 ≤ lsum L xs k ∧ lsum L xs k ≤ 2 * k
  | 0, _, _ => by simp [lsum_zero]
  | k + 1, h, hf => by
    obtain ⟨i1, i2⟩ := lsum_bd L xs k (by omega) (fun j hj => hf j (by omega))
    obtain ⟨f1, f2⟩ := hf k (by omega)
    obtain ⟨l1, l2⟩ := led_bd _ f1 f2
    rw [lsum_succ _ _ _ (by omega)]
    omega

set_option maxHeartbeats 1000000 in
theorem need_any (st ln : Int) (A : Option Addr) (n c : Nat) (xs : List Int) (w : World) (hc : Vc st ln) (hx : Ints w A n xs) (hn : n ≤ 1000) (hv : ∀ k, k < n → 0 ≤ xs.getD k 0 ∧ xs.getD k 0 ≤ 62) :
    Calls Try.prog 40 #[.agg #[.int .i64 st, .int .i64 ln], .slice A n c] w fun e w' => (Fit (low st ln) xs ∧ e = .returned (.tuple #[.int .i64 (lsum (low st ln) xs n), .bool true]) ∨ ¬ Fit (low st ln) xs ∧ e = .returned (.tuple #[.int .i64 0, .bool false])) ∧ Kp w w' := by
  obtain ⟨b1, b2⟩ := low_bd hc
  have HC := Lib.hid hc
  have HX := Lib.hid hx
  have HV := Lib.hid hv
  have hl := hx.1
  have HL := Lib.hid hl
  clear hc hx hv hl
  go_enter Try.func40, Try.ntmps40
  go_wp2_with fail
  go_loopw [6, 13] (fun s i wr => ∃ k : Nat, k ≤ n ∧ i = .int .i64 (k : Int) ∧ s = .int .i64 (lsum (low st ln) xs k) ∧ (∀ j, j < k → -4 ≤ xs.getD j 0 - low st ln ∧ xs.getD j 0 - low st ln ≤ 12) ∧ Kp w wr ∧ wr.cell? ⟨w.heap.size, 0, none⟩ = some (.int .i64 st) ∧ wr.cell? ⟨w.heap.size, 1, none⟩ = some (.int .i64 ln)) (fun _ i _ => n - (intOf i).toNat)
  case atStart => exact ⟨0, by omega, rfl, by rw [lsum_zero], fun j hj => absurd hj (by omega), by repeat (first | exact Kp.refl _ | with_reducible assumption | with_reducible refine Kp.set ?_ _ _ ?_ | (dsimp only; omega) | with_reducible refine Kp.drew ?_ | with_reducible refine Kp.drewN ?_ _ | with_reducible refine Kp.al ?_ _ | with_reducible refine Kp.trans ?_ (by with_reducible assumption)), by simp [go_sem], by simp [go_sem]⟩
  case round =>
    obtain ⟨k, hk, rfl, rfl, hf, hK, q0, q1⟩ := hrel
    have HF := Lib.hid hf
    have ls := lsum_bd (low st ln) xs k (by have := HL.out; omega) hf
    obtain ⟨ls1, ls2⟩ := ls
    clear hf
    by_cases hlt : k < n
    · obtain ⟨b, off, rfl, hcell⟩ := (HX.out.kp hK).2 k hlt
      obtain ⟨v1, v2⟩ := HV.out k hlt
      obtain ⟨x, ex⟩ : ∃ x, x = xs.getD k 0 := ⟨_, rfl⟩
      rw [← ex] at hcell v1 v2
      have EX := Lib.hid ex
      clear ex
      have hd : decide ((k : Int) < (n : Int)) = true := by simp; omega
      go_wp2_with fail
      refine (low_ok _ _ _ HC.out).mono ?_
      rintro e w1 ⟨rfl, hb1⟩
      have K1 := hK.trans hb1
      have r0 := hb1.get q0
      have r1 := hb1.get q1
      clear hb1 q0 q1 hK hcell
      by_cases hfit : -4 ≤ x - low st ln ∧ x - low st ln ≤ 12
      · obtain ⟨l1, l2⟩ := led_bd _ hfit.1 hfit.2
        obtain ⟨f1, f2⟩ := hfit
        go_wp2_with fail
        refine (ledgers_ok _ _ f1 f2).mono ?_
        rintro e _ ⟨rfl, rfl⟩
        go_wp2_with fail
        go_roundw
        case rel => exact ⟨k + 1, by omega, by go_num, by rw [lsum_succ _ _ _ (by have := HL.out; omega), ← EX.out], fun j hj => by
          by_cases hjk : j < k
          · exact HF.out j hjk
          · obtain rfl : j = k := by omega
            rw [← EX.out]; exact ⟨f1, f2⟩, K1, r0, r1⟩
        case measure => simp [intOf]; omega
      · have hno : Hid (¬ Fit (low st ln) xs) := fun hF => hfit (by have := hF k (by have := HL.out; omega); rw [← EX.out] at this; exact this)
        have hf' : Hid (x - low st ln < -4 ∨ 12 < x - low st ln) := by show _ ∨ _; omega
        clear hfit
        go_wp2_with fail
        refine (ledgers_no _ _ hf'.out).mono ?_
        rintro e _ ⟨rfl, rfl⟩
        go_wp2_with fail
        go_ret2
        exact ⟨.inr ⟨hno.out, rfl⟩, by repeat (first | exact Kp.refl _ | with_reducible assumption | with_reducible refine Kp.set ?_ _ _ ?_ | (dsimp only; omega) | with_reducible refine Kp.drew ?_ | with_reducible refine Kp.drewN ?_ _ | with_reducible refine Kp.al ?_ _ | with_reducible refine Kp.trans ?_ (by with_reducible assumption))⟩
    · have hd : decide ((k : Int) < (n : Int)) = false := by simp; omega
      obtain rfl : k = n := by omega
      have hyes : Hid (Fit (low st ln) xs) := fun j hj => HF.out j (by have := HL.out; omega)
      go_wp2_with fail
      go_ret2
      exact ⟨.inl ⟨hyes.out, rfl⟩, by repeat (first | exact Kp.refl _ | with_reducible assumption | with_reducible refine Kp.set ?_ _ _ ?_ | (dsimp only; omega) | with_reducible refine Kp.drew ?_ | with_reducible refine Kp.drewN ?_ _ | with_reducible refine Kp.al ?_ _ | with_reducible refine Kp.trans ?_ (by with_reducible assumption))⟩
end Go.Proofs.Ytgajdmefflndmaa
