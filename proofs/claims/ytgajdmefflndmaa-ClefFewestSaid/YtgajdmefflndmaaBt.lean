/- The law's helper lines; what the best clef is, in plain words. -/
import Derived.Test.YtgajdmefflndmaaBs
namespace Go.Proofs.Ytgajdmefflndmaa
open Go.RowKit

set_option maxRecDepth 100000 in
set_option maxHeartbeats 2000000 in
theorem lines_any (st ln key : Int) (A : Option Addr) (n c : Nat) (ps : List Pt) (w : World) (hc : Vc st ln) (k1 : 0 ≤ key) (k2 : key ≤ 2) (hx : Pts w A n ps) (hn : n ≤ 1000) (hv : ∀ k, k < n → Vp (ptAt ps k).1 (ptAt ps k).2.1 (ptAt ps k).2.2) :
    Calls Try.prog 28 #[.agg #[.int .i64 st, .int .i64 ln], .int .i64 key, .slice A n c] w fun e w' => (Fit (low st ln) (nums ps) ∧ e = .returned (.tuple #[.int .i64 (lsum (low st ln) (nums ps) n), .bool true]) ∨ ¬ Fit (low st ln) (nums ps) ∧ e = .returned (.tuple #[.int .i64 0, .bool false])) ∧ Kp w w' := by
  obtain ⟨b1, b2⟩ := low_bd hc
  have HC := Lib.hid hc
  have HX := Lib.hid hx
  have HV := Lib.hid hv
  have hl := hx.1
  have HL : Hid ((nums ps).length = n) := by rw [nums_len]; exact hl
  have HL' := Lib.hid hl
  clear hc hx hv hl
  go_enter Try.func28, Try.ntmps28
  go_wp2_with fail
  go_loopw [8, 9] (fun s i wr => ∃ k : Nat, k ≤ n ∧ i = .int .i64 (k : Int) ∧ s = .int .i64 (lsum (low st ln) (nums ps) k) ∧ (∀ j, j < k → -4 ≤ (nums ps).getD j 0 - low st ln ∧ (nums ps).getD j 0 - low st ln ≤ 12) ∧ Kp w wr ∧ wr.cell? ⟨w.heap.size, 0, none⟩ = some (.int .i64 st) ∧ wr.cell? ⟨w.heap.size, 1, none⟩ = some (.int .i64 ln)) (fun _ i _ => n - (intOf i).toNat)
  case atStart => exact ⟨0, by omega, rfl, by rw [lsum_zero], fun j hj => absurd hj (by omega), by repeat (first | exact Kp.refl _ | with_reducible assumption | with_reducible refine Kp.set ?_ _ _ ?_ | (dsimp only; omega) | with_reducible refine Kp.drew ?_ | with_reducible refine Kp.drewN ?_ _ | with_reducible refine Kp.al ?_ _ | with_reducible refine Kp.trans ?_ (by with_reducible assumption)), by simp [go_sem], by simp [go_sem]⟩
  case round =>
    obtain ⟨k, hk, rfl, rfl, hf, hK, q0, q1⟩ := hrel
    have HF := Lib.hid hf
    have ls := lsum_bd (low st ln) (nums ps) k (by have := HL.out; omega) hf
    obtain ⟨ls1, ls2⟩ := ls
    clear hf
    by_cases hlt : k < n
    · obtain ⟨b, off, rfl, e0, e1, e2⟩ := (HX.out.kp hK).2 k hlt
      obtain ⟨v1, v2, v3, v4, v5, v6⟩ := HV.out k hlt
      obtain ⟨s, es⟩ : ∃ s, s = (ptAt ps k).1 := ⟨_, rfl⟩
      obtain ⟨o, eo⟩ : ∃ o, o = (ptAt ps k).2.1 := ⟨_, rfl⟩
      obtain ⟨a, ea⟩ : ∃ a, a = (ptAt ps k).2.2 := ⟨_, rfl⟩
      rw [← es] at e0 v1 v2
      rw [← eo] at e1 v3 v4
      rw [← ea] at e2 v5 v6
      have EX : Hid ((nums ps).getD k 0 = 7 * o + s) := by rw [nums_at _ _ (by have := HL'.out; omega), es, eo]; exact rfl
      clear es eo ea
      have hd : decide ((k : Int) < (n : Int)) = true := by simp; omega
      by_cases hfit : -4 ≤ 7 * o + s - low st ln ∧ 7 * o + s - low st ln ≤ 12
      · obtain ⟨l1, l2⟩ := led_bd _ hfit.1 hfit.2
        obtain ⟨f1, f2⟩ := hfit
        have cp := fun w => cplace_ok st ln key s o a w HC.out k1 k2 v1 v2 v3 v4 v5 v6 f1 f2
        obtain ⟨pl, epl⟩ : ∃ pl, pl = 7 * o + s - low st ln := ⟨_, rfl⟩
        obtain ⟨ac, eac⟩ : ∃ ac, ac = accOf key s a := ⟨_, rfl⟩
        rw [← epl] at cp f1 f2 l1 l2
        rw [← eac] at cp
        have CP := Lib.hid cp
        have EP := Lib.hid epl
        clear cp epl eac
        go_wp2_with fail
        go_region_held3 (fun w' => w'.cell? ⟨w.heap.size, 0, none⟩ = some (.int .i64 st) ∧ w'.cell? ⟨w.heap.size, 1, none⟩ = some (.int .i64 ln) ∧ w'.cell? ⟨b, off + k * 3, none⟩ = some (.int .i64 s) ∧ w'.cell? ⟨b, off + k * 3 + 1, none⟩ = some (.int .i64 o) ∧ w'.cell? ⟨b, off + k * 3 + 2, none⟩ = some (.int .i64 a))
          (((try dsimp only); (repeat' apply And.intro) <;> (repeat (first | with_reducible assumption | with_reducible refine cell_drew ?_ | with_reducible refine cell_drewN ?_ | with_reducible refine Kp.get (by with_reducible assumption) ?_))))
          ((go_at_call 10; refine (CP.out _).mono ?_; rintro e wx ⟨rfl, hkx⟩))
        have Kx : Kp wr wx := by repeat (first | exact Kp.refl _ | with_reducible assumption | with_reducible refine Kp.set ?_ _ _ ?_ | (dsimp only; omega) | with_reducible refine Kp.drew ?_ | with_reducible refine Kp.drewN ?_ _ | with_reducible refine Kp.al ?_ _ | with_reducible refine Kp.trans ?_ (by with_reducible assumption))
        have g0 := Kx.get e0
        have g1 := Kx.get e1
        have g2 := Kx.get e2
        have r0 := Kx.get q0
        have r1 := Kx.get q1
        have KX := hK.trans Kx
        clear e0 e1 e2 q0 q1 hkx Kx hK
        go_wp2_with fail
        refine (ledgers_ok _ _ f1 f2).mono ?_
        rintro e _ ⟨rfl, rfl⟩
        go_wp2_with fail
        refine (check_ok _ _ _ _ v1 v2 v3 v4 v5 v6).mono ?_
        rintro e wy ⟨rfl, hky⟩
        have r0' := hky.get r0
        have r1' := hky.get r1
        clear r0 r1 g0 g1 g2
        go_wp2_with fail
        go_roundw
        case rel => exact ⟨k + 1, by omega, by go_num, by rw [lsum_succ _ _ _ (by have := HL.out; omega), EX.out, ← EP.out], fun j hj => by
          by_cases hjk : j < k
          · exact HF.out j hjk
          · obtain rfl : j = k := by omega
            rw [EX.out, ← EP.out]; exact ⟨f1, f2⟩, by repeat (first | exact Kp.refl _ | with_reducible assumption | with_reducible refine Kp.set ?_ _ _ ?_ | (dsimp only; omega) | with_reducible refine Kp.drew ?_ | with_reducible refine Kp.drewN ?_ _ | with_reducible refine Kp.al ?_ _ | with_reducible refine Kp.trans ?_ (by with_reducible assumption)), r0', r1'⟩
        case measure => simp [intOf]; omega
      · have hno : Hid (¬ Fit (low st ln) (nums ps)) := fun hF => hfit (by have := hF k (by have := HL.out; omega); rw [EX.out] at this; exact this)
        have CP := Lib.hid (fun w => cplace_e3 st ln key s o a w HC.out k1 k2 v1 v2 v3 v4 v5 v6 (by omega))
        clear hfit
        go_wp2_with fail
        go_region_held3 (fun w' => w'.cell? ⟨w.heap.size, 0, none⟩ = some (.int .i64 st) ∧ w'.cell? ⟨w.heap.size, 1, none⟩ = some (.int .i64 ln) ∧ w'.cell? ⟨b, off + k * 3, none⟩ = some (.int .i64 s) ∧ w'.cell? ⟨b, off + k * 3 + 1, none⟩ = some (.int .i64 o) ∧ w'.cell? ⟨b, off + k * 3 + 2, none⟩ = some (.int .i64 a))
          (((try dsimp only); (repeat' apply And.intro) <;> (repeat (first | with_reducible assumption | with_reducible refine cell_drew ?_ | with_reducible refine cell_drewN ?_ | with_reducible refine Kp.get (by with_reducible assumption) ?_))))
          ((go_at_call 10; refine (CP.out _).mono ?_; rintro e wx ⟨rfl, hkx⟩))
        have Kx : Kp wr wx := by repeat (first | exact Kp.refl _ | with_reducible assumption | with_reducible refine Kp.set ?_ _ _ ?_ | (dsimp only; omega) | with_reducible refine Kp.drew ?_ | with_reducible refine Kp.drewN ?_ _ | with_reducible refine Kp.al ?_ _ | with_reducible refine Kp.trans ?_ (by with_reducible assumption))
        clear e0 e1 e2 q0 q1 hkx
        go_wp2_with fail
        refine (ledgers_ok _ _ (by omega) (by omega)).mono ?_
        rintro e _ ⟨rfl, rfl⟩
        go_wp2_with fail
        go_ret2
        exact ⟨.inr ⟨hno.out, rfl⟩, by repeat (first | exact Kp.refl _ | with_reducible assumption | with_reducible refine Kp.set ?_ _ _ ?_ | (dsimp only; omega) | with_reducible refine Kp.drew ?_ | with_reducible refine Kp.drewN ?_ _ | with_reducible refine Kp.al ?_ _ | with_reducible refine Kp.trans ?_ (by with_reducible assumption))⟩
    · have hd : decide ((k : Int) < (n : Int)) = false := by simp; omega
      obtain rfl : k = n := by omega
      have hyes : Hid (Fit (low st ln) (nums ps)) := fun j hj => HF.out j (by have := HL.out; omega)
      go_wp2_with fail
      go_ret2
      exact ⟨.inl ⟨hyes.out, rfl⟩, by repeat (first | exact Kp.refl _ | with_reducible assumption | with_reducible refine Kp.set ?_ _ _ ?_ | (dsimp only; omega) | with_reducible refine Kp.drew ?_ | with_reducible refine Kp.drewN ?_ _ | with_reducible refine Kp.al ?_ _ | with_reducible refine Kp.trans ?_ (by with_reducible assumption))⟩

set_option maxRecDepth 100000 in
set_option maxHeartbeats 2000000 in
/-- Under a clef that is not valid. -/
theorem lines_bad (key : Int) (A : Option Addr) (n c : Nat) (ps : List Pt) (w : World) (hx : Pts w A n ps) (h1 : 1 ≤ n) :
    Calls Try.prog 28 #[.agg #[.int .i64 0, .int .i64 0], .int .i64 key, .slice A n c] w fun e w' => e = .returned (.tuple #[.int .i64 0, .bool false]) ∧ Kp w w' := by
  have HX := Lib.hid hx
  clear hx
  go_enter Try.func28, Try.ntmps28
  go_wp2_with fail
  go_loopw [9] (fun i wr => i = .int .i64 (0 : Int) ∧ Kp w wr ∧ wr.cell? ⟨w.heap.size, 0, none⟩ = some (.int .i64 0) ∧ wr.cell? ⟨w.heap.size, 1, none⟩ = some (.int .i64 0)) (fun _ _ => 0)
  case atStart => exact ⟨rfl, by repeat (first | exact Kp.refl _ | with_reducible assumption | with_reducible refine Kp.set ?_ _ _ ?_ | (dsimp only; omega) | with_reducible refine Kp.drew ?_ | with_reducible refine Kp.drewN ?_ _ | with_reducible refine Kp.al ?_ _ | with_reducible refine Kp.trans ?_ (by with_reducible assumption)), by simp [go_sem], by simp [go_sem]⟩
  case round =>
    obtain ⟨rfl, hK, q0, q1⟩ := hrel
    obtain ⟨b, off, rfl, e0, e1, e2⟩ := (HX.out.kp hK).2 0 h1
    rw [Nat.zero_mul, Nat.add_zero] at e0 e1 e2
    obtain ⟨s, es⟩ : ∃ s, s = (ptAt ps 0).1 := ⟨_, rfl⟩
    obtain ⟨o, eo⟩ : ∃ o, o = (ptAt ps 0).2.1 := ⟨_, rfl⟩
    obtain ⟨a, ea⟩ : ∃ a, a = (ptAt ps 0).2.2 := ⟨_, rfl⟩
    rw [← es] at e0
    rw [← eo] at e1
    rw [← ea] at e2
    clear es eo ea
    have cp := fun w => cplace_e1 0 0 key s o a w (fun h => by have := h.1; unfold Vc at this; omega)
    have hk : kerr 0 0 key = 2 := by rfl
    rw [hk] at cp
    have CP := Lib.hid cp
    clear cp hk
    have hd : decide ((0 : Int) < (n : Int)) = true := by simp; omega
    go_wp2_with fail
    go_region_held3 (fun w' => w'.cell? ⟨w.heap.size, 0, none⟩ = some (.int .i64 0) ∧ w'.cell? ⟨w.heap.size, 1, none⟩ = some (.int .i64 0) ∧ w'.cell? ⟨b, off, none⟩ = some (.int .i64 s) ∧ w'.cell? ⟨b, off + 1, none⟩ = some (.int .i64 o) ∧ w'.cell? ⟨b, off + 2, none⟩ = some (.int .i64 a))
      (((try dsimp only); (repeat' apply And.intro) <;> (repeat (first | with_reducible assumption | with_reducible refine cell_drew ?_ | with_reducible refine cell_drewN ?_ | with_reducible refine Kp.get (by with_reducible assumption) ?_))))
      ((go_at_call 10; refine (CP.out _).mono ?_; rintro e wx ⟨rfl, hkx⟩))
    have Kx : Kp wr wx := by repeat (first | exact Kp.refl _ | with_reducible assumption | with_reducible refine Kp.set ?_ _ _ ?_ | (dsimp only; omega) | with_reducible refine Kp.drew ?_ | with_reducible refine Kp.drewN ?_ _ | with_reducible refine Kp.al ?_ _ | with_reducible refine Kp.trans ?_ (by with_reducible assumption))
    clear e0 e1 e2 q0 q1 hkx
    go_wp2_with fail
    refine (ledgers_ok _ _ (by omega) (by omega)).mono ?_
    rintro e _ ⟨rfl, rfl⟩
    go_wp2_with fail
    go_ret2
    exact ⟨rfl, by repeat (first | exact Kp.refl _ | with_reducible assumption | with_reducible refine Kp.set ?_ _ _ ?_ | (dsimp only; omega) | with_reducible refine Kp.drew ?_ | with_reducible refine Kp.drewN ?_ _ | with_reducible refine Kp.al ?_ _ | with_reducible refine Kp.trans ?_ (by with_reducible assumption))⟩
end Go.Proofs.Ytgajdmefflndmaa
