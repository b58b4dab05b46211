/- Contract of tactusref06.needs. -/
import Derived.Test.YtgajdmefflndmaaBg
namespace Go.Proofs.Ytgajdmefflndmaa
open Go.RowKit

/-- A slice that reads as a list of pitches. -/
abbrev Pt := Int × Int × Int
def ptAt (ps : List Pt) (k : Nat) : Pt := ps.getD k (0, 0, 0)
def Pts (w : World) (A : Option Addr) (n : Nat) (ps : List Pt) : Prop := ps.length = n ∧ ∀ k, k < n → ∃ b off, A = some ⟨b, off, none⟩ ∧ w.cell? ⟨b, off + k * 3, none⟩ = some (.int .i64 (ptAt ps k).1) ∧ w.cell? ⟨b, off + k * 3 + 1, none⟩ = some (.int .i64 (ptAt ps k).2.1) ∧ w.cell? ⟨b, off + k * 3 + 2, none⟩ = some (.int .i64 (ptAt ps k).2.2)
theorem Pts.kp {w w' : World} {A : Option Addr} {n : Nat} {ps : List Pt} (h : Pts w A n ps) (k : Kp w w') : Pts w' A n ps :=
  ⟨h.1, fun j hj => by obtain ⟨b, off, e, c0, c1, c2⟩ := h.2 j hj; exact ⟨b, off, e, k.get c0, k.get c1, k.get c2⟩⟩
/-- The numbers of pitches. -/
def nums (ps : List Pt) : List Int := ps.map fun p => 7 * p.2.1 + p.1
theorem nums_len (ps : List Pt) : (nums ps).length = ps.length := by simp [nums]
theorem nums_at (ps : List Pt) (k : Nat) (h : k < ps.length) : (nums ps).getD k 0 = 7 * (ptAt ps k).2.1 + (ptAt ps k).1 := by simp [nums, ptAt, h]

set_option maxHeartbeats 1000000 in
theorem rneeds_any (st ln : Int) (A : Option Addr) (n c : Nat) (ps : List Pt) (w : World) (hc : Vc st ln) (hx : Pts w A n ps) (hn : n ≤ 1000) (hv : ∀ k, k < n → Vp (ptAt ps k).1 (ptAt ps k).2.1 (ptAt ps k).2.2) :
    Calls Try.prog 42 #[.agg #[.int .i64 st, .int .i64 ln], .slice A n c] w fun e w' => (Fit (low st ln) (nums ps) ∧ e = .returned (.tuple #[.int .i64 (lsum (low st ln) (nums ps) n), .bool true]) ∨ ¬ Fit (low st ln) (nums ps) ∧ e = .returned (.tuple #[.int .i64 0, .bool false])) ∧ Kp w w' := by
  obtain ⟨b1, b2⟩ := low_bd hc
  have HC := Lib.hid hc
  have HX := Lib.hid hx
  have HV := Lib.hid hv
  have hl := hx.1
  have HL : Hid ((nums ps).length = n) := by rw [nums_len]; exact hl
  have HL' := Lib.hid hl
  clear hc hx hv hl
  go_enter Try.func42, Try.ntmps42
  go_wp2_with fail
  go_loopw [6, 7] (fun s i wr => ∃ k : Nat, k ≤ n ∧ i = .int .i64 (k : Int) ∧ s = .int .i64 (lsum (low st ln) (nums ps) k) ∧ (∀ j, j < k → -4 ≤ (nums ps).getD j 0 - low st ln ∧ (nums ps).getD j 0 - low st ln ≤ 12) ∧ Kp w wr ∧ wr.cell? ⟨w.heap.size, 0, none⟩ = some (.int .i64 st) ∧ wr.cell? ⟨w.heap.size, 1, none⟩ = some (.int .i64 ln)) (fun _ i _ => n - (intOf i).toNat)
  case atStart => exact ⟨0, by omega, rfl, by rw [lsum_zero], fun j hj => absurd hj (by omega), by repeat (first | exact Kp.refl _ | with_reducible assumption | with_reducible refine Kp.set ?_ _ _ ?_ | (dsimp only; omega) | with_reducible refine Kp.drew ?_ | with_reducible refine Kp.drewN ?_ _ | with_reducible refine Kp.al ?_ _ | with_reducible refine Kp.trans ?_ (by with_reducible assumption)), by simp [go_sem], by simp [go_sem]⟩
  case round =>
    obtain ⟨k, hk, rfl, rfl, hf, hK, q0, q1⟩ := hrel
    have HF := Lib.hid hf
    have ls := lsum_bd (low st ln) (nums ps) k (by have := HL.out; omega) hf
    obtain ⟨ls1, ls2⟩ := ls
    clear hf
    by_cases hlt : k < n
    · obtain ⟨b, off, rfl, e0, e1, e2⟩ := (HX.out.kp hK).2 k hlt
      obtain ⟨v1, v2, v3, v4, v5, v6⟩ := HV.out k hlt
      obtain ⟨s, es⟩ : ∃ s, s = (ptAt ps k).1 := ⟨_, rfl⟩
      obtain ⟨o, eo⟩ : ∃ o, o = (ptAt ps k).2.1 := ⟨_, rfl⟩
      rw [← es] at e0 v1 v2
      rw [← eo] at e1 v3 v4
      have EX : Hid ((nums ps).getD k 0 = 7 * o + s) := by rw [nums_at _ _ (by have := HL'.out; omega), es, eo]; exact rfl
      clear es eo v5 v6 e2
      have hd : decide ((k : Int) < (n : Int)) = true := by simp; omega
      go_wp2_with fail
      have i1 : IntKind.i64.wrap (7 * o) = 7 * o := IntWalk.i64_in _ (by omega)
      have i2 : IntKind.i64.wrap (7 * o + s) = 7 * o + s := IntWalk.i64_in _ (by omega)
      have i3 : IntKind.i64.wrap (7 * o + s - low st ln) = 7 * o + s - low st ln := IntWalk.i64_in _ (by omega)
      go_region_held3 (fun w' => w'.cell? ⟨w.heap.size, 0, none⟩ = some (.int .i64 st) ∧ w'.cell? ⟨w.heap.size, 1, none⟩ = some (.int .i64 ln) ∧ w'.cell? ⟨b, off + k * 3, none⟩ = some (.int .i64 s) ∧ w'.cell? ⟨b, off + k * 3 + 1, none⟩ = some (.int .i64 o))
        (((try dsimp only); (repeat' apply And.intro) <;> (repeat (first | with_reducible assumption | with_reducible refine cell_drew ?_ | with_reducible refine cell_drewN ?_ | with_reducible refine Kp.get (by with_reducible assumption) ?_))))
        (first | (go_at_call 36; refine (rlow_ok _ _ _ HC.out).mono ?_; rintro e w1 ⟨rfl, hb1⟩))
      clear i1 i2 i3
      have K1 : Kp wr w1 := by repeat (first | exact Kp.refl _ | with_reducible assumption | with_reducible refine Kp.set ?_ _ _ ?_ | (dsimp only; omega) | with_reducible refine Kp.drew ?_ | with_reducible refine Kp.drewN ?_ _ | with_reducible refine Kp.al ?_ _ | with_reducible refine Kp.trans ?_ (by with_reducible assumption))
      have r0 := K1.get q0
      have r1 := K1.get q1
      have K2 := hK.trans K1
      clear hb1 q0 q1 hK e0 e1 K1
      by_cases hfit : -4 ≤ 7 * o + s - low st ln ∧ 7 * o + s - low st ln ≤ 12
      · obtain ⟨l1, l2⟩ := led_bd _ hfit.1 hfit.2
        obtain ⟨f1, f2⟩ := hfit
        go_wp2_with fail
        refine (ron_yes _ _ f1 f2).mono ?_
        rintro e _ ⟨rfl, rfl⟩
        go_wp2_with fail
        refine (rleds_ok _ _ f1 f2).mono ?_
        rintro e _ ⟨rfl, rfl⟩
        go_wp2_with fail
        go_roundw
        case rel => exact ⟨k + 1, by omega, by go_num, by rw [lsum_succ _ _ _ (by have := HL.out; omega), EX.out], fun j hj => by
          by_cases hjk : j < k
          · exact HF.out j hjk
          · obtain rfl : j = k := by omega
            rw [EX.out]; exact ⟨f1, f2⟩, K2, r0, r1⟩
        case measure => simp [intOf]; omega
      · have hno : Hid (¬ Fit (low st ln) (nums ps)) := fun hF => hfit (by have := hF k (by have := HL.out; omega); rw [EX.out] at this; exact this)
        have hf' : Hid (7 * o + s - low st ln < -4 ∨ 12 < 7 * o + s - low st ln) := by show _ ∨ _; omega
        clear hfit
        go_wp2_with fail
        refine (ron_no _ _ hf'.out).mono ?_
        rintro e _ ⟨rfl, rfl⟩
        go_wp2_with fail
        go_ret2
        exact ⟨.inr ⟨hno.out, rfl⟩, by repeat (first | exact Kp.refl _ | with_reducible assumption | with_reducible refine Kp.set ?_ _ _ ?_ | (dsimp only; omega) | with_reducible refine Kp.drew ?_ | with_reducible refine Kp.drewN ?_ _ | with_reducible refine Kp.al ?_ _ | with_reducible refine Kp.trans ?_ (by with_reducible assumption))⟩
    · have hd : decide ((k : Int) < (n : Int)) = false := by simp; omega
      obtain rfl : k = n := by omega
      have hyes : Hid (Fit (low st ln) (nums ps)) := fun j hj => HF.out j (by have := HL.out; omega)
      go_wp2_with fail
      go_ret2
      exact ⟨.inl ⟨hyes.out, rfl⟩, by repeat (first | exact Kp.refl _ | with_reducible assumption | with_reducible refine Kp.set ?_ _ _ ?_ | (dsimp only; omega) | with_reducible refine Kp.drew ?_ | with_reducible refine Kp.drewN ?_ _ | with_reducible refine Kp.al ?_ _ | with_reducible refine Kp.trans ?_ (by with_reducible assumption))⟩
end Go.Proofs.Ytgajdmefflndmaa
