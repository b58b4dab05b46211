/- Contracts of Ledgers and Moved, of the program and of the reference. -/
import Derived.Test.YtgajdmefflndmaaBd
namespace Go.Proofs.Ytgajdmefflndmaa
open Go.RowKit

/-- How many ledger lines a place needs. -/
def led (p : Int) : Int := if p < -1 then (-p) / 2 else if 9 < p then (p - 8) / 2 else 0
theorem led_bd (p : Int) (h1 : -4 ≤ p) (h2 : p ≤ 12) : 0 ≤ led p ∧ led p ≤ 2 := by unfold led; split <;> (try split) <;> omega
theorem ledgers_ok (p : Int) (w : World) (h1 : -4 ≤ p) (h2 : p ≤ 12) :
    Calls Try.prog 19 #[.int .i64 p] w fun e w' => e = .returned (.tuple #[.int .i64 (led p), .int .i64 0]) ∧ w = w' := by
  have hc : (p = -2 ∧ led p = 1) ∨ (p = -3 ∧ led p = 1) ∨ (p = -4 ∧ led p = 2) ∨ (-1 ≤ p ∧ 9 < p ∧ led p = (p - 8) / 2) ∨ (-1 ≤ p ∧ p ≤ 9 ∧ led p = 0) := by unfold led; split <;> (try split) <;> omega
  rcases hc with ⟨rfl, E⟩ | ⟨rfl, E⟩ | ⟨rfl, E⟩ | ⟨c1, c2, E⟩ | ⟨c1, c2, E⟩
  all_goals
    rw [E]
    clear E
    go_enter Try.func19, Try.ntmps19
    go_wp2_with fail
    refine (placed_yes _ _ h1 h2).mono ?_
    rintro e _ ⟨rfl, rfl⟩
    go_wp2_with fail
    go_ret2
    exact ⟨rfl, rfl⟩
theorem ledgers_no (p : Int) (w : World) (h : p < -4 ∨ 12 < p) :
    Calls Try.prog 19 #[.int .i64 p] w fun e w' => e = .returned (.tuple #[.int .i64 0, .int .i64 2]) ∧ w = w' := by
  have H := Lib.hid h
  clear h
  go_enter Try.func19, Try.ntmps19
  go_wp2_with fail
  refine (placed_no _ _ H.out).mono ?_
  rintro e _ ⟨rfl, rfl⟩
  go_wp2_with fail
  go_ret2
  exact ⟨rfl, rfl⟩
theorem rleds_ok (p : Int) (w : World) (h1 : -4 ≤ p) (h2 : p ≤ 12) :
    Calls Try.prog 43 #[.int .i64 p] w fun e w' => e = .returned (.int .i64 (led p)) ∧ w = w' := by
  have hc : (p ≤ -4 ∧ led p = 2) ∨ (-4 < p ∧ p ≤ -2 ∧ led p = 1) ∨ (-2 < p ∧ p < 10 ∧ led p = 0) ∨ (10 ≤ p ∧ p < 12 ∧ led p = 1) ∨ (12 ≤ p ∧ led p = 2) := by unfold led; split <;> (try split) <;> omega
  rcases hc with ⟨c1, E⟩ | ⟨c1, c2, E⟩ | ⟨c1, c2, E⟩ | ⟨c1, c2, E⟩ | ⟨c1, E⟩
  · rw [E]
    clear E
    go_enter Try.func43, Try.ntmps43
    go_wp2_with fail
    refine wp_loop_rounds 3 ?_
    rw [rounds_succ]
    go_wp2_with fail
    rw [rounds_succ]
    go_wp2_with fail
    rw [rounds_succ]
    go_wp2_with fail
    refine wp_loop_rounds 1 ?_
    rw [rounds_succ]
    go_wp2_with fail
    go_ret
    exact ⟨rfl, rfl⟩
  · rw [E]
    clear E
    go_enter Try.func43, Try.ntmps43
    go_wp2_with fail
    refine wp_loop_rounds 2 ?_
    rw [rounds_succ]
    go_wp2_with fail
    rw [rounds_succ]
    go_wp2_with fail
    refine wp_loop_rounds 1 ?_
    rw [rounds_succ]
    go_wp2_with fail
    go_ret
    exact ⟨rfl, rfl⟩
  · rw [E]
    clear E
    go_enter Try.func43, Try.ntmps43
    go_wp2_with fail
    refine wp_loop_rounds 1 ?_
    rw [rounds_succ]
    go_wp2_with fail
    refine wp_loop_rounds 1 ?_
    rw [rounds_succ]
    go_wp2_with fail
    go_ret
    exact ⟨rfl, rfl⟩
  · rw [E]
    clear E
    go_enter Try.func43, Try.ntmps43
    go_wp2_with fail
    refine wp_loop_rounds 1 ?_
    rw [rounds_succ]
    go_wp2_with fail
    refine wp_loop_rounds 2 ?_
    rw [rounds_succ]
    go_wp2_with fail
    rw [rounds_succ]
    go_wp2_with fail
    go_ret
    exact ⟨rfl, rfl⟩
  · rw [E]
    clear E
    go_enter Try.func43, Try.ntmps43
    go_wp2_with fail
    refine wp_loop_rounds 1 ?_
    rw [rounds_succ]
    go_wp2_with fail
    refine wp_loop_rounds 3 ?_
    rw [rounds_succ]
    go_wp2_with fail
    rw [rounds_succ]
    go_wp2_with fail
    rw [rounds_succ]
    go_wp2_with fail
    go_ret
    exact ⟨rfl, rfl⟩
theorem rledgers_ok (p : Int) (w : World) (h1 : -4 ≤ p) (h2 : p ≤ 12) :
    Calls Try.prog 20 #[.int .i64 p] w fun e w' => e = .returned (.tuple #[.int .i64 (led p), .int .i64 0]) ∧ w = w' := by
  go_enter Try.func20, Try.ntmps20
  go_wp2_with fail
  refine (ron_yes _ _ h1 h2).mono ?_
  rintro e _ ⟨rfl, rfl⟩
  go_wp2_with fail
  refine (rleds_ok _ _ h1 h2).mono ?_
  rintro e _ ⟨rfl, rfl⟩
  go_wp2_with fail
  go_ret2
  exact ⟨rfl, rfl⟩
theorem rledgers_no (p : Int) (w : World) (h : p < -4 ∨ 12 < p) :
    Calls Try.prog 20 #[.int .i64 p] w fun e w' => e = .returned (.tuple #[.int .i64 0, .int .i64 2]) ∧ w = w' := by
  have H := Lib.hid h
  clear h
  go_enter Try.func20, Try.ntmps20
  go_wp2_with fail
  refine (ron_no _ _ H.out).mono ?_
  rintro e _ ⟨rfl, rfl⟩
  go_wp2_with fail
  go_ret2
  exact ⟨rfl, rfl⟩
end Go.Proofs.Ytgajdmefflndmaa
