/- Contracts of the reference's Ways, letter and Name. -/
import Derived.Test.YtaobndijldidfaaDoorHb
import Derived.IntWalk
import Derived.Laws.BytesArg
set_option linter.unusedSimpArgs false
set_option linter.unusedVariables false
namespace Go.Proofs.YtaobndijldidfaaDoor
open Go.RowKit

theorem rways_ok (x y z : Int) (w : World) (hv : Vp x y z) :
    Calls Tryd.prog 20 #[.agg #[.int .i64 x, .int .i64 y, .int .i64 z]] w fun e w' => (∃ A c, e = .returned (.tuple #[.slice A (wys (x, y, z)).length c, .int .i64 0]) ∧ Sys w' A (wys (x, y, z)).length (wys (x, y, z))) ∧ Kp w w' := by
  have CM := Lib.hid (fun w => mways_ok x y z w hv)
  obtain ⟨v1, v2, v3, v4, v5, v6⟩ := hv
  obtain ⟨L, eL⟩ : ∃ L, L = wys (x, y, z) := ⟨_, rfl⟩
  rw [← eL] at CM ⊢
  clear eL
  go_enter Tryd.func20, Tryd.ntmps20
  go_wp2_with fail
  refine (rcheck_ok _ _ _ _ v1 v2 v3 v4 v5 v6).mono ?_
  rintro e w1 ⟨rfl, hb1⟩
  have Q1 : Kp w w1 := by repeat (first | exact Kp.refl _ | with_reducible assumption | with_reducible refine Kp.set ?_ _ _ ?_ | (dsimp only; omega) | with_reducible refine Kp.drew ?_ | with_reducible refine Kp.drewN ?_ _ | with_reducible refine Kp.al ?_ _ | with_reducible refine Kp.trans ?_ (by with_reducible assumption))
  have c1_0_1 := hb1.get (b := w.heap.size) (o := 0) (v := .int .i64 (x)) (by first | with_reducible assumption | (simp [go_sem]; done) | (simp [go_sem, *]; done))
  have c1_1_1 := hb1.get (b := w.heap.size) (o := 1) (v := .int .i64 (y)) (by first | with_reducible assumption | (simp [go_sem]; done) | (simp [go_sem, *]; done))
  have c1_2_1 := hb1.get (b := w.heap.size) (o := 2) (v := .int .i64 (z)) (by first | with_reducible assumption | (simp [go_sem]; done) | (simp [go_sem, *]; done))
  have l1_1 := cell_lt c1_0_1
  have K1 := Q1
  clear hb1 Q1
  go_wp2_with fail
  refine (CM.out _).mono ?_
  rintro e w2 ⟨⟨A1, c1, rfl, ho1⟩, hb2⟩
  have Q2 : Kp w1 w2 := by repeat (first | exact Kp.refl _ | with_reducible assumption | with_reducible refine Kp.set ?_ _ _ ?_ | (dsimp only; omega) | with_reducible refine Kp.drew ?_ | with_reducible refine Kp.drewN ?_ _ | with_reducible refine Kp.al ?_ _ | with_reducible refine Kp.trans ?_ (by with_reducible assumption))
  have c1_0_2 := Q2.get c1_0_1
  have c1_1_2 := Q2.get c1_1_1
  have c1_2_2 := Q2.get c1_2_1
  have l1_2 := cell_lt c1_0_2
  have K2 := K1.trans Q2
  clear hb2 c1_0_1 c1_1_1 c1_2_1 l1_1 K1 Q2
  have HS := Lib.hid (sys_of_own ho1)
  clear ho1
  go_wp2_with fail
  go_ret2
  exact ⟨⟨_, _, rfl, HS.out⟩, by repeat (first | exact Kp.refl _ | with_reducible assumption | with_reducible refine Kp.set ?_ _ _ ?_ | (dsimp only; omega) | with_reducible refine Kp.drew ?_ | with_reducible refine Kp.drewN ?_ _ | with_reducible refine Kp.al ?_ _ | with_reducible refine Kp.trans ?_ (by with_reducible assumption))⟩
theorem rways_no (x y z : Int) (w : World) (hv : ¬ Vp x y z) :
    Calls Tryd.prog 20 #[.agg #[.int .i64 x, .int .i64 y, .int .i64 z]] w fun e w' => e = .returned (.tuple #[.slice none 0 0, .int .i64 2]) ∧ Kp w w' := by
  have H := Lib.hid hv; clear hv
  go_enter Tryd.func20, Tryd.ntmps20
  go_wp2_with fail
  refine (rcheck_no _ _ _ _ H.out).mono ?_
  rintro e w1 ⟨rfl, hb1⟩
  have Q1 : Kp w w1 := by repeat (first | exact Kp.refl _ | with_reducible assumption | with_reducible refine Kp.set ?_ _ _ ?_ | (dsimp only; omega) | with_reducible refine Kp.drew ?_ | with_reducible refine Kp.drewN ?_ _ | with_reducible refine Kp.al ?_ _ | with_reducible refine Kp.trans ?_ (by with_reducible assumption))
  have K1 := Q1
  clear hb1 Q1
  go_wp2_with fail
  go_ret2
  exact ⟨rfl, by repeat (first | exact Kp.refl _ | with_reducible assumption | with_reducible refine Kp.set ?_ _ _ ?_ | (dsimp only; omega) | with_reducible refine Kp.drew ?_ | with_reducible refine Kp.drewN ?_ _ | with_reducible refine Kp.al ?_ _ | with_reducible refine Kp.trans ?_ (by with_reducible assumption))⟩
theorem bytes_ofs {w : World} {b : Nat} {xs : List Int} (h : ∀ i, i < xs.length → w.cell? ⟨b, i, none⟩ = some (.int .u8 (xs.getD i 0))) (c : Nat) :
    (convert 90 9 (.slice (some ⟨b, 0, none⟩) xs.length c)).run Tryd.prog w = .ok (.string (strOfNums xs)) w :=
  run_convert_bytes_arg (P := Tryd.prog) w 90 5 Tryd.underlying90 Tryd.underlying5 b 0 xs.length c xs rfl (fun i hi => by rw [Nat.zero_add]; exact h i hi) 9 Tryd.underlying9
@[go_sem] theorem bytes1 {w : World} {b c : Nat} {x : Int} (h0 : w.cell? ⟨b, 0, none⟩ = some (.int .u8 x)) :
    Sem.run Tryd.prog (convert 90 9 (.slice (some ⟨b, 0, none⟩) 1 c)) w = .ok (.string (strOfNums [x])) w :=
  bytes_ofs (xs := [x]) (fun i hi => by
    match i, hi with
    | 0, _ => exact h0) c
@[go_sem] theorem bytes2 {w : World} {b c : Nat} {x y : Int} (h0 : w.cell? ⟨b, 0, none⟩ = some (.int .u8 x)) (h1 : w.cell? ⟨b, 1, none⟩ = some (.int .u8 y)) :
    Sem.run Tryd.prog (convert 90 9 (.slice (some ⟨b, 0, none⟩) 2 c)) w = .ok (.string (strOfNums [x, y])) w :=
  bytes_ofs (xs := [x, y]) (fun i hi => by
    match i, hi with
    | 0, _ => exact h0
    | 1, _ => exact h1) c

set_option maxRecDepth 100000 in
set_option maxHeartbeats 4000000 in
theorem rletter_ok (p : Nat) (hp : p ≤ 19) (w : World) :
    Calls Tryd.prog 51 #[.int .i64 (p : Int)] w fun e w' => e = .returned (.string (letN p)) ∧ Kp w w' := by
  have hcase : p = 0 ∨ p = 1 ∨ p = 2 ∨ p = 3 ∨ p = 4 ∨ p = 5 ∨ p = 6 ∨ p = 7 ∨ p = 8 ∨ p = 9 ∨ p = 10 ∨ p = 11 ∨ p = 12 ∨ p = 13 ∨ p = 14 ∨ p = 15 ∨ p = 16 ∨ p = 17 ∨ p = 18 ∨ p = 19 := by omega
  rcases hcase with rfl | rfl | rfl | rfl | rfl | rfl | rfl | rfl | rfl | rfl | rfl | rfl | rfl | rfl | rfl | rfl | rfl | rfl | rfl | rfl
  · go_enter Tryd.func51, Tryd.ntmps51
    go_wp2_with fail
    exact bodyPost_ret (v := .string (letN 0)) (by kernel_rfl) rfl ⟨rfl, by repeat (first | exact Kp.refl _ | with_reducible assumption | with_reducible refine Kp.set ?_ _ _ ?_ | (dsimp only; omega) | with_reducible refine Kp.drew ?_ | with_reducible refine Kp.drewN ?_ _ | with_reducible refine Kp.al ?_ _ | with_reducible refine Kp.trans ?_ (by with_reducible assumption))⟩
  · go_enter Tryd.func51, Tryd.ntmps51
    go_wp2_with fail
    exact bodyPost_ret (v := .string (letN 1)) (by kernel_rfl) rfl ⟨rfl, by repeat (first | exact Kp.refl _ | with_reducible assumption | with_reducible refine Kp.set ?_ _ _ ?_ | (dsimp only; omega) | with_reducible refine Kp.drew ?_ | with_reducible refine Kp.drewN ?_ _ | with_reducible refine Kp.al ?_ _ | with_reducible refine Kp.trans ?_ (by with_reducible assumption))⟩
  · go_enter Tryd.func51, Tryd.ntmps51
    go_wp2_with fail
    exact bodyPost_ret (v := .string (letN 2)) (by kernel_rfl) rfl ⟨rfl, by repeat (first | exact Kp.refl _ | with_reducible assumption | with_reducible refine Kp.set ?_ _ _ ?_ | (dsimp only; omega) | with_reducible refine Kp.drew ?_ | with_reducible refine Kp.drewN ?_ _ | with_reducible refine Kp.al ?_ _ | with_reducible refine Kp.trans ?_ (by with_reducible assumption))⟩
  · go_enter Tryd.func51, Tryd.ntmps51
    go_wp2_with fail
    exact bodyPost_ret (v := .string (letN 3)) (by kernel_rfl) rfl ⟨rfl, by repeat (first | exact Kp.refl _ | with_reducible assumption | with_reducible refine Kp.set ?_ _ _ ?_ | (dsimp only; omega) | with_reducible refine Kp.drew ?_ | with_reducible refine Kp.drewN ?_ _ | with_reducible refine Kp.al ?_ _ | with_reducible refine Kp.trans ?_ (by with_reducible assumption))⟩
  · go_enter Tryd.func51, Tryd.ntmps51
    go_wp2_with fail
    exact bodyPost_ret (v := .string (letN 4)) (by kernel_rfl) rfl ⟨rfl, by repeat (first | exact Kp.refl _ | with_reducible assumption | with_reducible refine Kp.set ?_ _ _ ?_ | (dsimp only; omega) | with_reducible refine Kp.drew ?_ | with_reducible refine Kp.drewN ?_ _ | with_reducible refine Kp.al ?_ _ | with_reducible refine Kp.trans ?_ (by with_reducible assumption))⟩
  · go_enter Tryd.func51, Tryd.ntmps51
    go_wp2_with fail
    exact bodyPost_ret (v := .string (letN 5)) (by kernel_rfl) rfl ⟨rfl, by repeat (first | exact Kp.refl _ | with_reducible assumption | with_reducible refine Kp.set ?_ _ _ ?_ | (dsimp only; omega) | with_reducible refine Kp.drew ?_ | with_reducible refine Kp.drewN ?_ _ | with_reducible refine Kp.al ?_ _ | with_reducible refine Kp.trans ?_ (by with_reducible assumption))⟩
  · go_enter Tryd.func51, Tryd.ntmps51
    go_wp2_with fail
    exact bodyPost_ret (v := .string (letN 6)) (by kernel_rfl) rfl ⟨rfl, by repeat (first | exact Kp.refl _ | with_reducible assumption | with_reducible refine Kp.set ?_ _ _ ?_ | (dsimp only; omega) | with_reducible refine Kp.drew ?_ | with_reducible refine Kp.drewN ?_ _ | with_reducible refine Kp.al ?_ _ | with_reducible refine Kp.trans ?_ (by with_reducible assumption))⟩
  · go_enter Tryd.func51, Tryd.ntmps51
    go_wp2_with fail
    exact bodyPost_ret (v := .string (letN 7)) (by kernel_rfl) rfl ⟨rfl, by repeat (first | exact Kp.refl _ | with_reducible assumption | with_reducible refine Kp.set ?_ _ _ ?_ | (dsimp only; omega) | with_reducible refine Kp.drew ?_ | with_reducible refine Kp.drewN ?_ _ | with_reducible refine Kp.al ?_ _ | with_reducible refine Kp.trans ?_ (by with_reducible assumption))⟩
  · go_enter Tryd.func51, Tryd.ntmps51
    go_wp2_with fail
    exact bodyPost_ret (v := .string (letN 8)) (by kernel_rfl) rfl ⟨rfl, by repeat (first | exact Kp.refl _ | with_reducible assumption | with_reducible refine Kp.set ?_ _ _ ?_ | (dsimp only; omega) | with_reducible refine Kp.drew ?_ | with_reducible refine Kp.drewN ?_ _ | with_reducible refine Kp.al ?_ _ | with_reducible refine Kp.trans ?_ (by with_reducible assumption))⟩
  · go_enter Tryd.func51, Tryd.ntmps51
    go_wp2_with fail
    exact bodyPost_ret (v := .string (letN 9)) (by kernel_rfl) rfl ⟨rfl, by repeat (first | exact Kp.refl _ | with_reducible assumption | with_reducible refine Kp.set ?_ _ _ ?_ | (dsimp only; omega) | with_reducible refine Kp.drew ?_ | with_reducible refine Kp.drewN ?_ _ | with_reducible refine Kp.al ?_ _ | with_reducible refine Kp.trans ?_ (by with_reducible assumption))⟩
  · go_enter Tryd.func51, Tryd.ntmps51
    go_wp2_with fail
    exact bodyPost_ret (v := .string (letN 10)) (by kernel_rfl) rfl ⟨rfl, by repeat (first | exact Kp.refl _ | with_reducible assumption | with_reducible refine Kp.set ?_ _ _ ?_ | (dsimp only; omega) | with_reducible refine Kp.drew ?_ | with_reducible refine Kp.drewN ?_ _ | with_reducible refine Kp.al ?_ _ | with_reducible refine Kp.trans ?_ (by with_reducible assumption))⟩
  · go_enter Tryd.func51, Tryd.ntmps51
    go_wp2_with fail
    exact bodyPost_ret (v := .string (letN 11)) (by kernel_rfl) rfl ⟨rfl, by repeat (first | exact Kp.refl _ | with_reducible assumption | with_reducible refine Kp.set ?_ _ _ ?_ | (dsimp only; omega) | with_reducible refine Kp.drew ?_ | with_reducible refine Kp.drewN ?_ _ | with_reducible refine Kp.al ?_ _ | with_reducible refine Kp.trans ?_ (by with_reducible assumption))⟩
  · go_enter Tryd.func51, Tryd.ntmps51
    go_wp2_with fail
    exact bodyPost_ret (v := .string (letN 12)) (by kernel_rfl) rfl ⟨rfl, by repeat (first | exact Kp.refl _ | with_reducible assumption | with_reducible refine Kp.set ?_ _ _ ?_ | (dsimp only; omega) | with_reducible refine Kp.drew ?_ | with_reducible refine Kp.drewN ?_ _ | with_reducible refine Kp.al ?_ _ | with_reducible refine Kp.trans ?_ (by with_reducible assumption))⟩
  · go_enter Tryd.func51, Tryd.ntmps51
    go_wp2_with fail
    exact bodyPost_ret (v := .string (letN 13)) (by kernel_rfl) rfl ⟨rfl, by repeat (first | exact Kp.refl _ | with_reducible assumption | with_reducible refine Kp.set ?_ _ _ ?_ | (dsimp only; omega) | with_reducible refine Kp.drew ?_ | with_reducible refine Kp.drewN ?_ _ | with_reducible refine Kp.al ?_ _ | with_reducible refine Kp.trans ?_ (by with_reducible assumption))⟩
  · go_enter Tryd.func51, Tryd.ntmps51
    go_wp2_with fail
    exact bodyPost_ret (v := .string (letN 14)) (by kernel_rfl) rfl ⟨rfl, by repeat (first | exact Kp.refl _ | with_reducible assumption | with_reducible refine Kp.set ?_ _ _ ?_ | (dsimp only; omega) | with_reducible refine Kp.drew ?_ | with_reducible refine Kp.drewN ?_ _ | with_reducible refine Kp.al ?_ _ | with_reducible refine Kp.trans ?_ (by with_reducible assumption))⟩
  · go_enter Tryd.func51, Tryd.ntmps51
    go_wp2_with fail
    exact bodyPost_ret (v := .string (letN 15)) (by kernel_rfl) rfl ⟨rfl, by repeat (first | exact Kp.refl _ | with_reducible assumption | with_reducible refine Kp.set ?_ _ _ ?_ | (dsimp only; omega) | with_reducible refine Kp.drew ?_ | with_reducible refine Kp.drewN ?_ _ | with_reducible refine Kp.al ?_ _ | with_reducible refine Kp.trans ?_ (by with_reducible assumption))⟩
  · go_enter Tryd.func51, Tryd.ntmps51
    go_wp2_with fail
    exact bodyPost_ret (v := .string (letN 16)) (by kernel_rfl) rfl ⟨rfl, by repeat (first | exact Kp.refl _ | with_reducible assumption | with_reducible refine Kp.set ?_ _ _ ?_ | (dsimp only; omega) | with_reducible refine Kp.drew ?_ | with_reducible refine Kp.drewN ?_ _ | with_reducible refine Kp.al ?_ _ | with_reducible refine Kp.trans ?_ (by with_reducible assumption))⟩
  · go_enter Tryd.func51, Tryd.ntmps51
    go_wp2_with fail
    exact bodyPost_ret (v := .string (letN 17)) (by kernel_rfl) rfl ⟨rfl, by repeat (first | exact Kp.refl _ | with_reducible assumption | with_reducible refine Kp.set ?_ _ _ ?_ | (dsimp only; omega) | with_reducible refine Kp.drew ?_ | with_reducible refine Kp.drewN ?_ _ | with_reducible refine Kp.al ?_ _ | with_reducible refine Kp.trans ?_ (by with_reducible assumption))⟩
  · go_enter Tryd.func51, Tryd.ntmps51
    go_wp2_with fail
    exact bodyPost_ret (v := .string (letN 18)) (by kernel_rfl) rfl ⟨rfl, by repeat (first | exact Kp.refl _ | with_reducible assumption | with_reducible refine Kp.set ?_ _ _ ?_ | (dsimp only; omega) | with_reducible refine Kp.drew ?_ | with_reducible refine Kp.drewN ?_ _ | with_reducible refine Kp.al ?_ _ | with_reducible refine Kp.trans ?_ (by with_reducible assumption))⟩
  · go_enter Tryd.func51, Tryd.ntmps51
    go_wp2_with fail
    exact bodyPost_ret (v := .string (letN 19)) (by kernel_rfl) rfl ⟨rfl, by repeat (first | exact Kp.refl _ | with_reducible assumption | with_reducible refine Kp.set ?_ _ _ ?_ | (dsimp only; omega) | with_reducible refine Kp.drew ?_ | with_reducible refine Kp.drewN ?_ _ | with_reducible refine Kp.al ?_ _ | with_reducible refine Kp.trans ?_ (by with_reducible assumption))⟩
end Go.Proofs.YtaobndijldidfaaDoor
