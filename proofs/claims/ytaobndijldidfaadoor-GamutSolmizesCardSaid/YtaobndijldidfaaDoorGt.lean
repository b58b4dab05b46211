/- What GamutKnown's calls answer, in figures. -/
import Derived.Test.YtaobndijldidfaaDoorGr
import Derived.Test.YtaobndijldidfaaDoorGk
set_option linter.unusedSimpArgs false
set_option linter.unusedVariables false
namespace Go.Proofs.YtaobndijldidfaaDoor
open Go.RowKit

theorem natural_i (x : Int) (w : World) (h0 : 0 ≤ x) (h1 : x ≤ 30) :
    Calls Tryd.prog 33 #[.int .i64 x] w fun e w' => e = .returned (.agg #[.int .i64 ((x + 18) % 7), .int .i64 ((x + 18) / 7), .int .i64 0]) ∧ Kp w w' := by
  obtain ⟨n, rfl⟩ := Int.eq_ofNat_of_zero_le h0
  have := natural_ok n w (by omega)
  have e1 : (natP n).1 = ((n : Int) + 18) % 7 := by unfold natP; dsimp only; omega
  have e2 : (natP n).2.1 = ((n : Int) + 18) / 7 := by unfold natP; dsimp only; omega
  have e3 : (natP n).2.2 = 0 := rfl
  rw [e1, e2, e3] at this
  exact this
theorem pitch_t (h s x y z : Int) (w : World) (ht0 : Tab w) (hv : Vs h s) (hp : pitS (h, s) = (x, y, z)) :
    Calls Tryd.prog 21 #[.agg #[.int .i64 h, .int .i64 s]] w fun e w' => e = .returned (.tuple #[.agg #[.int .i64 x, .int .i64 y, .int .i64 z], .int .i64 0]) ∧ Kp w w' := by
  have := gpitch_ok h s w ht0 hv
  rw [hp] at this
  exact this
theorem solm_t (A : Option Addr) (n c : Nat) (ps : List Pt) (ss : List Sy) (m : Int) (w : World) (ht : Tab w) (hp : Pts w A n ps) (hn : n ≤ 400) (hg : ∀ p ∈ ps, Vp p.1 p.2.1 p.2.2 ∧ wys p ≠ []) (h1 : sol none (ps.map wys) = ss) (h2 : muts (ps.map wys) = m) :
    Calls Tryd.prog 13 #[.slice A n c] w fun e w' => (∃ A' c', e = .returned (.tuple #[.slice A' n c', .int .i64 m, .int .i64 0]) ∧ Sys w' A' n ss) ∧ Kp w w' := by
  have := solmize_ok A n c ps w ht hp hn hg
  rw [h1, h2] at this
  exact this
theorem sol_b : sol none ((fromP 10 6).map wys) = [(5, 1), (5, 2), (5, 3), (5, 4), (5, 5), (5, 6)] := by decide +kernel
theorem mut_b : muts ((fromP 10 6).map wys) = 0 := by decide +kernel
theorem good_b : ∀ p ∈ fromP 10 6, Vp p.1 p.2.1 p.2.2 ∧ wys p ≠ [] := by decide +kernel
theorem sol_c : sol none ([((6 : Int), (3 : Int), (0 : Int)), (3, 4, 0)].map wys) = [(4, 3), (5, 4)] := by decide +kernel
theorem mut_c : muts ([((6 : Int), (3 : Int), (0 : Int)), (3, 4, 0)].map wys) = 1 := by decide +kernel
theorem good_c : ∀ p ∈ [((6 : Int), (3 : Int), (0 : Int)), (3, 4, 0)], Vp p.1 p.2.1 p.2.2 ∧ wys p ≠ [] := by decide +kernel
theorem from_b (w : World) : Calls Tryd.prog 35 #[.int .i64 10, .int .i64 6] w fun e w' => (∃ A c, e = .returned (.slice A 6 c) ∧ Pts w' A 6 (fromP 10 6)) ∧ Kp w w' := from_ok 10 6 w (by omega)
theorem wys_sharp : wys (3, 4, 1) = [] := by decide +kernel
theorem solm_d (A : Option Addr) (c : Nat) (w : World) (ht : Tab w) (hp : Pts w A 1 [(3, 4, 1)]) :
    Calls Tryd.prog 13 #[.slice A 1 c] w fun e w' => e = .returned (.tuple #[.slice none 0 0, .int .i64 0, .int .i64 18]) ∧ Kp w w' :=
  solmize_bad A 1 c 0 _ w ht hp (by omega) (by omega) (fun j hj => absurd hj (by omega)) 18 (.inr ⟨by decide, wys_sharp, rfl⟩)
theorem solm_n (w : World) (ht : Tab w) :
    Calls Tryd.prog 13 #[.slice none 0 0] w fun e w' => (∃ A' c', e = .returned (.tuple #[.slice A' 0 c', .int .i64 0, .int .i64 0]) ∧ Sys w' A' 0 []) ∧ Kp w w' :=
  solmize_ok none 0 0 [] w ht ⟨rfl, fun k hk => absurd hk (by omega)⟩ (by omega) (fun p hp => by cases hp)
theorem mut_t (A : Option Addr) (n c : Nat) (ss : List Sy) (ms : List (Int × Bool)) (w : World) (ht : Tab w) (hp : Sys w A n ss) (hn : n ≤ 400) (hg : ∀ j, j < n → Vs (syAt ss j).1 (syAt ss j).2) (h1 : mutTo ss n = ms) :
    Calls Tryd.prog 27 #[.slice A n c] w fun e w' => (∃ A1 c1 A2 c2, e = .returned (.tuple #[.slice A1 ms.length c1, .slice A2 ms.length c2, .int .i64 0]) ∧ Ints w' A1 ms.length (ms.map (·.1)) ∧ Bls w' A2 ms.length (ms.map (·.2))) ∧ Kp w w' := by
  have := mutations_ok A n c ss w ht hp hn hg
  rw [h1] at this
  exact this
theorem mut_1 (A : Option Addr) (c : Nat) (w : World) (ht : Tab w) (hp : Sys w A 2 [(4, 3), (5, 4)]) :
    Calls Tryd.prog 27 #[.slice A 2 c] w fun e w' => (∃ A1 c1 A2 c2, e = .returned (.tuple #[.slice A1 1 c1, .slice A2 1 c2, .int .i64 0]) ∧ Ints w' A1 1 [1] ∧ Bls w' A2 1 [false]) ∧ Kp w w' :=
  mut_t A 2 c [(4, 3), (5, 4)] [(1, false)] w ht hp (by omega) (by decide) (by decide +kernel)
theorem mut_2 (A : Option Addr) (c : Nat) (w : World) (ht : Tab w) (hp : Sys w A 2 [(4, 6), (5, 4)]) :
    Calls Tryd.prog 27 #[.slice A 2 c] w fun e w' => (∃ A1 c1 A2 c2, e = .returned (.tuple #[.slice A1 1 c1, .slice A2 1 c2, .int .i64 0]) ∧ Ints w' A1 1 [1] ∧ Bls w' A2 1 [true]) ∧ Kp w w' :=
  mut_t A 2 c [(4, 6), (5, 4)] [(1, true)] w ht hp (by omega) (by decide) (by decide +kernel)
theorem sints_t (A B : Option Addr) (n c m d : Nat) (xs ys : List Int) (w : World) (hx : Ints w A n xs) (hy : Ints w B m ys) (hn : n ≤ 1000) (hm : m ≤ 1000) (h : xs = ys) :
    Calls Tryd.prog 29 #[.slice A n c, .slice B m d] w fun e w' => e = .returned (.bool true) ∧ Kp w w' := by
  have := sints_ok A B n c m d xs ys w hx hy hn hm
  rw [decide_eq_true h] at this
  exact this
theorem sbools_t (A B : Option Addr) (n c m d : Nat) (xs ys : List Bool) (w : World) (hx : Bls w A n xs) (hy : Bls w B m ys) (hn : n ≤ 1000) (hm : m ≤ 1000) (h : xs = ys) :
    Calls Tryd.prog 30 #[.slice A n c, .slice B m d] w fun e w' => e = .returned (.bool true) ∧ Kp w w' := by
  have := sbools_ok A B n c m d xs ys w hx hy hn hm
  rw [decide_eq_true h] at this
  exact this
theorem ints_new (w : World) (t : TypeId) (x : Int) : Ints (w.alloc (.cells #[.int .i64 x] t)) (some ⟨w.heap.size, 0, none⟩) 1 [x] :=
  ⟨rfl, fun k hk => by obtain rfl : k = 0 := by omega
                       exact ⟨_, 0, rfl, by rw [(Blk.new w t _).cell]; rfl⟩⟩
theorem bls_new (w : World) (t : TypeId) (x : Bool) : Bls (w.alloc (.cells #[.bool x] t)) (some ⟨w.heap.size, 0, none⟩) 1 [x] :=
  ⟨rfl, fun k hk => by obtain rfl : k = 0 := by omega
                       exact ⟨_, 0, rfl, by rw [(Blk.new w t _).cell]; rfl⟩⟩
end Go.Proofs.YtaobndijldidfaaDoor
