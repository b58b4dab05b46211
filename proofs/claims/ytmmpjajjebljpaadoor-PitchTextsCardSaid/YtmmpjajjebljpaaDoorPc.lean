/- Contracts of Between and Mirror. -/
import Derived.Test.YtmmpjajjebljpaaDoorPb
import Derived.IntWalk
namespace Go.Proofs.YtmmpjajjebljpaaDoor
open Go.RowKit

@[go_sem] theorem idx_two0 (x0 x1 x2 x3 x4 x5 : Value) (w : World) : Sem.run Tryd.prog (Instr.index 56 (.agg #[x0, x1, x2, x3, x4, x5]) (.int .i64 0)) w = .ok (.agg #[x0, x1, x2]) w := by kernel_rfl
@[go_sem] theorem idx_two1 (x0 x1 x2 x3 x4 x5 : Value) (w : World) : Sem.run Tryd.prog (Instr.index 56 (.agg #[x0, x1, x2, x3, x4, x5]) (.int .i64 1)) w = .ok (.agg #[x3, x4, x5]) w := by kernel_rfl

/-- The height of a tone. -/
def th (n a : Int) : Int := 12 * (n / 7) + halfOf (n % 7) + a
theorem th_eq (s o a : Int) (h1 : 0 ≤ s) (h2 : s ≤ 6) : th (7 * o + s) a = ht s o a := ht_eq s o a h1 h2
theorem th_bd (n a : Int) (h1 : 0 ≤ n) (h2 : n ≤ 62) (h3 : -1 ≤ a) (h4 : a ≤ 1) : -1 ≤ th n a ∧ th n a ≤ 200 := by unfold th halfOf; omega
theorem theight_th (n a : Int) (w : World) (ht : Tab w) (h1 : 0 ≤ n) (h2 : n ≤ 62) (h3 : -1 ≤ a) (h4 : a ≤ 1) :
    Calls Tryd.prog 37 #[.agg #[.int .i64 n, .int .i64 a]] w fun e w' => e = .returned (.int .i64 (th n a)) ∧ Kp w w' := theight_int n a w ht h1 h2 h3 h4

theorem of_exact (s o a : Int) (w : World) (h1 : 0 ≤ s) (h2 : s ≤ 6) (h3 : 0 ≤ o) (h4 : o ≤ 8) :
    Calls Tryd.prog 33 #[.agg #[.int .i64 s, .int .i64 o, .int .i64 a]] w fun e w' => e = .returned (.agg #[.int .i64 (7 * o + s), .int .i64 a]) ∧ w' = (w.alloc (.cells #[.int .i64 s, .int .i64 o, .int .i64 a] 23)).alloc (.cells #[.int .i64 (7 * o + s), .int .i64 a] 49) := by
  go_enter Tryd.func33, Tryd.ntmps33
  go_wp2
  exact bodyPost_ret (v := .agg #[.int .i64 (7 * o + s), .int .i64 a]) (by simp [results, Tryd.results33, go_sem]) rfl ⟨rfl, rfl⟩

set_option maxHeartbeats 4000000 in
theorem between_ok (s o a s' o' a' : Int) (w : World) (ht0 : Tab w) (h1 : 0 ≤ s) (h2 : s ≤ 6) (h3 : 0 ≤ o) (h4 : o ≤ 8) (h5 : -1 ≤ a) (h6 : a ≤ 1)
    (k1 : 0 ≤ s') (k2 : s' ≤ 6) (k3 : 0 ≤ o') (k4 : o' ≤ 8) (k5 : -1 ≤ a') (k6 : a' ≤ 1) :
    Calls Tryd.prog 16 #[.agg #[.int .i64 s, .int .i64 o, .int .i64 a], .agg #[.int .i64 s', .int .i64 o', .int .i64 a']] w fun e w' => e = .returned (.tuple #[.agg #[.int .i64 (7 * o' + s' - (7 * o + s)), .int .i64 (ht s' o' a' - ht s o a)], .int .i64 0]) ∧ Kp w w' := by
  go_enter Tryd.func16, Tryd.ntmps16
  go_wp2_with fail
  refine wp_loop_rounds 3 ?_
  rw [rounds_succ]
  go_wp2_with fail
  refine (check_ok _ _ _ _ h1 h2 h3 h4 h5 h6).mono ?_
  rintro e w1 ⟨rfl, hb1⟩
  go_wp2_with fail
  rw [rounds_succ]
  go_wp2_with fail
  refine (check_ok _ _ _ _ k1 k2 k3 k4 k5 k6).mono ?_
  rintro e w2 ⟨rfl, hb2⟩
  go_wp2_with fail
  rw [rounds_succ]
  go_wp2_with fail
  have K := ((((hb1.al _).trans hb2)))
  have KW := (((((Kp.refl w).al _).al _).al _).al _).trans K
  have p0 := K.get (b := w.heap.size) (o := 0) (v := .int .i64 s) (by simp [go_sem])
  have p1 := K.get (b := w.heap.size) (o := 1) (v := .int .i64 o) (by simp [go_sem])
  have p2 := K.get (b := w.heap.size) (o := 2) (v := .int .i64 a) (by simp [go_sem])
  have q0 := K.get (b := w.heap.size + 1) (o := 0) (v := .int .i64 s') (by simp [go_sem])
  have q1 := K.get (b := w.heap.size + 1) (o := 1) (v := .int .i64 o') (by simp [go_sem])
  have q2 := K.get (b := w.heap.size + 1) (o := 2) (v := .int .i64 a') (by simp [go_sem])
  have r0 := K.get (b := w.heap.size + 1 + 1) (o := 0) (v := .int .i64 0) (by simp [go_sem])
  have r1 := K.get (b := w.heap.size + 1 + 1) (o := 1) (v := .int .i64 0) (by simp [go_sem])
  have f0 := K.free (b := w.heap.size + 1 + 1) (o := 0) (v := .int .i64 0) (by simp [go_sem]) (by simp [go_sem])
  have f1 := K.free (b := w.heap.size + 1 + 1) (o := 1) (v := .int .i64 0) (by simp [go_sem]) (by simp [go_sem])
  clear K hb1 hb2
  go_cut [9, 10] (fun v9 v10 wc => ∃ b9 b10 : Nat, v9 = .pointer (some ⟨b9, 0, none⟩) ∧ v10 = .pointer (some ⟨b10, 0, none⟩) ∧ wc.cell? ⟨b9, 0, none⟩ = some (.int .i64 (7 * o + s)) ∧ wc.cell? ⟨b9, 1, none⟩ = some (.int .i64 a) ∧ wc.cell? ⟨b10, 0, none⟩ = some (.int .i64 (7 * o' + s')) ∧ wc.cell? ⟨b10, 1, none⟩ = some (.int .i64 a') ∧ w2.heap.size ≤ b9 ∧ w2.heap.size ≤ b10 ∧ Kp w2 wc)
  case first =>
    go_region_held3 (fun w' => w'.cell? ⟨w.heap.size, 0, none⟩ = some (.int .i64 s) ∧ w'.cell? ⟨w.heap.size, 1, none⟩ = some (.int .i64 o) ∧ w'.cell? ⟨w.heap.size, 2, none⟩ = some (.int .i64 a) ∧ w'.cell? ⟨w.heap.size + 1, 0, none⟩ = some (.int .i64 s') ∧ w'.cell? ⟨w.heap.size + 1, 1, none⟩ = some (.int .i64 o') ∧ w'.cell? ⟨w.heap.size + 1, 2, none⟩ = some (.int .i64 a'))
      (((try dsimp only); (repeat' apply And.intro) <;> (repeat (first | with_reducible assumption | with_reducible refine cell_al ?_ | with_reducible refine cell_drew ?_ | with_reducible refine Kp.get (by with_reducible assumption) ?_))))
      (first | (go_at_call 33; refine (of_exact _ _ _ _ (by assumption) (by assumption) (by assumption) (by assumption)).mono ?_; rintro e wx ⟨rfl, rfl⟩))
    all_goals
      go_wp2_with fail
      go_meet
      exact ⟨_, _, rfl, rfl, by simp [go_sem], by simp [go_sem], by simp [go_sem], by simp [go_sem], by first | omega | (simp; omega) | simp, by first | omega | (simp; omega) | simp, by repeat (first | exact Kp.refl _ | refine Kp.drew ?_ | refine Kp.al ?_ _)⟩
  case rest =>
    obtain ⟨b9, b10, rfl, rfl, c0, c1, d0, d1, e9, e10, K2⟩ := hcut
    have l0 := cell_lt r0
    have d9 : ¬ w.heap.size + 1 + 1 = b9 := by omega
    have d10 : ¬ w.heap.size + 1 + 1 = b10 := by omega
    have d9' : ¬ b9 = w.heap.size + 1 + 1 := by omega
    have d10' : ¬ b10 = w.heap.size + 1 + 1 := by omega
    have r0' := K2.get r0
    have r1' := K2.get r1
    have f0' := K2.free r0 f0
    have f1' := K2.free r1 f1
    have KW2 := KW.trans K2
    have O0 : Ow wc (w.heap.size + 1 + 1) 0 (.int .i64 0) := ⟨r0', f0'⟩
    have O1 : Ow wc (w.heap.size + 1 + 1) 1 (.int .i64 0) := ⟨r1', f1'⟩
    clear r0 r1 f0 f1 K2 KW p0 p1 p2 q0 q1 q2
    have l9 := cell_lt c0
    have l10 := cell_lt d0
    have l := cell_lt r0'
    obtain ⟨hb1a, hb1b⟩ := th_bd (7 * o + s) a (by omega) (by omega) h5 h6
    obtain ⟨hb2a, hb2b⟩ := th_bd (7 * o' + s') a' (by omega) (by omega) k5 k6
    have n0 := World.new_ne _ _ r0'
    have n1 := World.new_ne _ _ r1'
    have g1 : 0 ≤ 7 * o + s := by omega
    have g2 : 7 * o + s ≤ 62 := by omega
    have g3 : 0 ≤ 7 * o' + s' := by omega
    have g4 : 7 * o' + s' ≤ 62 := by omega
    have m1 : ¬ w.heap.size + 1 + 1 = wc.heap.size := by omega
    have m2 : ¬ w.heap.size + 1 = wc.heap.size := by omega
    have m3 : ¬ w.heap.size + 1 + 1 = wc.heap.size + 1 := by omega
    have i1 : IntKind.i64.wrap (7 * o' + s' - (7 * o + s)) = 7 * o' + s' - (7 * o + s) := IntWalk.i64_in _ (by omega)
    have i2 : IntKind.i64.wrap (th (7 * o' + s') a' - th (7 * o + s) a) = th (7 * o' + s') a' - th (7 * o + s) a := IntWalk.i64_in _ (by omega)
    go_wp2_with fail
    go_region_held3 (fun w' => w'.cell? ⟨b9, 0, none⟩ = some (.int .i64 (7 * o + s)) ∧ w'.cell? ⟨b9, 1, none⟩ = some (.int .i64 a) ∧ w'.cell? ⟨b10, 0, none⟩ = some (.int .i64 (7 * o' + s')) ∧ w'.cell? ⟨b10, 1, none⟩ = some (.int .i64 a'))
      (((try dsimp only); (repeat' apply And.intro) <;> (repeat (first | with_reducible assumption | with_reducible refine cell_al ?_ | with_reducible refine cell_drew ?_ | with_reducible refine cell_drewN ?_ | with_reducible refine cell_set (by simp) ?_ | with_reducible refine Kp.get (by with_reducible assumption) ?_))))
      (first | (go_at_call 37; refine (theight_th _ _ _ (Tab.below ht0 (by repeat (first | exact Kp.refl _ | with_reducible assumption | with_reducible refine Kp.drew ?_ | with_reducible refine Kp.drewN ?_ _ | with_reducible refine Kp.al ?_ _ | with_reducible refine Kp.trans ?_ (by with_reducible assumption)))) (by assumption) (by assumption) (by assumption) (by assumption)).mono ?_; rintro e wx ⟨rfl, hk⟩; have O0x := Ow.kp O0 (show Kp wc wx by repeat (first | exact Kp.refl _ | with_reducible assumption | with_reducible refine Kp.drew ?_ | with_reducible refine Kp.drewN ?_ _ | with_reducible refine Kp.al ?_ _ | with_reducible refine Kp.trans ?_ (by with_reducible assumption))); have O1x := Ow.kp O1 (show Kp wc wx by repeat (first | exact Kp.refl _ | with_reducible assumption | with_reducible refine Kp.drew ?_ | with_reducible refine Kp.drewN ?_ _ | with_reducible refine Kp.al ?_ _ | with_reducible refine Kp.trans ?_ (by with_reducible assumption))); obtain ⟨r0x, f0x⟩ := O0x; obtain ⟨r1x, f1x⟩ := O1x))
    clear i1 i2
    go_wp2_with fail
    rw [th_eq _ _ _ h1 h2, th_eq _ _ _ k1 k2]
    have R0 : wx.cell? ⟨w.heap.size + 1 + 1, 0, none⟩ = some (.int .i64 0) := by assumption
    have R1 : wx.cell? ⟨w.heap.size + 1 + 1, 1, none⟩ = some (.int .i64 0) := by assumption
    exact bodyPost_ret (v := .tuple #[.agg #[.int .i64 (7 * o' + s' - (7 * o + s)), .int .i64 (ht s' o' a' - ht s o a)], .int .i64 0]) (by simp [results, Tryd.results16, go_sem, R0, R1]) rfl ⟨rfl, by repeat (first | exact Kp.refl _ | with_reducible assumption | with_reducible refine Kp.set ?_ _ _ ?_ | (dsimp only; omega) | with_reducible refine Kp.drew ?_ | with_reducible refine Kp.drewN ?_ _ | with_reducible refine Kp.al ?_ _ | with_reducible refine Kp.trans ?_ (by with_reducible assumption))⟩
end Go.Proofs.YtmmpjajjebljpaaDoor
