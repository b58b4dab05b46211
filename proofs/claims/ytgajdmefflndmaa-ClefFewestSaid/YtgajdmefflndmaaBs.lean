/- The walk of ClefBest. -/
import Derived.Test.YtgajdmefflndmaaBr
import Derived.Laws.AppendOwnNone
namespace Go.Proofs.Ytgajdmefflndmaa
open Go.RowKit

/-- The cells of a list of pitches. -/
def flat : List Pt → List Value
  | [] => []
  | p :: ps => .int .i64 p.1 :: .int .i64 p.2.1 :: .int .i64 p.2.2 :: flat ps
theorem flat_len : ∀ ps : List Pt, (flat ps).length = ps.length * 3
  | [] => rfl
  | _ :: ps => by simp only [flat, List.length_cons, flat_len ps]; omega
theorem flat_at : ∀ (ps : List Pt) (k : Nat), k < ps.length → (flat ps)[k * 3]? = some (.int .i64 (ptAt ps k).1) ∧ (flat ps)[k * 3 + 1]? = some (.int .i64 (ptAt ps k).2.1) ∧ (flat ps)[k * 3 + 2]? = some (.int .i64 (ptAt ps k).2.2)
  | [], k, h => absurd h (by simp)
  | p :: ps, 0, _ => ⟨rfl, rfl, rfl⟩
  | p :: ps, k + 1, h => by
    have ih := flat_at ps k (by simpa using h)
    have e : (k + 1) * 3 = k * 3 + 1 + 1 + 1 := by omega
    rw [e]
    exact ih
theorem flat_one (ps : List Pt) : ∀ u ∈ flat ps, u.oneCell' = true := by
  induction ps with
  | nil => intro u hu; cases hu
  | cons p ps ih =>
    intro u hu
    simp only [flat, List.mem_cons] at hu
    rcases hu with rfl | rfl | rfl | hu
    · rfl
    · rfl
    · rfl
    · exact ih u hu
theorem add_none (b off j : Nat) : (⟨b, off, none⟩ : Addr).add j = ⟨b, off + j, none⟩ := by
  unfold Addr.add; split
  · next h => rw [h, Nat.add_zero]
  · rfl
theorem cell_lt' {w : World} {a : Addr} {v : Value} (h : w.cell? a = some v) : a.block < w.heap.size := by
  by_cases hb : a.block < w.heap.size
  · exact hb
  · have e : w.heap[a.block]? = none := by simp; omega
    simp [World.cell?, e] at h
theorem pts_flat {w : World} {ad : Addr} {n : Nat} {ps : List Pt} (h : Pts w (some ad) n ps) : ∀ j u, (flat ps)[j]? = some u → w.cell? (ad.add j) = some u := by
  intro j u hu
  have hj : j < ps.length * 3 := by rw [← flat_len]; exact (List.getElem?_eq_some_iff.1 hu).1
  have hl := h.1
  obtain ⟨b, off, e, c0, c1, c2⟩ := h.2 (j / 3) (by omega)
  injection e with e
  subst e
  rw [add_none]
  obtain ⟨f0, f1, f2⟩ := flat_at ps (j / 3) (by omega)
  have : j = j / 3 * 3 ∨ j = j / 3 * 3 + 1 ∨ j = j / 3 * 3 + 2 := by omega
  rcases this with e | e | e
  · rw [e] at hu ⊢
    rw [f0] at hu; cases hu; exact c0
  · rw [e] at hu ⊢
    rw [f1] at hu; cases hu; exact c1
  · rw [e] at hu ⊢
    rw [f2] at hu; cases hu; exact c2
theorem pts_of_own {w : World} {B : Nat} {t : TypeId} {A : Option Addr} {n c : Nat} {ps : List Pt} (h : w.ownsRow B t 3 (.slice A n c) n (flat ps)) : Pts w A n ps := by
  obtain ⟨hl, h⟩ := h
  have hl' : ps.length = n := by rw [flat_len] at hl; omega
  refine ⟨hl', fun k hk => ?_⟩
  rcases h with ⟨_, h0⟩ | ⟨g, cap, cur, e, _, hg, _, _, _, ht⟩
  · omega
  · obtain rfl : A = some ⟨g, 0, none⟩ := by injection e
    have get : ∀ j v, j < n * 3 → (flat ps)[j]? = some v → w.cell? ⟨g, 0 + j, none⟩ = some v := by
      intro j v hj hv
      have h2 : (cur.toList.take (n * 3))[j]? = cur.toList[j]? := List.getElem?_take_of_lt hj
      rw [ht, hv] at h2
      have h3 : cur[j]? = some v := by rw [h2]; simp
      simp only [World.cell?, hg, Nat.zero_add]
      simpa using h3
    obtain ⟨f0, f1, f2⟩ := flat_at ps k (by omega)
    exact ⟨g, 0, rfl, get _ _ (by omega) f0, get _ _ (by omega) f1, get _ _ (by omega) f2⟩
theorem own_slice {w : World} {B : Nat} {t : TypeId} {s n : Nat} {v : Value} {xs : List Value} (h : w.ownsRow B t s v n xs) : ∃ A c, v = .slice A n c := by
  obtain ⟨_, h⟩ := h
  rcases h with ⟨e, rfl⟩ | ⟨g, cap, cur, e, _⟩
  · exact ⟨_, _, e⟩
  · exact ⟨_, _, e⟩
theorem pitch_info : (Try.prog.info? 25).map (fun i => (i.zero, i.size, i.bytes)) = some (some (.agg #[.int .i64 0, .int .i64 0, .int .i64 0]), 3, 24) := by kernel_rfl

theorem bests_same (key : Int) (ps : List Pt) (n : Nat) (hn : n ≤ 1000) : ∃ x y er : Int, ∀ (w : World) (A : Option Addr) (c : Nat), Pts w A n ps →
    (Calls Try.prog 13 #[.int .i64 key, .slice A n c] w fun e w' => e = .returned (.tuple #[.agg #[.int .i64 x, .int .i64 y], .int .i64 er]) ∧ Kp w w') ∧
    (Calls Try.prog 14 #[.int .i64 key, .slice A n c] w fun e w' => e = .returned (.tuple #[.agg #[.int .i64 x, .int .i64 y], .int .i64 er]) ∧ Kp w w') := by
  by_cases hk : 0 ≤ key ∧ key ≤ 2
  · by_cases hv : ∀ k, k < n → Vp (ptAt ps k).1 (ptAt ps k).2.1 (ptAt ps k).2.2
    · by_cases hb : (bestC (nums ps)).2 < 0
      · refine ⟨_, _, _, fun w A c hx => ⟨best_none key A n c ps w hk.1 hk.2 hx hn hv hb, (rbest_ok key A n c ps w hk.1 hk.2 hx hn hv).mono ?_⟩⟩
        rintro e w' ⟨⟨_, rfl⟩ | ⟨h, _⟩, hk⟩
        · exact ⟨rfl, hk⟩
        · exact absurd hb h
      · refine ⟨_, _, _, fun w A c hx => ⟨best_is key A n c ps w hk.1 hk.2 hx hn hv (bestC (nums ps)).1.1 (bestC (nums ps)).1.2 (bestC (nums ps)).2 (Prod.ext (Prod.ext rfl rfl) rfl) (by omega), (rbest_ok key A n c ps w hk.1 hk.2 hx hn hv).mono ?_⟩⟩
        rintro e w' ⟨⟨h, _⟩ | ⟨_, rfl⟩, hk⟩
        · exact absurd h hb
        · exact ⟨rfl, hk⟩
    · exact ⟨_, _, _, fun w A c hx => ⟨best_bad key A n c ps w hk.1 hk.2 hx hn hv, rbest_bad key A n c ps w hk.1 hk.2 hx hn hv⟩⟩
  · exact ⟨_, _, _, fun w A c _ => ⟨best_e1 key _ w (by omega), rbest_e1 key _ w (by omega)⟩⟩

set_option maxRecDepth 100000 in
set_option maxHeartbeats 2000000 in
theorem cbest_some (key : Int) (ad : Addr) (n c : Nat) (ps : List Pt) (w : World) (hx : Pts w (some ad) n ps) (hn : n ≤ 60) :
    Calls Try.prog 4 #[.int .i64 key, .slice (some ad) n c] w fun e w' => e = .returned (.bool true) ∧ Kp w w' := by
  obtain ⟨x, y, er, cs⟩ := bests_same key ps n (by omega)
  obtain ⟨i0, hi0, hz0, hz1, hz2⟩ := info_parts pitch_info
  have HI := Lib.hid hi0; have HZ0 := Lib.hid hz0; have HZ1 := Lib.hid hz1; have HZ2 := Lib.hid hz2
  have CS := Lib.hid cs; have HX := Lib.hid hx
  clear cs hx hi0 hz0 hz1 hz2
  have hd60 : decide (60 < (n : Int)) = false := by simp; omega
  go_enter Try.func4, Try.ntmps4
  go_wp2_with (at_builtin; refine wpList_append_own _ rfl (.tmp 15) (.tmp 16) 31 rfl w.heap.size 25 i0 (.agg #[.int .i64 0, .int .i64 0, .int .i64 0]) 3 24 Try.underlying31 HI.out HZ0.out HZ1.out HZ2.out rfl (by decide) (.slice (some ⟨w.heap.size, 0, none⟩) 0 0) 0 [] rfl ?own ad n c (flat ps) rfl ?c0 ?c1 ?c2 ?c3 ?c4 ?c5 ?_)
  case own => exact World.ownsRow_made w #[] 0 (Nat.le_refl _) (by decide) rfl
  case c0 => rw [flat_len, HX.out.1]
  case c1 => exact fun j u hu => by have := pts_flat HX.out j u hu; exact (World.cell?_alloc_lt w _ _ (cell_lt' this)).trans this
  case c2 => exact flat_one ps
  case c3 => simp only [maxLen]; omega
  case c4 => omega
  case c5 => simp
  intro v1 w1 hown hgrow _
  obtain ⟨B, d, rfl⟩ := own_slice hown
  have KA : Kp w w1 := Below.grown ((Kp.refl w).al _) hgrow (by simp) (fun j hj => by simp [Value.ownBlock] at hj; omega)
  have P1 := Lib.hid (pts_of_own hown)
  clear hown hgrow
  go_wp2_with fail
  refine ((CS.out _ _ _ P1.out).1).mono ?_
  rintro e w11 ⟨rfl, hb1⟩
  have Q1 : Kp w1 w11 := by repeat (first | exact Kp.refl _ | with_reducible assumption | with_reducible refine Kp.set ?_ _ _ ?_ | (dsimp only; omega) | with_reducible refine Kp.drew ?_ | with_reducible refine Kp.drewN ?_ _ | with_reducible refine Kp.al ?_ _ | with_reducible refine Kp.trans ?_ (by with_reducible assumption))
  have K1 := Q1
  clear hb1 Q1
  go_wp2_with fail
  refine ((CS.out _ _ _ (HX.out.kp (by repeat (first | exact Kp.refl _ | with_reducible assumption | with_reducible refine Kp.set ?_ _ _ ?_ | (dsimp only; omega) | with_reducible refine Kp.drew ?_ | with_reducible refine Kp.drewN ?_ _ | with_reducible refine Kp.al ?_ _ | with_reducible refine Kp.trans ?_ (by with_reducible assumption))))).2).mono ?_
  rintro e w12 ⟨rfl, hb2⟩
  have Q2 : Kp w11 w12 := by repeat (first | exact Kp.refl _ | with_reducible assumption | with_reducible refine Kp.set ?_ _ _ ?_ | (dsimp only; omega) | with_reducible refine Kp.drew ?_ | with_reducible refine Kp.drewN ?_ _ | with_reducible refine Kp.al ?_ _ | with_reducible refine Kp.trans ?_ (by with_reducible assumption))
  have c1_0_2 := hb2.get (b := w11.heap.size) (o := 0) (v := .int .i64 (x)) (by first | with_reducible assumption | (simp [go_sem]; done) | (simp [go_sem, *]; done))
  have c1_1_2 := hb2.get (b := w11.heap.size) (o := 1) (v := .int .i64 (y)) (by first | with_reducible assumption | (simp [go_sem]; done) | (simp [go_sem, *]; done))
  have l1_2 := cell_lt c1_0_2
  have K2 := K1.trans Q2
  clear hb2 K1 Q2
  go_wp2_with fail
  have Q1 := Lib.hid (P1.out.kp K2)
  have Q2 := Lib.hid (HX.out.kp (KA.trans K2))
  clear P1 HX
  go_loopw [10] (fun v wr => ∃ k : Nat, k ≤ n ∧ v = .int .i64 (k : Int) ∧ Kp w12 wr ∧ wr.cell? ⟨w12.heap.size, 0, none⟩ = some (.int .i64 x) ∧ wr.cell? ⟨w12.heap.size, 1, none⟩ = some (.int .i64 y)) (fun v _ => n - (intOf v).toNat)
  case atStart => exact ⟨0, by omega, rfl, by repeat (first | exact Kp.refl _ | with_reducible assumption | with_reducible refine Kp.set ?_ _ _ ?_ | (dsimp only; omega) | with_reducible refine Kp.drew ?_ | with_reducible refine Kp.drewN ?_ _ | with_reducible refine Kp.al ?_ _ | with_reducible refine Kp.trans ?_ (by with_reducible assumption)), by simp [go_sem], by simp [go_sem]⟩
  case round =>
    obtain ⟨k, hk, rfl, hK, q0, q1⟩ := hrel
    by_cases hlt : k < n
    · have hd : decide ((k : Int) < (n : Int)) = true := by simp; omega
      obtain ⟨b1, off1, rfl, e0, e1, e2⟩ := (Q1.out.kp hK).2 k hlt
      obtain ⟨b2, off2, ed, f0, f1, f2⟩ := (Q2.out.kp hK).2 k hlt
      injection ed with ed
      subst ed
      go_wp2_with fail
      go_quiet (fail)
      go_wp2_with fail
      go_roundw
      case rel => exact ⟨k + 1, by omega, by go_num, by repeat (first | exact Kp.refl _ | with_reducible assumption | with_reducible refine Kp.set ?_ _ _ ?_ | (dsimp only; omega) | with_reducible refine Kp.drew ?_ | with_reducible refine Kp.drewN ?_ _ | with_reducible refine Kp.al ?_ _ | with_reducible refine Kp.trans ?_ (by with_reducible assumption)), cell_drewN q0, cell_drewN q1⟩
      case measure => simp [intOf]; omega
    · have hd : decide ((k : Int) < (n : Int)) = false := by simp; omega
      have r0 := hK.get c1_0_2
      have r1 := hK.get c1_1_2
      clear c1_0_2 c1_1_2
      go_wp2_with fail
      refine (awake_ok _).mono ?_
      rintro e w4 ⟨rfl, hb4⟩
      go_wp2_with fail
      go_ret
      exact ⟨rfl, by repeat (first | exact Kp.refl _ | with_reducible assumption | with_reducible refine Kp.set ?_ _ _ ?_ | (dsimp only; omega) | with_reducible refine Kp.drew ?_ | with_reducible refine Kp.drewN ?_ _ | with_reducible refine Kp.al ?_ _ | with_reducible refine Kp.trans ?_ (by with_reducible assumption))⟩

set_option maxRecDepth 100000 in
set_option maxHeartbeats 2000000 in
theorem cbest_nil (key : Int) (w : World) :
    Calls Try.prog 4 #[.int .i64 key, .slice none 0 0] w fun e w' => e = .returned (.bool true) ∧ Kp w w' := by
  obtain ⟨x, y, er, cs⟩ := bests_same key [] 0 (by omega)
  obtain ⟨i0, hi0, hz0, hz1, hz2⟩ := info_parts pitch_info
  have HI := Lib.hid hi0
  have CS := Lib.hid cs
  clear cs hi0 hz0 hz1 hz2
  have HX : Hid (∀ (w : World) A, Pts w A 0 []) := fun w A => ⟨rfl, fun k hk => absurd hk (by omega)⟩
  go_enter Try.func4, Try.ntmps4
  go_wp2_with (at_builtin; refine wpList_append_own_none rfl (.tmp 15) (.tmp 16) 31 rfl w.heap.size 25 i0 3 Try.underlying31 HI.out (.slice (some ⟨w.heap.size, 0, none⟩) 0 0) 0 [] rfl ?own rfl ?_)
  case own => exact World.ownsRow_made w #[] 0 (Nat.le_refl _) (by decide) rfl
  go_wp2_with fail
  refine ((CS.out _ _ _ (HX.out _ _)).1).mono ?_
  rintro e w1 ⟨rfl, hb1⟩
  have Q1 : Kp w w1 := by repeat (first | exact Kp.refl _ | with_reducible assumption | with_reducible refine Kp.set ?_ _ _ ?_ | (dsimp only; omega) | with_reducible refine Kp.drew ?_ | with_reducible refine Kp.drewN ?_ _ | with_reducible refine Kp.al ?_ _ | with_reducible refine Kp.trans ?_ (by with_reducible assumption))
  have K1 := Q1
  clear hb1 Q1
  go_wp2_with fail
  refine ((CS.out _ _ _ (HX.out _ _)).2).mono ?_
  rintro e w2 ⟨rfl, hb2⟩
  have Q2 : Kp w1 w2 := by repeat (first | exact Kp.refl _ | with_reducible assumption | with_reducible refine Kp.set ?_ _ _ ?_ | (dsimp only; omega) | with_reducible refine Kp.drew ?_ | with_reducible refine Kp.drewN ?_ _ | with_reducible refine Kp.al ?_ _ | with_reducible refine Kp.trans ?_ (by with_reducible assumption))
  have c1_0_2 := hb2.get (b := w1.heap.size) (o := 0) (v := .int .i64 (x)) (by first | with_reducible assumption | (simp [go_sem]; done) | (simp [go_sem, *]; done))
  have c1_1_2 := hb2.get (b := w1.heap.size) (o := 1) (v := .int .i64 (y)) (by first | with_reducible assumption | (simp [go_sem]; done) | (simp [go_sem, *]; done))
  have l1_2 := cell_lt c1_0_2
  have K2 := K1.trans Q2
  clear hb2 K1 Q2
  go_wp2_with fail
  go_loopw [10] (fun v wr => v = .int .i64 (0 : Int) ∧ Kp w2 wr ∧ wr.cell? ⟨w2.heap.size, 0, none⟩ = some (.int .i64 x) ∧ wr.cell? ⟨w2.heap.size, 1, none⟩ = some (.int .i64 y)) (fun _ _ => 0)
  case atStart => exact ⟨rfl, by repeat (first | exact Kp.refl _ | with_reducible assumption | with_reducible refine Kp.set ?_ _ _ ?_ | (dsimp only; omega) | with_reducible refine Kp.drew ?_ | with_reducible refine Kp.drewN ?_ _ | with_reducible refine Kp.al ?_ _ | with_reducible refine Kp.trans ?_ (by with_reducible assumption)), by simp [go_sem], by simp [go_sem]⟩
  case round =>
    obtain ⟨rfl, hK, q0, q1⟩ := hrel
    have r0 := hK.get c1_0_2
    have r1 := hK.get c1_1_2
    clear c1_0_2 c1_1_2
    go_wp2_with fail
    refine (awake_ok _).mono ?_
    rintro e w4 ⟨rfl, hb4⟩
    go_wp2_with fail
    go_ret
    exact ⟨rfl, by repeat (first | exact Kp.refl _ | with_reducible assumption | with_reducible refine Kp.set ?_ _ _ ?_ | (dsimp only; omega) | with_reducible refine Kp.drew ?_ | with_reducible refine Kp.drewN ?_ _ | with_reducible refine Kp.al ?_ _ | with_reducible refine Kp.trans ?_ (by with_reducible assumption))⟩

theorem cbest_long (key : Int) (A : Option Addr) (n c : Nat) (w : World) (hn : 60 < n) :
    Calls Try.prog 4 #[.int .i64 key, .slice A n c] w fun e w' => e = .returned (.bool true) ∧ Kp w w' := by
  have hd : decide (60 < (n : Int)) = true := by simp; omega
  go_enter Try.func4, Try.ntmps4
  go_wp2_with fail
  refine (awake_ok _).mono ?_
  rintro e w4 ⟨rfl, hb4⟩
  go_wp2_with fail
  go_ret
  exact ⟨rfl, by repeat (first | exact Kp.refl _ | with_reducible assumption | with_reducible refine Kp.set ?_ _ _ ?_ | (dsimp only; omega) | with_reducible refine Kp.drew ?_ | with_reducible refine Kp.drewN ?_ _ | with_reducible refine Kp.al ?_ _ | with_reducible refine Kp.trans ?_ (by with_reducible assumption))⟩

/-- The law at any slice of pitches. -/
theorem cbest_walk (key : Int) (A : Option Addr) (n c : Nat) (ps : List Pt) (w : World) (hx : Pts w A n ps) (h0 : A = none → n = 0 ∧ c = 0) :
    Calls Try.prog 4 #[.int .i64 key, .slice A n c] w fun e w' => e = .returned (.bool true) ∧ Kp w w' := by
  by_cases hn : n ≤ 60
  · cases A with
    | none => obtain ⟨rfl, rfl⟩ := h0 rfl; exact cbest_nil key w
    | some ad => exact cbest_some key ad n c ps w hx hn
  · exact cbest_long key A n c w (by omega)
end Go.Proofs.Ytgajdmefflndmaa
