/- Lists of pitches in memory; from and sung. -/
import Derived.Test.YtaobndijldidfaaDoorGn
set_option linter.unusedSimpArgs false
set_option linter.unusedVariables false
namespace Go.Proofs.YtaobndijldidfaaDoor
open Go.RowKit

/-- The cells of a list of pitches. -/
def flat : List Pt → List Value
  | [] => []
  | p :: ps => .int .i64 p.1 :: .int .i64 p.2.1 :: .int .i64 p.2.2 :: flat ps
theorem flat_len : ∀ ps : List Pt, (flat ps).length = ps.length * 3
  | [] => rfl
  | _ :: ps => by simp only [flat, List.length_cons, flat_len ps]; omega
theorem flat_at : ∀ (ps : List Pt) (k : Nat), k < ps.length → (flat ps)[k * 3]? = some (.int .i64 (ptAt ps k).1) ∧ (flat ps)[k * 3 + 1]? = some (.int .i64 (ptAt ps k).2.1) ∧ (flat ps)[k * 3 + 2]? = some (.int .i64 (ptAt ps k).2.2)
  | [], k, h => absurd h (by simp)
  | p :: ps, 0, _ => ⟨rfl, rfl, rfl⟩
  | p :: ps, k + 1, h => by
    have ih := flat_at ps k (by simpa using h)
    have e : (k + 1) * 3 = k * 3 + 1 + 1 + 1 := by omega
    rw [e]
    exact ih
theorem flat_one (ps : List Pt) : ∀ u ∈ flat ps, u.oneCell' = true := by
  induction ps with
  | nil => intro u hu; cases hu
  | cons p ps ih =>
    intro u hu
    simp only [flat, List.mem_cons] at hu
    rcases hu with rfl | rfl | rfl | hu
    · rfl
    · rfl
    · rfl
    · exact ih u hu
theorem add_none (b off j : Nat) : (⟨b, off, none⟩ : Addr).add j = ⟨b, off + j, none⟩ := by
  unfold Addr.add; split
  · next h => rw [h, Nat.add_zero]
  · rfl
theorem cell_lt' {w : World} {a : Addr} {v : Value} (h : w.cell? a = some v) : a.block < w.heap.size := by
  by_cases hb : a.block < w.heap.size
  · exact hb
  · have e : w.heap[a.block]? = none := by simp; omega
    simp [World.cell?, e] at h
theorem pts_flat {w : World} {ad : Addr} {n : Nat} {ps : List Pt} (h : Pts w (some ad) n ps) : ∀ j u, (flat ps)[j]? = some u → w.cell? (ad.add j) = some u := by
  intro j u hu
  have hj : j < ps.length * 3 := by rw [← flat_len]; exact (List.getElem?_eq_some_iff.1 hu).1
  have hl := h.1
  obtain ⟨b, off, e, c0, c1, c2⟩ := h.2 (j / 3) (by omega)
  injection e with e
  subst e
  rw [add_none]
  obtain ⟨f0, f1, f2⟩ := flat_at ps (j / 3) (by omega)
  have : j = j / 3 * 3 ∨ j = j / 3 * 3 + 1 ∨ j = j / 3 * 3 + 2 := by omega
  rcases this with e | e | e
  · rw [e] at hu ⊢
    rw [f0] at hu; cases hu; exact c0
  · rw [e] at hu ⊢
    rw [f1] at hu; cases hu; exact c1
  · rw [e] at hu ⊢
    rw [f2] at hu; cases hu; exact c2
theorem pts_of_own {w : World} {B : Nat} {t : TypeId} {A : Option Addr} {n c : Nat} {ps : List Pt} (h : w.ownsRow B t 3 (.slice A n c) n (flat ps)) : Pts w A n ps := by
  obtain ⟨hl, h⟩ := h
  have hl' : ps.length = n := by rw [flat_len] at hl; omega
  refine ⟨hl', fun k hk => ?_⟩
  rcases h with ⟨_, h0⟩ | ⟨g, cap, cur, e, _, hg, _, _, _, ht⟩
  · omega
  · obtain rfl : A = some ⟨g, 0, none⟩ := by injection e
    have get : ∀ j v, j < n * 3 → (flat ps)[j]? = some v → w.cell? ⟨g, 0 + j, none⟩ = some v := by
      intro j v hj hv
      have h2 : (cur.toList.take (n * 3))[j]? = cur.toList[j]? := List.getElem?_take_of_lt hj
      rw [ht, hv] at h2
      have h3 : cur[j]? = some v := by rw [h2]; simp
      simp only [World.cell?, hg, Nat.zero_add]
      simpa using h3
    obtain ⟨f0, f1, f2⟩ := flat_at ps k (by omega)
    exact ⟨g, 0, rfl, get _ _ (by omega) f0, get _ _ (by omega) f1, get _ _ (by omega) f2⟩
theorem pitch_info : (Tryd.prog.info? 36).map (fun i => (i.zero, i.size, i.bytes)) = some (some (.agg #[.int .i64 0, .int .i64 0, .int .i64 0]), 3, 24) := by kernel_rfl
theorem flat_app (ps qs : List Pt) : flat (ps ++ qs) = flat ps ++ flat qs := by
  induction ps with
  | nil => rfl
  | cons p ps ih => simp [flat, ih]

def fromP (p m : Nat) : List Pt := (List.range m).map fun i => natP (p + i)
theorem fromP_succ (p m : Nat) : flat (fromP p (m + 1)) = flat (fromP p m) ++ [.int .i64 (natP (p + m)).1, .int .i64 (natP (p + m)).2.1, .int .i64 (natP (p + m)).2.2] := by
  unfold fromP
  rw [List.range_succ, List.map_append, flat_app]
  rfl
set_option maxRecDepth 100000 in
set_option maxHeartbeats 2000000 in
theorem from_ok (p m : Nat) (w : World) (hp : p + m ≤ 30) :
    Calls Tryd.prog 35 #[.int .i64 (p : Int), .int .i64 (m : Int)] w fun e w' => (∃ A c, e = .returned (.slice A m c) ∧ Pts w' A m (fromP p m)) ∧ Kp w w' := by
  obtain ⟨i0, hi0, hz0, hz1, hz2⟩ := info_parts pitch_info
  have HI := Lib.hid hi0; have HZ0 := Lib.hid hz0; have HZ1 := Lib.hid hz1; have HZ2 := Lib.hid hz2
  clear hi0 hz0 hz1 hz2
  go_enter Tryd.func35, Tryd.ntmps35
  go_wp2_with fail
  go_loopw [5, 6] (fun l v wr => ∃ k : Nat, k ≤ m ∧ v = .int .i64 (k : Int) ∧ wr.ownsRow w.heap.size 36 3 l k (flat (fromP p k)) ∧ Kp w wr) (fun _ v _ => m - (intOf v).toNat)
  case atStart => exact ⟨0, by omega, rfl, World.ownsRow_nil _ _ _ _, Kp.refl _⟩
  case round =>
    obtain ⟨k, hk, rfl, hown, hK⟩ := hrel
    obtain ⟨B, d, rfl⟩ := ow_form hown
    have HO := Lib.hid hown
    clear hown
    by_cases hlt : k < m
    · have hd : decide ((k : Int) < (m : Int)) = true := by simp; omega
      have i1 : IntKind.i64.wrap ((p : Int) + (k : Int)) = ((p + k : Nat) : Int) := by rw [IntWalk.i64_in _ (by omega)]; omega
      have cn := fun w => natural_ok (p + k) w (by omega)
      have hfs := fromP_succ p k
      obtain ⟨s, es⟩ : ∃ s, s = (natP (p + k)).1 := ⟨_, rfl⟩
      obtain ⟨o, eo⟩ : ∃ o, o = (natP (p + k)).2.1 := ⟨_, rfl⟩
      obtain ⟨a, ea⟩ : ∃ a, a = (natP (p + k)).2.2 := ⟨_, rfl⟩
      rw [← es, ← eo, ← ea] at cn hfs
      obtain ⟨q, eq⟩ : ∃ q : Int, q = ((p + k : Nat) : Int) := ⟨_, rfl⟩
      rw [← eq] at i1 cn
      have CN := Lib.hid cn; have EF := Lib.hid hfs
      clear cn hfs es eo ea eq
      go_wp2_with fail
      refine (CN.out _).mono ?_
      rintro e w1 ⟨rfl, hb1⟩
      have KA := Lib.hid (hK.trans hb1)
      have HO1 := Lib.hid (ow_kp HO.out hb1)
      have hb2 := hb1.low
      clear hb1
      go_wp2_with (at_builtin; refine wpList_append_own _ rfl (.tmp 12) (.tmp 17) 24 rfl w.heap.size 36 i0 (.agg #[.int .i64 0, .int .i64 0, .int .i64 0]) 3 24 Tryd.underlying24 HI.out HZ0.out HZ1.out HZ2.out rfl (by decide) _ k (flat (fromP p k)) rfl ?own ⟨w1.heap.size, 0, none⟩ 1 1 [.int .i64 s, .int .i64 o, .int .i64 a] rfl rfl ?c1 ?c2 ?c3 ?c4 ?c5 ?_)
      case own => exact HO1.out.alloc _
      case c1 => exact cell3_new _ _ _ _ _
      case c2 => simp [Value.oneCell']
      case c3 => simp only [maxLen]; omega
      case c4 => omega
      case c5 => have := KA.out.low; simp; omega
      intro v' w2 hown' hgrow _
      have hk2 := Lib.hid (ow_app KA.out HO1.out ((Kp.refl w1).al _) hgrow)
      rw [← EF.out] at hown'
      obtain ⟨g, cap, rfl⟩ := ownsRow_succ hown'
      have HO2 := Lib.hid hown'
      clear hgrow hown'
      go_wp2_with fail
      go_roundw
      case rel => exact ⟨k + 1, by omega, by go_num, HO2.out, hk2.out⟩
      case measure => simp [intOf]; omega
    · obtain rfl : m = k := by omega
      have hd : decide ((m : Int) < (m : Int)) = false := by simp
      go_wp2_with fail
      go_ret
      exact ⟨⟨_, _, rfl, pts_of_own HO.out⟩, hK⟩

set_option maxRecDepth 100000 in
set_option maxHeartbeats 2000000 in
theorem sung_ok (s o a : Int) (B : Option Addr) (m d : Nat) (ys : List Sy) (w : World) (ht0 : Tab w) (hv : Vp s o a) (hy : Sys w B m ys) (hm : m ≤ 100) :
    Calls Tryd.prog 32 #[.agg #[.int .i64 s, .int .i64 o, .int .i64 a], .slice B m d] w fun e w' => e = .returned (.bool (decide (wys (s, o, a) = ys))) ∧ Kp w w' := by
  obtain ⟨v1, v2, v3, v4, v5, v6⟩ := hv
  have CW := Lib.hid (fun w t => gways_ok s o a w t v1 v2 v3 v4 v5 v6)
  have HT := Lib.hid ht0; have HY := Lib.hid hy
  have hlen : (wys (s, o, a)).length ≤ 1000 := Nat.le_trans (wysTo_len _ _) (by omega)
  have HL := Lib.hid hlen
  clear ht0 hy v1 v2 v3 v4 v5 v6 hlen
  go_enter Tryd.func32, Tryd.ntmps32
  go_wp2_with fail
  refine (CW.out _ (HT.out.below (by repeat (first | exact Kp.refl _ | with_reducible assumption | with_reducible refine Kp.set ?_ _ _ ?_ | (dsimp only; omega) | with_reducible refine Kp.drew ?_ | with_reducible refine Kp.drewN ?_ _ | with_reducible refine Kp.al ?_ _ | with_reducible refine Kp.trans ?_ (by with_reducible assumption))))).mono ?_
  rintro e w1 ⟨⟨A1, c1, rfl, hfr, hsy⟩, hb1⟩
  have Q1 : Kp w w1 := by repeat (first | exact Kp.refl _ | with_reducible assumption | with_reducible refine Kp.set ?_ _ _ ?_ | (dsimp only; omega) | with_reducible refine Kp.drew ?_ | with_reducible refine Kp.drewN ?_ _ | with_reducible refine Kp.al ?_ _ | with_reducible refine Kp.trans ?_ (by with_reducible assumption))
  have c1_0_1 := hb1.get (b := w.heap.size) (o := 0) (v := .int .i64 (s)) (by first | with_reducible assumption | (simp [go_sem]; done) | (simp [go_sem, *]; done))
  have c1_1_1 := hb1.get (b := w.heap.size) (o := 1) (v := .int .i64 (o)) (by first | with_reducible assumption | (simp [go_sem]; done) | (simp [go_sem, *]; done))
  have c1_2_1 := hb1.get (b := w.heap.size) (o := 2) (v := .int .i64 (a)) (by first | with_reducible assumption | (simp [go_sem]; done) | (simp [go_sem, *]; done))
  have l1_1 := cell_lt c1_0_1
  have K1 := Q1
  clear hb1 Q1
  have HSY := Lib.hid hsy
  clear hfr hsy
  go_wp2_with fail
  refine (same_ok _ _ _ _ _ _ _ _ _ HSY.out (HY.out.kp K1) HL.out (by omega)).mono ?_
  rintro e w2 ⟨rfl, hb2⟩
  have Q2 : Kp w1 w2 := by repeat (first | exact Kp.refl _ | with_reducible assumption | with_reducible refine Kp.set ?_ _ _ ?_ | (dsimp only; omega) | with_reducible refine Kp.drew ?_ | with_reducible refine Kp.drewN ?_ _ | with_reducible refine Kp.al ?_ _ | with_reducible refine Kp.trans ?_ (by with_reducible assumption))
  have c1_0_2 := Q2.get c1_0_1
  have c1_1_2 := Q2.get c1_1_1
  have c1_2_2 := Q2.get c1_2_1
  have l1_2 := cell_lt c1_0_2
  have K2 := K1.trans Q2
  clear hb2 c1_0_1 c1_1_1 c1_2_1 l1_1 K1 Q2
  go_wp2_with fail
  go_ret
  exact ⟨rfl, by repeat (first | exact Kp.refl _ | with_reducible assumption | with_reducible refine Kp.set ?_ _ _ ?_ | (dsimp only; omega) | with_reducible refine Kp.drew ?_ | with_reducible refine Kp.drewN ?_ _ | with_reducible refine Kp.al ?_ _ | with_reducible refine Kp.trans ?_ (by with_reducible assumption))⟩
end Go.Proofs.YtaobndijldidfaaDoor
