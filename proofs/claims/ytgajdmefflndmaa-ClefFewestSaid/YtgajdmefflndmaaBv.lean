/- The walk of ClefFewest. -/
import Derived.Test.YtgajdmefflndmaaBu
import Derived.Test.YtgajdmefflndmaaOw
namespace Go.Proofs.Ytgajdmefflndmaa
open Go.RowKit

/-- lines at any clef that Best gives. -/
theorem lines_best (key : Int) (ps : List Pt) (n : Nat) (k1 : 0 ≤ key) (k2 : key ≤ 2) (hn : n ≤ 1000) (hl : ps.length = n) (hv : ∀ k, k < n → Vp (ptAt ps k).1 (ptAt ps k).2.1 (ptAt ps k).2.2)
    (hb : 0 ≤ (bestC (nums ps)).2) : ∀ (w : World) (A : Option Addr) (c : Nat), Pts w A n ps → Calls Try.prog 28 #[.agg #[.int .i64 (bestC (nums ps)).1.1, .int .i64 (bestC (nums ps)).1.2], .int .i64 key, .slice A n c] w fun e w' => e = .returned (.tuple #[.int .i64 (bestC (nums ps)).2, .bool true]) ∧ Kp w w' := by
  intro w A c hx
  rcases best_inv (nums ps) 15 (by omega) with ⟨h, _⟩ | ⟨_, h2, h3, h4, _⟩
  · exact absurd hb (by show ¬ 0 ≤ (foldC (nums ps) (clefs 15)).2; omega)
  · refine (lines_any _ _ key A n c ps w h2 k1 k2 hx hn hv).mono ?_
    rintro e w' ⟨⟨_, rfl⟩ | ⟨h, _⟩, hk⟩
    · refine ⟨?_, hk⟩
      show _ = Ending.returned (.tuple #[.int .i64 (foldC (nums ps) (clefs 15)).2, .bool true])
      rw [h4, nums_len, hl]
      exact rfl
    · exact absurd h3 h
/-- lines at any of the fifteen clefs: it needs no fewer, or has none. -/
theorem lines_all (key : Int) (ps : List Pt) (n : Nat) (k1 : 0 ≤ key) (k2 : key ≤ 2) (hn : n ≤ 1000) (hl : ps.length = n) (hv : ∀ k, k < n → Vp (ptAt ps k).1 (ptAt ps k).2.1 (ptAt ps k).2.2) (j : Nat) (hj : j < 15) :
    ∃ (m : Int) (b : Bool), (b = true → 0 ≤ (bestC (nums ps)).2 ∧ (bestC (nums ps)).2 ≤ m) ∧ ∀ (w : World) (A : Option Addr) (c : Nat), Pts w A n ps →
      Calls Try.prog 28 #[.agg #[.int .i64 (clefAt j).1, .int .i64 (clefAt j).2], .int .i64 key, .slice A n c] w fun e w' => e = .returned (.tuple #[.int .i64 m, .bool b]) ∧ Kp w w' := by
  by_cases hf : Fit (lowC (clefAt j)) (nums ps)
  · refine ⟨lsum (low (clefAt j).1 (clefAt j).2) (nums ps) n, true, fun _ => ?_, fun w A c hx => (lines_any _ _ key A n c ps w (clefAt_ok j) k1 k2 hx hn hv).mono ?_⟩
    rotate_left
    · rintro e w' ⟨⟨_, rfl⟩ | ⟨h, _⟩, hk⟩
      · exact ⟨rfl, hk⟩
      · exact absurd hf h
    · rcases best_inv (nums ps) 15 (by omega) with ⟨_, _, h⟩ | ⟨h1, _, _, _, h5⟩
      · exact absurd hf (h j hj)
      · refine ⟨h1, ?_⟩
        have := h5 j hj hf
        rw [nums_len, hl] at this
        exact this
  · refine ⟨0, false, (fun h => by cases h), fun w A c hx => (lines_any _ _ key A n c ps w (clefAt_ok j) k1 k2 hx hn hv).mono ?_⟩
    rintro e w' ⟨⟨h, _⟩ | ⟨_, rfl⟩, hk⟩
    · exact absurd h hf
    · exact ⟨rfl, hk⟩
/-- Best at pitches that are valid, and at the same pitches in another order. -/
theorem best_rev (key : Int) (ps : List Pt) (n : Nat) (k1 : 0 ≤ key) (k2 : key ≤ 2) (hn : n ≤ 1000) (hl : ps.length = n) (hv : ∀ k, k < n → Vp (ptAt ps k).1 (ptAt ps k).2.1 (ptAt ps k).2.2) :
    ∃ x y er : Int, (er = 0 ∧ 0 ≤ (bestC (nums ps)).2 ∧ x = (bestC (nums ps)).1.1 ∧ y = (bestC (nums ps)).1.2 ∨ er = 18 ∧ (bestC (nums ps)).2 < 0 ∧ x = 0 ∧ y = 0) ∧ ∀ (w : World) (A : Option Addr) (c : Nat) (qs : List Pt), qs = ps ∨ qs = ps.reverse → Pts w A n qs →
    Calls Try.prog 13 #[.int .i64 key, .slice A n c] w fun e w' => e = .returned (.tuple #[.agg #[.int .i64 x, .int .i64 y], .int .i64 er]) ∧ Kp w w' := by
  have hv' : ∀ qs : List Pt, qs = ps ∨ qs = ps.reverse → (∀ k, k < n → Vp (ptAt qs k).1 (ptAt qs k).2.1 (ptAt qs k).2.2) ∧ bestC (nums qs) = bestC (nums ps) := by
    rintro qs (rfl | rfl)
    · exact ⟨hv, rfl⟩
    · refine ⟨fun k hk => ?_, by rw [nums_rev, bestC_rev]⟩
      have e : ptAt ps.reverse k = ptAt ps (n - 1 - k) := by
        unfold ptAt
        simp only [List.getD]
        rw [List.getElem?_reverse (by omega), hl]
      rw [e]
      exact hv _ (by omega)
  by_cases hb : (bestC (nums ps)).2 < 0
  · refine ⟨0, 0, 18, .inr ⟨rfl, hb, rfl, rfl⟩, fun w A c qs hq hx => ?_⟩
    obtain ⟨v, e⟩ := hv' qs hq
    exact best_none key A n c qs w k1 k2 hx hn v (by rw [e]; exact hb)
  · refine ⟨_, _, 0, .inl ⟨rfl, by omega, rfl, rfl⟩, fun w A c qs hq hx => ?_⟩
    obtain ⟨v, e⟩ := hv' qs hq
    exact best_is key A n c qs w k1 k2 hx hn v _ _ (bestC (nums ps)).2 (by rw [e]) (by omega)

/-- The first k numbers as pitches. -/
def fews (xs : List Int) (k : Nat) : List Pt := (xs.take k).map few
theorem fews_len {xs : List Int} {k : Nat} (h : k ≤ xs.length) : (fews xs k).length = k := by simp [fews, h]
theorem fews_succ {xs : List Int} {k : Nat} (h : k < xs.length) : flat (fews xs (k + 1)) = flat (fews xs k) ++ [.int .i64 ((14 + xs.getD k 0 % 30) % 7), .int .i64 ((14 + xs.getD k 0 % 30) / 7), .int .i64 0] := by
  unfold fews
  rw [List.take_succ_eq_append_getElem h, List.map_append, flat_app]
  simp [flat, few, List.getD, h]
theorem fews_ok (xs : List Int) (k : Nat) (h : k ≤ xs.length) : ∀ j, j < k → Vp (ptAt (fews xs k) j).1 (ptAt (fews xs k) j).2.1 (ptAt (fews xs k) j).2.2 := by
  intro j hj
  have e : ptAt (fews xs k) j = few ((xs.take k).getD j 0) := by
    unfold ptAt fews
    have h1 : j < (xs.take k).length := by simp; omega
    have h2 : j < ((xs.take k).map few).length := by simp; omega
    simp only [List.getD, List.getElem?_eq_getElem h1, List.getElem?_eq_getElem h2, List.getElem_map, Option.getD_some]
  rw [e]
  exact few_ok _
theorem rev_succ {ps : List Pt} {j : Nat} (h : j < ps.length) : flat (ps.reverse.take (j + 1)) = flat (ps.reverse.take j) ++ [.int .i64 (ptAt ps (ps.length - 1 - j)).1, .int .i64 (ptAt ps (ps.length - 1 - j)).2.1, .int .i64 (ptAt ps (ps.length - 1 - j)).2.2] := by
  rw [List.take_succ_eq_append_getElem (by simpa using h), flat_app, List.getElem_reverse]
  have : ps.length - 1 - j < ps.length := by omega
  simp [flat, ptAt, List.getD, this]

set_option maxRecDepth 100000 in
set_option maxHeartbeats 4000000 in
theorem fewest_walk (key : Int) (A : Option Addr) (n c : Nat) (xs : List Int) (w : World) (hx : Ints w A n xs) (hmx : n ≤ maxLen) :
    Calls Try.prog 9 #[.int .i64 key, .slice A n c] w fun e w' => e = .returned (.bool true) ∧ Kp w w' := by
  unfold maxLen at hmx
  obtain ⟨q, q1, q2, cq⟩ := mod_ex key 3 (by omega) (by omega)
  obtain ⟨i0, hi0, hz0, hz1, hz2⟩ := info_parts pitch_info
  have HI := Lib.hid hi0; have HZ0 := Lib.hid hz0; have HZ1 := Lib.hid hz1; have HZ2 := Lib.hid hz2
  have CQ := Lib.hid cq
  have HL := Lib.hid hx.1
  have HX := Lib.hid hx
  clear cq hi0 hz0 hz1 hz2 hx
  go_enter Try.func9, Try.ntmps9
  go_wp2_with fail
  refine (known_walk _).mono ?_
  rintro e w1 ⟨rfl, K1⟩
  go_wp2_with fail
  refine (CQ.out _).mono ?_
  rintro e _ ⟨rfl, rfl⟩
  go_wp2_with fail
  go_loopw [6, 8] (fun l i wr => ∃ k : Nat, k ≤ n ∧ k ≤ 12 ∧ i = .int .i64 (k : Int) ∧ wr.ownsRow w1.heap.size 25 3 l k (flat (fews xs k)) ∧ Kp w1 wr) (fun _ i _ => n - (intOf i).toNat)
  case atStart => exact ⟨0, by omega, by omega, rfl, World.ownsRow_nil _ _ _ _, Kp.refl _⟩
  case round =>
    obtain ⟨k, hk, hk12, rfl, hown, hK⟩ := hrel
    obtain ⟨B, d, rfl⟩ := ow_form hown
    by_cases hlt : k < n ∧ k < 12
    · obtain ⟨hkn, hk1⟩ := hlt
      have hd : decide ((k : Int) < (n : Int)) = true := by simp; omega
      have hd2 : decide ((k : Int) < 12) = true := by simp; omega
      obtain ⟨b, off, rfl, e0⟩ := (HX.out.kp (K1.trans hK)).2 k hkn
      have ef := fews_succ (xs := xs) (k := k) (by have := HL.out; omega)
      obtain ⟨x, ex⟩ : ∃ x, x = xs.getD k 0 := ⟨_, rfl⟩
      rw [← ex] at e0 ef
      have cm := fun w => mod_any x 30 w (by omega) (by omega)
      have m1 : 0 ≤ x % 30 := by omega
      have m2 : x % 30 < 30 := by omega
      obtain ⟨y, ey⟩ : ∃ y, y = x % 30 := ⟨_, rfl⟩
      rw [← ey] at cm m1 m2 ef
      have CM := Lib.hid cm
      have EF := Lib.hid ef
      have HO := Lib.hid hown
      clear ex ey cm ef hown
      go_wp2_with fail
      refine (CM.out _).mono ?_
      rintro e _ ⟨rfl, rfl⟩
      go_wp2_with (at_builtin; refine wpList_append_own _ rfl (.tmp 39) (.tmp 45) 31 rfl w1.heap.size 25 i0 (.agg #[.int .i64 0, .int .i64 0, .int .i64 0]) 3 24 Try.underlying31 HI.out HZ0.out HZ1.out HZ2.out rfl (by decide) _ k (flat (fews xs k)) rfl ?own ⟨wr.heap.size, 0, none⟩ 1 1 [.int .i64 ((14 + y) % 7), .int .i64 ((14 + y) / 7), .int .i64 0] rfl rfl ?c1 ?c2 ?c3 ?c4 ?c5 ?_)
      case own => exact HO.out.alloc _
      case c1 => exact cell3_new _ _ _ _ _
      case c2 => simp [Value.oneCell']
      case c3 => simp only [maxLen]; omega
      case c4 => omega
      case c5 => have := hK.low; simp; omega
      intro v' w2 hown' hgrow _
      have hk2 := Lib.hid (ow_app hK HO.out ((Kp.refl wr).al _) hgrow)
      rw [← EF.out] at hown'
      obtain ⟨g, cap, rfl⟩ := ownsRow_succ hown'
      have HO2 := Lib.hid hown'
      clear hgrow hown' e0
      go_wp2_with fail
      go_roundw
      case rel => exact ⟨k + 1, by omega, by omega, by go_num, HO2.out, hk2.out⟩
      case measure => simp [intOf]; omega
    · have hout : k = n ∨ (k < n ∧ decide ((k : Int) < 12) = false) := by
        simp; omega
      have hlk := fews_len (xs := xs) (k := k) (by have := HL.out; omega)
      have hok := fews_ok xs k (by have := HL.out; omega)
      obtain ⟨ps, eps⟩ : ∃ ps, ps = fews xs k := ⟨_, rfl⟩
      rw [← eps] at hown hlk hok
      have KW := K1.trans hK
      have HP := Lib.hid (pts_of_own hown)
      obtain ⟨x, y, er, hxy, cb⟩ := best_rev q ps k q1 (by omega) (by omega) hlk hok
      have LB := Lib.hid (lines_best q ps k q1 (by omega) (by omega) hlk hok)
      have LA := Lib.hid (lines_all q ps k q1 (by omega) (by omega) hlk hok)
      have LX := Lib.hid (fun (w : World) (A : Option Addr) (c : Nat) (h : Pts w A k ps) (h1 : 1 ≤ k) => lines_bad q A k c ps w h h1)
      have CB := Lib.hid cb
      have HXY := Lib.hid hxy
      have HLK := Lib.hid hlk
      clear eps hlt hown hok cb hxy hlk HX hK K1 HL hmx
      rcases hout with rfl | ⟨hd, hd2⟩
      all_goals
        go_wp2_with fail
        obtain ⟨wq, ewq⟩ : ∃ wq : World, wq = wr := ⟨_, rfl⟩
        subst ewq
        go_loopw [7, 10] (fun l i wr => ∃ j : Nat, j ≤ k ∧ i = .int .i64 ((k : Int) - 1 - j) ∧ wr.ownsRow wq.heap.size 25 3 l j (flat (ps.reverse.take j)) ∧ Kp wq wr) (fun _ i _ => (intOf i + 1).toNat)
        case atStart => exact ⟨0, by omega, by go_num, World.ownsRow_nil _ _ _ _, Kp.refl _⟩
        case round =>
          obtain ⟨j, hj, rfl, hown, hK⟩ := hrel
          obtain ⟨B2, d2, rfl⟩ := ow_form hown
          by_cases hjk : j < k
          · obtain ⟨m, em⟩ : ∃ m : Nat, (k : Int) - 1 - j = m := ⟨k - 1 - j, by omega⟩
            have m1 : m < k := by omega
            obtain ⟨b, off, rfl, e0, e1, e2⟩ := (HP.out.kp hK).2 m m1
            have er := rev_succ (ps := ps) (j := j) (by have := HLK.out; omega)
            have emm : ps.length - 1 - j = m := by have := HLK.out; omega
            rw [emm] at er
            obtain ⟨s, es⟩ : ∃ s, s = (ptAt ps m).1 := ⟨_, rfl⟩
            obtain ⟨o, eo⟩ : ∃ o, o = (ptAt ps m).2.1 := ⟨_, rfl⟩
            obtain ⟨a, ea⟩ : ∃ a, a = (ptAt ps m).2.2 := ⟨_, rfl⟩
            rw [← es] at e0 er
            rw [← eo] at e1 er
            rw [← ea] at e2 er
            rw [em]
            have EM := Lib.hid em
            have ER := Lib.hid er
            have HO := Lib.hid hown
            clear es eo ea em er emm hown
            go_wp2_with (at_builtin; refine wpList_append_own _ rfl (.tmp 54) (.tmp 59) 31 rfl wq.heap.size 25 i0 (.agg #[.int .i64 0, .int .i64 0, .int .i64 0]) 3 24 Try.underlying31 HI.out HZ0.out HZ1.out HZ2.out rfl (by decide) _ j (flat (ps.reverse.take j)) rfl ?own ⟨wr.heap.size, 0, none⟩ 1 1 [.int .i64 s, .int .i64 o, .int .i64 a] rfl rfl ?c1 ?c2 ?c3 ?c4 ?c5 ?_)
            case own => exact HO.out.alloc _
            case c1 => exact cell3_new _ _ _ _ _
            case c2 => simp [Value.oneCell']
            case c3 => simp only [maxLen]; omega
            case c4 => omega
            case c5 => have := hK.low; simp; omega
            intro v' w2 hown' hgrow _
            have hk2 := Lib.hid (ow_app hK HO.out ((Kp.refl wr).al _) hgrow)
            rw [← ER.out] at hown'
            obtain ⟨g, cap, rfl⟩ := ownsRow_succ hown'
            have HO2 := Lib.hid hown'
            clear hgrow hown' e0 e1 e2 hK
            go_wp2_with fail
            go_roundw
            case rel => exact ⟨j + 1, by omega, (by first | (have := EM.out; congr 1; done) | (have := EM.out; congr 1; omega)), HO2.out, hk2.out⟩
            case measure => (have := EM.out; first | (simp [intOf]; done) | (simp [intOf]; omega))
          · obtain rfl : j = k := by omega
            have em : (j : Int) - 1 - j = -1 := by omega
            rw [em]
            have htk : ps.reverse.take j = ps.reverse := List.take_of_length_le (by have := HLK.out; simp; omega)
            rw [htk] at hown
            have P1 := Lib.hid (HP.out.kp hK)
            have P2 := Lib.hid (pts_of_own hown)
            have KZ := KW.trans hK
            have LE1 : ∃ le, le = (bestC (nums ps)).2 := ⟨_, rfl⟩
            obtain ⟨le, ele⟩ := LE1
            have la := LA.out
            have lb := LB.out
            have hxy := HXY.out
            rw [← ele] at la lb hxy
            have hj0 : le < 0 → 1 ≤ j := by
              intro hneg
              apply Nat.one_le_iff_ne_zero.2
              rintro rfl
              have : ps = [] := List.eq_nil_of_length_eq_zero HLK.out
              rw [this] at ele
              have h0 : (bestC (nums [])).2 = 0 := by decide +kernel
              omega
            have LA2 := Lib.hid la
            clear em htk hown HP KW hK ele la LA LB HXY HLK hj
            obtain ⟨wz, ewz⟩ : ∃ wz : World, wz = wr := ⟨_, rfl⟩
            subst ewz
            rcases hxy with ⟨rfl, hb, hx, hy⟩ | ⟨rfl, hb, rfl, rfl⟩
            · have lb2 := lb hb
              rw [← hx, ← hy] at lb2
              have LB2 := Lib.hid lb2
              clear lb lb2 hx hy hj0 LX
              go_wp2_with fail
              refine (CB.out _ _ _ ps (.inl rfl) P1.out).mono ?_
              rintro e wz1 ⟨rfl, hb1⟩
              have Q1 : Kp wz wz1 := by repeat (first | exact Kp.refl _ | with_reducible assumption | with_reducible refine Kp.set ?_ _ _ ?_ | (dsimp only; omega) | with_reducible refine Kp.drew ?_ | with_reducible refine Kp.drewN ?_ _ | with_reducible refine Kp.al ?_ _ | with_reducible refine Kp.trans ?_ (by with_reducible assumption))
              have K1 := Q1
              clear hb1 Q1
              go_wp2_with fail
              refine (CB.out _ _ _ ps.reverse (.inr rfl) (P2.out.kp (by repeat (first | exact Kp.refl _ | with_reducible assumption | with_reducible refine Kp.set ?_ _ _ ?_ | (dsimp only; omega) | with_reducible refine Kp.drew ?_ | with_reducible refine Kp.drewN ?_ _ | with_reducible refine Kp.al ?_ _ | with_reducible refine Kp.trans ?_ (by with_reducible assumption))))).mono ?_
              rintro e wz2 ⟨rfl, hb2⟩
              have Q2 : Kp wz1 wz2 := by repeat (first | exact Kp.refl _ | with_reducible assumption | with_reducible refine Kp.set ?_ _ _ ?_ | (dsimp only; omega) | with_reducible refine Kp.drew ?_ | with_reducible refine Kp.drewN ?_ _ | with_reducible refine Kp.al ?_ _ | with_reducible refine Kp.trans ?_ (by with_reducible assumption))
              have c1_0_2 := hb2.get (b := wz1.heap.size) (o := 0) (v := .int .i64 (x)) (by first | with_reducible assumption | (simp [go_sem]; done) | (simp [go_sem, *]; done))
              have c1_1_2 := hb2.get (b := wz1.heap.size) (o := 1) (v := .int .i64 (y)) (by first | with_reducible assumption | (simp [go_sem]; done) | (simp [go_sem, *]; done))
              have l1_2 := cell_lt c1_0_2
              have K2 := K1.trans Q2
              clear hb2 K1 Q2
              go_wp2_with fail
              refine (LB2.out _ _ _ (P1.out.kp (by repeat (first | exact Kp.refl _ | with_reducible assumption | with_reducible refine Kp.set ?_ _ _ ?_ | (dsimp only; omega) | with_reducible refine Kp.drew ?_ | with_reducible refine Kp.drewN ?_ _ | with_reducible refine Kp.al ?_ _ | with_reducible refine Kp.trans ?_ (by with_reducible assumption))))).mono ?_
              rintro e wz3 ⟨rfl, hb3⟩
              have Q3 : Kp wz2 wz3 := by repeat (first | exact Kp.refl _ | with_reducible assumption | with_reducible refine Kp.set ?_ _ _ ?_ | (dsimp only; omega) | with_reducible refine Kp.drew ?_ | with_reducible refine Kp.drewN ?_ _ | with_reducible refine Kp.al ?_ _ | with_reducible refine Kp.trans ?_ (by with_reducible assumption))
              have c2_0_3 := hb3.get (b := wz2.heap.size) (o := 0) (v := .int .i64 (x)) (by first | with_reducible assumption | (simp [go_sem]; done) | (simp [go_sem, *]; done))
              have c2_1_3 := hb3.get (b := wz2.heap.size) (o := 1) (v := .int .i64 (y)) (by first | with_reducible assumption | (simp [go_sem]; done) | (simp [go_sem, *]; done))
              have l2_3 := cell_lt c2_0_3
              have c1_0_3 := Q3.get c1_0_2
              have c1_1_3 := Q3.get c1_1_2
              have l1_3 := cell_lt c1_0_3
              have K3 := K2.trans Q3
              clear hb3 c1_0_2 c1_1_2 l1_2 K2 Q3
              go_wp2_with fail
              go_loopw [17] (fun v wr => ∃ t : Nat, t ≤ 15 ∧ v = .int .i64 (t : Int) ∧ Kp wz3 wr) (fun v _ => 15 - (intOf v).toNat)
              case atStart => exact ⟨0, by omega, rfl, Kp.refl _⟩
              case round =>
                obtain ⟨t, ht, rfl, hK⟩ := hrel
                by_cases hlt : t < 15
                · have hd3 : decide ((t : Int) < 15) = true := by simp; omega
                  obtain ⟨m, b, hmb, cl⟩ := LA2.out t hlt
                  have ca := all_any (t : Int)
                  have et : ((t : Int) % 15).toNat = t := by omega
                  rw [et] at ca
                  have CL := Lib.hid cl
                  have CA := Lib.hid ca
                  clear cl ca et
                  go_wp2_with fail
                  refine (CA.out _).mono ?_
                  rintro e w5 ⟨rfl, hk5⟩
                  go_wp2_with fail
                  refine (CL.out _ _ _ (P1.out.kp (by repeat (first | exact Kp.refl _ | with_reducible assumption | with_reducible refine Kp.set ?_ _ _ ?_ | (dsimp only; omega) | with_reducible refine Kp.drew ?_ | with_reducible refine Kp.drewN ?_ _ | with_reducible refine Kp.al ?_ _ | with_reducible refine Kp.trans ?_ (by with_reducible assumption))))).mono ?_
                  rintro e w6 ⟨rfl, hk6⟩
                  have K6 : Kp wz3 w6 := by repeat (first | exact Kp.refl _ | with_reducible assumption | with_reducible refine Kp.set ?_ _ _ ?_ | (dsimp only; omega) | with_reducible refine Kp.drew ?_ | with_reducible refine Kp.drewN ?_ _ | with_reducible refine Kp.al ?_ _ | with_reducible refine Kp.trans ?_ (by with_reducible assumption))
                  clear hK hk5 hk6
                  cases b with
                  | false =>
                    clear hmb
                    go_wp2_with fail
                    go_roundw
                    case rel => exact ⟨t + 1, by omega, by go_num, K6⟩
                    case measure => simp [intOf]; omega
                  | true =>
                    obtain ⟨_, hm⟩ := hmb rfl
                    clear hmb
                    have hd4 : decide (m < le) = false := by simp; omega
                    go_wp2_with fail
                    go_roundw
                    case rel => exact ⟨t + 1, by omega, by go_num, K6⟩
                    case measure => simp [intOf]; omega
                · have hd3 : decide ((t : Int) < 15) = false := by simp; omega
                  go_wp2_with fail
                  go_ret
                  exact ⟨rfl, by repeat (first | exact Kp.refl _ | with_reducible assumption | with_reducible refine Kp.set ?_ _ _ ?_ | (dsimp only; omega) | with_reducible refine Kp.drew ?_ | with_reducible refine Kp.drewN ?_ _ | with_reducible refine Kp.al ?_ _ | with_reducible refine Kp.trans ?_ (by with_reducible assumption))⟩
            · have h1j := hj0 hb
              clear lb hj0
              go_wp2_with fail
              refine (CB.out _ _ _ ps (.inl rfl) P1.out).mono ?_
              rintro e wz1 ⟨rfl, hb1⟩
              have Q1 : Kp wz wz1 := by repeat (first | exact Kp.refl _ | with_reducible assumption | with_reducible refine Kp.set ?_ _ _ ?_ | (dsimp only; omega) | with_reducible refine Kp.drew ?_ | with_reducible refine Kp.drewN ?_ _ | with_reducible refine Kp.al ?_ _ | with_reducible refine Kp.trans ?_ (by with_reducible assumption))
              have K1 := Q1
              clear hb1 Q1
              go_wp2_with fail
              refine (CB.out _ _ _ ps.reverse (.inr rfl) (P2.out.kp (by repeat (first | exact Kp.refl _ | with_reducible assumption | with_reducible refine Kp.set ?_ _ _ ?_ | (dsimp only; omega) | with_reducible refine Kp.drew ?_ | with_reducible refine Kp.drewN ?_ _ | with_reducible refine Kp.al ?_ _ | with_reducible refine Kp.trans ?_ (by with_reducible assumption))))).mono ?_
              rintro e wz2 ⟨rfl, hb2⟩
              have Q2 : Kp wz1 wz2 := by repeat (first | exact Kp.refl _ | with_reducible assumption | with_reducible refine Kp.set ?_ _ _ ?_ | (dsimp only; omega) | with_reducible refine Kp.drew ?_ | with_reducible refine Kp.drewN ?_ _ | with_reducible refine Kp.al ?_ _ | with_reducible refine Kp.trans ?_ (by with_reducible assumption))
              have c1_0_2 := hb2.get (b := wz1.heap.size) (o := 0) (v := .int .i64 (0)) (by first | with_reducible assumption | (simp [go_sem]; done) | (simp [go_sem, *]; done))
              have c1_1_2 := hb2.get (b := wz1.heap.size) (o := 1) (v := .int .i64 (0)) (by first | with_reducible assumption | (simp [go_sem]; done) | (simp [go_sem, *]; done))
              have l1_2 := cell_lt c1_0_2
              have K2 := K1.trans Q2
              clear hb2 K1 Q2
              go_wp2_with fail
              refine (LX.out _ _ _ (P1.out.kp (by repeat (first | exact Kp.refl _ | with_reducible assumption | with_reducible refine Kp.set ?_ _ _ ?_ | (dsimp only; omega) | with_reducible refine Kp.drew ?_ | with_reducible refine Kp.drewN ?_ _ | with_reducible refine Kp.al ?_ _ | with_reducible refine Kp.trans ?_ (by with_reducible assumption)))) h1j).mono ?_
              rintro e wz3 ⟨rfl, hb3⟩
              have Q3 : Kp wz2 wz3 := by repeat (first | exact Kp.refl _ | with_reducible assumption | with_reducible refine Kp.set ?_ _ _ ?_ | (dsimp only; omega) | with_reducible refine Kp.drew ?_ | with_reducible refine Kp.drewN ?_ _ | with_reducible refine Kp.al ?_ _ | with_reducible refine Kp.trans ?_ (by with_reducible assumption))
              have c2_0_3 := hb3.get (b := wz2.heap.size) (o := 0) (v := .int .i64 (0)) (by first | with_reducible assumption | (simp [go_sem]; done) | (simp [go_sem, *]; done))
              have c2_1_3 := hb3.get (b := wz2.heap.size) (o := 1) (v := .int .i64 (0)) (by first | with_reducible assumption | (simp [go_sem]; done) | (simp [go_sem, *]; done))
              have l2_3 := cell_lt c2_0_3
              have c1_0_3 := Q3.get c1_0_2
              have c1_1_3 := Q3.get c1_1_2
              have l1_3 := cell_lt c1_0_3
              have K3 := K2.trans Q3
              clear hb3 c1_0_2 c1_1_2 l1_2 K2 Q3
              go_wp2_with fail
              go_loopw [17] (fun v wr => ∃ t : Nat, t ≤ 15 ∧ v = .int .i64 (t : Int) ∧ Kp wz3 wr) (fun v _ => 15 - (intOf v).toNat)
              case atStart => exact ⟨0, by omega, rfl, Kp.refl _⟩
              case round =>
                obtain ⟨t, ht, rfl, hK⟩ := hrel
                by_cases hlt : t < 15
                · have hd3 : decide ((t : Int) < 15) = true := by simp; omega
                  obtain ⟨m, b, hmb, cl⟩ := LA2.out t hlt
                  obtain rfl : b = false := by
                    cases b with
                    | false => rfl
                    | true => have := (hmb rfl).1; omega
                  have ca := all_any (t : Int)
                  have et : ((t : Int) % 15).toNat = t := by omega
                  rw [et] at ca
                  have CL := Lib.hid cl
                  have CA := Lib.hid ca
                  clear cl ca et hmb
                  go_wp2_with fail
                  refine (CA.out _).mono ?_
                  rintro e w5 ⟨rfl, hk5⟩
                  go_wp2_with fail
                  refine (CL.out _ _ _ (P1.out.kp (by repeat (first | exact Kp.refl _ | with_reducible assumption | with_reducible refine Kp.set ?_ _ _ ?_ | (dsimp only; omega) | with_reducible refine Kp.drew ?_ | with_reducible refine Kp.drewN ?_ _ | with_reducible refine Kp.al ?_ _ | with_reducible refine Kp.trans ?_ (by with_reducible assumption))))).mono ?_
                  rintro e w6 ⟨rfl, hk6⟩
                  have K6 : Kp wz3 w6 := by repeat (first | exact Kp.refl _ | with_reducible assumption | with_reducible refine Kp.set ?_ _ _ ?_ | (dsimp only; omega) | with_reducible refine Kp.drew ?_ | with_reducible refine Kp.drewN ?_ _ | with_reducible refine Kp.al ?_ _ | with_reducible refine Kp.trans ?_ (by with_reducible assumption))
                  clear hK hk5 hk6
                  go_wp2_with fail
                  go_roundw
                  case rel => exact ⟨t + 1, by omega, by go_num, K6⟩
                  case measure => simp [intOf]; omega
                · have hd3 : decide ((t : Int) < 15) = false := by simp; omega
                  go_wp2_with fail
                  go_ret
                  exact ⟨rfl, by repeat (first | exact Kp.refl _ | with_reducible assumption | with_reducible refine Kp.set ?_ _ _ ?_ | (dsimp only; omega) | with_reducible refine Kp.drew ?_ | with_reducible refine Kp.drewN ?_ _ | with_reducible refine Kp.al ?_ _ | with_reducible refine Kp.trans ?_ (by with_reducible assumption))⟩
end Go.Proofs.Ytgajdmefflndmaa
