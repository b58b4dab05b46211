/- Contracts of made, melody, moves. -/
import Derived.Test.YtaobndijldidfaaDoorGo
import Derived.Test.YtaobndijldidfaaDoorGv
set_option linter.unusedSimpArgs false
set_option linter.unusedVariables false
namespace Go.Proofs.YtaobndijldidfaaDoor
open Go.RowKit

def syOf (x : Int) : Sy := (1 + x % 42 % 7, 1 + x % 42 / 7)
def madeS (xs : List Int) (k : Nat) : List Sy := (xs.take k).map syOf
theorem syOf_ok (x : Int) : Vs (syOf x).1 (syOf x).2 := by unfold syOf Vs; dsimp only; omega
theorem madeS_ok (xs : List Int) (k : Nat) : ∀ y ∈ madeS xs k, Vs y.1 y.2 := by
  intro y hy
  obtain ⟨x, _, rfl⟩ := List.mem_map.1 hy
  exact syOf_ok x
theorem madeS_len (xs : List Int) (k : Nat) (h : k ≤ xs.length) : (madeS xs k).length = k := by unfold madeS; simp; omega
theorem madeS_succ (xs : List Int) (k : Nat) (h : k < xs.length) : flatS (madeS xs (k + 1)) = flatS (madeS xs k) ++ [.int .i64 (1 + xs.getD k 0 % 42 % 7), .int .i64 (1 + xs.getD k 0 % 42 / 7)] := by
  unfold madeS
  rw [List.take_succ_eq_append_getElem h, List.map_append, flatS_app]
  simp [flatS, syOf, List.getD, h]

set_option maxRecDepth 100000 in
set_option maxHeartbeats 2000000 in
theorem made_ok (A : Option Addr) (n c : Nat) (xs : List Int) (w : World) (hx : Ints w A n xs) (hmx : n ≤ maxLen) :
    Calls Tryd.prog 12 #[.slice A n c] w fun e w' => (∃ B d, e = .returned (.slice B (min n 30) d) ∧ w'.ownsRow w.heap.size 34 2 (.slice B (min n 30) d) (min n 30) (flatS (madeS xs (min n 30)))) ∧ Kp w w' := by
  obtain ⟨i0, hi0, hz0, hz1, hz2⟩ := info_parts syl_info
  have HI := Lib.hid hi0; have HZ0 := Lib.hid hz0; have HZ1 := Lib.hid hz1; have HZ2 := Lib.hid hz2
  have HX := Lib.hid hx; have HL := Lib.hid hx.1
  have hmx' : (n : Int) ≤ 9223372036854775807 := by simp only [maxLen] at hmx; omega
  clear hi0 hz0 hz1 hz2 hx hmx
  go_enter Tryd.func12, Tryd.ntmps12
  go_wp2_with fail
  go_loopw [3, 4] (fun l i wr => ∃ k : Nat, k ≤ n ∧ k ≤ 30 ∧ i = .int .i64 (k : Int) ∧ wr.ownsRow w.heap.size 34 2 l k (flatS (madeS xs k)) ∧ Kp w wr) (fun _ i _ => n - (intOf i).toNat)
  case atStart => exact ⟨0, by omega, by omega, rfl, World.ownsRow_nil _ _ _ _, Kp.refl _⟩
  case round =>
    obtain ⟨k, hk, hk30, rfl, hown, hK⟩ := hrel
    obtain ⟨B, d, rfl⟩ := ow_form hown
    have HO := Lib.hid hown
    clear hown
    by_cases hlt : k < n ∧ k < 30
    · obtain ⟨hkn, hk1⟩ := hlt
      have hd : decide ((k : Int) < (n : Int)) = true := by simp; omega
      have hd2 : decide ((k : Int) < 30) = true := by simp; omega
      obtain ⟨b, off, rfl, e0⟩ := (HX.out.kp hK).2 k hkn
      have ef := madeS_succ xs k (by have := HL.out; omega)
      obtain ⟨x, ex⟩ : ∃ x, x = xs.getD k 0 := ⟨_, rfl⟩
      rw [← ex] at e0 ef
      have cm := fun w => mod_any x 42 w (by omega) (by omega)
      have m1 : 0 ≤ x % 42 := by omega
      have m2 : x % 42 < 42 := by omega
      obtain ⟨y, ey⟩ : ∃ y, y = x % 42 := ⟨_, rfl⟩
      rw [← ey] at cm m1 m2 ef
      have e1 : y.tmod 7 = y % 7 := by rw [Int.tmod_eq_emod_of_nonneg (by omega)]
      have e2 : y.tdiv 7 = y / 7 := by rw [Int.tdiv_eq_ediv_of_nonneg (by omega)]
      have a1 : 0 ≤ y % 7 ∧ y % 7 < 7 := by omega
      have a2 : 0 ≤ y / 7 ∧ y / 7 < 6 := by omega
      obtain ⟨a, ea⟩ : ∃ a, a = y % 7 := ⟨_, rfl⟩
      obtain ⟨b', eb⟩ : ∃ b', b' = y / 7 := ⟨_, rfl⟩
      rw [← ea] at e1 a1 ef
      rw [← eb] at e2 a2 ef
      have i1 : IntKind.i64.wrap a = a := IntWalk.i64_in _ (by omega)
      have i2 : IntKind.i64.wrap b' = b' := IntWalk.i64_in _ (by omega)
      have i3 : IntKind.i64.wrap (1 + a) = 1 + a := IntWalk.i64_in _ (by omega)
      have i4 : IntKind.i64.wrap (1 + b') = 1 + b' := IntWalk.i64_in _ (by omega)
      have CM := Lib.hid cm
      have EF := Lib.hid ef
      clear ex ey cm ef ea eb a1 a2 m1 m2
      go_wp2_with fail
      refine (CM.out _).mono ?_
      rintro e _ ⟨rfl, rfl⟩
      go_wp2_with fail
      refine (syl_ok _ _ _).mono ?_
      rintro e w1 ⟨rfl, hb1⟩
      have KA := Lib.hid (hK.trans hb1)
      have HO1 := Lib.hid (ow_kp HO.out hb1)
      have hb2 := hb1.low
      clear hb1 e0
      go_wp2_with (at_builtin; refine wpList_append_own _ rfl (.tmp 21) (.tmp 29) 27 rfl w.heap.size 34 i0 (.agg #[.int .i64 0, .int .i64 0]) 2 16 Tryd.underlying27 HI.out HZ0.out HZ1.out HZ2.out rfl (by decide) _ k (flatS (madeS xs k)) rfl ?own ⟨w1.heap.size, 0, none⟩ 1 1 [.int .i64 (1 + a), .int .i64 (1 + b')] rfl rfl ?c1 ?c2 ?c3 ?c4 ?c5 ?_)
      case own => exact HO1.out.alloc _
      case c1 => exact cell2_new _ _ _ _
      case c2 => simp [Value.oneCell']
      case c3 => simp only [maxLen]; omega
      case c4 => omega
      case c5 => have := KA.out.low; simp; omega
      intro v' w2 hown' hgrow _
      have hk2 := Lib.hid (ow_app KA.out HO1.out ((Kp.refl w1).al _) hgrow)
      rw [← EF.out] at hown'
      obtain ⟨g, cap, rfl⟩ := ownsRow_succ hown'
      have HO2 := Lib.hid hown'
      clear hgrow hown'
      go_wp2_with fail
      go_roundw
      case rel => exact ⟨k + 1, by omega, by omega, by go_num, HO2.out, hk2.out⟩
      case measure => simp [intOf]; omega
    · have hout : k = n ∨ (k < n ∧ decide ((k : Int) < 30) = false) := by
        simp; omega
      have hmin : min n 30 = k := by omega
      have HM := Lib.hid hmin
      clear hmin hlt
      rcases hout with rfl | ⟨hd, hd2⟩
      · have hd : decide ((k : Int) < (k : Int)) = false := by simp
        go_wp2_with fail
        go_ret
        rw [HM.out]
        exact ⟨⟨_, _, rfl, HO.out⟩, hK⟩
      · have hd3 : decide ((k : Int) < (n : Int)) = true := by simp; omega
        go_wp2_with fail
        go_ret
        rw [HM.out]
        exact ⟨⟨_, _, rfl, HO.out⟩, hK⟩

theorem flat_pit_succ (ss : List Sy) (k : Nat) (h : k < ss.length) : flat ((ss.take (k + 1)).map pitS) = flat ((ss.take k).map pitS) ++ [.int .i64 (pitS (syAt ss k)).1, .int .i64 (pitS (syAt ss k)).2.1, .int .i64 (pitS (syAt ss k)).2.2] := by
  rw [List.take_succ_eq_append_getElem h, List.map_append, flat_app]
  simp [flat, syAt, List.getD, h]
set_option maxRecDepth 100000 in
set_option maxHeartbeats 2000000 in
theorem melody_ok (A : Option Addr) (n c : Nat) (ss : List Sy) (w : World) (ht0 : Tab w) (hx : Sys w A n ss) (hn : n ≤ 400) (hv : ∀ j, j < n → Vs (syAt ss j).1 (syAt ss j).2) :
    Calls Tryd.prog 11 #[.slice A n c] w fun e w' => (∃ B d, e = .returned (.tuple #[.slice B n d, .bool true]) ∧ w'.ownsRow w.heap.size 36 3 (.slice B n d) n (flat (ss.map pitS))) ∧ Kp w w' := by
  obtain ⟨i0, hi0, hz0, hz1, hz2⟩ := info_parts pitch_info
  have HI := Lib.hid hi0; have HZ0 := Lib.hid hz0; have HZ1 := Lib.hid hz1; have HZ2 := Lib.hid hz2
  have HX := Lib.hid hx; have HL := Lib.hid hx.1; have HV := Lib.hid hv; have HT := Lib.hid ht0
  clear hi0 hz0 hz1 hz2 hx hv ht0
  go_enter Tryd.func11, Tryd.ntmps11
  go_wp2_with fail
  go_loopw [4, 5] (fun l i wr => ∃ k : Nat, k ≤ n ∧ i = .int .i64 (k : Int) ∧ wr.ownsRow w.heap.size 36 3 l k (flat ((ss.take k).map pitS)) ∧ Kp w wr) (fun _ i _ => n - (intOf i).toNat)
  case atStart => exact ⟨0, by omega, rfl, World.ownsRow_nil _ _ _ _, Kp.refl _⟩
  case round =>
    obtain ⟨k, hk, rfl, hown, hK⟩ := hrel
    obtain ⟨B, d, rfl⟩ := ow_form hown
    have HO := Lib.hid hown
    clear hown
    by_cases hlt : k < n
    · have hd : decide ((k : Int) < (n : Int)) = true := by simp; omega
      obtain ⟨b, off, rfl, e0, e1⟩ := (HX.out.kp hK).2 k hlt
      have ef := flat_pit_succ ss k (by have := HL.out; omega)
      have cp := fun w t => gpitch_ok (syAt ss k).1 (syAt ss k).2 w t (HV.out k hlt)
      have epp : ((syAt ss k).1, (syAt ss k).2) = syAt ss k := rfl
      rw [epp] at cp
      obtain ⟨x, ex⟩ : ∃ x, x = (pitS (syAt ss k)).1 := ⟨_, rfl⟩
      obtain ⟨y, ey⟩ : ∃ y, y = (pitS (syAt ss k)).2.1 := ⟨_, rfl⟩
      obtain ⟨z, ez⟩ : ∃ z, z = (pitS (syAt ss k)).2.2 := ⟨_, rfl⟩
      rw [← ex, ← ey, ← ez] at cp ef
      obtain ⟨s, es⟩ : ∃ s, s = (syAt ss k).1 := ⟨_, rfl⟩
      obtain ⟨o, eo⟩ : ∃ o, o = (syAt ss k).2 := ⟨_, rfl⟩
      rw [← es] at e0 cp
      rw [← eo] at e1 cp
      have CP := Lib.hid cp; have EF := Lib.hid ef
      clear cp ef epp ex ey ez es eo
      go_wp2_with fail
      refine (CP.out _ (HT.out.below hK)).mono ?_
      rintro e w1 ⟨rfl, hb1⟩
      have KA := Lib.hid (hK.trans hb1)
      have HO1 := Lib.hid (ow_kp HO.out hb1)
      have hb2 := hb1.low
      clear hb1 e0 e1
      go_wp2_with (at_builtin; refine wpList_append_own _ rfl (.tmp 24) (.tmp 26) 24 rfl w.heap.size 36 i0 (.agg #[.int .i64 0, .int .i64 0, .int .i64 0]) 3 24 Tryd.underlying24 HI.out HZ0.out HZ1.out HZ2.out rfl (by decide) _ k (flat ((ss.take k).map pitS)) rfl ?own ⟨w1.heap.size + 1, 0, none⟩ 1 1 [.int .i64 x, .int .i64 y, .int .i64 z] rfl rfl ?c1 ?c2 ?c3 ?c4 ?c5 ?_)
      case own => exact ow_kp HO1.out (by repeat (first | exact Kp.refl _ | with_reducible assumption | with_reducible refine Kp.set ?_ _ _ ?_ | (dsimp only; omega) | with_reducible refine Kp.drew ?_ | with_reducible refine Kp.drewN ?_ _ | with_reducible refine Kp.al ?_ _ | with_reducible refine Kp.trans ?_ (by with_reducible assumption)))
      case c1 => simpa using cell3_new (w1.alloc (.cells #[.int .i64 x, .int .i64 y, .int .i64 z] 36)) (.int .i64 x) (.int .i64 y) (.int .i64 z) 36
      case c2 => simp [Value.oneCell']
      case c3 => simp only [maxLen]; omega
      case c4 => omega
      case c5 => have := KA.out.low; simp; omega
      intro v' w2 hown' hgrow _
      have hk2 := Lib.hid (ow_app KA.out HO1.out (((Kp.refl w1).al _).al _) hgrow)
      rw [← List.map_take, ← EF.out] at hown'
      obtain ⟨g, cap, rfl⟩ := ownsRow_succ hown'
      have HO2 := Lib.hid hown'
      clear hgrow hown'
      go_wp2_with fail
      go_roundw
      case rel => exact ⟨k + 1, by omega, by go_num, HO2.out, hk2.out⟩
      case measure => simp [intOf]; omega
    · obtain rfl : n = k := by omega
      have hd : decide ((n : Int) < (n : Int)) = false := by simp
      have ht : ss.take n = ss := List.take_of_length_le (by have := HL.out; omega)
      have HTK := Lib.hid ht
      clear ht
      go_wp2_with fail
      go_ret2
      exact ⟨⟨_, _, rfl, by have := HO.out; rwa [HTK.out] at this⟩, hK⟩

theorem moves_bd : ∀ O : List Sy, 0 ≤ movesN O ∧ movesN O ≤ O.length
  | [] => by simp [movesN]
  | [_] => by simp [movesN]
  | x :: y :: r => by
    have := moves_bd (y :: r)
    unfold movesN
    simp only [List.length_cons] at this ⊢
    split <;> omega
theorem moves_take (ss : List Sy) (k : Nat) (h1 : 1 ≤ k) (h : k < ss.length) : movesN (ss.take (k + 1)) = movesN (ss.take k) + if (syAt ss k).1 = (syAt ss (k - 1)).1 then 0 else 1 := by
  rw [List.take_succ_eq_append_getElem h, moves_app]
  have e : turn (ss.take k) [ss[k]] = if (syAt ss k).1 = (syAt ss (k - 1)).1 then 0 else 1 := by
    have hl : (ss.take k).getLast? = some ss[k - 1] := by
      rw [List.getLast?_eq_getElem?]
      have h2 : (ss.take k).length = k := by simp; omega
      rw [h2, List.getElem?_take_of_lt (by omega)]
      simp [show k - 1 < ss.length by omega]
    have e1 : syAt ss k = ss[k] := by simp [syAt, List.getD, h]
    have e2 : syAt ss (k - 1) = ss[k - 1] := by simp [syAt, List.getD, show k - 1 < ss.length by omega]
    unfold turn
    rw [hl, e1, e2]
    dsimp only
    by_cases hh : ss[k - 1].1 = ss[k].1
    · rw [if_pos hh, if_pos hh.symm]
    · rw [if_neg hh, if_neg (fun e => hh e.symm)]
  rw [e]
  show _ + 0 + _ = _
  omega
set_option maxRecDepth 100000 in
set_option maxHeartbeats 2000000 in
theorem moves_ok (A : Option Addr) (n c : Nat) (ss : List Sy) (w : World) (hx : Sys w A n ss) (hn : n ≤ 1000) :
    Calls Tryd.prog 37 #[.slice A n c] w fun e w' => e = .returned (.int .i64 (movesN ss)) ∧ Kp w w' := by
  have HX := Lib.hid hx; have HL := Lib.hid hx.1
  clear hx
  go_enter Tryd.func37, Tryd.ntmps37
  go_wp2_with fail
  go_loopw [3, 4] (fun v i wr => ∃ k : Nat, 1 ≤ k ∧ k ≤ max n 1 ∧ i = .int .i64 (k : Int) ∧ v = .int .i64 (movesN (ss.take k)) ∧ Kp w wr) (fun _ i _ => 1 + n - (intOf i).toNat)
  case atStart => exact ⟨1, by omega, by omega, rfl, by
    have : movesN (ss.take 1) = 0 := by
      cases ss with
      | nil => rfl
      | cons x r => rfl
    rw [this], Kp.refl _⟩
  case round =>
    obtain ⟨k, hk1, hk, rfl, rfl, hK⟩ := hrel
    have hb := moves_bd (ss.take k)
    have hbl : (ss.take k).length ≤ k := by simp; omega
    by_cases hlt : k < n
    · have hd2 : decide ((k : Int) < (n : Int)) = true := by simp; omega
      have hms := moves_take ss k hk1 (by have := HL.out; omega)
      obtain ⟨j, ej⟩ : ∃ j, j = k - 1 := ⟨_, rfl⟩
      rw [← ej] at hms
      obtain ⟨b, off, rfl, g2, g3⟩ := (HX.out.kp hK).2 k hlt
      obtain ⟨b', off', e', g0, g1⟩ := (HX.out.kp hK).2 j (by omega)
      injection e' with e'
      injection e' with e'1 e'2 _
      subst e'1 e'2
      obtain ⟨a1, ea1⟩ : ∃ a1, a1 = (syAt ss j).1 := ⟨_, rfl⟩
      obtain ⟨b1, eb1⟩ : ∃ b1, b1 = (syAt ss k).1 := ⟨_, rfl⟩
      rw [← ea1] at g0 hms
      rw [← eb1] at g2 hms
      obtain ⟨M, eM⟩ : ∃ M, M = movesN (ss.take k) := ⟨_, rfl⟩
      rw [← eM] at hms hb
      rw [← eM]
      have bl := cell_lt g0
      have m1 : IntKind.i64.wrap ((k : Int) - 1) = (k : Int) - 1 := IntWalk.i64_in _ (by omega)
      have m2 : ((k : Int) - 1).toNat = j := by omega
      have M1' := Lib.hid m1; have M2' := Lib.hid m2
      have m3 : (0 : Int) ≤ (k : Int) - 1 := by omega
      have m4 : (1 : Int) ≤ (k : Int) := by omega
      have m5 : (k : Int) - 1 < (n : Int) := by omega
      have m6 : (k : Int) < (n : Int) := by omega
      have m7 : (0 : Int) ≤ (k : Int) := by omega
      have m8 : IntKind.i64.wrap (M + 1) = M + 1 := IntWalk.i64_in _ (by omega)
      by_cases he : b1 = a1
      · have d1 : (b1 == a1) = true := by simpa using he
        have d2 : (b1 != a1) = false := by simpa using he
        rw [if_pos he, Int.add_zero] at hms
        have HMS := Lib.hid hms
        clear he hms m1 m2 ea1 eb1 ej g1 g3 eM hb hbl
        go_wp2_with fail
        have m1 := M1'.out
        have m2 := M2'.out
        go_quiet (fail)
        clear m1 m2
        go_wp2_with fail
        go_roundw
        case rel => exact ⟨k + 1, by omega, by omega, by go_num, by rw [HMS.out], by repeat (first | exact Kp.refl _ | with_reducible assumption | with_reducible refine Kp.set ?_ _ _ ?_ | (dsimp only; omega) | with_reducible refine Kp.drew ?_ | with_reducible refine Kp.drewN ?_ _ | with_reducible refine Kp.al ?_ _ | with_reducible refine Kp.trans ?_ (by with_reducible assumption))⟩
        case measure => simp [intOf]; omega
      · have d1 : (b1 == a1) = false := by simpa using he
        have d2 : (b1 != a1) = true := by simpa using he
        rw [if_neg he] at hms
        have HMS := Lib.hid hms
        clear he hms m1 m2 ea1 eb1 ej g1 g3 eM hb hbl
        go_wp2_with fail
        have m1 := M1'.out
        have m2 := M2'.out
        go_quiet (fail)
        clear m1 m2
        go_wp2_with fail
        go_roundw
        case rel => exact ⟨k + 1, by omega, by omega, by go_num, by rw [HMS.out], by repeat (first | exact Kp.refl _ | with_reducible assumption | with_reducible refine Kp.set ?_ _ _ ?_ | (dsimp only; omega) | with_reducible refine Kp.drew ?_ | with_reducible refine Kp.drewN ?_ _ | with_reducible refine Kp.al ?_ _ | with_reducible refine Kp.trans ?_ (by with_reducible assumption))⟩
        case measure => simp [intOf]; omega
    · have hd2 : decide ((k : Int) < (n : Int)) = false := by simp; omega
      have ht : ss.take k = ss := List.take_of_length_le (by have := HL.out; omega)
      have HTK := Lib.hid ht
      clear ht hb hbl
      go_wp2_with fail
      go_ret
      rw [HTK.out]
      exact ⟨rfl, hK⟩
end Go.Proofs.YtaobndijldidfaaDoor
