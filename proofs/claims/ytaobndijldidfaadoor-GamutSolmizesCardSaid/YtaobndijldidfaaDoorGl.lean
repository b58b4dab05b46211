/- Contract of gamut.Mutations. -/
import Derived.Test.YtaobndijldidfaaDoorGf
import Derived.BigQuiet
import Derived.Deep.RegionHeld3
set_option linter.unusedSimpArgs false
set_option linter.unusedVariables false
namespace Go.Proofs.YtaobndijldidfaaDoor
open Go.RowKit

/-- A slice that reads as a list of truth values. -/
def Bls (w : World) (A : Option Addr) (n : Nat) (bs : List Bool) : Prop := bs.length = n ∧ ∀ k, k < n → ∃ b off, A = some ⟨b, off, none⟩ ∧ w.cell? ⟨b, off + k, none⟩ = some (.bool (bs.getD k false))
theorem Bls.kp {w w' : World} {A : Option Addr} {n : Nat} {bs : List Bool} (h : Bls w A n bs) (k : Kp w w') : Bls w' A n bs :=
  ⟨h.1, fun j hj => by obtain ⟨b, off, e, hc⟩ := h.2 j hj; exact ⟨b, off, e, k.get hc⟩⟩
/-- The mutations ahead of the k-th syllable, each with whether it is smooth. -/
def mutTo (ss : List Sy) : Nat → List (Int × Bool)
  | 0 => []
  | k + 1 => mutTo ss k ++ if 0 < k ∧ (syAt ss k).1 ≠ (syAt ss (k - 1)).1 then [((k : Int), smB (syAt ss (k - 1)) (syAt ss k))] else []
theorem mutTo_len (ss : List Sy) : ∀ k, (mutTo ss k).length ≤ k
  | 0 => Nat.le_refl _
  | k + 1 => by
    have := mutTo_len ss k
    unfold mutTo
    rw [List.length_append]
    split <;> simp <;> omega
theorem mutTo_one (ss : List Sy) : mutTo ss 1 = [] := rfl
theorem own_other {w w2 : World} {B B' : Nat} {t t' : TypeId} {s s' n n' : Nat} {v v' : Value} {xs xs' : List Value} (h : w.ownsRow B t s v n xs) (h' : w.ownsRow B' t' s' v' n' xs') (hne : t ≠ t') (hg : w.grownBy w2 v'.ownBlock) : w2.ownsRow B t s v n xs := by
  refine ⟨h.1, ?_⟩
  rcases h.2 with e | ⟨g, cap, cur, e, hb, hc, rest⟩
  · exact .inl e
  · refine .inr ⟨g, cap, cur, e, hb, (hg.block g (Array.getElem?_eq_some_iff.1 hc).1 (fun e2 => ?_)).trans hc, rest⟩
    rcases h'.2 with ⟨rfl, _⟩ | ⟨g', cap', cur', rfl, _, hc', _⟩
    · cases e2
    · injection e2 with e2
      dsimp only at e2
      subst e2
      rw [hc] at hc'
      injection hc' with hc'
      injection hc' with _ h2 _
      exact hne h2
theorem row_cell {w : World} {B : Nat} {t : TypeId} {A : Option Addr} {n c : Nat} {xs : List Value} (h : w.ownsRow B t 1 (.slice A n c) n xs) (k : Nat) (hk : k < n) : ∃ g, A = some ⟨g, 0, none⟩ ∧ w.cell? ⟨g, 0 + k, none⟩ = xs[k]? := by
  obtain ⟨hl, h⟩ := h
  rcases h with ⟨_, h0⟩ | ⟨g, cap, cur, e, _, hg, _, _, _, ht⟩
  · omega
  · obtain ⟨rfl, -, -⟩ : A = some ⟨g, 0, none⟩ ∧ n = n ∧ c = cap := by injection e with e1 e2 e3; exact ⟨e1, rfl, e3⟩
    refine ⟨g, rfl, ?_⟩
    have h2 : (cur.toList.take (n * 1))[k]? = cur.toList[k]? := List.getElem?_take_of_lt (by omega)
    rw [← ht, h2]
    simp [World.cell?, hg]
theorem ints_own {w : World} {B : Nat} {t : TypeId} {A : Option Addr} {n c : Nat} {xs : List Int} (h : w.ownsRow B t 1 (.slice A n c) n (xs.map (Value.int .i64))) : Ints w A n xs := by
  have hl : xs.length = n := by simpa using h.1
  refine ⟨hl, fun k hk => ?_⟩
  obtain ⟨g, e, hc⟩ := row_cell h k hk
  refine ⟨g, 0, e, ?_⟩
  rw [hc]
  simp [hl, hk]
theorem bls_own {w : World} {B : Nat} {t : TypeId} {A : Option Addr} {n c : Nat} {xs : List Bool} (h : w.ownsRow B t 1 (.slice A n c) n (xs.map Value.bool)) : Bls w A n xs := by
  have hl : xs.length = n := by simpa using h.1
  refine ⟨hl, fun k hk => ?_⟩
  obtain ⟨g, e, hc⟩ := row_cell h k hk
  refine ⟨g, 0, e, ?_⟩
  rw [hc]
  simp [hl, hk]
theorem cell_one (w : World) (x : Value) (t : TypeId) : ∀ j u, [x][j]? = some u → (w.alloc (.cells #[x] t)).cell? ((⟨w.heap.size, 0, none⟩ : Addr).add j) = some u := by
  intro j u hj
  match j, hj with
  | 0, hj => simp at hj; subst hj; simp [Addr.add]
theorem inti : (Tryd.prog.info? 3).map (fun i => (i.zero, i.size, i.bytes)) = some (some (.int .i64 0), 1, 8) := by kernel_rfl
theorem booli : (Tryd.prog.info? 4).map (fun i => (i.zero, i.size, i.bytes)) = some (some (.bool false), 1, 1) := by kernel_rfl

set_option maxRecDepth 100000 in
set_option maxHeartbeats 2000000 in
theorem mutations_long (A : Option Addr) (n c : Nat) (w : World) (hn : 400 < n) :
    Calls Tryd.prog 27 #[.slice A n c] w fun e w' => e = .returned (.tuple #[.slice none 0 0, .slice none 0 0, .int .i64 11]) ∧ Kp w w' := by
  have t0 : decide (400 < (n : Int)) = true := by simp; omega
  go_enter Tryd.func27, Tryd.ntmps27
  go_wp2_with fail
  go_ret3
  exact ⟨rfl, by repeat (first | exact Kp.refl _ | with_reducible assumption | with_reducible refine Kp.set ?_ _ _ ?_ | (dsimp only; omega) | with_reducible refine Kp.drew ?_ | with_reducible refine Kp.drewN ?_ _ | with_reducible refine Kp.al ?_ _ | with_reducible refine Kp.trans ?_ (by with_reducible assumption))⟩

set_option maxRecDepth 100000 in
set_option maxHeartbeats 2000000 in
theorem mutations_bad (A : Option Addr) (n c k0 : Nat) (ss : List Sy) (w : World) (ht0 : Tab w) (hx0 : Sys w A n ss) (hn : n ≤ 400) (hk0 : k0 < n) (hg : ∀ j, j < k0 → Vs (syAt ss j).1 (syAt ss j).2) (hb : ¬ Vs (syAt ss k0).1 (syAt ss k0).2) :
    Calls Tryd.prog 27 #[.slice A n c] w fun e w' => e = .returned (.tuple #[.slice none 0 0, .slice none 0 0, .int .i64 2]) ∧ Kp w w' := by
  have HX := Lib.hid hx0; have HG := Lib.hid hg; have HB := Lib.hid hb
  have HT := Lib.hid ht0
  have t0 : decide (400 < (n : Int)) = false := by simp; omega
  clear ht0 hx0 hg hb
  go_enter Tryd.func27, Tryd.ntmps27
  go_wp2_with fail
  go_loopw [17] (fun v wr => ∃ k : Nat, k ≤ k0 ∧ v = .int .i64 (k : Int) ∧ Kp w wr) (fun v _ => n - (intOf v).toNat)
  case atStart => exact ⟨0, by omega, rfl, by repeat (first | exact Kp.refl _ | with_reducible assumption | with_reducible refine Kp.set ?_ _ _ ?_ | (dsimp only; omega) | with_reducible refine Kp.drew ?_ | with_reducible refine Kp.drewN ?_ _ | with_reducible refine Kp.al ?_ _ | with_reducible refine Kp.trans ?_ (by with_reducible assumption))⟩
  case round =>
    obtain ⟨k, hk, rfl, hK⟩ := hrel
    have hd : decide ((k : Int) < (n : Int)) = true := by simp; omega
    obtain ⟨b, off, rfl, e0, e1⟩ := (HX.out.kp hK).2 k (by omega)
    by_cases hlt : k < k0
    · have CP := Lib.hid (fun w t => gpitch_ok (syAt ss k).1 (syAt ss k).2 w t (HG.out k hlt))
      obtain ⟨s, es⟩ : ∃ s, s = (syAt ss k).1 := ⟨_, rfl⟩
      obtain ⟨o, eo⟩ : ∃ o, o = (syAt ss k).2 := ⟨_, rfl⟩
      rw [← es] at e0 CP
      rw [← eo] at e1 CP
      clear es eo
      go_wp2_with fail
      refine (CP.out _ (HT.out.below (by repeat (first | exact Kp.refl _ | with_reducible assumption | with_reducible refine Kp.set ?_ _ _ ?_ | (dsimp only; omega) | with_reducible refine Kp.drew ?_ | with_reducible refine Kp.drewN ?_ _ | with_reducible refine Kp.al ?_ _ | with_reducible refine Kp.trans ?_ (by with_reducible assumption))))).mono ?_
      rintro e wr1 ⟨rfl, hb1⟩
      have Q1 : Kp wr wr1 := by repeat (first | exact Kp.refl _ | with_reducible assumption | with_reducible refine Kp.set ?_ _ _ ?_ | (dsimp only; omega) | with_reducible refine Kp.drew ?_ | with_reducible refine Kp.drewN ?_ _ | with_reducible refine Kp.al ?_ _ | with_reducible refine Kp.trans ?_ (by with_reducible assumption))
      have c1_0_1 := hb1.get (b := wr.heap.size) (o := 0) (v := .int .i64 (s)) (by first | with_reducible assumption | (simp [go_sem]; done) | (simp [go_sem, *]; done))
      have c1_1_1 := hb1.get (b := wr.heap.size) (o := 1) (v := .int .i64 (o)) (by first | with_reducible assumption | (simp [go_sem]; done) | (simp [go_sem, *]; done))
      have l1_1 := cell_lt c1_0_1
      have K1 := Q1
      clear hb1 Q1
      go_wp2_with fail
      go_roundw
      case rel => exact ⟨k + 1, by omega, by go_num, by repeat (first | exact Kp.refl _ | with_reducible assumption | with_reducible refine Kp.set ?_ _ _ ?_ | (dsimp only; omega) | with_reducible refine Kp.drew ?_ | with_reducible refine Kp.drewN ?_ _ | with_reducible refine Kp.al ?_ _ | with_reducible refine Kp.trans ?_ (by with_reducible assumption))⟩
      case measure => simp [intOf]; omega
    · obtain rfl : k = k0 := by omega
      have CP := Lib.hid (fun w => gpitch_no (syAt ss k).1 (syAt ss k).2 w HB.out)
      obtain ⟨s, es⟩ : ∃ s, s = (syAt ss k).1 := ⟨_, rfl⟩
      obtain ⟨o, eo⟩ : ∃ o, o = (syAt ss k).2 := ⟨_, rfl⟩
      rw [← es] at e0 CP
      rw [← eo] at e1 CP
      clear es eo HB
      go_wp2_with fail
      refine (CP.out _).mono ?_
      rintro e wr1 ⟨rfl, hb1⟩
      have Q1 : Kp wr wr1 := by repeat (first | exact Kp.refl _ | with_reducible assumption | with_reducible refine Kp.set ?_ _ _ ?_ | (dsimp only; omega) | with_reducible refine Kp.drew ?_ | with_reducible refine Kp.drewN ?_ _ | with_reducible refine Kp.al ?_ _ | with_reducible refine Kp.trans ?_ (by with_reducible assumption))
      have c1_0_1 := hb1.get (b := wr.heap.size) (o := 0) (v := .int .i64 (s)) (by first | with_reducible assumption | (simp [go_sem]; done) | (simp [go_sem, *]; done))
      have c1_1_1 := hb1.get (b := wr.heap.size) (o := 1) (v := .int .i64 (o)) (by first | with_reducible assumption | (simp [go_sem]; done) | (simp [go_sem, *]; done))
      have l1_1 := cell_lt c1_0_1
      have K1 := Q1
      clear hb1 Q1
      go_wp2_with fail
      go_ret3
      exact ⟨rfl, by repeat (first | exact Kp.refl _ | with_reducible assumption | with_reducible refine Kp.set ?_ _ _ ?_ | (dsimp only; omega) | with_reducible refine Kp.drew ?_ | with_reducible refine Kp.drewN ?_ _ | with_reducible refine Kp.al ?_ _ | with_reducible refine Kp.trans ?_ (by with_reducible assumption))⟩

set_option maxRecDepth 100000 in
set_option maxHeartbeats 8000000 in
theorem mutations_ok (A : Option Addr) (n c : Nat) (ss : List Sy) (w : World) (ht0 : Tab w) (hx0 : Sys w A n ss) (hn : n ≤ 400) (hg : ∀ j, j < n → Vs (syAt ss j).1 (syAt ss j).2) :
    Calls Tryd.prog 27 #[.slice A n c] w fun e w' => (∃ A1 c1 A2 c2, e = .returned (.tuple #[.slice A1 (mutTo ss n).length c1, .slice A2 (mutTo ss n).length c2, .int .i64 0]) ∧ Ints w' A1 (mutTo ss n).length ((mutTo ss n).map (·.1)) ∧ Bls w' A2 (mutTo ss n).length ((mutTo ss n).map (·.2))) ∧ Kp w w' := by
  have HX := Lib.hid hx0; have HG := Lib.hid hg
  have HT := Lib.hid ht0
  have t0 : decide (400 < (n : Int)) = false := by simp; omega
  obtain ⟨ii, hi0, hi1, hi2, hi3⟩ := info_parts inti
  have HI0 := Lib.hid hi0; have HI1 := Lib.hid hi1; have HI2 := Lib.hid hi2; have HI3 := Lib.hid hi3
  obtain ⟨ib, hb0, hb1, hb2, hb3⟩ := info_parts booli
  have HB0 := Lib.hid hb0; have HB1 := Lib.hid hb1; have HB2 := Lib.hid hb2; have HB3 := Lib.hid hb3
  clear ht0 hx0 hg hi0 hi1 hi2 hi3 hb0 hb1 hb2 hb3
  go_enter Tryd.func27, Tryd.ntmps27
  go_wp2_with fail
  go_loopw [17] (fun v wr => ∃ k : Nat, k ≤ n ∧ v = .int .i64 (k : Int) ∧ Kp w wr) (fun v _ => n - (intOf v).toNat)
  case atStart => exact ⟨0, by omega, rfl, by repeat (first | exact Kp.refl _ | with_reducible assumption | with_reducible refine Kp.set ?_ _ _ ?_ | (dsimp only; omega) | with_reducible refine Kp.drew ?_ | with_reducible refine Kp.drewN ?_ _ | with_reducible refine Kp.al ?_ _ | with_reducible refine Kp.trans ?_ (by with_reducible assumption))⟩
  case round =>
    obtain ⟨k, hk, rfl, hK⟩ := hrel
    by_cases hlt : k < n
    · have hd : decide ((k : Int) < (n : Int)) = true := by simp; omega
      obtain ⟨b, off, rfl, e0, e1⟩ := (HX.out.kp hK).2 k (by omega)
      have CP := Lib.hid (fun w t => gpitch_ok (syAt ss k).1 (syAt ss k).2 w t (HG.out k hlt))
      obtain ⟨s, es⟩ : ∃ s, s = (syAt ss k).1 := ⟨_, rfl⟩
      obtain ⟨o, eo⟩ : ∃ o, o = (syAt ss k).2 := ⟨_, rfl⟩
      rw [← es] at e0 CP
      rw [← eo] at e1 CP
      clear es eo
      go_wp2_with fail
      refine (CP.out _ (HT.out.below (by repeat (first | exact Kp.refl _ | with_reducible assumption | with_reducible refine Kp.set ?_ _ _ ?_ | (dsimp only; omega) | with_reducible refine Kp.drew ?_ | with_reducible refine Kp.drewN ?_ _ | with_reducible refine Kp.al ?_ _ | with_reducible refine Kp.trans ?_ (by with_reducible assumption))))).mono ?_
      rintro e wr1 ⟨rfl, hb1⟩
      have Q1 : Kp wr wr1 := by repeat (first | exact Kp.refl _ | with_reducible assumption | with_reducible refine Kp.set ?_ _ _ ?_ | (dsimp only; omega) | with_reducible refine Kp.drew ?_ | with_reducible refine Kp.drewN ?_ _ | with_reducible refine Kp.al ?_ _ | with_reducible refine Kp.trans ?_ (by with_reducible assumption))
      have c1_0_1 := hb1.get (b := wr.heap.size) (o := 0) (v := .int .i64 (s)) (by first | with_reducible assumption | (simp [go_sem]; done) | (simp [go_sem, *]; done))
      have c1_1_1 := hb1.get (b := wr.heap.size) (o := 1) (v := .int .i64 (o)) (by first | with_reducible assumption | (simp [go_sem]; done) | (simp [go_sem, *]; done))
      have l1_1 := cell_lt c1_0_1
      have K1 := Q1
      clear hb1 Q1
      go_wp2_with fail
      go_roundw
      case rel => exact ⟨k + 1, by omega, by go_num, by repeat (first | exact Kp.refl _ | with_reducible assumption | with_reducible refine Kp.set ?_ _ _ ?_ | (dsimp only; omega) | with_reducible refine Kp.drew ?_ | with_reducible refine Kp.drewN ?_ _ | with_reducible refine Kp.al ?_ _ | with_reducible refine Kp.trans ?_ (by with_reducible assumption))⟩
      case measure => simp [intOf]; omega
    · obtain rfl : n = k := by omega
      have hd : decide ((n : Int) < (n : Int)) = false := by simp
      have HK0 := Lib.hid hK
      clear hK
      go_wp2_with fail
      go_loopw [9, 10, 11] (fun va vb vi w2 => ∃ k : Nat, 1 ≤ k ∧ k ≤ max n 1 ∧ ∃ A1 c1 A2 c2, vi = .int .i64 (k : Int) ∧ va = .slice A1 (mutTo ss k).length c1 ∧ vb = .slice A2 (mutTo ss k).length c2 ∧ w2.ownsRow w.heap.size 3 1 (.slice A1 (mutTo ss k).length c1) (mutTo ss k).length ((mutTo ss k).map fun x => Value.int .i64 x.1) ∧ w2.ownsRow w.heap.size 4 1 (.slice A2 (mutTo ss k).length c2) (mutTo ss k).length ((mutTo ss k).map fun x => Value.bool x.2) ∧ Kp w w2) (fun _ _ v _ => 1 + n - (intOf v).toNat)
      case atStart => exact ⟨1, by omega, by omega, none, 0, none, 0, rfl, rfl, rfl, World.ownsRow_nil _ _ _ _, World.ownsRow_nil _ _ _ _, HK0.out⟩
      case round =>
        obtain ⟨k, hk1, hk, A1, c1, A2, c2, rfl, rfl, rfl, hO1, hO2, hKW⟩ := hrel
        have HO1 := Lib.hid hO1; have HO2 := Lib.hid hO2; have HKW := Lib.hid hKW
        clear hO1 hO2 hKW HK0
        have hml := mutTo_len ss k
        by_cases hlt : k < n
        · have hd2 : decide ((k : Int) < (n : Int)) = true := by simp; omega
          obtain ⟨j, ej⟩ : ∃ j, j = k - 1 := ⟨_, rfl⟩
          obtain ⟨b, off, rfl, g2, g3⟩ := HX.out.2 k hlt
          obtain ⟨b', off', e', g0, g1⟩ := HX.out.2 j (by omega)
          injection e' with e'
          injection e' with e'1 e'2 _
          subst e'1 e'2
          have vj := HG.out j (by omega)
          have vk := HG.out k hlt
          have hms : mutTo ss (k + 1) = mutTo ss k ++ if 0 < k ∧ (syAt ss k).1 ≠ (syAt ss j).1 then [((k : Int), smB (syAt ss j) (syAt ss k))] else [] := by rw [ej]; rfl
          have ej1 : syAt ss j = ((syAt ss j).1, (syAt ss j).2) := rfl
          have ek1 : syAt ss k = ((syAt ss k).1, (syAt ss k).2) := rfl
          rw [ej1, ek1] at hms
          dsimp only at hms
          obtain ⟨a1, ea1⟩ : ∃ a1, a1 = (syAt ss j).1 := ⟨_, rfl⟩
          obtain ⟨a2, ea2⟩ : ∃ a2, a2 = (syAt ss j).2 := ⟨_, rfl⟩
          obtain ⟨b1, eb1⟩ : ∃ b1, b1 = (syAt ss k).1 := ⟨_, rfl⟩
          obtain ⟨b2, eb2⟩ : ∃ b2, b2 = (syAt ss k).2 := ⟨_, rfl⟩
          rw [← ea1] at g0 vj hms
          rw [← ea2] at g1 vj hms
          rw [← eb1] at g2 vk hms
          rw [← eb2] at g3 vk hms
          have h0 := HKW.out.get g0
          have h1 := HKW.out.get g1
          have h2 := HKW.out.get g2
          have h3 := HKW.out.get g3
          have bl := cell_lt h0
          have m1 : IntKind.i64.wrap ((k : Int) - 1) = (k : Int) - 1 := IntWalk.i64_in _ (by omega)
          have m2 : ((k : Int) - 1).toNat = j := by omega
          have M1' := Lib.hid m1; have M2' := Lib.hid m2
          have m3 : (0 : Int) ≤ (k : Int) - 1 := by omega
          have m4 : (1 : Int) ≤ (k : Int) := by omega
          have m5 : (k : Int) - 1 < (n : Int) := by omega
          have m6 : (k : Int) < (n : Int) := by omega
          have m7 : (0 : Int) ≤ (k : Int) := by omega
          have G0 := Lib.hid g0; have G1 := Lib.hid g1; have G2 := Lib.hid g2; have G3 := Lib.hid g3
          obtain ⟨ml, eml⟩ : ∃ ml, ml = (mutTo ss k).length := ⟨_, rfl⟩
          rw [← eml] at HO1 HO2 hml
          rw [← eml]
          by_cases he : b1 = a1
          · have d1 : (b1 == a1) = true := by simpa using he
            have d2 : (b1 != a1) = false := by simpa using he
            rw [if_neg (by omega)] at hms
            have HMT := Lib.hid hms; have EML := Lib.hid eml
            clear he hms m1 m2 ea1 ea2 eb1 eb2 ej1 ek1 g0 g1 g2 g3 vj vk eml ej
            go_wp2_with fail
            have m1 := M1'.out
            have m2 := M2'.out
            go_quiet (fail)
            clear m1 m2
            go_wp2_with fail
            go_roundw
            case rel => exact ⟨k + 1, by omega, by omega, _, _, _, _, by go_num, by rw [HMT.out, List.append_nil, ← EML.out], by rw [HMT.out, List.append_nil, ← EML.out], by rw [HMT.out, List.append_nil, ← EML.out]; exact ow_kp HO1.out (by repeat (first | exact Kp.refl _ | with_reducible assumption | with_reducible refine Kp.set ?_ _ _ ?_ | (dsimp only; omega) | with_reducible refine Kp.drew ?_ | with_reducible refine Kp.drewN ?_ _ | with_reducible refine Kp.al ?_ _ | with_reducible refine Kp.trans ?_ (by with_reducible assumption))), by rw [HMT.out, List.append_nil, ← EML.out]; exact ow_kp HO2.out (by repeat (first | exact Kp.refl _ | with_reducible assumption | with_reducible refine Kp.set ?_ _ _ ?_ | (dsimp only; omega) | with_reducible refine Kp.drew ?_ | with_reducible refine Kp.drewN ?_ _ | with_reducible refine Kp.al ?_ _ | with_reducible refine Kp.trans ?_ (by with_reducible assumption))), HKW.out.trans (by repeat (first | exact Kp.refl _ | with_reducible assumption | with_reducible refine Kp.set ?_ _ _ ?_ | (dsimp only; omega) | with_reducible refine Kp.drew ?_ | with_reducible refine Kp.drewN ?_ _ | with_reducible refine Kp.al ?_ _ | with_reducible refine Kp.trans ?_ (by with_reducible assumption)))⟩
            case measure => simp [intOf]; omega
          · have d1 : (b1 == a1) = false := by simpa using he
            have d2 : (b1 != a1) = true := by simpa using he
            rw [if_pos ⟨by omega, he⟩] at hms
            have CT := Lib.hid (fun w t => smooth_ok a1 a2 b1 b2 w t vj vk)
            have HMT := Lib.hid hms; have EML := Lib.hid eml
            clear he hms m1 m2 ea1 ea2 eb1 eb2 ej1 ek1 g0 g1 g2 g3 vj vk eml ej
            go_wp2_with fail
            have m1 := M1'.out
            have m2 := M2'.out
            go_quiet (fail)
            clear m1 m2
            go_wp2_with (at_builtin; refine wpList_append_own _ rfl (.tmp 48) (.tmp 50) 22 rfl w.heap.size 3 ii (.int .i64 0) 1 8 Tryd.underlying22 HI0.out HI1.out HI2.out HI3.out rfl (by decide) (.slice A1 ml c1) ml ((mutTo ss k).map fun x => Value.int .i64 x.1) rfl ?own ⟨wr.heap.size, 0, none⟩ 1 1 [.int .i64 (k : Int)] rfl rfl ?c1 ?c2 ?c3 ?c4 ?c5 ?_)
            case own => exact ow_kp HO1.out (by repeat (first | exact Kp.refl _ | with_reducible assumption | with_reducible refine Kp.set ?_ _ _ ?_ | (dsimp only; omega) | with_reducible refine Kp.drew ?_ | with_reducible refine Kp.drewN ?_ _ | with_reducible refine Kp.al ?_ _ | with_reducible refine Kp.trans ?_ (by with_reducible assumption)))
            case c1 => simpa using cell_one (wr.drewN nq) (.int .i64 (k : Int)) 3
            case c2 => simp [Value.oneCell']
            case c3 => simp only [maxLen]; omega
            case c4 => omega
            case c5 => have := HKW.out.low; simp; omega
            intro v' w2 hown' hgrow _
            have kwa : Kp wr ((wr.drewN nq).alloc (.cells #[.int .i64 (k : Int)] 3)) := by repeat (first | exact Kp.refl _ | with_reducible assumption | with_reducible refine Kp.set ?_ _ _ ?_ | (dsimp only; omega) | with_reducible refine Kp.drew ?_ | with_reducible refine Kp.drewN ?_ _ | with_reducible refine Kp.al ?_ _ | with_reducible refine Kp.trans ?_ (by with_reducible assumption))
            have KW2 := Lib.hid (ow_app HKW.out HO1.out kwa hgrow)
            have HO2a := Lib.hid (own_other (ow_kp HO2.out kwa) (ow_kp HO1.out kwa) (by decide) hgrow)
            obtain ⟨g, cap, rfl⟩ := ownsRow_succ hown'
            have HO1a := Lib.hid hown'
            clear hgrow hown' kwa h0 h1 h2 h3 HO1 HO2 HKW bl
            have h0 := KW2.out.get G0.out
            have h1 := KW2.out.get G1.out
            have h2 := KW2.out.get G2.out
            have h3 := KW2.out.get G3.out
            have bl := cell_lt h0
            go_wp2_with fail
            have m1 := M1'.out
            have m2 := M2'.out
            refine wp_region_held_drew (S := (fun w' => w'.cell? ⟨b, off + j * 2, none⟩ = some (.int .i64 a1) ∧ w'.cell? ⟨b, off + j * 2 + 1, none⟩ = some (.int .i64 a2) ∧ w'.cell? ⟨b, off + k * 2, none⟩ = some (.int .i64 b1) ∧ w'.cell? ⟨b, off + k * 2 + 1, none⟩ = some (.int .i64 b2))) (by kernel_rfl) ⟨h0, h1, h2, h3⟩ (fun hHeld => ?_)
            refine wpAnyH_take (i := 0) (v := ?v0) rfl (by kernel_rfl) (by kernel_rfl) (by kernel_rfl) (fun _ _ _ h => h) (Or.inl ⟨by rfl, ?y0⟩) hHeld ?r0
            case y0 =>
              intro w hSw
              (try dsimp only at hSw)
              go_simp
              try with_reducible rfl
            try simp only [Act.put, List.getElem_toArray, List.getElem_cons_zero, List.getElem_cons_succ, List.setIfInBounds_toArray, List.set_cons_zero, List.set_cons_succ]
            refine wpAnyH_take (i := 1) (v := ?v1) rfl (by kernel_rfl) (by kernel_rfl) (by kernel_rfl) (fun _ _ _ h => h) (Or.inl ⟨by rfl, ?y1⟩) hHeld ?r1
            case y1 =>
              intro w hSw
              (try dsimp only at hSw)
              go_simp
              try with_reducible rfl
            try simp only [Act.put, List.getElem_toArray, List.getElem_cons_zero, List.getElem_cons_succ, List.setIfInBounds_toArray, List.set_cons_zero, List.set_cons_succ]
            refine wpAnyH_take (i := 2) (v := ?v2) rfl (by kernel_rfl) (by kernel_rfl) (by kernel_rfl) (fun _ _ _ h => h) (Or.inl ⟨by rfl, ?y2⟩) hHeld ?r2
            case y2 =>
              intro w hSw
              (try dsimp only at hSw)
              go_simp
              try with_reducible rfl
            try simp only [Act.put, List.getElem_toArray, List.getElem_cons_zero, List.getElem_cons_succ, List.setIfInBounds_toArray, List.set_cons_zero, List.set_cons_succ]
            refine wpAnyH_take (i := 3) (v := ?v3) rfl (by kernel_rfl) (by kernel_rfl) (by kernel_rfl) (fun _ _ _ h => h) (Or.inl ⟨by rfl, ?y3⟩) hHeld ?r3
            case y3 =>
              intro w hSw
              (try dsimp only at hSw)
              go_simp
              try with_reducible rfl
            try simp only [Act.put, List.getElem_toArray, List.getElem_cons_zero, List.getElem_cons_succ, List.setIfInBounds_toArray, List.set_cons_zero, List.set_cons_succ]
            refine wpAnyH_take (i := 4) (v := ?v4) rfl (by kernel_rfl) (by kernel_rfl) (by kernel_rfl) (fun _ _ _ h => h) (Or.inl ⟨by rfl, ?y4⟩) hHeld ?r4
            case y4 =>
              intro w hSw
              (try dsimp only at hSw)
              go_simp
              try with_reducible rfl
            try simp only [Act.put, List.getElem_toArray, List.getElem_cons_zero, List.getElem_cons_succ, List.setIfInBounds_toArray, List.set_cons_zero, List.set_cons_succ]
            refine wpAnyH_take (i := 5) (v := ?v5) rfl (by kernel_rfl) (by kernel_rfl) (by kernel_rfl) (fun _ _ _ h => h) (Or.inl ⟨by rfl, ?y5⟩) hHeld ?r5
            case y5 =>
              intro w hSw
              (try dsimp only at hSw)
              go_simp
              try with_reducible rfl
            try simp only [Act.put, List.getElem_toArray, List.getElem_cons_zero, List.getElem_cons_succ, List.setIfInBounds_toArray, List.set_cons_zero, List.set_cons_succ]
            refine wpAnyH_take (i := 6) (v := ?v6) rfl (by kernel_rfl) (by kernel_rfl) (by kernel_rfl) (fun _ _ _ h => h) (Or.inl ⟨by rfl, ?y6⟩) hHeld ?r6
            case y6 =>
              intro w hSw
              (try dsimp only at hSw)
              go_simp
              try with_reducible rfl
            try simp only [Act.put, List.getElem_toArray, List.getElem_cons_zero, List.getElem_cons_succ, List.setIfInBounds_toArray, List.set_cons_zero, List.set_cons_succ]
            refine wpAnyH_take (i := 7) (v := ?v7) rfl (by kernel_rfl) (by kernel_rfl) (by kernel_rfl) (fun _ _ _ h => h) (Or.inl ⟨by rfl, ?y7⟩) hHeld ?r7
            case y7 =>
              intro w hSw
              (try dsimp only at hSw)
              go_simp
              try with_reducible rfl
            try simp only [Act.put, List.getElem_toArray, List.getElem_cons_zero, List.getElem_cons_succ, List.setIfInBounds_toArray, List.set_cons_zero, List.set_cons_succ]
            refine wpAnyH_take (i := 8) (v := ?v8) rfl (by kernel_rfl) (by kernel_rfl) (by kernel_rfl) (fun _ _ _ h => h) (Or.inl ⟨by rfl, ?y8⟩) hHeld ?r8
            case y8 =>
              intro w hSw
              (try dsimp only at hSw)
              go_simp
              try with_reducible rfl
            try simp only [Act.put, List.getElem_toArray, List.getElem_cons_zero, List.getElem_cons_succ, List.setIfInBounds_toArray, List.set_cons_zero, List.set_cons_succ]
            refine wpAnyH_take (i := 9) (v := ?v9) rfl (by kernel_rfl) (by kernel_rfl) (by kernel_rfl) (fun _ _ _ h => h) (Or.inl ⟨by rfl, ?y9⟩) hHeld ?r9
            case y9 =>
              intro w hSw
              (try dsimp only at hSw)
              go_simp
              try with_reducible rfl
            try simp only [Act.put, List.getElem_toArray, List.getElem_cons_zero, List.getElem_cons_succ, List.setIfInBounds_toArray, List.set_cons_zero, List.set_cons_succ]
            refine wpAnyH_ready (rs := [10]) (by kernel_rfl) (by simp) ?_
            refine AllReadyH.cons rfl (fun K hK => ?s1) ?m1
            case s1 =>
              try simp only [List.getElem_toArray, List.getElem_cons_zero, List.getElem_cons_succ]
              go_simp
              refine (CT.out _ (HT.out.below (KW2.out.trans (by repeat (first | exact Kp.refl _ | with_reducible assumption | with_reducible refine Kp.set ?_ _ _ ?_ | (dsimp only; omega) | with_reducible refine Kp.drew ?_ | with_reducible refine Kp.drewN ?_ _ | with_reducible refine Kp.al ?_ _ | with_reducible refine Kp.trans ?_ (by with_reducible assumption)))))).mono ?_
              rintro e wx ⟨rfl, hkx⟩
              have KX : Kp w2 wx := by repeat (first | exact Kp.refl _ | with_reducible assumption | with_reducible refine Kp.set ?_ _ _ ?_ | (dsimp only; omega) | with_reducible refine Kp.drew ?_ | with_reducible refine Kp.drewN ?_ _ | with_reducible refine Kp.al ?_ _ | with_reducible refine Kp.trans ?_ (by with_reducible assumption))
              clear hkx
              have x0 := KX.get h0
              have x1 := KX.get h1
              have x2 := KX.get h2
              have x3 := KX.get h3
              go_wp2_with fail
              refine hK.out _ _ ⟨x0, x1, x2, x3⟩ (fun _ => ?_)
              clear hK K
              try simp only [Act.put, List.getElem_toArray, List.getElem_cons_zero, List.getElem_cons_succ, List.setIfInBounds_toArray, List.set_cons_zero, List.set_cons_succ]
              refine wpAnyH_ready (rs := [11]) (by kernel_rfl) (by simp) ?_
              refine AllReadyH.cons rfl (fun K hK => ?s2) ?m2
              case s2 =>
                try simp only [List.getElem_toArray, List.getElem_cons_zero, List.getElem_cons_succ]
                go_simp
                refine hK.out _ _ ⟨cell_al x0, cell_al x1, cell_al x2, cell_al x3⟩ (fun _ => ?_)
                clear hK K
                try simp only [Act.put, List.getElem_toArray, List.getElem_cons_zero, List.getElem_cons_succ, List.setIfInBounds_toArray, List.set_cons_zero, List.set_cons_succ]
                refine wpAnyH_ready (rs := [12]) (by kernel_rfl) (by simp) ?_
                refine AllReadyH.cons rfl (fun K hK => ?s3) ?m3
                case s3 =>
                  try simp only [List.getElem_toArray, List.getElem_cons_zero, List.getElem_cons_succ]
                  refine wp_append_own _ (.tmp 52) (.tmp 63) 49 rfl w.heap.size 4 ib (.bool false) 1 1 Tryd.underlying49 HB0.out HB1.out HB2.out HB3.out rfl (by decide) (.slice A2 ml c2) ml ((mutTo ss k).map fun x => Value.bool x.2) rfl ?own ⟨wx.heap.size, 0, none⟩ 1 1 [.bool (smB (a1, a2) (b1, b2))] rfl rfl ?c1 ?c2 ?c3 ?c4 ?c5 ?_
                  case own => exact ow_kp (ow_kp HO2a.out KX) ((Kp.refl wx).al _)
                  case c1 => exact cell_one_new _ _ _
                  case c2 => simp [Value.oneCell']
                  case c3 => simp only [maxLen]; omega
                  case c4 => omega
                  case c5 => have := KX.low; have := KW2.out.low; simp; omega
                  intro v' w3 hown3 hgrow3 _
                  have KW3 := Lib.hid (ow_app (KW2.out.trans KX) (ow_kp HO2a.out KX) ((Kp.refl wx).al (.cells #[.bool (smB (a1, a2) (b1, b2))] 4)) hgrow3)
                  have HO1b := Lib.hid (own_other (ow_kp (ow_kp HO1a.out KX) ((Kp.refl wx).al _)) (ow_kp (ow_kp HO2a.out KX) ((Kp.refl wx).al _)) (by decide) hgrow3)
                  obtain ⟨g2, cap2, rfl⟩ := ownsRow_succ hown3
                  have HO2b := Lib.hid hown3
                  clear hgrow3 hown3
                  have y0 := KW3.out.get G0.out
                  have y1 := KW3.out.get G1.out
                  have y2 := KW3.out.get G2.out
                  have y3 := KW3.out.get G3.out
                  refine hK.out _ _ ⟨y0, y1, y2, y3⟩ (fun _ => ?_)
                  clear hK K
                  try simp only [Act.put, List.getElem_toArray, List.getElem_cons_zero, List.getElem_cons_succ, List.setIfInBounds_toArray, List.set_cons_zero, List.set_cons_succ]
                  refine wpAnyH_ready (rs := [13]) (by kernel_rfl) (by simp) ?_
                  refine AllReadyH.cons rfl (fun K hK => ?s4) ?m4
                  case s4 =>
                    try simp only [List.getElem_toArray, List.getElem_cons_zero, List.getElem_cons_succ]
                    go_simp
                    refine hK.out _ _ ⟨y0, y1, y2, y3⟩ (fun _ => ?_)
                    clear hK K
                    try simp only [Act.put, List.getElem_toArray, List.getElem_cons_zero, List.getElem_cons_succ, List.setIfInBounds_toArray, List.set_cons_zero, List.set_cons_succ]
                    refine wpAnyH_done (by kernel_rfl) ?_ _
                    clear h0 h1 h2 h3 x0 x1 x2 x3 m1 m2
                    go_wp2_with fail
                    have ELEN : Hid ((mutTo ss (k + 1)).length = ml + 1) := by exact (by rw [HMT.out, List.length_append, ← EML.out]; rfl)
                    go_roundw
                    case rel => exact ⟨k + 1, by omega, by omega, _, _, _, _, by go_num, by rw [ELEN.out], by rw [ELEN.out], by rw [ELEN.out, HMT.out, List.map_append]; exact HO1b.out, by rw [ELEN.out, HMT.out, List.map_append]; exact HO2b.out, KW3.out⟩
                    case measure => simp [intOf]; omega
                  exact AllReadyH.nil
                exact AllReadyH.nil
              exact AllReadyH.nil
            exact AllReadyH.nil
        · have hd2 : decide ((k : Int) < (n : Int)) = false := by simp; omega
          have hmn : mutTo ss k = mutTo ss n := by
            by_cases h0 : n = 0
            · obtain rfl : k = 1 := by omega
              rw [h0]
              rfl
            · obtain rfl : k = n := by omega
              rfl
          have HMN := Lib.hid hmn
          clear hmn
          go_wp2_with fail
          go_ret3
          rw [HMN.out] at HO1 HO2 ⊢
          exact ⟨⟨_, _, _, _, rfl, ints_own (by simpa [Function.comp_def] using HO1.out), bls_own (by simpa [Function.comp_def] using HO2.out)⟩, HKW.out⟩
end Go.Proofs.YtaobndijldidfaaDoor
