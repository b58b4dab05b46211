/- Contract of the reference's Mutations. -/
import Derived.Test.YtaobndijldidfaaDoorHf
import Derived.Test.YtaobndijldidfaaDoorHa
import Derived.Test.YtaobndijldidfaaDoorGl
set_option linter.unusedSimpArgs false
set_option linter.unusedVariables false
namespace Go.Proofs.YtaobndijldidfaaDoor
open Go.RowKit

set_option maxRecDepth 100000 in
set_option maxHeartbeats 2000000 in
theorem rmutations_long (A : Option Addr) (n c : Nat) (w : World) (hn : 400 < n) :
    Calls Tryd.prog 28 #[.slice A n c] w fun e w' => e = .returned (.tuple #[.slice none 0 0, .slice none 0 0, .int .i64 11]) ∧ Kp w w' := by
  have t0 : decide (400 < (n : Int)) = true := by simp; omega
  go_enter Tryd.func28, Tryd.ntmps28
  go_wp2_with fail
  go_ret3
  exact ⟨rfl, by repeat (first | exact Kp.refl _ | with_reducible assumption | with_reducible refine Kp.set ?_ _ _ ?_ | (dsimp only; omega) | with_reducible refine Kp.drew ?_ | with_reducible refine Kp.drewN ?_ _ | with_reducible refine Kp.al ?_ _ | with_reducible refine Kp.trans ?_ (by with_reducible assumption))⟩

set_option maxRecDepth 100000 in
set_option maxHeartbeats 2000000 in
theorem rmutations_bad (A : Option Addr) (n c k0 : Nat) (ss : List Sy) (w : World) (hx0 : Sys w A n ss) (hn : n ≤ 400) (hk0 : k0 < n) (hg : ∀ j, j < k0 → Vs (syAt ss j).1 (syAt ss j).2) (hb : ¬ Vs (syAt ss k0).1 (syAt ss k0).2) :
    Calls Tryd.prog 28 #[.slice A n c] w fun e w' => e = .returned (.tuple #[.slice none 0 0, .slice none 0 0, .int .i64 2]) ∧ Kp w w' := by
  have HX := Lib.hid hx0; have HG := Lib.hid hg; have HB := Lib.hid hb
  have t0 : decide (400 < (n : Int)) = false := by simp; omega
  clear hx0 hg hb
  go_enter Tryd.func28, Tryd.ntmps28
  go_wp2_with fail
  go_loopw [5] (fun v wr => ∃ k : Nat, k ≤ k0 ∧ v = .int .i64 (k : Int) ∧ Kp w wr) (fun v _ => n - (intOf v).toNat)
  case atStart => exact ⟨0, by omega, rfl, by repeat (first | exact Kp.refl _ | with_reducible assumption | with_reducible refine Kp.set ?_ _ _ ?_ | (dsimp only; omega) | with_reducible refine Kp.drew ?_ | with_reducible refine Kp.drewN ?_ _ | with_reducible refine Kp.al ?_ _ | with_reducible refine Kp.trans ?_ (by with_reducible assumption))⟩
  case round =>
    obtain ⟨k, hk, rfl, hK⟩ := hrel
    have hd : decide ((k : Int) < (n : Int)) = true := by simp; omega
    obtain ⟨b, off, rfl, e0, e1⟩ := (HX.out.kp hK).2 k (by omega)
    by_cases hlt : k < k0
    · have CP := Lib.hid (fun w => rpitch_ok (syAt ss k).1 (syAt ss k).2 w (HG.out k hlt))
      obtain ⟨s, es⟩ : ∃ s, s = (syAt ss k).1 := ⟨_, rfl⟩
      obtain ⟨o, eo⟩ : ∃ o, o = (syAt ss k).2 := ⟨_, rfl⟩
      rw [← es] at e0 CP
      rw [← eo] at e1 CP
      clear es eo
      have q1 : (0 : Int) ≤ (k : Int) := by omega
      have q2 : (k : Int) < (n : Int) := by omega
      have bl := cell_lt e0
      go_wp2_with fail
      refine (CP.out _).mono ?_
      rintro e wr1 ⟨rfl, hb1⟩
      have Q1 : Kp wr wr1 := by repeat (first | exact Kp.refl _ | with_reducible assumption | with_reducible refine Kp.set ?_ _ _ ?_ | (dsimp only; omega) | with_reducible refine Kp.drew ?_ | with_reducible refine Kp.drewN ?_ _ | with_reducible refine Kp.al ?_ _ | with_reducible refine Kp.trans ?_ (by with_reducible assumption))
      have K1 := Q1
      clear hb1 Q1
      go_wp2_with fail
      go_roundw
      case rel => exact ⟨k + 1, by omega, by go_num, by repeat (first | exact Kp.refl _ | with_reducible assumption | with_reducible refine Kp.set ?_ _ _ ?_ | (dsimp only; omega) | with_reducible refine Kp.drew ?_ | with_reducible refine Kp.drewN ?_ _ | with_reducible refine Kp.al ?_ _ | with_reducible refine Kp.trans ?_ (by with_reducible assumption))⟩
      case measure => simp [intOf]; omega
    · obtain rfl : k = k0 := by omega
      have CP := Lib.hid (fun w => rpitch_no (syAt ss k).1 (syAt ss k).2 w HB.out)
      obtain ⟨s, es⟩ : ∃ s, s = (syAt ss k).1 := ⟨_, rfl⟩
      obtain ⟨o, eo⟩ : ∃ o, o = (syAt ss k).2 := ⟨_, rfl⟩
      rw [← es] at e0 CP
      rw [← eo] at e1 CP
      clear es eo HB
      have q1 : (0 : Int) ≤ (k : Int) := by omega
      have q2 : (k : Int) < (n : Int) := by omega
      have bl := cell_lt e0
      go_wp2_with fail
      refine (CP.out _).mono ?_
      rintro e wr1 ⟨rfl, hb1⟩
      have Q1 : Kp wr wr1 := by repeat (first | exact Kp.refl _ | with_reducible assumption | with_reducible refine Kp.set ?_ _ _ ?_ | (dsimp only; omega) | with_reducible refine Kp.drew ?_ | with_reducible refine Kp.drewN ?_ _ | with_reducible refine Kp.al ?_ _ | with_reducible refine Kp.trans ?_ (by with_reducible assumption))
      have K1 := Q1
      clear hb1 Q1
      go_wp2_with fail
      go_ret3
      exact ⟨rfl, by repeat (first | exact Kp.refl _ | with_reducible assumption | with_reducible refine Kp.set ?_ _ _ ?_ | (dsimp only; omega) | with_reducible refine Kp.drew ?_ | with_reducible refine Kp.drewN ?_ _ | with_reducible refine Kp.al ?_ _ | with_reducible refine Kp.trans ?_ (by with_reducible assumption))⟩

set_option maxRecDepth 100000 in
set_option maxHeartbeats 8000000 in
theorem rmutations_ok (A : Option Addr) (n c : Nat) (ss : List Sy) (w : World) (hx0 : Sys w A n ss) (hn : n ≤ 400) (hg : ∀ j, j < n → Vs (syAt ss j).1 (syAt ss j).2) :
    Calls Tryd.prog 28 #[.slice A n c] w fun e w' => (∃ A1 c1 A2 c2, e = .returned (.tuple #[.slice A1 (mutTo ss n).length c1, .slice A2 (mutTo ss n).length c2, .int .i64 0]) ∧ Ints w' A1 (mutTo ss n).length ((mutTo ss n).map (·.1)) ∧ Bls w' A2 (mutTo ss n).length ((mutTo ss n).map (·.2))) ∧ Kp w w' := by
  have HX := Lib.hid hx0; have HG := Lib.hid hg
  have t0 : decide (400 < (n : Int)) = false := by simp; omega
  obtain ⟨ii, hi0, hi1, hi2, hi3⟩ := info_parts inti
  have HI0 := Lib.hid hi0; have HI1 := Lib.hid hi1; have HI2 := Lib.hid hi2; have HI3 := Lib.hid hi3
  obtain ⟨ib, hb0, hb1, hb2, hb3⟩ := info_parts booli
  have HB0 := Lib.hid hb0; have HB1 := Lib.hid hb1; have HB2 := Lib.hid hb2; have HB3 := Lib.hid hb3
  clear hx0 hg hi0 hi1 hi2 hi3 hb0 hb1 hb2 hb3
  go_enter Tryd.func28, Tryd.ntmps28
  go_wp2_with fail
  go_loopw [5] (fun v wr => ∃ k : Nat, k ≤ n ∧ v = .int .i64 (k : Int) ∧ Kp w wr) (fun v _ => n - (intOf v).toNat)
  case atStart => exact ⟨0, by omega, rfl, by repeat (first | exact Kp.refl _ | with_reducible assumption | with_reducible refine Kp.set ?_ _ _ ?_ | (dsimp only; omega) | with_reducible refine Kp.drew ?_ | with_reducible refine Kp.drewN ?_ _ | with_reducible refine Kp.al ?_ _ | with_reducible refine Kp.trans ?_ (by with_reducible assumption))⟩
  case round =>
    obtain ⟨k, hk, rfl, hK⟩ := hrel
    by_cases hlt : k < n
    · have hd : decide ((k : Int) < (n : Int)) = true := by simp; omega
      obtain ⟨b, off, rfl, e0, e1⟩ := (HX.out.kp hK).2 k (by omega)
      have CP := Lib.hid (fun w => rpitch_ok (syAt ss k).1 (syAt ss k).2 w (HG.out k hlt))
      obtain ⟨s, es⟩ : ∃ s, s = (syAt ss k).1 := ⟨_, rfl⟩
      obtain ⟨o, eo⟩ : ∃ o, o = (syAt ss k).2 := ⟨_, rfl⟩
      rw [← es] at e0 CP
      rw [← eo] at e1 CP
      clear es eo
      have q1 : (0 : Int) ≤ (k : Int) := by omega
      have q2 : (k : Int) < (n : Int) := by omega
      have bl := cell_lt e0
      go_wp2_with fail
      refine (CP.out _).mono ?_
      rintro e wr1 ⟨rfl, hb1⟩
      have Q1 : Kp wr wr1 := by repeat (first | exact Kp.refl _ | with_reducible assumption | with_reducible refine Kp.set ?_ _ _ ?_ | (dsimp only; omega) | with_reducible refine Kp.drew ?_ | with_reducible refine Kp.drewN ?_ _ | with_reducible refine Kp.al ?_ _ | with_reducible refine Kp.trans ?_ (by with_reducible assumption))
      have K1 := Q1
      clear hb1 Q1
      go_wp2_with fail
      go_roundw
      case rel => exact ⟨k + 1, by omega, by go_num, by repeat (first | exact Kp.refl _ | with_reducible assumption | with_reducible refine Kp.set ?_ _ _ ?_ | (dsimp only; omega) | with_reducible refine Kp.drew ?_ | with_reducible refine Kp.drewN ?_ _ | with_reducible refine Kp.al ?_ _ | with_reducible refine Kp.trans ?_ (by with_reducible assumption))⟩
      case measure => simp [intOf]; omega
    · obtain rfl : n = k := by omega
      have hd : decide ((n : Int) < (n : Int)) = false := by simp
      have HK0 := Lib.hid hK
      clear hK
      go_wp2_with fail
      go_loopw [8, 9, 10] (fun va vb vi w2 => ∃ k : Nat, 1 ≤ k ∧ k ≤ max n 1 ∧ ∃ A1 c1 A2 c2, vi = .int .i64 (k : Int) ∧ va = .slice A1 (mutTo ss k).length c1 ∧ vb = .slice A2 (mutTo ss k).length c2 ∧ w2.ownsRow w.heap.size 3 1 (.slice A1 (mutTo ss k).length c1) (mutTo ss k).length ((mutTo ss k).map fun x => Value.int .i64 x.1) ∧ w2.ownsRow w.heap.size 4 1 (.slice A2 (mutTo ss k).length c2) (mutTo ss k).length ((mutTo ss k).map fun x => Value.bool x.2) ∧ Kp w w2) (fun _ _ v _ => 1 + n - (intOf v).toNat)
      case atStart => exact ⟨1, by omega, by omega, none, 0, none, 0, rfl, rfl, rfl, World.ownsRow_nil _ _ _ _, World.ownsRow_nil _ _ _ _, HK0.out⟩
      case round =>
        obtain ⟨k, hk1, hk, A1, c1, A2, c2, rfl, rfl, rfl, hO1, hO2, hKW⟩ := hrel
        have HO1 := Lib.hid hO1; have HO2 := Lib.hid hO2; have HKW := Lib.hid hKW
        clear hO1 hO2 hKW HK0
        have hml := mutTo_len ss k
        by_cases hlt : k < n
        · have hd2 : decide ((k : Int) < (n : Int)) = true := by simp; omega
          obtain ⟨j, ej⟩ : ∃ j, j = k - 1 := ⟨_, rfl⟩
          obtain ⟨b, off, rfl, g2, g3⟩ := HX.out.2 k hlt
          obtain ⟨b', off', e', g0, g1⟩ := HX.out.2 j (by omega)
          injection e' with e'
          injection e' with e'1 e'2 _
          subst e'1 e'2
          have vj := HG.out j (by omega)
          have vk := HG.out k hlt
          have hms : mutTo ss (k + 1) = mutTo ss k ++ if 0 < k ∧ (syAt ss k).1 ≠ (syAt ss j).1 then [((k : Int), smB (syAt ss j) (syAt ss k))] else [] := by rw [ej]; rfl
          have ej1 : syAt ss j = ((syAt ss j).1, (syAt ss j).2) := rfl
          have ek1 : syAt ss k = ((syAt ss k).1, (syAt ss k).2) := rfl
          rw [ej1, ek1] at hms
          dsimp only at hms
          obtain ⟨a1, ea1⟩ : ∃ a1, a1 = (syAt ss j).1 := ⟨_, rfl⟩
          obtain ⟨a2, ea2⟩ : ∃ a2, a2 = (syAt ss j).2 := ⟨_, rfl⟩
          obtain ⟨b1, eb1⟩ : ∃ b1, b1 = (syAt ss k).1 := ⟨_, rfl⟩
          obtain ⟨b2, eb2⟩ : ∃ b2, b2 = (syAt ss k).2 := ⟨_, rfl⟩
          rw [← ea1] at g0 vj hms
          rw [← ea2] at g1 vj hms
          rw [← eb1] at g2 vk hms
          rw [← eb2] at g3 vk hms
          have h0 := HKW.out.get g0
          have h1 := HKW.out.get g1
          have h2 := HKW.out.get g2
          have h3 := HKW.out.get g3
          have bl := cell_lt h0
          have m1 : IntKind.i64.wrap ((k : Int) - 1) = (k : Int) - 1 := IntWalk.i64_in _ (by omega)
          have m2 : ((k : Int) - 1).toNat = j := by omega
          have M1' := Lib.hid m1; have M2' := Lib.hid m2
          have m3 : (0 : Int) ≤ (k : Int) - 1 := by omega
          have m4 : (1 : Int) ≤ (k : Int) := by omega
          have m5 : (k : Int) - 1 < (n : Int) := by omega
          have m6 : (k : Int) < (n : Int) := by omega
          have m7 : (0 : Int) ≤ (k : Int) := by omega
          have G0 := Lib.hid g0; have G1 := Lib.hid g1; have G2 := Lib.hid g2; have G3 := Lib.hid g3
          obtain ⟨ml, eml⟩ : ∃ ml, ml = (mutTo ss k).length := ⟨_, rfl⟩
          rw [← eml] at HO1 HO2 hml
          rw [← eml]
          by_cases he : b1 = a1
          · have d1 : (b1 == a1) = true := by simpa using he
            have d2 : (b1 != a1) = false := by simpa using he
            rw [if_neg (by omega)] at hms
            have HMT := Lib.hid hms; have EML := Lib.hid eml
            clear he hms m1 m2 ea1 ea2 eb1 eb2 ej1 ek1 g0 g1 g2 g3 vj vk eml ej
            go_wp2_with fail
            have m1 := M1'.out
            have m2 := M2'.out
            go_quiet (fail)
            clear m1 m2
            go_wp2_with fail
            go_roundw
            case rel => exact ⟨k + 1, by omega, by omega, _, _, _, _, by go_num, by rw [HMT.out, List.append_nil, ← EML.out], by rw [HMT.out, List.append_nil, ← EML.out], by rw [HMT.out, List.append_nil, ← EML.out]; exact ow_kp HO1.out (by repeat (first | exact Kp.refl _ | with_reducible assumption | with_reducible refine Kp.set ?_ _ _ ?_ | (dsimp only; omega) | with_reducible refine Kp.drew ?_ | with_reducible refine Kp.drewN ?_ _ | with_reducible refine Kp.al ?_ _ | with_reducible refine Kp.trans ?_ (by with_reducible assumption))), by rw [HMT.out, List.append_nil, ← EML.out]; exact ow_kp HO2.out (by repeat (first | exact Kp.refl _ | with_reducible assumption | with_reducible refine Kp.set ?_ _ _ ?_ | (dsimp only; omega) | with_reducible refine Kp.drew ?_ | with_reducible refine Kp.drewN ?_ _ | with_reducible refine Kp.al ?_ _ | with_reducible refine Kp.trans ?_ (by with_reducible assumption))), HKW.out.trans (by repeat (first | exact Kp.refl _ | with_reducible assumption | with_reducible refine Kp.set ?_ _ _ ?_ | (dsimp only; omega) | with_reducible refine Kp.drew ?_ | with_reducible refine Kp.drewN ?_ _ | with_reducible refine Kp.al ?_ _ | with_reducible refine Kp.trans ?_ (by with_reducible assumption)))⟩
            case measure => simp [intOf]; omega
          · have d1 : (b1 == a1) = false := by simpa using he
            have d2 : (b1 != a1) = true := by simpa using he
            rw [if_pos ⟨by omega, he⟩] at hms
            have CT := Lib.hid (fun w => rsmooth_ok a1 a2 b1 b2 w vj vk)
            have HMT := Lib.hid hms; have EML := Lib.hid eml
            clear he hms m1 m2 ea1 ea2 eb1 eb2 ej1 ek1 g0 g1 g2 g3 vj vk eml ej
            go_wp2_with fail
            have m1 := M1'.out
            have m2 := M2'.out
            go_quiet (fail)
            clear m1 m2
            go_wp2_with fail
            have m1 := M1'.out
            have m2 := M2'.out
            obtain ⟨wd, ewd⟩ : ∃ wd : World, wd = wr.drewN nq := ⟨_, rfl⟩
            have KD : Kp wr wd := by rw [ewd]; repeat (first | exact Kp.refl _ | with_reducible assumption | with_reducible refine Kp.set ?_ _ _ ?_ | (dsimp only; omega) | with_reducible refine Kp.drew ?_ | with_reducible refine Kp.drewN ?_ _ | with_reducible refine Kp.al ?_ _ | with_reducible refine Kp.trans ?_ (by with_reducible assumption))
            rw [← ewd]
            have g0 := KD.get h0
            have g1 := KD.get h1
            have g2 := KD.get h2
            have g3 := KD.get h3
            have bld := cell_lt g0
            have HO1d := Lib.hid (ow_kp HO1.out KD)
            have HO2d := Lib.hid (ow_kp HO2.out KD)
            have HKD := Lib.hid (HKW.out.trans KD)
            clear ewd KD h0 h1 h2 h3 HO1 HO2 HKW bl
            refine wp_region_held_drew (S := (fun w' => w'.cell? ⟨b, off + j * 2, none⟩ = some (.int .i64 a1) ∧ w'.cell? ⟨b, off + j * 2 + 1, none⟩ = some (.int .i64 a2) ∧ w'.cell? ⟨b, off + k * 2, none⟩ = some (.int .i64 b1) ∧ w'.cell? ⟨b, off + k * 2 + 1, none⟩ = some (.int .i64 b2))) (by kernel_rfl) ⟨g0, g1, g2, g3⟩ (fun hHeld => ?_)
            refine wpAnyH_take (i := 0) (v := ?vc0) rfl (by kernel_rfl) (by kernel_rfl) (by kernel_rfl) (fun _ _ _ h => h) (Or.inl ⟨by rfl, ?yc0⟩) hHeld ?rc0
            case yc0 =>
              intro w hSw
              (try dsimp only at hSw)
              go_simp
              try with_reducible rfl
            try simp only [Act.put, List.getElem_toArray, List.getElem_cons_zero, List.getElem_cons_succ, List.setIfInBounds_toArray, List.set_cons_zero, List.set_cons_succ]
            refine wpAnyH_take (i := 1) (v := ?vc1) rfl (by kernel_rfl) (by kernel_rfl) (by kernel_rfl) (fun _ _ _ h => h) (Or.inl ⟨by rfl, ?yc1⟩) hHeld ?rc1
            case yc1 =>
              intro w hSw
              (try dsimp only at hSw)
              go_simp
              try with_reducible rfl
            try simp only [Act.put, List.getElem_toArray, List.getElem_cons_zero, List.getElem_cons_succ, List.setIfInBounds_toArray, List.set_cons_zero, List.set_cons_succ]
            refine wpAnyH_take (i := 4) (v := ?vc4) rfl (by kernel_rfl) (by kernel_rfl) (by kernel_rfl) (fun _ _ _ h => h) (Or.inl ⟨by rfl, ?yc4⟩) hHeld ?rc4
            case yc4 =>
              intro w hSw
              (try dsimp only at hSw)
              go_simp
              try with_reducible rfl
            try simp only [Act.put, List.getElem_toArray, List.getElem_cons_zero, List.getElem_cons_succ, List.setIfInBounds_toArray, List.set_cons_zero, List.set_cons_succ]
            refine wpAnyH_take (i := 5) (v := ?vc5) rfl (by kernel_rfl) (by kernel_rfl) (by kernel_rfl) (fun _ _ _ h => h) (Or.inl ⟨by rfl, ?yc5⟩) hHeld ?rc5
            case yc5 =>
              intro w hSw
              (try dsimp only at hSw)
              go_simp
              try with_reducible rfl
            try simp only [Act.put, List.getElem_toArray, List.getElem_cons_zero, List.getElem_cons_succ, List.setIfInBounds_toArray, List.set_cons_zero, List.set_cons_succ]
            refine wpAnyH_take (i := 6) (v := ?vc6) rfl (by kernel_rfl) (by kernel_rfl) (by kernel_rfl) (fun _ _ _ h => h) (Or.inl ⟨by rfl, ?yc6⟩) hHeld ?rc6
            case yc6 =>
              intro w hSw
              (try dsimp only at hSw)
              go_simp
              try with_reducible rfl
            try simp only [Act.put, List.getElem_toArray, List.getElem_cons_zero, List.getElem_cons_succ, List.setIfInBounds_toArray, List.set_cons_zero, List.set_cons_succ]
            refine wpAnyH_take (i := 7) (v := ?vc7) rfl (by kernel_rfl) (by kernel_rfl) (by kernel_rfl) (fun _ _ _ h => h) (Or.inl ⟨by rfl, ?yc7⟩) hHeld ?rc7
            case yc7 =>
              intro w hSw
              (try dsimp only at hSw)
              go_simp
              try with_reducible rfl
            try simp only [Act.put, List.getElem_toArray, List.getElem_cons_zero, List.getElem_cons_succ, List.setIfInBounds_toArray, List.set_cons_zero, List.set_cons_succ]
            refine wpAnyH_take (i := 8) (v := ?vc8) rfl (by kernel_rfl) (by kernel_rfl) (by kernel_rfl) (fun _ _ _ h => h) (Or.inl ⟨by rfl, ?yc8⟩) hHeld ?rc8
            case yc8 =>
              intro w hSw
              (try dsimp only at hSw)
              go_simp
              try with_reducible rfl
            try simp only [Act.put, List.getElem_toArray, List.getElem_cons_zero, List.getElem_cons_succ, List.setIfInBounds_toArray, List.set_cons_zero, List.set_cons_succ]
            refine wpAnyH_take (i := 9) (v := ?vc9) rfl (by kernel_rfl) (by kernel_rfl) (by kernel_rfl) (fun _ _ _ h => h) (Or.inl ⟨by rfl, ?yc9⟩) hHeld ?rc9
            case yc9 =>
              intro w hSw
              (try dsimp only at hSw)
              go_simp
              try with_reducible rfl
            try simp only [Act.put, List.getElem_toArray, List.getElem_cons_zero, List.getElem_cons_succ, List.setIfInBounds_toArray, List.set_cons_zero, List.set_cons_succ]
            refine wpAnyH_take (i := 10) (v := ?vc10) rfl (by kernel_rfl) (by kernel_rfl) (by kernel_rfl) (fun _ _ _ h => h) (Or.inl ⟨by rfl, ?yc10⟩) hHeld ?rc10
            case yc10 =>
              intro w hSw
              (try dsimp only at hSw)
              go_simp
              try with_reducible rfl
            try simp only [Act.put, List.getElem_toArray, List.getElem_cons_zero, List.getElem_cons_succ, List.setIfInBounds_toArray, List.set_cons_zero, List.set_cons_succ]
            refine wpAnyH_take (i := 11) (v := ?vc11) rfl (by kernel_rfl) (by kernel_rfl) (by kernel_rfl) (fun _ _ _ h => h) (Or.inl ⟨by rfl, ?yc11⟩) hHeld ?rc11
            case yc11 =>
              intro w hSw
              (try dsimp only at hSw)
              go_simp
              try with_reducible rfl
            try simp only [Act.put, List.getElem_toArray, List.getElem_cons_zero, List.getElem_cons_succ, List.setIfInBounds_toArray, List.set_cons_zero, List.set_cons_succ]
            refine wpAnyH_take (i := 12) (v := ?vc12) rfl (by kernel_rfl) (by kernel_rfl) (by kernel_rfl) (fun _ _ _ h => h) (Or.inl ⟨by rfl, ?yc12⟩) hHeld ?rc12
            case yc12 =>
              intro w hSw
              (try dsimp only at hSw)
              go_simp
              try with_reducible rfl
            try simp only [Act.put, List.getElem_toArray, List.getElem_cons_zero, List.getElem_cons_succ, List.setIfInBounds_toArray, List.set_cons_zero, List.set_cons_succ]
            refine wpAnyH_take (i := 13) (v := ?vc13) rfl (by kernel_rfl) (by kernel_rfl) (by kernel_rfl) (fun _ _ _ h => h) (Or.inl ⟨by rfl, ?yc13⟩) hHeld ?rc13
            case yc13 =>
              intro w hSw
              (try dsimp only at hSw)
              go_simp
              try with_reducible rfl
            try simp only [Act.put, List.getElem_toArray, List.getElem_cons_zero, List.getElem_cons_succ, List.setIfInBounds_toArray, List.set_cons_zero, List.set_cons_succ]
            refine wpAnyH_ready (rs := [2]) (by kernel_rfl) (by simp) ?_
            refine AllReadyH.cons rfl (fun K hK => ?s1) ?m1
            case s1 =>
              try simp only [List.getElem_toArray, List.getElem_cons_zero, List.getElem_cons_succ]
              go_simp
              refine hK.out _ _ ⟨(HKD.out.trans (by repeat (first | exact Kp.refl _ | with_reducible assumption | with_reducible refine Kp.set ?_ _ _ ?_ | (dsimp only; omega) | with_reducible refine Kp.drew ?_ | with_reducible refine Kp.drewN ?_ _ | with_reducible refine Kp.al ?_ _ | with_reducible refine Kp.trans ?_ (by with_reducible assumption)))).get G0.out, (HKD.out.trans (by repeat (first | exact Kp.refl _ | with_reducible assumption | with_reducible refine Kp.set ?_ _ _ ?_ | (dsimp only; omega) | with_reducible refine Kp.drew ?_ | with_reducible refine Kp.drewN ?_ _ | with_reducible refine Kp.al ?_ _ | with_reducible refine Kp.trans ?_ (by with_reducible assumption)))).get G1.out, (HKD.out.trans (by repeat (first | exact Kp.refl _ | with_reducible assumption | with_reducible refine Kp.set ?_ _ _ ?_ | (dsimp only; omega) | with_reducible refine Kp.drew ?_ | with_reducible refine Kp.drewN ?_ _ | with_reducible refine Kp.al ?_ _ | with_reducible refine Kp.trans ?_ (by with_reducible assumption)))).get G2.out, (HKD.out.trans (by repeat (first | exact Kp.refl _ | with_reducible assumption | with_reducible refine Kp.set ?_ _ _ ?_ | (dsimp only; omega) | with_reducible refine Kp.drew ?_ | with_reducible refine Kp.drewN ?_ _ | with_reducible refine Kp.al ?_ _ | with_reducible refine Kp.trans ?_ (by with_reducible assumption)))).get G3.out⟩ (fun _ => ?_)
              clear hK K
              try simp only [Act.put, List.getElem_toArray, List.getElem_cons_zero, List.getElem_cons_succ, List.setIfInBounds_toArray, List.set_cons_zero, List.set_cons_succ]
              refine wpAnyH_ready (rs := [3]) (by kernel_rfl) (by simp) ?_
              refine AllReadyH.cons rfl (fun K hK => ?s2) ?m2
              case s2 =>
                try simp only [List.getElem_toArray, List.getElem_cons_zero, List.getElem_cons_succ]
                refine wp_append_own _ (.tmp 49) (.tmp 51) 22 rfl w.heap.size 3 ii (.int .i64 0) 1 8 Tryd.underlying22 HI0.out HI1.out HI2.out HI3.out rfl (by decide) (.slice A1 ml c1) ml ((mutTo ss k).map fun x => Value.int .i64 x.1) rfl ?own ⟨wd.heap.size, 0, none⟩ 1 1 [.int .i64 (k : Int)] rfl rfl ?c1 ?c2 ?c3 ?c4 ?c5 ?_
                case own => exact ow_kp HO1d.out (by repeat (first | exact Kp.refl _ | with_reducible assumption | with_reducible refine Kp.set ?_ _ _ ?_ | (dsimp only; omega) | with_reducible refine Kp.drew ?_ | with_reducible refine Kp.drewN ?_ _ | with_reducible refine Kp.al ?_ _ | with_reducible refine Kp.trans ?_ (by with_reducible assumption)))
                case c1 => exact cell_one wd.drew _ _
                case c2 => simp [Value.oneCell']
                case c3 => simp only [maxLen]; omega
                case c4 => omega
                case c5 => have := HKD.out.low; simp; omega
                intro v' w2 hown' hgrow _
                have kwa : Kp wd (wd.drew.alloc (.cells #[.int .i64 (k : Int)] 3)) := by repeat (first | exact Kp.refl _ | with_reducible assumption | with_reducible refine Kp.set ?_ _ _ ?_ | (dsimp only; omega) | with_reducible refine Kp.drew ?_ | with_reducible refine Kp.drewN ?_ _ | with_reducible refine Kp.al ?_ _ | with_reducible refine Kp.trans ?_ (by with_reducible assumption))
                have KW2 := Lib.hid (ow_app HKD.out HO1d.out kwa hgrow)
                have HO2a := Lib.hid (own_other (ow_kp HO2d.out kwa) (ow_kp HO1d.out kwa) (by decide) hgrow)
                obtain ⟨g, cap, rfl⟩ := ownsRow_succ hown'
                have HO1a := Lib.hid hown'
                clear hgrow hown' kwa
                refine hK.out _ _ ⟨(KW2.out).get G0.out, (KW2.out).get G1.out, (KW2.out).get G2.out, (KW2.out).get G3.out⟩ (fun _ => ?_)
                clear hK K
                try simp only [Act.put, List.getElem_toArray, List.getElem_cons_zero, List.getElem_cons_succ, List.setIfInBounds_toArray, List.set_cons_zero, List.set_cons_succ]
                refine wpAnyH_ready (rs := [14]) (by kernel_rfl) (by simp) ?_
                refine AllReadyH.cons rfl (fun K hK => ?s3) ?m3
                case s3 =>
                  try simp only [List.getElem_toArray, List.getElem_cons_zero, List.getElem_cons_succ]
                  go_simp
                  refine (CT.out _).mono ?_
                  rintro e wx ⟨rfl, hkx⟩
                  have KX : Kp w2 wx := by repeat (first | exact Kp.refl _ | with_reducible assumption | with_reducible refine Kp.set ?_ _ _ ?_ | (dsimp only; omega) | with_reducible refine Kp.drew ?_ | with_reducible refine Kp.drewN ?_ _ | with_reducible refine Kp.al ?_ _ | with_reducible refine Kp.trans ?_ (by with_reducible assumption))
                  clear hkx
                  have KWX := Lib.hid (KW2.out.trans KX)
                  go_wp2_with fail
                  refine hK.out _ _ ⟨(KWX.out).get G0.out, (KWX.out).get G1.out, (KWX.out).get G2.out, (KWX.out).get G3.out⟩ (fun _ => ?_)
                  clear hK K
                  try simp only [Act.put, List.getElem_toArray, List.getElem_cons_zero, List.getElem_cons_succ, List.setIfInBounds_toArray, List.set_cons_zero, List.set_cons_succ]
                  refine wpAnyH_ready (rs := [15]) (by kernel_rfl) (by simp) ?_
                  refine AllReadyH.cons rfl (fun K hK => ?s4) ?m4
                  case s4 =>
                    try simp only [List.getElem_toArray, List.getElem_cons_zero, List.getElem_cons_succ]
                    go_simp
                    refine hK.out _ _ ⟨(KWX.out.trans (by repeat (first | exact Kp.refl _ | with_reducible assumption | with_reducible refine Kp.set ?_ _ _ ?_ | (dsimp only; omega) | with_reducible refine Kp.drew ?_ | with_reducible refine Kp.drewN ?_ _ | with_reducible refine Kp.al ?_ _ | with_reducible refine Kp.trans ?_ (by with_reducible assumption)))).get G0.out, (KWX.out.trans (by repeat (first | exact Kp.refl _ | with_reducible assumption | with_reducible refine Kp.set ?_ _ _ ?_ | (dsimp only; omega) | with_reducible refine Kp.drew ?_ | with_reducible refine Kp.drewN ?_ _ | with_reducible refine Kp.al ?_ _ | with_reducible refine Kp.trans ?_ (by with_reducible assumption)))).get G1.out, (KWX.out.trans (by repeat (first | exact Kp.refl _ | with_reducible assumption | with_reducible refine Kp.set ?_ _ _ ?_ | (dsimp only; omega) | with_reducible refine Kp.drew ?_ | with_reducible refine Kp.drewN ?_ _ | with_reducible refine Kp.al ?_ _ | with_reducible refine Kp.trans ?_ (by with_reducible assumption)))).get G2.out, (KWX.out.trans (by repeat (first | exact Kp.refl _ | with_reducible assumption | with_reducible refine Kp.set ?_ _ _ ?_ | (dsimp only; omega) | with_reducible refine Kp.drew ?_ | with_reducible refine Kp.drewN ?_ _ | with_reducible refine Kp.al ?_ _ | with_reducible refine Kp.trans ?_ (by with_reducible assumption)))).get G3.out⟩ (fun _ => ?_)
                    clear hK K
                    try simp only [Act.put, List.getElem_toArray, List.getElem_cons_zero, List.getElem_cons_succ, List.setIfInBounds_toArray, List.set_cons_zero, List.set_cons_succ]
                    refine wpAnyH_ready (rs := [16]) (by kernel_rfl) (by simp) ?_
                    refine AllReadyH.cons rfl (fun K hK => ?s5) ?m5
                    case s5 =>
                      try simp only [List.getElem_toArray, List.getElem_cons_zero, List.getElem_cons_succ]
                      refine wp_append_own _ (.tmp 53) (.tmp 64) 49 rfl w.heap.size 4 ib (.bool false) 1 1 Tryd.underlying49 HB0.out HB1.out HB2.out HB3.out rfl (by decide) (.slice A2 ml c2) ml ((mutTo ss k).map fun x => Value.bool x.2) rfl ?own2 ⟨wx.heap.size, 0, none⟩ 1 1 [.bool (smB (a1, a2) (b1, b2))] rfl rfl ?c12 ?c22 ?c32 ?c42 ?c52 ?_
                      case own2 => exact ow_kp (ow_kp HO2a.out KX) ((Kp.refl wx).al _)
                      case c12 => exact cell_one _ _ _
                      case c22 => simp [Value.oneCell']
                      case c32 => simp only [maxLen]; omega
                      case c42 => omega
                      case c52 => have := KWX.out.low; simp; omega
                      intro v' w3 hown3 hgrow3 _
                      have KW3 := Lib.hid (ow_app KWX.out (ow_kp HO2a.out KX) ((Kp.refl wx).al (.cells #[.bool (smB (a1, a2) (b1, b2))] 4)) hgrow3)
                      have HO1b := Lib.hid (own_other (ow_kp (ow_kp HO1a.out KX) ((Kp.refl wx).al _)) (ow_kp (ow_kp HO2a.out KX) ((Kp.refl wx).al _)) (by decide) hgrow3)
                      obtain ⟨g2, cap2, rfl⟩ := ownsRow_succ hown3
                      have HO2b := Lib.hid hown3
                      clear hgrow3 hown3
                      refine hK.out _ _ ⟨(KW3.out).get G0.out, (KW3.out).get G1.out, (KW3.out).get G2.out, (KW3.out).get G3.out⟩ (fun _ => ?_)
                      clear hK K
                      try simp only [Act.put, List.getElem_toArray, List.getElem_cons_zero, List.getElem_cons_succ, List.setIfInBounds_toArray, List.set_cons_zero, List.set_cons_succ]
                      refine wpAnyH_ready (rs := [17]) (by kernel_rfl) (by simp) ?_
                      refine AllReadyH.cons rfl (fun K hK => ?s6) ?m6
                      case s6 =>
                        try simp only [List.getElem_toArray, List.getElem_cons_zero, List.getElem_cons_succ]
                        go_simp
                        refine hK.out _ _ ⟨(KW3.out).get G0.out, (KW3.out).get G1.out, (KW3.out).get G2.out, (KW3.out).get G3.out⟩ (fun _ => ?_)
                        clear hK K
                        try simp only [Act.put, List.getElem_toArray, List.getElem_cons_zero, List.getElem_cons_succ, List.setIfInBounds_toArray, List.set_cons_zero, List.set_cons_succ]
                        refine wpAnyH_ready (rs := [18]) (by kernel_rfl) (by simp) ?_
                        refine AllReadyH.cons rfl (fun K hK => ?s7) ?m7
                        case s7 =>
                          try simp only [List.getElem_toArray, List.getElem_cons_zero, List.getElem_cons_succ]
                          go_simp
                          refine hK.out _ _ ⟨(KW3.out).get G0.out, (KW3.out).get G1.out, (KW3.out).get G2.out, (KW3.out).get G3.out⟩ (fun _ => ?_)
                          clear hK K
                          try simp only [Act.put, List.getElem_toArray, List.getElem_cons_zero, List.getElem_cons_succ, List.setIfInBounds_toArray, List.set_cons_zero, List.set_cons_succ]
                          refine wpAnyH_done (by kernel_rfl) ?_ _
                          clear m1 m2
                          go_wp2_with fail
                          have ELEN : Hid ((mutTo ss (k + 1)).length = ml + 1) := by exact (by rw [HMT.out, List.length_append, ← EML.out]; rfl)
                          go_roundw
                          case rel => exact ⟨k + 1, by omega, by omega, _, _, _, _, by go_num, by rw [ELEN.out], by rw [ELEN.out], by rw [ELEN.out, HMT.out, List.map_append]; exact HO1b.out, by rw [ELEN.out, HMT.out, List.map_append]; exact HO2b.out, KW3.out⟩
                          case measure => simp [intOf]; omega
                        exact AllReadyH.nil
                      exact AllReadyH.nil
                    exact AllReadyH.nil
                  exact AllReadyH.nil
                exact AllReadyH.nil
              exact AllReadyH.nil
            exact AllReadyH.nil
        · have hd2 : decide ((k : Int) < (n : Int)) = false := by simp; omega
          have hmn : mutTo ss k = mutTo ss n := by
            by_cases h0 : n = 0
            · obtain rfl : k = 1 := by omega
              rw [h0]
              rfl
            · obtain rfl : k = n := by omega
              rfl
          have HMN := Lib.hid hmn
          clear hmn
          go_wp2_with fail
          go_ret3
          rw [HMN.out] at HO1 HO2 ⊢
          exact ⟨⟨_, _, _, _, rfl, ints_own (by simpa [Function.comp_def] using HO1.out), bls_own (by simpa [Function.comp_def] using HO2.out)⟩, HKW.out⟩
end Go.Proofs.YtaobndijldidfaaDoor
