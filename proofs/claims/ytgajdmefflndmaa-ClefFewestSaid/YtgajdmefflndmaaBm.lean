/- Contract of tactusref06.Best. -/
import Derived.Test.YtgajdmefflndmaaBl
namespace Go.Proofs.Ytgajdmefflndmaa
open Go.RowKit

theorem rbest_e1 (key : Int) (v : Value) (w : World) (h : key < 0 ∨ 2 < key) :
    Calls Try.prog 14 #[.int .i64 key, v] w fun e w' => e = .returned (.tuple #[.agg #[.int .i64 0, .int .i64 0], .int .i64 2]) ∧ Kp w w' := by
  rcases h with h | h
  all_goals
    go_enter Try.func14, Try.ntmps14
    go_wp2_with fail
    exact bodyPost_ret (v := .tuple #[.agg #[.int .i64 0, .int .i64 0], .int .i64 2]) (by simp [results, Try.results14, go_sem]) rfl ⟨rfl, by repeat (first | exact Kp.refl _ | with_reducible assumption | with_reducible refine Kp.set ?_ _ _ ?_ | (dsimp only; omega) | with_reducible refine Kp.drew ?_ | with_reducible refine Kp.drewN ?_ _ | with_reducible refine Kp.al ?_ _ | with_reducible refine Kp.trans ?_ (by with_reducible assumption))⟩

set_option maxHeartbeats 1000000 in
theorem rbest_bad (key : Int) (A : Option Addr) (n c : Nat) (ps : List Pt) (w : World) (k1 : 0 ≤ key) (k2 : key ≤ 2) (hx : Pts w A n ps) (hn : n ≤ 1000) (hbad : ¬ ∀ k, k < n → Vp (ptAt ps k).1 (ptAt ps k).2.1 (ptAt ps k).2.2) :
    Calls Try.prog 14 #[.int .i64 key, .slice A n c] w fun e w' => e = .returned (.tuple #[.agg #[.int .i64 0, .int .i64 0], .int .i64 2]) ∧ Kp w w' := by
  have HX := Lib.hid hx
  have HB := Lib.hid hbad
  clear hx hbad
  have t1 : decide (key < 0) = false := by simp; omega
  have t2 : decide (2 < key) = false := by simp; omega
  go_enter Try.func14, Try.ntmps14
  go_wp2_with fail
  go_loopw [6] (fun v wr => ∃ k : Nat, k ≤ n ∧ v = .int .i64 (k : Int) ∧ Kp w wr ∧ Blk wr w.heap.size 23 #[.int .i64 0, .int .i64 0] ∧ ∀ j, j < k → Vp (ptAt ps j).1 (ptAt ps j).2.1 (ptAt ps j).2.2) (fun v _ => n - (intOf v).toNat)
  case atStart => exact ⟨0, by omega, rfl, by repeat (first | exact Kp.refl _ | with_reducible assumption | with_reducible refine Kp.set ?_ _ _ ?_ | (dsimp only; omega) | with_reducible refine Kp.drew ?_ | with_reducible refine Kp.drewN ?_ _ | with_reducible refine Kp.al ?_ _ | with_reducible refine Kp.trans ?_ (by with_reducible assumption)), Blk.new w _ _, fun j hj => absurd hj (by omega)⟩
  case round =>
    obtain ⟨k, hk, rfl, hK, hres, hvj⟩ := hrel
    have HR := Lib.hid hres; have HJ := Lib.hid hvj
    clear hres hvj
    by_cases hlt : k < n
    · have hd : decide ((k : Int) < (n : Int)) = true := by simp; omega
      obtain ⟨b, off, rfl, e0, e1, e2⟩ := (HX.out.kp hK).2 k hlt
      obtain ⟨s, es⟩ : ∃ s, s = (ptAt ps k).1 := ⟨_, rfl⟩
      obtain ⟨o, eo⟩ : ∃ o, o = (ptAt ps k).2.1 := ⟨_, rfl⟩
      obtain ⟨a, ea⟩ : ∃ a, a = (ptAt ps k).2.2 := ⟨_, rfl⟩
      rw [← es] at e0
      rw [← eo] at e1
      rw [← ea] at e2
      have ES := Lib.hid es; have EO := Lib.hid eo; have EA := Lib.hid ea
      clear es eo ea
      by_cases hv : Vp s o a
      · obtain ⟨v1, v2, v3, v4, v5, v6⟩ := hv
        go_wp2_with fail
        refine (rcheck_ok _ _ _ _ v1 v2 v3 v4 v5 v6).mono ?_
        rintro e w1 ⟨rfl, hb1⟩
        have K1 := hK.trans hb1
        have R1 := Lib.hid (HR.out.kp hb1)
        clear hb1 e0 e1 e2 hK
        go_wp2_with fail
        go_roundw
        case rel => exact ⟨k + 1, by omega, by go_num, K1, R1.out, fun j hj => by
          by_cases hj' : j < k
          · exact HJ.out j hj'
          · obtain rfl : j = k := by omega
            rw [← ES.out, ← EO.out, ← EA.out]; exact ⟨v1, v2, v3, v4, v5, v6⟩⟩
        case measure => simp [intOf]; omega
      · have HV := Lib.hid hv
        clear hv
        go_wp2_with fail
        refine (rcheck_no _ _ _ _ HV.out).mono ?_
        rintro e w1 ⟨rfl, hb1⟩
        have K1 := hK.trans hb1
        have R1 := HR.out.kp hb1
        have x0 : w1.cell? ⟨w.heap.size, 0, none⟩ = some (.int .i64 0) := R1.cell 0
        have x1 : w1.cell? ⟨w.heap.size, 1, none⟩ = some (.int .i64 0) := R1.cell 1
        have x2 := R1.free 0
        have x3 := R1.free 1
        clear hb1 e0 e1 e2 R1 hK
        go_wp2_with fail
        exact bodyPost_ret (v := .tuple #[.agg #[.int .i64 0, .int .i64 0], .int .i64 2]) (by simp [results, Try.results14, go_sem, x0, x1]) rfl ⟨rfl, by repeat (first | exact Kp.refl _ | with_reducible assumption | with_reducible refine Kp.set ?_ _ _ ?_ | (dsimp only; omega) | with_reducible refine Kp.drew ?_ | with_reducible refine Kp.drewN ?_ _ | with_reducible refine Kp.al ?_ _ | with_reducible refine Kp.trans ?_ (by with_reducible assumption))⟩
    · exact absurd (fun j hj => HJ.out j (by omega)) HB.out

/-- What holds between two tries of the reference's search. -/
structure RI (w : World) (sb bb : Nat) (r : (Int × Int) × Int) (W : World) : Prop where
  kp : Kp w W
  ord : w.heap.size < sb ∧ sb < bb
  res : Blk W w.heap.size 23 #[.int .i64 0, .int .i64 0]
  sl : Blk W sb 3 #[.int .i64 0, .int .i64 3, .int .i64 4]
  best : Blk W bb 23 #[.int .i64 r.1.1, .int .i64 r.1.2]
theorem RI.more {w : World} {sb bb : Nat} {r : (Int × Int) × Int} {W W' : World} (h : RI w sb bb r W) (k : Kp W W') : RI w sb bb r W' := ⟨h.kp.trans k, h.ord, h.res.kp k, h.sl.kp k, h.best.kp k⟩
theorem RI.put {w : World} {sb bb : Nat} {r : (Int × Int) × Int} {W : World} {x y z : Int} (h : RI w sb bb r W) : RI w sb bb ((x, y), z) ((W.setCell ⟨bb, 0, none⟩ (.int .i64 x)).setCell ⟨bb, 1, none⟩ (.int .i64 y)) := by
  obtain ⟨o1, o2⟩ := h.ord
  exact ⟨(h.kp.set ⟨bb, 0, none⟩ _ (by dsimp only; omega)).set ⟨bb, 1, none⟩ _ (by dsimp only; omega), h.ord, (h.res.far (by dsimp only; omega) _).far (by dsimp only; omega) _, (h.sl.far (by dsimp only; omega) _).far (by dsimp only; omega) _, (h.best.set_ 0 (.int .i64 x)).set_ 1 (.int .i64 y)⟩
theorem RI.least {w : World} {sb bb : Nat} {r : (Int × Int) × Int} {W : World} {z : Int} (h : RI w sb bb r W) : RI w sb bb (r.1, z) W := ⟨h.kp, h.ord, h.res, h.sl, h.best⟩

set_option maxRecDepth 100000 in
set_option maxHeartbeats 4000000 in
theorem rbest_ok (key : Int) (A : Option Addr) (n c : Nat) (ps : List Pt) (w : World) (k1 : 0 ≤ key) (k2 : key ≤ 2) (hx : Pts w A n ps) (hn : n ≤ 1000) (hval : ∀ k, k < n → Vp (ptAt ps k).1 (ptAt ps k).2.1 (ptAt ps k).2.2) :
    Calls Try.prog 14 #[.int .i64 key, .slice A n c] w fun e w' => ((bestC (nums ps)).2 < 0 ∧ e = .returned (.tuple #[.agg #[.int .i64 0, .int .i64 0], .int .i64 18]) ∨ ¬ (bestC (nums ps)).2 < 0 ∧ e = .returned (.tuple #[.agg #[.int .i64 (bestC (nums ps)).1.1, .int .i64 (bestC (nums ps)).1.2], .int .i64 0])) ∧ Kp w w' := by
  have hl := hx.1
  have HL := Lib.hid hl
  have HX := Lib.hid hx
  have HV := Lib.hid hval
  clear hx hval hl
  have t1 : decide (key < 0) = false := by simp; omega
  have t2 : decide (2 < key) = false := by simp; omega
  go_enter Try.func14, Try.ntmps14
  go_wp2_with fail
  go_loopw [6] (fun v wr => ∃ k : Nat, k ≤ n ∧ v = .int .i64 (k : Int) ∧ Kp w wr ∧ Blk wr w.heap.size 23 #[.int .i64 0, .int .i64 0] ∧ ∀ j, j < k → Vp (ptAt ps j).1 (ptAt ps j).2.1 (ptAt ps j).2.2) (fun v _ => n - (intOf v).toNat)
  case atStart => exact ⟨0, by omega, rfl, by repeat (first | exact Kp.refl _ | with_reducible assumption | with_reducible refine Kp.set ?_ _ _ ?_ | (dsimp only; omega) | with_reducible refine Kp.drew ?_ | with_reducible refine Kp.drewN ?_ _ | with_reducible refine Kp.al ?_ _ | with_reducible refine Kp.trans ?_ (by with_reducible assumption)), Blk.new w _ _, fun j hj => absurd hj (by omega)⟩
  case round =>
    obtain ⟨k, hk, rfl, hK, hres, hvj⟩ := hrel
    have HR := Lib.hid hres; have HJ := Lib.hid hvj
    clear hres hvj
    by_cases hlt : k < n
    · have hd : decide ((k : Int) < (n : Int)) = true := by simp; omega
      obtain ⟨b, off, rfl, e0, e1, e2⟩ := (HX.out.kp hK).2 k hlt
      obtain ⟨s, es⟩ : ∃ s, s = (ptAt ps k).1 := ⟨_, rfl⟩
      obtain ⟨o, eo⟩ : ∃ o, o = (ptAt ps k).2.1 := ⟨_, rfl⟩
      obtain ⟨a, ea⟩ : ∃ a, a = (ptAt ps k).2.2 := ⟨_, rfl⟩
      rw [← es] at e0
      rw [← eo] at e1
      rw [← ea] at e2
      have ES := Lib.hid es; have EO := Lib.hid eo; have EA := Lib.hid ea
      clear es eo ea
      have hv : Vp s o a := by rw [ES.out, EO.out, EA.out]; exact HV.out k hlt
      · obtain ⟨v1, v2, v3, v4, v5, v6⟩ := hv
        go_wp2_with fail
        refine (rcheck_ok _ _ _ _ v1 v2 v3 v4 v5 v6).mono ?_
        rintro e w1 ⟨rfl, hb1⟩
        have K1 := hK.trans hb1
        have R1 := Lib.hid (HR.out.kp hb1)
        clear hb1 e0 e1 e2 hK
        go_wp2_with fail
        go_roundw
        case rel => exact ⟨k + 1, by omega, by go_num, K1, R1.out, fun j hj => by
          by_cases hj' : j < k
          · exact HJ.out j hj'
          · obtain rfl : j = k := by omega
            rw [← ES.out, ← EO.out, ← EA.out]; exact ⟨v1, v2, v3, v4, v5, v6⟩⟩
        case measure => simp [intOf]; omega
    · have hd : decide ((k : Int) < (n : Int)) = false := by simp; omega
      obtain rfl : k = n := by omega
      go_wp2_with fail
      have hK2 : Kp w wr := hK
      have hI0 : RI w wr.heap.size (wr.heap.size + 1) (foldC (nums ps) (clefs 0)) ((wr.alloc (.cells #[.int .i64 0, .int .i64 3, .int .i64 4] 3)).alloc (.cells #[.int .i64 0, .int .i64 0] 23)) := by
        have hr := HR.out
        have hb := Blk.new (wr.alloc (.cells #[.int .i64 0, .int .i64 3, .int .i64 4] 3)) 23 #[.int .i64 0, .int .i64 0]
        rw [World.size_alloc] at hb
        exact ⟨(hK.al _).al _, ⟨hr.lt, by omega⟩, (hr.al _).al _, (Blk.new wr _ _).al _, hb⟩
      have HI0 := Lib.hid hI0
      have HK2 := Lib.hid hK2
      clear hI0 hK2
      obtain ⟨wq, ewq⟩ : ∃ wq : World, wq = wr := ⟨_, rfl⟩
      subst ewq
      go_loopw [10, 11] (fun v u wx => ∃ i : Nat, i ≤ 3 ∧ u = .int .i64 (i : Int) ∧ v = .int .i64 (foldC (nums ps) (clefs (5 * i))).2 ∧ RI w wq.heap.size (wq.heap.size + 1) (foldC (nums ps) (clefs (5 * i))) wx) (fun _ u _ => 3 - (intOf u).toNat)
      case atStart => exact ⟨0, by omega, rfl, rfl, HI0.out⟩
      case round =>
        clear HI0
        obtain ⟨i, hi, rfl, rfl, hI⟩ := hrel
        have HI := Lib.hid hI
        clear hI
        by_cases hlt3 : i < 3
        · have hd3 : decide ((i : Int) < 3) = true := by simp; omega
          go_wp2_with fail
          obtain ⟨wy, ewy⟩ : ∃ wy : World, wy = wr := ⟨_, rfl⟩
          subst ewy
          go_loopw [10, 12] (fun v u wx => ∃ j : Nat, j ≤ 5 ∧ u = .int .i64 ((j : Int) + 1) ∧ v = .int .i64 (foldC (nums ps) (clefs (5 * i + j))).2 ∧ RI w wq.heap.size (wq.heap.size + 1) (foldC (nums ps) (clefs (5 * i + j))) wx) (fun _ u _ => 6 - (intOf u).toNat)
          case atStart => exact ⟨0, by omega, rfl, rfl, HI.out⟩
          case round =>
            clear HI
            obtain ⟨j, hj, rfl, rfl, hI⟩ := hrel
            have HI := Lib.hid hI
            clear hI
            by_cases hl5 : j < 5
            · have hd5 : decide ((j : Int) + 1 ≤ 5) = true := by simp; omega
              have hc : wr.cell? ⟨wq.heap.size, i, none⟩ = some (.int .i64 (stepAt i)) := by
                rw [HI.out.sl.cell]
                have : i = 0 ∨ i = 1 ∨ i = 2 := by omega
                rcases this with rfl | rfl | rfl <;> rfl
              have hvc := clefAt_ok (5 * i + j)
              rw [clefAt_at i j hl5] at hvc
              have HC := Lib.hid hvc
              have EF : Hid (foldC (nums ps) (clefs (5 * i + (j + 1))) = tryC (nums ps) (foldC (nums ps) (clefs (5 * i + j))) (stepAt i, (j : Int) + 1)) := by
                have e : 5 * i + (j + 1) = 5 * i + j + 1 := by omega
                rw [e, clefs_succ, foldC_snoc]
                show tryC _ _ (clefAt (5 * i + j)) = _
                rw [clefAt_at i j hl5]
              obtain ⟨r, er⟩ : ∃ r, r = foldC (nums ps) (clefs (5 * i + j)) := ⟨_, rfl⟩
              rw [← er] at EF HI ⊢
              clear er hvc
              go_wp2_with fail
              refine (rneeds_any _ _ _ _ _ ps _ HC.out (HX.out.kp (HI.out.kp.al _)) hn HV.out).mono ?_
              have TY : Hid (∀ x : (Int × Int) × Int, x = tryC (nums ps) r (stepAt i, (j : Int) + 1) → (Fit (low (stepAt i) ((j : Int) + 1)) (nums ps) ∧ (r.2 < 0 ∨ lsum (low (stepAt i) ((j : Int) + 1)) (nums ps) k < r.2) → x = ((stepAt i, (j : Int) + 1), lsum (low (stepAt i) ((j : Int) + 1)) (nums ps) k)) ∧ (¬ (Fit (low (stepAt i) ((j : Int) + 1)) (nums ps) ∧ (r.2 < 0 ∨ lsum (low (stepAt i) ((j : Int) + 1)) (nums ps) k < r.2)) → x = r)) := by
                intro x ex
                rw [ex]
                unfold tryC lowC
                rw [nums_len, HL.out]
                exact ⟨fun h => if_pos h, fun h => if_neg h⟩
              rintro e w1 ⟨⟨hF, rfl⟩ | ⟨hF, rfl⟩, hb1⟩
              · have Q1 := ((Kp.refl wr).al _).trans hb1
                have H1 := Lib.hid (HI.out.more Q1)
                have d0 := hb1.get (b := wr.heap.size) (o := 0) (v := .int .i64 (stepAt i)) (by first | with_reducible assumption | (simp [go_sem]; done) | (simp [go_sem, *]; done))
                have d1 := hb1.get (b := wr.heap.size) (o := 1) (v := .int .i64 ((j : Int) + 1)) (by first | with_reducible assumption | (simp [go_sem]; done) | (simp [go_sem, *]; done))
                have b0 : w1.cell? ⟨wq.heap.size + 1, 0, none⟩ = some (.int .i64 r.1.1) := H1.out.best.cell 0
                have b1 : w1.cell? ⟨wq.heap.size + 1, 1, none⟩ = some (.int .i64 r.1.2) := H1.out.best.cell 1
                have b2 := H1.out.best.free 0
                have b3 := H1.out.best.free 1
                have hbl := HI.out.best.lt
                have n1 : ¬ wq.heap.size + 1 = wr.heap.size := by omega
                have n2 : ¬ wr.heap.size = wq.heap.size + 1 := by omega
                have HF := Lib.hid hF
                clear hb1 Q1 hF hc
                by_cases hless : r.2 < 0 ∨ lsum (low (stepAt i) ((j : Int) + 1)) (nums ps) k < r.2
                · have HE := Lib.hid ((TY.out _ EF.out).1 ⟨HF.out, hless⟩)
                  have hcase : (decide (r.2 < 0) = true) ∨ (decide (r.2 < 0) = false ∧ decide (lsum (low (stepAt i) ((j : Int) + 1)) (nums ps) k < r.2) = true) := by simp; omega
                  clear hless
                  rcases hcase with td | ⟨td, te⟩
                  all_goals
                    go_wp2_with fail
                    go_roundw
                    case rel => exact ⟨j + 1, by omega, by go_num, by rw [HE.out], by rw [HE.out]; exact H1.out.put⟩
                    case measure => simp [intOf]; omega
                · have HE := Lib.hid ((TY.out _ EF.out).2 (fun h => hless h.2))
                  have td : decide (r.2 < 0) = false := by simp; omega
                  have te : decide (lsum (low (stepAt i) ((j : Int) + 1)) (nums ps) k < r.2) = false := by simp; omega
                  clear hless
                  go_wp2_with fail
                  go_roundw
                  case rel => exact ⟨j + 1, by omega, by go_num, by rw [HE.out], by rw [HE.out]; exact H1.out⟩
                  case measure => simp [intOf]; omega
              · have Q1 := ((Kp.refl wr).al _).trans hb1
                have H1 := Lib.hid (HI.out.more Q1)
                have HE := Lib.hid ((TY.out _ EF.out).2 (fun h => hF h.1))
                clear hb1 Q1 hF hc
                go_wp2_with fail
                go_roundw
                case rel => exact ⟨j + 1, by omega, by go_num, by rw [HE.out], by rw [HE.out]; exact H1.out⟩
                case measure => simp [intOf]; omega
            · have hd5 : decide ((j : Int) + 1 ≤ 5) = false := by simp; omega
              obtain rfl : j = 5 := by omega
              go_wp2_with fail
              go_roundw
              case rel => exact ⟨i + 1, by omega, by go_num, rfl, HI.out⟩
              case measure => simp [intOf]; omega
        · have hd3 : decide ((i : Int) < 3) = false := by simp; omega
          obtain rfl : i = 3 := by omega
          obtain ⟨r, er⟩ : ∃ r, r = bestC (nums ps) := ⟨_, rfl⟩
          have eb : foldC (nums ps) (clefs (5 * 3)) = r := by rw [er]; rfl
          rw [eb] at HI ⊢
          have ER := Lib.hid er
          clear er eb
          have hi := HI.out
          have b0 : wr.cell? ⟨wq.heap.size + 1, 0, none⟩ = some (.int .i64 r.1.1) := hi.best.cell 0
          have b1 : wr.cell? ⟨wq.heap.size + 1, 1, none⟩ = some (.int .i64 r.1.2) := hi.best.cell 1
          have r0 : wr.cell? ⟨w.heap.size, 0, none⟩ = some (.int .i64 0) := hi.res.cell 0
          have r1 : wr.cell? ⟨w.heap.size, 1, none⟩ = some (.int .i64 0) := hi.res.cell 1
          have r2 := hi.res.free 0
          have r3 := hi.res.free 1
          have hK3 := hi.kp
          clear hi
          by_cases hlt : r.2 < 0
          · have td : decide (r.2 < 0) = true := by simpa using hlt
            go_wp2_with fail
            exact bodyPost_ret (v := .tuple #[.agg #[.int .i64 0, .int .i64 0], .int .i64 18]) (by simp [results, Try.results14, go_sem, r0, r1]) rfl ⟨.inl ⟨by rw [← ER.out]; exact hlt, rfl⟩, by repeat (first | exact Kp.refl _ | with_reducible assumption | with_reducible refine Kp.set ?_ _ _ ?_ | (dsimp only; omega) | with_reducible refine Kp.drew ?_ | with_reducible refine Kp.drewN ?_ _ | with_reducible refine Kp.al ?_ _ | with_reducible refine Kp.trans ?_ (by with_reducible assumption))⟩
          · have td : decide (r.2 < 0) = false := by simpa using hlt
            go_wp2_with fail
            exact bodyPost_ret (v := .tuple #[.agg #[.int .i64 r.1.1, .int .i64 r.1.2], .int .i64 0]) (by simp [results, Try.results14, go_sem, r0, r1]) rfl ⟨.inr ⟨by rw [← ER.out]; omega, by rw [← ER.out]⟩, by repeat (first | exact Kp.refl _ | with_reducible assumption | with_reducible refine Kp.set ?_ _ _ ?_ | (dsimp only; omega) | with_reducible refine Kp.drew ?_ | with_reducible refine Kp.drewN ?_ _ | with_reducible refine Kp.al ?_ _ | with_reducible refine Kp.trans ?_ (by with_reducible assumption))⟩
end Go.Proofs.Ytgajdmefflndmaa
