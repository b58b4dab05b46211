/- Contract of gamut.Solmize where all pitches are in the gamut. -/
import Derived.Test.YtaobndijldidfaaDoorGi
import Derived.BigQuiet
set_option linter.unusedSimpArgs false
set_option linter.unusedVariables false
namespace Go.Proofs.YtaobndijldidfaaDoor
open Go.RowKit

theorem newcost {w wx : World} (hk : Kp (w.alloc (.cells #[.int .i64 0, .int .i64 0, .bool false] 64)).drew wx) :
    wx.cell? ⟨w.heap.size, 0, none⟩ = some (.int .i64 0) ∧ wx.cell? ⟨w.heap.size, 1, none⟩ = some (.int .i64 0) ∧ wx.cell? ⟨w.heap.size, 2, none⟩ = some (.bool false) ∧
    wx.frozen? ⟨w.heap.size, 0, none⟩ = false ∧ wx.frozen? ⟨w.heap.size, 1, none⟩ = false ∧ wx.frozen? ⟨w.heap.size, 2, none⟩ = false ∧ w.heap.size < wx.heap.size := by
  have b := (Blk.new w 64 #[.int .i64 0, .int .i64 0, .bool false]).drew.kp hk
  exact ⟨b.cell 0, b.cell 1, b.cell 2, b.free 0, b.free 1, b.free 2, b.lt⟩

theorem r43 {w w' : World} (k : Kp w w') {b22 b23 va vc bo oo : Nat} {M1 R1 M2 R2 hs ys hc yc P1 P2 : Int} (B1 : Blk w b22 64 #[.int .i64 M1, .int .i64 R1, .bool true]) (B2 : Blk w b23 64 #[.int .i64 M2, .int .i64 R2, .bool true])
    (x0 : w.cell? ⟨va, 0, none⟩ = some (.int .i64 hs)) (x1 : w.cell? ⟨va, 1, none⟩ = some (.int .i64 ys)) (w0 : w.cell? ⟨vc, 0, none⟩ = some (.int .i64 hc)) (w1 : w.cell? ⟨vc, 1, none⟩ = some (.int .i64 yc)) (u0 : w.cell? ⟨bo, oo, none⟩ = some (.int .i64 P1)) (u1 : w.cell? ⟨bo, oo + 1, none⟩ = some (.int .i64 P2)) :
    w'.cell? ⟨b22, 0, none⟩ = some (.int .i64 M1) ∧ w'.cell? ⟨b22, 1, none⟩ = some (.int .i64 R1) ∧ w'.cell? ⟨b22, 2, none⟩ = some (.bool true) ∧ w'.cell? ⟨b23, 0, none⟩ = some (.int .i64 M2) ∧ w'.cell? ⟨b23, 1, none⟩ = some (.int .i64 R2) ∧ w'.cell? ⟨b23, 2, none⟩ = some (.bool true) ∧
    w'.frozen? ⟨b22, 0, none⟩ = false ∧ w'.frozen? ⟨b22, 1, none⟩ = false ∧ w'.frozen? ⟨b22, 2, none⟩ = false ∧ w'.frozen? ⟨b23, 0, none⟩ = false ∧ w'.frozen? ⟨b23, 1, none⟩ = false ∧ w'.frozen? ⟨b23, 2, none⟩ = false ∧
    w'.cell? ⟨va, 0, none⟩ = some (.int .i64 hs) ∧ w'.cell? ⟨va, 1, none⟩ = some (.int .i64 ys) ∧ w'.cell? ⟨vc, 0, none⟩ = some (.int .i64 hc) ∧ w'.cell? ⟨vc, 1, none⟩ = some (.int .i64 yc) ∧ w'.cell? ⟨bo, oo, none⟩ = some (.int .i64 P1) ∧ w'.cell? ⟨bo, oo + 1, none⟩ = some (.int .i64 P2) ∧ b22 < w'.heap.size ∧ b23 < w'.heap.size := by
  have C1 := B1.kp k
  have C2 := B2.kp k
  exact ⟨C1.cell 0, C1.cell 1, C1.cell 2, C2.cell 0, C2.cell 1, C2.cell 2, C1.free 0, C1.free 1, C1.free 2, C2.free 0, C2.free 1, C2.free 2, k.get x0, k.get x1, k.get w0, k.get w1, k.get u0, k.get u1, C1.lt, C2.lt⟩

section
variable {w : World} {a b : Nat} {t : TypeId} {x y z x' y' z' : Value}
theorem fin43a (h : Blk w a t #[x, y, z]) (hne : a ≠ b) (x' y' z' p q r : Value) :
    Blk ((((((w.setCell ⟨a, 0, none⟩ x').setCell ⟨a, 1, none⟩ y').setCell ⟨a, 2, none⟩ z').setCell ⟨b, 0, none⟩ p).setCell ⟨b, 1, none⟩ q).setCell ⟨b, 2, none⟩ r) a t #[x', y', z'] :=
  (((((h.set_ 0 x').set_ 1 y').set_ 2 z').far (p := ⟨b, 0, none⟩) hne p).far (p := ⟨b, 1, none⟩) hne q).far (p := ⟨b, 2, none⟩) hne r
theorem fin43b (h : Blk w b t #[x, y, z]) (hne : a ≠ b) (x' y' z' p q r : Value) :
    Blk ((((((w.setCell ⟨a, 0, none⟩ x').setCell ⟨a, 1, none⟩ y').setCell ⟨a, 2, none⟩ z').setCell ⟨b, 0, none⟩ p).setCell ⟨b, 1, none⟩ q).setCell ⟨b, 2, none⟩ r) b t #[p, q, r] :=
  (((((h.far (p := ⟨a, 0, none⟩) (fun e => hne e.symm) x').far (p := ⟨a, 1, none⟩) (fun e => hne e.symm) y').far (p := ⟨a, 2, none⟩) (fun e => hne e.symm) z').set_ 0 p).set_ 1 q).set_ 2 r
theorem cell3 {c o : Nat} {v : Value} (h : w.cell? ⟨c, o, none⟩ = some v) (h1 : a ≠ c) (x' y' z' : Value) :
    (((w.setCell ⟨a, 0, none⟩ x').setCell ⟨a, 1, none⟩ y').setCell ⟨a, 2, none⟩ z').cell? ⟨c, o, none⟩ = some v :=
  cell_setb h1 (cell_setb h1 (cell_setb h1 h))
theorem cell6 {c o : Nat} {v : Value} (h : w.cell? ⟨c, o, none⟩ = some v) (h1 : a ≠ c) (h2 : b ≠ c) (x' y' z' p q r : Value) :
    ((((((w.setCell ⟨a, 0, none⟩ x').setCell ⟨a, 1, none⟩ y').setCell ⟨a, 2, none⟩ z').setCell ⟨b, 0, none⟩ p).setCell ⟨b, 1, none⟩ q).setCell ⟨b, 2, none⟩ r).cell? ⟨c, o, none⟩ = some v :=
  cell3 (cell3 h h1 x' y' z') h2 p q r
theorem ow_far {c o : Nat} {v : Value} (h : Ow w c o v) {p : Addr} (hp : p.block ≠ c) (u : Value) : Ow (w.setCell p u) c o v :=
  ⟨cell_setb hp h.1, by rw [World.frozen?_setCell]; exact h.2⟩
theorem ow43 {c o : Nat} {v : Value} (h : Ow w c o v) (h1 : a ≠ c) (h2 : b ≠ c) (x' y' z' p q r : Value) :
    Ow ((((((w.setCell ⟨a, 0, none⟩ x').setCell ⟨a, 1, none⟩ y').setCell ⟨a, 2, none⟩ z').setCell ⟨b, 0, none⟩ p).setCell ⟨b, 1, none⟩ q).setCell ⟨b, 2, none⟩ r) c o v :=
  ow_far (ow_far (ow_far (ow_far (ow_far (ow_far h h1 x') h1 y') h1 z') h2 p) h2 q) h2 r
end

set_option maxRecDepth 100000 in
set_option maxHeartbeats 8000000 in
theorem solmize_ok (A : Option Addr) (n c : Nat) (ps : List Pt) (w : World) (ht0 : Tab w) (hx0 : Pts w A n ps) (hn : n ≤ 400) (hg : ∀ p ∈ ps, Vp p.1 p.2.1 p.2.2 ∧ wys p ≠ []) :
    Calls Tryd.prog 13 #[.slice A n c] w fun e w' => (∃ A' c', e = .returned (.tuple #[.slice A' n c', .int .i64 (muts (ps.map wys)), .int .i64 0]) ∧ Sys w' A' n (sol none (ps.map wys))) ∧ Kp w w' := by
  have hmk := make_all n (by omega)
  have HMB := Lib.hid (make_best n (by omega))
  have hl := hx0.1
  have ha := asc_map ps (fun p hp => (hg p hp).2)
  have hls : ∀ i, i < n → lsAt (ps.map wys) i = wys (ptAt ps i) := fun i hi => ls_map ps i (by omega)
  have hvp : ∀ i, i < n → Vp (ptAt ps i).1 (ptAt ps i).2.1 (ptAt ps i).2.2 := fun i hi => (hg _ (by unfold ptAt; simp [List.getD, show i < ps.length by omega])).1
  have hwl : (ps.map wys).length = n := by simpa using hl
  obtain ⟨ws, ews⟩ : ∃ ws, ws = ps.map wys := ⟨_, rfl⟩
  rw [← ews] at ha hls hwl ⊢
  have HT := Lib.hid ht0; have HX := Lib.hid hx0; have HA := Lib.hid ha; have HLS := Lib.hid hls; have HVP := Lib.hid hvp; have HWL := Lib.hid hwl
  have hlow := ht0.lt
  have t0 : decide (400 < (n : Int)) = false := by simp; omega
  clear ht0 hx0 hl ha hls hvp hwl ews hg
  go_enter Tryd.func13, Tryd.ntmps13
  go_wp2_with fail
  clear hmk
  go_loopw [32] (fun v wr => ∃ k : Nat, k ≤ n ∧ v = .int .i64 (k : Int) ∧ AllB wr w.heap.size n ws k ∧ Kp w wr) (fun v _ => n - (intOf v).toNat)
  case atStart => exact ⟨0, by omega, rfl, AllB.made w n ws, by repeat (first | exact Kp.refl _ | with_reducible assumption | with_reducible refine Kp.set ?_ _ _ ?_ | (dsimp only; omega) | with_reducible refine Kp.drew ?_ | with_reducible refine Kp.drewN ?_ _ | with_reducible refine Kp.al ?_ _ | with_reducible refine Kp.trans ?_ (by with_reducible assumption))⟩
  case round =>
    obtain ⟨k, hk, rfl, hAll, hK⟩ := hrel
    by_cases hlt : k < n
    · have hd : decide ((k : Int) < (n : Int)) = true := by simp; omega
      obtain ⟨b, off, rfl, e0, e1, e2⟩ := (HX.out.kp hK).2 k hlt
      obtain ⟨v1, v2, v3, v4, v5, v6⟩ := HVP.out k hlt
      have hlsk := HLS.out k hlt
      have hne := (HA.out k (by have := HWL.out; omega)).1
      have cw := fun w t => gways_ok (ptAt ps k).1 (ptAt ps k).2.1 (ptAt ps k).2.2 w t v1 v2 v3 v4 v5 v6
      have epp : ((ptAt ps k).1, (ptAt ps k).2.1, (ptAt ps k).2.2) = ptAt ps k := rfl
      rw [epp, ← hlsk] at cw
      obtain ⟨s, es⟩ : ∃ s, s = (ptAt ps k).1 := ⟨_, rfl⟩
      obtain ⟨o, eo⟩ : ∃ o, o = (ptAt ps k).2.1 := ⟨_, rfl⟩
      obtain ⟨a, ea⟩ : ∃ a, a = (ptAt ps k).2.2 := ⟨_, rfl⟩
      rw [← es] at e0 cw
      rw [← eo] at e1 cw
      rw [← ea] at e2 cw
      obtain ⟨m, em⟩ : ∃ m, m = (lsAt ws k).length := ⟨_, rfl⟩
      have hm1 : 1 ≤ m := by rw [em]; exact List.length_pos_iff.2 hne
      rw [← em] at cw
      have EM := Lib.hid em
      have CW := Lib.hid cw
      have HAll := Lib.hid hAll
      have d0 : ((m : Int) == 0) = false := by simp; omega
      clear v1 v2 v3 v4 v5 v6 hlsk hne cw epp es eo ea em hAll
      go_wp2_with fail
      refine (CW.out _ (HT.out.below (by repeat (first | exact Kp.refl _ | with_reducible assumption | with_reducible refine Kp.set ?_ _ _ ?_ | (dsimp only; omega) | with_reducible refine Kp.drew ?_ | with_reducible refine Kp.drewN ?_ _ | with_reducible refine Kp.al ?_ _ | with_reducible refine Kp.trans ?_ (by with_reducible assumption))))).mono ?_
      rintro e wr1 ⟨⟨B, d, rfl, hfr, hsy⟩, hb1⟩
      have Q1 : Kp wr wr1 := by repeat (first | exact Kp.refl _ | with_reducible assumption | with_reducible refine Kp.set ?_ _ _ ?_ | (dsimp only; omega) | with_reducible refine Kp.drew ?_ | with_reducible refine Kp.drewN ?_ _ | with_reducible refine Kp.al ?_ _ | with_reducible refine Kp.trans ?_ (by with_reducible assumption))
      have c1_0_1 := hb1.get (b := wr.heap.size) (o := 0) (v := .int .i64 (s)) (by first | with_reducible assumption | (simp [go_sem]; done) | (simp [go_sem, *]; done))
      have c1_1_1 := hb1.get (b := wr.heap.size) (o := 1) (v := .int .i64 (o)) (by first | with_reducible assumption | (simp [go_sem]; done) | (simp [go_sem, *]; done))
      have c1_2_1 := hb1.get (b := wr.heap.size) (o := 2) (v := .int .i64 (a)) (by first | with_reducible assumption | (simp [go_sem]; done) | (simp [go_sem, *]; done))
      have l1_1 := cell_lt c1_0_1
      have K1 := Q1
      clear hb1 Q1
      have HFR := Lib.hid hfr; have HSY := Lib.hid hsy
      have hgr := hK.low
      have hAl1 := HAll.out.kp K1
      obtain ⟨⟨v0, q0⟩, q1⟩ := hAl1.cell k hlt
      have HAl1 := Lib.hid hAl1
      have ql := cell_lt q0
      clear hfr hsy hAl1 HAll e0 e1 e2
      go_wp2_with fail
      go_roundw
      case rel => exact ⟨k + 1, by omega, by go_num, HAl1.out.put hlt EM.out (fun ad e => by have := HFR.out ad e; simp at this; omega) HSY.out, by repeat (first | exact Kp.refl _ | with_reducible assumption | with_reducible refine Kp.set ?_ _ _ ?_ | (dsimp only; omega) | with_reducible refine Kp.drew ?_ | with_reducible refine Kp.drewN ?_ _ | with_reducible refine Kp.al ?_ _ | with_reducible refine Kp.trans ?_ (by with_reducible assumption))⟩
      case measure => simp [intOf]; omega
    · obtain rfl : k = n := by omega
      by_cases h0 : k = 0
      · have h0' : ((k : Int) == 0) = true := by simp; omega
        have hws : ws = [] := List.eq_nil_of_length_eq_zero (by have := HWL.out; omega)
        subst hws
        go_wp2_with fail
        go_ret3
        rw [h0]
        exact ⟨⟨none, 0, rfl, rfl, fun j hj => absurd hj (by omega)⟩, by repeat (first | exact Kp.refl _ | with_reducible assumption | with_reducible refine Kp.set ?_ _ _ ?_ | (dsimp only; omega) | with_reducible refine Kp.drew ?_ | with_reducible refine Kp.drewN ?_ _ | with_reducible refine Kp.al ?_ _ | with_reducible refine Kp.trans ?_ (by with_reducible assumption))⟩
      · have h0' : ((k : Int) == 0) = false := by simp; omega
        have hmb := HMB.out
        have HAll := Lib.hid hAll
        clear hAll
        obtain ⟨wq, ewq⟩ : ∃ wq : World, wq = wr := ⟨_, rfl⟩
        subst ewq
        go_wp2_with fail
        clear hmb HMB
        have hKw := hK.low
        go_loopw [11] (fun v wr => ∃ (m : Nat) (B : Nat → Nat → Co), m ≤ k ∧ v = .int .i64 ((m : Int) - 1) ∧ BestB wr wq.heap.size k B ∧ RowsB ws m B ∧ (∀ j, j < m → ∀ h, h < 8 → B j h = (0, 0, false)) ∧ Kp wq wr) (fun v _ => (intOf v + 1).toNat)
        case atStart => exact ⟨k, _, Nat.le_refl _, rfl, BestB.made wq k, fun j hj hj' => absurd hj' (by have := HWL.out; omega), fun _ _ _ _ => rfl, by repeat (first | exact Kp.refl _ | with_reducible assumption | with_reducible refine Kp.set ?_ _ _ ?_ | (dsimp only; omega) | with_reducible refine Kp.drew ?_ | with_reducible refine Kp.drewN ?_ _ | with_reducible refine Kp.al ?_ _ | with_reducible refine Kp.trans ?_ (by with_reducible assumption))⟩
        case round =>
          obtain ⟨m, B, hm, rfl, hB, hR, hL, hKr⟩ := hrel
          by_cases hm0 : m = 0
          · subst hm0
            have em : ((0 : Nat) : Int) - 1 = -1 := rfl
            rw [em]
            clear em hL hm
            have HB := Lib.hid hB; have HR := Lib.hid hR
            clear hB hR
            have HSL := Lib.hid (sol_len none ws)
            go_wp2_with fail
            obtain ⟨wf, ewf⟩ : ∃ wf : World, wf = wr := ⟨_, rfl⟩
            subst ewf
            go_loopw [17, 128] (fun ov v wr => ∃ i : Nat, i ≤ k ∧ v = .int .i64 (i : Int) ∧ wr.ownsRow wf.heap.size 34 2 ov i (flatS ((sol none ws).take i)) ∧ Kp wf wr) (fun _ v _ => k - (intOf v).toNat)
            case atStart => exact ⟨0, by omega, rfl, World.ownsRow_nil _ _ _ _, Kp.refl _⟩
            case round =>
              obtain ⟨i, hi, rfl, hown, hKi⟩ := hrel
              obtain ⟨Ao, co, rfl⟩ := ow_form hown
              have HO := Lib.hid hown
              clear hown
              by_cases hlt : i < k
              · have hd : decide ((i : Int) < (k : Int)) = true := by simp; omega
                have hiw : i < ws.length := by have := HWL.out; omega
                obtain ⟨Ai, ci, qa0, hsy⟩ := HAll.out.at_ i hlt
                have qa := (hKr.trans hKi).get qa0
                have hsw := hsy.kp (hKr.trans hKi)
                obtain ⟨len, elen⟩ : ∃ len, len = (lsAt ws i).length := ⟨_, rfl⟩
                have hlen : len ≤ 7 := by rw [elen, HLS.out i hlt]; exact wysTo_len _ _
                have hlen1 : 1 ≤ len := by rw [elen]; exact List.length_pos_iff.2 (HA.out i hiw).1
                rw [← elen] at qa hsw
                obtain ⟨b, off, rfl, e0, e1⟩ := hsw.2 0 hlen1
                rw [Nat.zero_mul, Nat.add_zero] at e0 e1
                obtain ⟨f1, ef1⟩ : ∃ f1, f1 = (syAt (lsAt ws i) 0).1 := ⟨_, rfl⟩
                obtain ⟨f2, ef2⟩ : ∃ f2, f2 = (syAt (lsAt ws i) 0).2 := ⟨_, rfl⟩
                rw [← ef1] at e0
                rw [← ef2] at e1
                have HSW := Lib.hid hsw; have EL := Lib.hid elen; have EF1 := Lib.hid ef1; have EF2 := Lib.hid ef2
                have j3 : (0 : Int) < (len : Int) := by omega
                clear hsw hsy qa0 elen ef1 ef2
                have ql := cell_lt qa
                have e0l := cell_lt e0
                obtain ⟨f, ef⟩ : ∃ f, f = key (prevAt none (sol none ws) i) (ws.drop (i + 1)) := ⟨_, rfl⟩
                have EF := Lib.hid ef
                obtain ⟨Ts, eTs⟩ : ∃ Ts, Ts = lsAt ws i := ⟨_, rfl⟩
                have hTs : Ts ≠ [] := by rw [eTs]; exact (HA.out i hiw).1
                have hst := pckAt_zero f Ts hTs
                have ETS := Lib.hid eTs; have HTS := Lib.hid hTs
                rw [← ETS.out] at HSW EL EF1 EF2
                have HST : Hid (pckAt f Ts 0 = (f1, f2)) := by rw [hst, EF1.out, EF2.out]; exact rfl
                clear ef eTs hTs hst
                go_wp2_with fail
                obtain ⟨vc, evc⟩ : ∃ vc, vc = wr.heap.size := ⟨_, rfl⟩
                obtain ⟨wh, ewh⟩ : ∃ wh : World, wh = wr := ⟨_, rfl⟩
                have hvc : wh.heap.size ≤ vc := by rw [ewh, evc]; exact Nat.le_refl _
                rw [← evc]
                obtain ⟨wg, ewg⟩ : ∃ wg : World, wg = wr.alloc (.cells #[.int .i64 f1, .int .i64 f2] 34) := ⟨_, rfl⟩
                have g0 : wg.cell? ⟨vc, 0, none⟩ = some (.int .i64 f1) := by rw [ewg, evc]; simp [go_sem]
                have g1 : wg.cell? ⟨vc, 1, none⟩ = some (.int .i64 f2) := by rw [ewg, evc]; simp [go_sem]
                have g2 : wg.frozen? ⟨vc, 0, none⟩ = false := by rw [ewg, evc]; simp [go_sem]
                have g3 : wg.frozen? ⟨vc, 1, none⟩ = false := by rw [ewg, evc]; simp [go_sem]
                have KG : Kp wh wg := by rw [ewh, ewg]; repeat (first | exact Kp.refl _ | with_reducible assumption | with_reducible refine Kp.set ?_ _ _ ?_ | (dsimp only; omega) | with_reducible refine Kp.drew ?_ | with_reducible refine Kp.drewN ?_ _ | with_reducible refine Kp.al ?_ _ | with_reducible refine Kp.trans ?_ (by with_reducible assumption))
                rw [← ewg]
                rw [← ewh] at qa e0 e1 HO HSW hKi ql e0l
                have G0 := Lib.hid g0; have G1 := Lib.hid g1; have HKG := Lib.hid KG
                have HKI := Lib.hid hKi
                clear evc ewh ewg g0 g1 KG hKi
                go_loopw [142] (fun v wr => ∃ q : Nat, q ≤ len ∧ v = .int .i64 (q : Int) ∧ Kp wh wr ∧ wr.cell? ⟨vc, 0, none⟩ = some (.int .i64 (pckAt f Ts q).1) ∧ wr.cell? ⟨vc, 1, none⟩ = some (.int .i64 (pckAt f Ts q).2) ∧ wr.frozen? ⟨vc, 0, none⟩ = false ∧ wr.frozen? ⟨vc, 1, none⟩ = false) (fun v _ => len - (intOf v).toNat)
                case atStart => exact ⟨0, by omega, rfl, HKG.out, by rw [HST.out]; exact G0.out, by rw [HST.out]; exact G1.out, g2, g3⟩
                case round =>
                  clear g2 g3 G0 G1 HKG
                  obtain ⟨q, hq, rfl, hKq, p0, p1, p2, p3⟩ := hrel
                  by_cases hqlt : q < len
                  · have hd2 : decide ((q : Int) < (len : Int)) = true := by simp; omega
                    have hqw : q < Ts.length := by have := EL.out; omega
                    obtain ⟨b', off', e', e0', e1'⟩ := (HSW.out.kp hKq).2 q hqlt
                    injection e' with e'
                    injection e' with e'1 e'2 _
                    subst e'1 e'2
                    have hm1 : syAt Ts q ∈ lsAt ws i := by rw [← ETS.out]; exact syAt_mem hqw
                    have hm2 : pckAt f Ts q ∈ lsAt ws i := by rw [← ETS.out]; exact pckAt_mem f Ts q HTS.out
                    obtain ⟨hs, hs8, es1, cs1⟩ := cost_at HR.out HA.out hiw hm1
                    obtain ⟨hc, hc8, ec1, cc1⟩ := cost_at HR.out HA.out hiw hm2
                    have vs1 := (asc_mem HA.out hiw hm1).1
                    have vc1 := (asc_mem HA.out hiw hm2).1
                    obtain ⟨ms1, ms2, ms3, ms4⟩ := rst_bd (ws.drop (i + 1)) (syAt Ts q)
                    obtain ⟨mc1, mc2, mc3, mc4⟩ := rst_bd (ws.drop (i + 1)) (pckAt f Ts q)
                    have hdl : ((ws.drop (i + 1)).length : Int) ≤ 400 := by have := HWL.out; simp; omega
                    obtain ⟨z0, z1, z2, -, -, -⟩ := (HB.out.kp (HKI.out.trans hKq)).cell i hs hlt hs8
                    obtain ⟨y0, y1, y2, -, -, -⟩ := (HB.out.kp (HKI.out.trans hKq)).cell i hc hlt hc8
                    rw [cs1] at z0 z1 z2
                    rw [cc1] at y0 y1 y2
                    dsimp only at z0 z1 z2 y0 y1 y2
                    obtain ⟨S, eS⟩ : ∃ S, S = syAt Ts q := ⟨_, rfl⟩
                    obtain ⟨C, eC⟩ : ∃ C, C = pckAt f Ts q := ⟨_, rfl⟩
                    rw [← eS] at e0' e1' es1 vs1 ms1 ms2 ms3 ms4 z0 z1
                    rw [← eC] at p0 p1 ec1 vc1 mc1 mc2 mc3 mc4 y0 y1
                    obtain ⟨ys, eys⟩ : ∃ ys, ys = S.2 := ⟨_, rfl⟩
                    obtain ⟨yc, eyc⟩ : ∃ yc, yc = C.2 := ⟨_, rfl⟩
                    have ES : Hid (S = ((hs : Int), ys)) := Prod.ext es1 eys.symm
                    have EC : Hid (C = ((hc : Int), yc)) := Prod.ext ec1 eyc.symm
                    rw [es1] at e0' vs1
                    rw [← eys] at e1' vs1
                    rw [ec1] at p0 vc1
                    rw [← eyc] at p1 vc1
                    obtain ⟨M1, eM1⟩ : ∃ M1, M1 = (rst (ws.drop (i + 1)) S).1 := ⟨_, rfl⟩
                    obtain ⟨R1, eR1⟩ : ∃ R1, R1 = (rst (ws.drop (i + 1)) S).2 := ⟨_, rfl⟩
                    obtain ⟨M2, eM2⟩ : ∃ M2, M2 = (rst (ws.drop (i + 1)) C).1 := ⟨_, rfl⟩
                    obtain ⟨R2, eR2⟩ : ∃ R2, R2 = (rst (ws.drop (i + 1)) C).2 := ⟨_, rfl⟩
                    rw [← eM1] at z0 ms1 ms2
                    rw [← eR1] at z1 ms3 ms4
                    rw [← eM2] at y0 mc1 mc2
                    rw [← eR2] at y1 mc3 mc4
                    have ERS : Hid (rst (ws.drop (i + 1)) S = (M1, R1)) := Prod.ext eM1.symm eR1.symm
                    have ERC : Hid (rst (ws.drop (i + 1)) C = (M2, R2)) := Prod.ext eM2.symm eR2.symm
                    have HS := Lib.hid eS; have HC := Lib.hid eC; have VS := Lib.hid vs1; have VC := Lib.hid vc1
                    have k1 : (0 : Int) ≤ (hs : Int) := by omega
                    have k2 : (hs : Int) < 8 := by omega
                    have k3 : (0 : Int) ≤ (hc : Int) := by omega
                    have k4 : (hc : Int) < 8 := by omega
                    have k5 : (0 : Int) ≤ (i : Int) := by omega
                    have k6 : (i : Int) < (k : Int) := by omega
                    have zl := cell_lt z0
                    have pl := cell_lt p0
                    clear es1 ec1 cs1 cc1 eys eyc eS eC vs1 vc1 eM1 eR1 eM2 eR2 hm1 hm2 e0 e1 e0l qa ql
                    go_wp2_with fail
                    obtain ⟨va, eva⟩ : ∃ va, va = wr.heap.size := ⟨_, rfl⟩
                    obtain ⟨wa, ewa⟩ : ∃ wa : World, wa = wr.alloc (.cells #[.int .i64 (hs : Int), .int .i64 ys] 34) := ⟨_, rfl⟩
                    have hKa : Kp wr wa := by rw [ewa]; repeat (first | exact Kp.refl _ | with_reducible assumption | with_reducible refine Kp.set ?_ _ _ ?_ | (dsimp only; omega) | with_reducible refine Kp.drew ?_ | with_reducible refine Kp.drewN ?_ _ | with_reducible refine Kp.al ?_ _ | with_reducible refine Kp.trans ?_ (by with_reducible assumption))
                    have a0 : wa.cell? ⟨va, 0, none⟩ = some (.int .i64 (hs : Int)) := by rw [ewa, eva]; simp [go_sem]
                    have a1 : wa.cell? ⟨va, 1, none⟩ = some (.int .i64 ys) := by rw [ewa, eva]; simp [go_sem]
                    have hav : vc < va := by omega
                    have ho0 : wh.heap.size ≤ va := by omega
                    rw [← ewa]
                    rw [← eva]
                    have z0' := hKa.get z0
                    have z1' := hKa.get z1
                    have z2' := hKa.get z2
                    have y0' := hKa.get y0
                    have y1' := hKa.get y1
                    have y2' := hKa.get y2
                    have c0' := hKa.get p0
                    have c1' := hKa.get p1
                    have c2' := hKa.free p0 p2
                    have c3' := hKa.free p1 p3
                    have KWA := hKq.trans hKa
                    have al := cell_lt a0
                    have zl' := cell_lt z0'
                    have cl0 := cell_lt c0'
                    clear ewa eva hKa z0 z1 z2 y0 y1 y2 p0 p1 p2 p3 hKq zl pl e0' e1'
                    go_cut [22, 23] (fun v22 v23 wz => ∃ b22 b23 : Nat, v22 = .pointer (some ⟨b22, 0, none⟩) ∧ v23 = .pointer (some ⟨b23, 0, none⟩) ∧ Blk wz b22 64 #[.int .i64 M1, .int .i64 R1, .bool true] ∧ Blk wz b23 64 #[.int .i64 M2, .int .i64 R2, .bool true] ∧ wa.heap.size ≤ b22 ∧ wa.heap.size ≤ b23 ∧ b22 ≠ b23 ∧ Kp wa wz)
                    case first =>
                      go_region
                      all_goals
                        go_wp2_with fail
                        go_meet
                        first | exact ⟨_, _, rfl, rfl, ((Blk.new wa _ _).al _).drew, (Blk.new2 wa _ _ _ _).drew, by omega, by omega, by omega, by repeat (first | exact Kp.refl _ | with_reducible assumption | with_reducible refine Kp.set ?_ _ _ ?_ | (dsimp only; omega) | with_reducible refine Kp.drew ?_ | with_reducible refine Kp.drewN ?_ _ | with_reducible refine Kp.al ?_ _ | with_reducible refine Kp.trans ?_ (by with_reducible assumption))⟩ | exact ⟨_, _, rfl, rfl, (Blk.new2 wa _ _ _ _).drew, ((Blk.new wa _ _).al _).drew, by omega, by omega, by omega, by repeat (first | exact Kp.refl _ | with_reducible assumption | with_reducible refine Kp.set ?_ _ _ ?_ | (dsimp only; omega) | with_reducible refine Kp.drew ?_ | with_reducible refine Kp.drewN ?_ _ | with_reducible refine Kp.al ?_ _ | with_reducible refine Kp.trans ?_ (by with_reducible assumption))⟩
                    case rest =>
                      obtain ⟨b22, b23, rfl, rfl, B22, B23, hb22, hb23, hbne, KZ⟩ := hcut
                      obtain ⟨wb, ewb⟩ : ∃ wb : World, wb = wc := ⟨_, rfl⟩
                      rw [← ewb] at B22 B23 KZ ⊢
                      clear ewb
                      have HB22 := Lib.hid B22; have HB23 := Lib.hid B23
                      have l22 := B22.lt
                      have l23 := B23.lt
                      have KWZ := KWA.trans KZ
                      have x0 := KZ.get a0
                      have x1 := KZ.get a1
                      have w0 := KZ.get c0'
                      have w1 := KZ.get c1'
                      have w2 := KZ.free c0' c2'
                      have w3 := KZ.free c1' c3'
                      have xl := cell_lt x0
                      have wl := cell_lt w0
                      clear B22 B23 a0 a1 c0' c1' c2' c3' z0' z1' z2' y0' y1' y2' zl' cl0 KZ KWA
                      go_upto_if 162 with (fail)
                      go_cut [22] (fun v22 wz => v22 = .pointer (some ⟨b22, 0, none⟩) ∧ Blk wz b22 64 #[.int .i64 (f S).1, .int .i64 (f S).2, .bool true] ∧ Blk wz b23 64 #[.int .i64 (f C).1, .int .i64 (f C).2, .bool true] ∧ Kp wh wz ∧ wz.cell? ⟨va, 0, none⟩ = some (.int .i64 (hs : Int)) ∧ wz.cell? ⟨va, 1, none⟩ = some (.int .i64 ys) ∧ Ow wz vc 0 (.int .i64 (hc : Int)) ∧ Ow wz vc 1 (.int .i64 yc))
                      case first =>
                        by_cases hi0 : i = 0
                        · have d0 : decide (0 < (i : Int)) = false := by simp; omega
                          have d0n : decide (0 < i) = false := by simp; omega
                          have d0h : ¬ 0 < i := by omega
                          have hfS : f S = (M1, R1) := by rw [EF.out, ← ERS.out]; unfold prevAt key; rw [if_pos hi0]
                          have hfC : f C = (M2, R2) := by rw [EF.out, ← ERC.out]; unfold prevAt key; rw [if_pos hi0]
                          have HFS := Lib.hid hfS; have HFC := Lib.hid hfC
                          clear hfS hfC hi0
                          go_wp2_with fail
                          go_meet
                          rw [HFS.out, HFC.out]
                          exact ⟨rfl, HB22.out, HB23.out, KWZ, x0, x1, ⟨w0, w2⟩, ⟨w1, w3⟩⟩
                        · have d0 : decide (0 < (i : Int)) = true := by simp; omega
                          have d0h : 0 < i := by omega
                          obtain ⟨j, ej⟩ : ∃ j, j = i - 1 := ⟨_, rfl⟩
                          have hsl : (sol none ws).length = k := by have := HSL.out; have := HWL.out; omega
                          have hP := sol_mem HA.out (show j < ws.length by omega) none
                          have vP := (asc_mem HA.out (show j < ws.length by omega) hP).1
                          obtain ⟨bo, oo, eo, u0, u1⟩ := (sys_of_own HO.out).2 j (by omega)
                          have ul0 := cell_lt u0
                          have etk : syAt ((sol none ws).take i) j = syAt (sol none ws) j := by
                            unfold syAt
                            simp only [List.getD]
                            rw [List.getElem?_take_of_lt (by omega)]
                          rw [etk] at u0 u1
                          subst eo
                          obtain ⟨P, eP⟩ : ∃ P, P = syAt (sol none ws) j := ⟨_, rfl⟩
                          rw [← eP] at u0 u1 vP
                          obtain ⟨P1, eP1⟩ : ∃ P1, P1 = P.1 := ⟨_, rfl⟩
                          obtain ⟨P2, eP2⟩ : ∃ P2, P2 = P.2 := ⟨_, rfl⟩
                          have ePP : P = (P1, P2) := Prod.ext eP1.symm eP2.symm
                          rw [← eP1] at u0 vP
                          rw [← eP2] at u1 vP
                          have hfS : f S = (M1 + (stp (P1, P2) ((hs : Int), ys)).1, R1 + (stp (P1, P2) ((hs : Int), ys)).2) := by
                            rw [EF.out]; unfold prevAt key; rw [if_neg hi0, ← ej, ← eP, ePP]; dsimp only; rw [ERS.out, ES.out]; rfl
                          have hfC : f C = (M2 + (stp (P1, P2) ((hc : Int), yc)).1, R2 + (stp (P1, P2) ((hc : Int), yc)).2) := by
                            rw [EF.out]; unfold prevAt key; rw [if_neg hi0, ← ej, ← eP, ePP]; dsimp only; rw [ERC.out, EC.out]; rfl
                          have ct1 := fun w t => then_ok M1 R1 true P1 P2 hs ys w t vP VS.out (by omega) (by omega) (by omega) (by omega)
                          have ct2 := fun w t => then_ok M2 R2 true P1 P2 hc yc w t vP VC.out (by omega) (by omega) (by omega) (by omega)
                          obtain ⟨N1, eN1⟩ : ∃ N1, N1 = M1 + (stp (P1, P2) ((hs : Int), ys)).1 := ⟨_, rfl⟩
                          obtain ⟨N2, eN2⟩ : ∃ N2, N2 = R1 + (stp (P1, P2) ((hs : Int), ys)).2 := ⟨_, rfl⟩
                          obtain ⟨N3, eN3⟩ : ∃ N3, N3 = M2 + (stp (P1, P2) ((hc : Int), yc)).1 := ⟨_, rfl⟩
                          obtain ⟨N4, eN4⟩ : ∃ N4, N4 = R2 + (stp (P1, P2) ((hc : Int), yc)).2 := ⟨_, rfl⟩
                          rw [← eN1, ← eN2] at ct1 hfS
                          rw [← eN3, ← eN4] at ct2 hfC
                          have HFS := Lib.hid hfS; have HFC := Lib.hid hfC; have CT1 := Lib.hid ct1; have CT2 := Lib.hid ct2
                          have m1 : IntKind.i64.wrap ((i : Int) - 1) = (i : Int) - 1 := IntWalk.i64_in _ (by omega)
                          have m2 : ((i : Int) - 1).toNat = j := by omega
                          have M1' := Lib.hid m1; have M2' := Lib.hid m2
                          have m3 : (0 : Int) ≤ (i : Int) - 1 := by omega
                          have m4 : (1 : Int) ≤ (i : Int) := by omega
                          have m5 : (i : Int) - 1 < (i : Int) := by omega
                          have u0' := KWZ.get u0
                          have u1' := KWZ.get u1
                          have ul := cell_lt u0'
                          have q0 : wb.cell? ⟨b22, 0, none⟩ = some (.int .i64 M1) := HB22.out.cell 0
                          have q1 : wb.cell? ⟨b22, 1, none⟩ = some (.int .i64 R1) := HB22.out.cell 1
                          have q2 : wb.cell? ⟨b22, 2, none⟩ = some (.bool true) := HB22.out.cell 2
                          have r0 : wb.cell? ⟨b23, 0, none⟩ = some (.int .i64 M2) := HB23.out.cell 0
                          have r1 : wb.cell? ⟨b23, 1, none⟩ = some (.int .i64 R2) := HB23.out.cell 1
                          have r2 : wb.cell? ⟨b23, 2, none⟩ = some (.bool true) := HB23.out.cell 2
                          have HTB := Lib.hid (HT.out.below (hK.trans (hKr.trans (HKI.out.trans KWZ))))
                          clear hi0 hsl hP vP u0 u1 etk eP eP1 eP2 ePP hfS hfC ct1 ct2 eN1 eN2 eN3 eN4 m1 m2 ej
                          go_wp2_with fail
                          have m1 := M1'.out
                          have m2 := M2'.out
                          refine wp_region_held_drew (S := (fun w' => w'.cell? ⟨va, 0, none⟩ = some (.int .i64 (hs : Int)) ∧ w'.cell? ⟨va, 1, none⟩ = some (.int .i64 ys) ∧ w'.cell? ⟨vc, 0, none⟩ = some (.int .i64 (hc : Int)) ∧ w'.cell? ⟨vc, 1, none⟩ = some (.int .i64 yc) ∧ w'.cell? ⟨bo, oo + j * 2, none⟩ = some (.int .i64 P1) ∧ w'.cell? ⟨bo, oo + j * 2 + 1, none⟩ = some (.int .i64 P2))) (by kernel_rfl) ⟨x0, x1, w0, w1, u0', u1'⟩ (fun hHeld => ?_)
                          refine wpAnyH_take (i := 1) (v := ?v1) rfl (by kernel_rfl) (by kernel_rfl) (by kernel_rfl) (fun _ _ _ h => h) (Or.inl ⟨by rfl, ?y1⟩) hHeld ?r1
                          case y1 =>
                            intro w hSw
                            (try dsimp only at hSw)
                            go_simp
                            try with_reducible rfl
                          try simp only [Act.put, List.getElem_toArray, List.getElem_cons_zero, List.getElem_cons_succ, List.setIfInBounds_toArray, List.set_cons_zero, List.set_cons_succ]
                          refine wpAnyH_take (i := 2) (v := ?v2) rfl (by kernel_rfl) (by kernel_rfl) (by kernel_rfl) (fun _ _ _ h => h) (Or.inl ⟨by rfl, ?y2⟩) hHeld ?r2
                          case y2 =>
                            intro w hSw
                            (try dsimp only at hSw)
                            go_simp
                            try with_reducible rfl
                          try simp only [Act.put, List.getElem_toArray, List.getElem_cons_zero, List.getElem_cons_succ, List.setIfInBounds_toArray, List.set_cons_zero, List.set_cons_succ]
                          refine wpAnyH_take (i := 3) (v := ?v3) rfl (by kernel_rfl) (by kernel_rfl) (by kernel_rfl) (fun _ _ _ h => h) (Or.inl ⟨by rfl, ?y3⟩) hHeld ?r3
                          case y3 =>
                            intro w hSw
                            (try dsimp only at hSw)
                            go_simp
                            try with_reducible rfl
                          try simp only [Act.put, List.getElem_toArray, List.getElem_cons_zero, List.getElem_cons_succ, List.setIfInBounds_toArray, List.set_cons_zero, List.set_cons_succ]
                          refine wpAnyH_take (i := 4) (v := ?v4) rfl (by kernel_rfl) (by kernel_rfl) (by kernel_rfl) (fun _ _ _ h => h) (Or.inl ⟨by rfl, ?y4⟩) hHeld ?r4
                          case y4 =>
                            intro w hSw
                            (try dsimp only at hSw)
                            go_simp
                            try with_reducible rfl
                          try simp only [Act.put, List.getElem_toArray, List.getElem_cons_zero, List.getElem_cons_succ, List.setIfInBounds_toArray, List.set_cons_zero, List.set_cons_succ]
                          refine wpAnyH_take (i := 5) (v := ?v5) rfl (by kernel_rfl) (by kernel_rfl) (by kernel_rfl) (fun _ _ _ h => h) (Or.inl ⟨by rfl, ?y5⟩) hHeld ?r5
                          case y5 =>
                            intro w hSw
                            (try dsimp only at hSw)
                            go_simp
                            try with_reducible rfl
                          try simp only [Act.put, List.getElem_toArray, List.getElem_cons_zero, List.getElem_cons_succ, List.setIfInBounds_toArray, List.set_cons_zero, List.set_cons_succ]
                          refine wpAnyH_take (i := 6) (v := ?v6) rfl (by kernel_rfl) (by kernel_rfl) (by kernel_rfl) (fun _ _ _ h => h) (Or.inl ⟨by rfl, ?y6⟩) hHeld ?r6
                          case y6 =>
                            intro w hSw
                            (try dsimp only at hSw)
                            go_simp
                            try with_reducible rfl
                          try simp only [Act.put, List.getElem_toArray, List.getElem_cons_zero, List.getElem_cons_succ, List.setIfInBounds_toArray, List.set_cons_zero, List.set_cons_succ]
                          refine wpAnyH_take (i := 9) (v := ?v9) rfl (by kernel_rfl) (by kernel_rfl) (by kernel_rfl) (fun _ _ _ h => h) (Or.inl ⟨by rfl, ?y9⟩) hHeld ?r9
                          case y9 =>
                            intro w hSw
                            (try dsimp only at hSw)
                            go_simp
                            try with_reducible rfl
                          try simp only [Act.put, List.getElem_toArray, List.getElem_cons_zero, List.getElem_cons_succ, List.setIfInBounds_toArray, List.set_cons_zero, List.set_cons_succ]
                          refine wpAnyH_take (i := 10) (v := ?v10) rfl (by kernel_rfl) (by kernel_rfl) (by kernel_rfl) (fun _ _ _ h => h) (Or.inl ⟨by rfl, ?y10⟩) hHeld ?r10
                          case y10 =>
                            intro w hSw
                            (try dsimp only at hSw)
                            go_simp
                            try with_reducible rfl
                          try simp only [Act.put, List.getElem_toArray, List.getElem_cons_zero, List.getElem_cons_succ, List.setIfInBounds_toArray, List.set_cons_zero, List.set_cons_succ]
                          refine wpAnyH_take (i := 11) (v := ?v11) rfl (by kernel_rfl) (by kernel_rfl) (by kernel_rfl) (fun _ _ _ h => h) (Or.inl ⟨by rfl, ?y11⟩) hHeld ?r11
                          case y11 =>
                            intro w hSw
                            (try dsimp only at hSw)
                            go_simp
                            try with_reducible rfl
                          try simp only [Act.put, List.getElem_toArray, List.getElem_cons_zero, List.getElem_cons_succ, List.setIfInBounds_toArray, List.set_cons_zero, List.set_cons_succ]
                          refine wpAnyH_take (i := 12) (v := ?v12) rfl (by kernel_rfl) (by kernel_rfl) (by kernel_rfl) (fun _ _ _ h => h) (Or.inl ⟨by rfl, ?y12⟩) hHeld ?r12
                          case y12 =>
                            intro w hSw
                            (try dsimp only at hSw)
                            go_simp
                            try with_reducible rfl
                          try simp only [Act.put, List.getElem_toArray, List.getElem_cons_zero, List.getElem_cons_succ, List.setIfInBounds_toArray, List.set_cons_zero, List.set_cons_succ]
                          refine wpAnyH_take (i := 13) (v := ?v13) rfl (by kernel_rfl) (by kernel_rfl) (by kernel_rfl) (fun _ _ _ h => h) (Or.inl ⟨by rfl, ?y13⟩) hHeld ?r13
                          case y13 =>
                            intro w hSw
                            (try dsimp only at hSw)
                            go_simp
                            try with_reducible rfl
                          try simp only [Act.put, List.getElem_toArray, List.getElem_cons_zero, List.getElem_cons_succ, List.setIfInBounds_toArray, List.set_cons_zero, List.set_cons_succ]
                          refine wpAnyH_take (i := 14) (v := ?v14) rfl (by kernel_rfl) (by kernel_rfl) (by kernel_rfl) (fun _ _ _ h => h) (Or.inl ⟨by rfl, ?y14⟩) hHeld ?r14
                          case y14 =>
                            intro w hSw
                            (try dsimp only at hSw)
                            go_simp
                            try with_reducible rfl
                          try simp only [Act.put, List.getElem_toArray, List.getElem_cons_zero, List.getElem_cons_succ, List.setIfInBounds_toArray, List.set_cons_zero, List.set_cons_succ]
                          clear m1 m2 m3 m4 m5 d0 hHeld
                          refine wpAnyH_ready (rs := [0, 8]) (by kernel_rfl) (by simp) ?_
                          refine AllReadyH.cons rfl (fun K hK => ?s1) ?m1
                          case s1 =>
                            try simp only [List.getElem_toArray, List.getElem_cons_zero, List.getElem_cons_succ]
                            go_simp
                            refine hK.out _ _ ⟨x0, x1, w0, w1, u0', u1'⟩ (fun _ => ?_)
                            clear hK K
                            try simp only [Act.put, List.getElem_toArray, List.getElem_cons_zero, List.getElem_cons_succ, List.setIfInBounds_toArray, List.set_cons_zero, List.set_cons_succ]
                            refine wpAnyH_ready (rs := [7, 8]) (by kernel_rfl) (by simp) ?_
                            refine AllReadyH.cons rfl (fun K hK => ?s2) ?m2
                            case s2 =>
                              try simp only [List.getElem_toArray, List.getElem_cons_zero, List.getElem_cons_succ]
                              go_simp
                              refine (CT1.out _ (HTB.out.below (by repeat (first | exact Kp.refl _ | with_reducible assumption | with_reducible refine Kp.set ?_ _ _ ?_ | (dsimp only; omega) | with_reducible refine Kp.drew ?_ | with_reducible refine Kp.drewN ?_ _ | with_reducible refine Kp.al ?_ _ | with_reducible refine Kp.trans ?_ (by with_reducible assumption))))).mono ?_
                              rintro e wx ⟨rfl, hkwx⟩
                              have KX : Kp wb wx := (by repeat (first | exact Kp.refl _ | with_reducible assumption | with_reducible refine Kp.set ?_ _ _ ?_ | (dsimp only; omega) | with_reducible refine Kp.drew ?_ | with_reducible refine Kp.drewN ?_ _ | with_reducible refine Kp.al ?_ _ | with_reducible refine Kp.trans ?_ (by with_reducible assumption)))
                              obtain ⟨wx0, wx1, wx2, wx3, wx4, wx5, wx6, wx7, wx8, wx9, wx10, wx11, wx12, wx13, wx14, wx15, wx16, wx17, wx18, wx19⟩ := r43 KX HB22.out HB23.out x0 x1 w0 w1 u0' u1'
                              go_wp2_with fail
                              refine hK.out _ _ ⟨wx12, wx13, wx14, wx15, wx16, wx17⟩ (fun _ => ?_)
                              clear hK K
                              try simp only [Act.put, List.getElem_toArray, List.getElem_cons_zero, List.getElem_cons_succ, List.setIfInBounds_toArray, List.set_cons_zero, List.set_cons_succ]
                              refine wpAnyH_ready (rs := [8]) (by kernel_rfl) (by simp) ?_
                              refine AllReadyH.cons rfl (fun K hK => ?s3) ?m3
                              case s3 =>
                                try simp only [List.getElem_toArray, List.getElem_cons_zero, List.getElem_cons_succ]
                                go_simp
                                refine hK.out _ _ ⟨wx12, wx13, wx14, wx15, wx16, wx17⟩ (fun _ => ?_)
                                clear hK K
                                try simp only [Act.put, List.getElem_toArray, List.getElem_cons_zero, List.getElem_cons_succ, List.setIfInBounds_toArray, List.set_cons_zero, List.set_cons_succ]
                                refine wpAnyH_ready (rs := [15]) (by kernel_rfl) (by simp) ?_
                                refine AllReadyH.cons rfl (fun K hK => ?s4) ?m4
                                case s4 =>
                                  try simp only [List.getElem_toArray, List.getElem_cons_zero, List.getElem_cons_succ]
                                  go_simp
                                  refine (CT2.out _ (HTB.out.below (by repeat (first | exact Kp.refl _ | with_reducible assumption | with_reducible refine Kp.set ?_ _ _ ?_ | (dsimp only; omega) | with_reducible refine Kp.drew ?_ | with_reducible refine Kp.drewN ?_ _ | with_reducible refine Kp.al ?_ _ | with_reducible refine Kp.trans ?_ (by with_reducible assumption))))).mono ?_
                                  rintro e wy ⟨rfl, hkwy⟩
                                  have KY : Kp wb wy := (by repeat (first | exact Kp.refl _ | with_reducible assumption | with_reducible refine Kp.set ?_ _ _ ?_ | (dsimp only; omega) | with_reducible refine Kp.drew ?_ | with_reducible refine Kp.drewN ?_ _ | with_reducible refine Kp.al ?_ _ | with_reducible refine Kp.trans ?_ (by with_reducible assumption)))
                                  obtain ⟨wy0, wy1, wy2, wy3, wy4, wy5, wy6, wy7, wy8, wy9, wy10, wy11, wy12, wy13, wy14, wy15, wy16, wy17, wy18, wy19⟩ := r43 KY HB22.out HB23.out x0 x1 w0 w1 u0' u1'
                                  go_wp2_with fail
                                  refine hK.out _ _ ⟨wy12, wy13, wy14, wy15, wy16, wy17⟩ (fun _ => ?_)
                                  clear hK K
                                  try simp only [Act.put, List.getElem_toArray, List.getElem_cons_zero, List.getElem_cons_succ, List.setIfInBounds_toArray, List.set_cons_zero, List.set_cons_succ]
                                  refine wpAnyH_ready (rs := [16]) (by kernel_rfl) (by simp) ?_
                                  refine AllReadyH.cons rfl (fun K hK => ?s5) ?m5
                                  case s5 =>
                                    try simp only [List.getElem_toArray, List.getElem_cons_zero, List.getElem_cons_succ]
                                    go_simp
                                    refine hK.out _ _ ⟨cell3 wy12 (by omega) _ _ _, cell3 wy13 (by omega) _ _ _, cell3 wy14 (by omega) _ _ _, cell3 wy15 (by omega) _ _ _, cell3 wy16 (by omega) _ _ _, cell3 wy17 (by omega) _ _ _⟩ (fun _ => ?_)
                                    clear hK K
                                    try simp only [Act.put, List.getElem_toArray, List.getElem_cons_zero, List.getElem_cons_succ, List.setIfInBounds_toArray, List.set_cons_zero, List.set_cons_succ]
                                    refine wpAnyH_ready (rs := [17]) (by kernel_rfl) (by simp) ?_
                                    refine AllReadyH.cons rfl (fun K hK => ?s6) ?m6
                                    case s6 =>
                                      try simp only [List.getElem_toArray, List.getElem_cons_zero, List.getElem_cons_succ]
                                      go_simp
                                      refine hK.out _ _ ⟨cell6 wy12 (by omega) (by omega) _ _ _ _ _ _, cell6 wy13 (by omega) (by omega) _ _ _ _ _ _, cell6 wy14 (by omega) (by omega) _ _ _ _ _ _, cell6 wy15 (by omega) (by omega) _ _ _ _ _ _, cell6 wy16 (by omega) (by omega) _ _ _ _ _ _, cell6 wy17 (by omega) (by omega) _ _ _ _ _ _⟩ (fun _ => ?_)
                                      clear hK K
                                      try simp only [Act.put, List.getElem_toArray, List.getElem_cons_zero, List.getElem_cons_succ, List.setIfInBounds_toArray, List.set_cons_zero, List.set_cons_succ]
                                      refine wpAnyH_done (by kernel_rfl) ?_ _
                                      go_wp2_with fail
                                      go_meet
                                      rw [HFS.out, HFC.out]
                                      have G1 := HB22.out.kp KY
                                      have G2 := HB23.out.kp KY
                                      exact ⟨rfl, fin43a G1 hbne _ _ _ _ _ _, fin43b G2 hbne _ _ _ _ _ _, by repeat (first | exact Kp.refl _ | with_reducible assumption | with_reducible refine Kp.set ?_ _ _ ?_ | (dsimp only; omega) | with_reducible refine Kp.drew ?_ | with_reducible refine Kp.drewN ?_ _ | with_reducible refine Kp.al ?_ _ | with_reducible refine Kp.trans ?_ (by with_reducible assumption)), cell6 wy12 (by omega) (by omega) _ _ _ _ _ _, cell6 wy13 (by omega) (by omega) _ _ _ _ _ _, ow43 ⟨wy14, by rw [KY.cells.2 _ _ wl]; exact w2⟩ (by omega) (by omega) _ _ _ _ _ _, ow43 ⟨wy15, by rw [KY.cells.2 _ _ wl]; exact w3⟩ (by omega) (by omega) _ _ _ _ _ _⟩
                                    exact AllReadyH.nil
                                  exact AllReadyH.nil
                                exact AllReadyH.nil
                              exact AllReadyH.nil
                            refine AllReadyH.cons rfl (fun K hK => ?s7) ?m7
                            case s7 =>
                              try simp only [List.getElem_toArray, List.getElem_cons_zero, List.getElem_cons_succ]
                              go_simp
                              refine hK.out _ _ ⟨x0, x1, w0, w1, u0', u1'⟩ (fun _ => ?_)
                              clear hK K
                              try simp only [Act.put, List.getElem_toArray, List.getElem_cons_zero, List.getElem_cons_succ, List.setIfInBounds_toArray, List.set_cons_zero, List.set_cons_succ]
                              refine wpAnyH_ready (rs := [7]) (by kernel_rfl) (by simp) ?_
                              refine AllReadyH.cons rfl (fun K hK => ?s8) ?m8
                              case s8 =>
                                try simp only [List.getElem_toArray, List.getElem_cons_zero, List.getElem_cons_succ]
                                go_simp
                                refine (CT1.out _ (HTB.out.below (by repeat (first | exact Kp.refl _ | with_reducible assumption | with_reducible refine Kp.set ?_ _ _ ?_ | (dsimp only; omega) | with_reducible refine Kp.drew ?_ | with_reducible refine Kp.drewN ?_ _ | with_reducible refine Kp.al ?_ _ | with_reducible refine Kp.trans ?_ (by with_reducible assumption))))).mono ?_
                                rintro e wx ⟨rfl, hkwx⟩
                                have KX : Kp wb wx := (by repeat (first | exact Kp.refl _ | with_reducible assumption | with_reducible refine Kp.set ?_ _ _ ?_ | (dsimp only; omega) | with_reducible refine Kp.drew ?_ | with_reducible refine Kp.drewN ?_ _ | with_reducible refine Kp.al ?_ _ | with_reducible refine Kp.trans ?_ (by with_reducible assumption)))
                                obtain ⟨wx0, wx1, wx2, wx3, wx4, wx5, wx6, wx7, wx8, wx9, wx10, wx11, wx12, wx13, wx14, wx15, wx16, wx17, wx18, wx19⟩ := r43 KX HB22.out HB23.out x0 x1 w0 w1 u0' u1'
                                go_wp2_with fail
                                refine hK.out _ _ ⟨wx12, wx13, wx14, wx15, wx16, wx17⟩ (fun _ => ?_)
                                clear hK K
                                try simp only [Act.put, List.getElem_toArray, List.getElem_cons_zero, List.getElem_cons_succ, List.setIfInBounds_toArray, List.set_cons_zero, List.set_cons_succ]
                                refine wpAnyH_ready (rs := [15]) (by kernel_rfl) (by simp) ?_
                                refine AllReadyH.cons rfl (fun K hK => ?s9) ?m9
                                case s9 =>
                                  try simp only [List.getElem_toArray, List.getElem_cons_zero, List.getElem_cons_succ]
                                  go_simp
                                  refine (CT2.out _ (HTB.out.below (by repeat (first | exact Kp.refl _ | with_reducible assumption | with_reducible refine Kp.set ?_ _ _ ?_ | (dsimp only; omega) | with_reducible refine Kp.drew ?_ | with_reducible refine Kp.drewN ?_ _ | with_reducible refine Kp.al ?_ _ | with_reducible refine Kp.trans ?_ (by with_reducible assumption))))).mono ?_
                                  rintro e wy ⟨rfl, hkwy⟩
                                  have KY : Kp wb wy := (by repeat (first | exact Kp.refl _ | with_reducible assumption | with_reducible refine Kp.set ?_ _ _ ?_ | (dsimp only; omega) | with_reducible refine Kp.drew ?_ | with_reducible refine Kp.drewN ?_ _ | with_reducible refine Kp.al ?_ _ | with_reducible refine Kp.trans ?_ (by with_reducible assumption)))
                                  obtain ⟨wy0, wy1, wy2, wy3, wy4, wy5, wy6, wy7, wy8, wy9, wy10, wy11, wy12, wy13, wy14, wy15, wy16, wy17, wy18, wy19⟩ := r43 KY HB22.out HB23.out x0 x1 w0 w1 u0' u1'
                                  go_wp2_with fail
                                  refine hK.out _ _ ⟨wy12, wy13, wy14, wy15, wy16, wy17⟩ (fun _ => ?_)
                                  clear hK K
                                  try simp only [Act.put, List.getElem_toArray, List.getElem_cons_zero, List.getElem_cons_succ, List.setIfInBounds_toArray, List.set_cons_zero, List.set_cons_succ]
                                  refine wpAnyH_ready (rs := [16]) (by kernel_rfl) (by simp) ?_
                                  refine AllReadyH.cons rfl (fun K hK => ?s10) ?m10
                                  case s10 =>
                                    try simp only [List.getElem_toArray, List.getElem_cons_zero, List.getElem_cons_succ]
                                    go_simp
                                    refine hK.out _ _ ⟨cell3 wy12 (by omega) _ _ _, cell3 wy13 (by omega) _ _ _, cell3 wy14 (by omega) _ _ _, cell3 wy15 (by omega) _ _ _, cell3 wy16 (by omega) _ _ _, cell3 wy17 (by omega) _ _ _⟩ (fun _ => ?_)
                                    clear hK K
                                    try simp only [Act.put, List.getElem_toArray, List.getElem_cons_zero, List.getElem_cons_succ, List.setIfInBounds_toArray, List.set_cons_zero, List.set_cons_succ]
                                    refine wpAnyH_ready (rs := [17]) (by kernel_rfl) (by simp) ?_
                                    refine AllReadyH.cons rfl (fun K hK => ?s11) ?m11
                                    case s11 =>
                                      try simp only [List.getElem_toArray, List.getElem_cons_zero, List.getElem_cons_succ]
                                      go_simp
                                      refine hK.out _ _ ⟨cell6 wy12 (by omega) (by omega) _ _ _ _ _ _, cell6 wy13 (by omega) (by omega) _ _ _ _ _ _, cell6 wy14 (by omega) (by omega) _ _ _ _ _ _, cell6 wy15 (by omega) (by omega) _ _ _ _ _ _, cell6 wy16 (by omega) (by omega) _ _ _ _ _ _, cell6 wy17 (by omega) (by omega) _ _ _ _ _ _⟩ (fun _ => ?_)
                                      clear hK K
                                      try simp only [Act.put, List.getElem_toArray, List.getElem_cons_zero, List.getElem_cons_succ, List.setIfInBounds_toArray, List.set_cons_zero, List.set_cons_succ]
                                      refine wpAnyH_done (by kernel_rfl) ?_ _
                                      go_wp2_with fail
                                      go_meet
                                      rw [HFS.out, HFC.out]
                                      have G1 := HB22.out.kp KY
                                      have G2 := HB23.out.kp KY
                                      exact ⟨rfl, fin43a G1 hbne _ _ _ _ _ _, fin43b G2 hbne _ _ _ _ _ _, by repeat (first | exact Kp.refl _ | with_reducible assumption | with_reducible refine Kp.set ?_ _ _ ?_ | (dsimp only; omega) | with_reducible refine Kp.drew ?_ | with_reducible refine Kp.drewN ?_ _ | with_reducible refine Kp.al ?_ _ | with_reducible refine Kp.trans ?_ (by with_reducible assumption)), cell6 wy12 (by omega) (by omega) _ _ _ _ _ _, cell6 wy13 (by omega) (by omega) _ _ _ _ _ _, ow43 ⟨wy14, by rw [KY.cells.2 _ _ wl]; exact w2⟩ (by omega) (by omega) _ _ _ _ _ _, ow43 ⟨wy15, by rw [KY.cells.2 _ _ wl]; exact w3⟩ (by omega) (by omega) _ _ _ _ _ _⟩
                                    exact AllReadyH.nil
                                  exact AllReadyH.nil
                                exact AllReadyH.nil
                              exact AllReadyH.nil
                            exact AllReadyH.nil
                          refine AllReadyH.cons rfl (fun K hK => ?s12) ?m12
                          case s12 =>
                            try simp only [List.getElem_toArray, List.getElem_cons_zero, List.getElem_cons_succ]
                            go_simp
                            refine hK.out _ _ ⟨x0, x1, w0, w1, u0', u1'⟩ (fun _ => ?_)
                            clear hK K
                            try simp only [Act.put, List.getElem_toArray, List.getElem_cons_zero, List.getElem_cons_succ, List.setIfInBounds_toArray, List.set_cons_zero, List.set_cons_succ]
                            refine wpAnyH_ready (rs := [0]) (by kernel_rfl) (by simp) ?_
                            refine AllReadyH.cons rfl (fun K hK => ?s13) ?m13
                            case s13 =>
                              try simp only [List.getElem_toArray, List.getElem_cons_zero, List.getElem_cons_succ]
                              go_simp
                              refine hK.out _ _ ⟨x0, x1, w0, w1, u0', u1'⟩ (fun _ => ?_)
                              clear hK K
                              try simp only [Act.put, List.getElem_toArray, List.getElem_cons_zero, List.getElem_cons_succ, List.setIfInBounds_toArray, List.set_cons_zero, List.set_cons_succ]
                              refine wpAnyH_ready (rs := [7]) (by kernel_rfl) (by simp) ?_
                              refine AllReadyH.cons rfl (fun K hK => ?s14) ?m14
                              case s14 =>
                                try simp only [List.getElem_toArray, List.getElem_cons_zero, List.getElem_cons_succ]
                                go_simp
                                refine (CT1.out _ (HTB.out.below (by repeat (first | exact Kp.refl _ | with_reducible assumption | with_reducible refine Kp.set ?_ _ _ ?_ | (dsimp only; omega) | with_reducible refine Kp.drew ?_ | with_reducible refine Kp.drewN ?_ _ | with_reducible refine Kp.al ?_ _ | with_reducible refine Kp.trans ?_ (by with_reducible assumption))))).mono ?_
                                rintro e wx ⟨rfl, hkwx⟩
                                have KX : Kp wb wx := (by repeat (first | exact Kp.refl _ | with_reducible assumption | with_reducible refine Kp.set ?_ _ _ ?_ | (dsimp only; omega) | with_reducible refine Kp.drew ?_ | with_reducible refine Kp.drewN ?_ _ | with_reducible refine Kp.al ?_ _ | with_reducible refine Kp.trans ?_ (by with_reducible assumption)))
                                obtain ⟨wx0, wx1, wx2, wx3, wx4, wx5, wx6, wx7, wx8, wx9, wx10, wx11, wx12, wx13, wx14, wx15, wx16, wx17, wx18, wx19⟩ := r43 KX HB22.out HB23.out x0 x1 w0 w1 u0' u1'
                                go_wp2_with fail
                                refine hK.out _ _ ⟨wx12, wx13, wx14, wx15, wx16, wx17⟩ (fun _ => ?_)
                                clear hK K
                                try simp only [Act.put, List.getElem_toArray, List.getElem_cons_zero, List.getElem_cons_succ, List.setIfInBounds_toArray, List.set_cons_zero, List.set_cons_succ]
                                refine wpAnyH_ready (rs := [15]) (by kernel_rfl) (by simp) ?_
                                refine AllReadyH.cons rfl (fun K hK => ?s15) ?m15
                                case s15 =>
                                  try simp only [List.getElem_toArray, List.getElem_cons_zero, List.getElem_cons_succ]
                                  go_simp
                                  refine (CT2.out _ (HTB.out.below (by repeat (first | exact Kp.refl _ | with_reducible assumption | with_reducible refine Kp.set ?_ _ _ ?_ | (dsimp only; omega) | with_reducible refine Kp.drew ?_ | with_reducible refine Kp.drewN ?_ _ | with_reducible refine Kp.al ?_ _ | with_reducible refine Kp.trans ?_ (by with_reducible assumption))))).mono ?_
                                  rintro e wy ⟨rfl, hkwy⟩
                                  have KY : Kp wb wy := (by repeat (first | exact Kp.refl _ | with_reducible assumption | with_reducible refine Kp.set ?_ _ _ ?_ | (dsimp only; omega) | with_reducible refine Kp.drew ?_ | with_reducible refine Kp.drewN ?_ _ | with_reducible refine Kp.al ?_ _ | with_reducible refine Kp.trans ?_ (by with_reducible assumption)))
                                  obtain ⟨wy0, wy1, wy2, wy3, wy4, wy5, wy6, wy7, wy8, wy9, wy10, wy11, wy12, wy13, wy14, wy15, wy16, wy17, wy18, wy19⟩ := r43 KY HB22.out HB23.out x0 x1 w0 w1 u0' u1'
                                  go_wp2_with fail
                                  refine hK.out _ _ ⟨wy12, wy13, wy14, wy15, wy16, wy17⟩ (fun _ => ?_)
                                  clear hK K
                                  try simp only [Act.put, List.getElem_toArray, List.getElem_cons_zero, List.getElem_cons_succ, List.setIfInBounds_toArray, List.set_cons_zero, List.set_cons_succ]
                                  refine wpAnyH_ready (rs := [16]) (by kernel_rfl) (by simp) ?_
                                  refine AllReadyH.cons rfl (fun K hK => ?s16) ?m16
                                  case s16 =>
                                    try simp only [List.getElem_toArray, List.getElem_cons_zero, List.getElem_cons_succ]
                                    go_simp
                                    refine hK.out _ _ ⟨cell3 wy12 (by omega) _ _ _, cell3 wy13 (by omega) _ _ _, cell3 wy14 (by omega) _ _ _, cell3 wy15 (by omega) _ _ _, cell3 wy16 (by omega) _ _ _, cell3 wy17 (by omega) _ _ _⟩ (fun _ => ?_)
                                    clear hK K
                                    try simp only [Act.put, List.getElem_toArray, List.getElem_cons_zero, List.getElem_cons_succ, List.setIfInBounds_toArray, List.set_cons_zero, List.set_cons_succ]
                                    refine wpAnyH_ready (rs := [17]) (by kernel_rfl) (by simp) ?_
                                    refine AllReadyH.cons rfl (fun K hK => ?s17) ?m17
                                    case s17 =>
                                      try simp only [List.getElem_toArray, List.getElem_cons_zero, List.getElem_cons_succ]
                                      go_simp
                                      refine hK.out _ _ ⟨cell6 wy12 (by omega) (by omega) _ _ _ _ _ _, cell6 wy13 (by omega) (by omega) _ _ _ _ _ _, cell6 wy14 (by omega) (by omega) _ _ _ _ _ _, cell6 wy15 (by omega) (by omega) _ _ _ _ _ _, cell6 wy16 (by omega) (by omega) _ _ _ _ _ _, cell6 wy17 (by omega) (by omega) _ _ _ _ _ _⟩ (fun _ => ?_)
                                      clear hK K
                                      try simp only [Act.put, List.getElem_toArray, List.getElem_cons_zero, List.getElem_cons_succ, List.setIfInBounds_toArray, List.set_cons_zero, List.set_cons_succ]
                                      refine wpAnyH_done (by kernel_rfl) ?_ _
                                      go_wp2_with fail
                                      go_meet
                                      rw [HFS.out, HFC.out]
                                      have G1 := HB22.out.kp KY
                                      have G2 := HB23.out.kp KY
                                      exact ⟨rfl, fin43a G1 hbne _ _ _ _ _ _, fin43b G2 hbne _ _ _ _ _ _, by repeat (first | exact Kp.refl _ | with_reducible assumption | with_reducible refine Kp.set ?_ _ _ ?_ | (dsimp only; omega) | with_reducible refine Kp.drew ?_ | with_reducible refine Kp.drewN ?_ _ | with_reducible refine Kp.al ?_ _ | with_reducible refine Kp.trans ?_ (by with_reducible assumption)), cell6 wy12 (by omega) (by omega) _ _ _ _ _ _, cell6 wy13 (by omega) (by omega) _ _ _ _ _ _, ow43 ⟨wy14, by rw [KY.cells.2 _ _ wl]; exact w2⟩ (by omega) (by omega) _ _ _ _ _ _, ow43 ⟨wy15, by rw [KY.cells.2 _ _ wl]; exact w3⟩ (by omega) (by omega) _ _ _ _ _ _⟩
                                    exact AllReadyH.nil
                                  exact AllReadyH.nil
                                exact AllReadyH.nil
                              exact AllReadyH.nil
                            exact AllReadyH.nil
                          exact AllReadyH.nil
                      case rest =>
                        obtain ⟨rfl, B22, B23, KZ, x0, x1, O0, O1⟩ := hcut
                        obtain ⟨p0, p2⟩ := O0
                        obtain ⟨p1, p3⟩ := O1
                        have HSC : Hid (C = ((hc : Int), yc) ∧ S = ((hs : Int), ys)) := ⟨EC.out, ES.out⟩
                        have eSt : pckAt f Ts q = ((hc : Int), yc) := by rw [← HC.out, EC.out]
                        have hlx := lessC_lx (f S) (f C)
                        obtain ⟨F1, eF1⟩ : ∃ F1, F1 = (f S).1 := ⟨_, rfl⟩
                        obtain ⟨F2, eF2⟩ : ∃ F2, F2 = (f S).2 := ⟨_, rfl⟩
                        obtain ⟨F3, eF3⟩ : ∃ F3, F3 = (f C).1 := ⟨_, rfl⟩
                        obtain ⟨F4, eF4⟩ : ∃ F4, F4 = (f C).2 := ⟨_, rfl⟩
                        rw [← eF1, ← eF2] at B22 hlx
                        rw [← eF3, ← eF4] at B23 hlx
                        have q0 : wc.cell? ⟨b22, 0, none⟩ = some (.int .i64 F1) := B22.cell 0
                        have q1 : wc.cell? ⟨b22, 1, none⟩ = some (.int .i64 F2) := B22.cell 1
                        have q2 : wc.cell? ⟨b22, 2, none⟩ = some (.bool true) := B22.cell 2
                        have r0 : wc.cell? ⟨b23, 0, none⟩ = some (.int .i64 F3) := B23.cell 0
                        have r1 : wc.cell? ⟨b23, 1, none⟩ = some (.int .i64 F4) := B23.cell 1
                        have r2 : wc.cell? ⟨b23, 2, none⟩ = some (.bool true) := B23.cell 2
                        clear eF1 eF2 eF3 eF4 B22 B23
                        by_cases hq0 : q = 0
                        · have d0 : decide (0 < (q : Int)) = false := by simp; omega
                          have d0n : decide (0 < q) = false := by simp; omega
                          have d0h : ¬ 0 < q := by omega
                          have hnx : pckAt f Ts (q + 1) = ((hc : Int), yc) := by rw [← eSt, hq0]; rfl
                          have HNX := Lib.hid hnx
                          clear hq0 hnx hlx eSt
                          go_wp2_with fail
                          go_roundw
                          case rel => exact ⟨q + 1, by omega, by go_num, KZ, by rw [HNX.out]; exact p0, by rw [HNX.out]; exact p1, p2, p3⟩
                          case measure => simp [intOf]; omega
                        · have d0 : decide (0 < (q : Int)) = true := by simp; omega
                          have d0h : 0 < q := by omega
                          have hnx := pckAt_succ f Ts q (by omega) hqw
                          rw [← HC.out, ← HS.out] at hnx
                          have cl := fun w => less_any F1 F2 true F3 F4 true w
                          rw [hlx] at cl
                          cases hb : lx (f S) (f C) with
                          | true =>
                            rw [hb] at cl
                            have hn2 : pckAt f Ts (q + 1) = ((hs : Int), ys) := by rw [hnx]; unfold pstep; rw [if_pos hb, ES.out]
                            have HNX := Lib.hid hn2
                            have CL := Lib.hid cl
                            clear hq0 hnx hn2 cl hlx hb eSt
                            go_wp2_with fail
                            refine (CL.out _).mono ?_
                            rintro e wd ⟨rfl, hkd⟩
                            have s0 := hkd.get x0
                            have s1 := hkd.get x1
                            have s2 := hkd.get p0
                            have s3 := hkd.get p1
                            have s4 := hkd.free p0 p2
                            have s5 := hkd.free p1 p3
                            have KD := KZ.trans hkd
                            have n1 : ¬ vc = va := by omega
                            have n2 : ¬ va = vc := by omega
                            clear hkd x0 x1 p0 p1 p2 p3 q0 q1 q2 r0 r1 r2
                            go_wp2_with fail
                            go_roundw
                            case rel => exact ⟨q + 1, by omega, by go_num, by repeat (first | exact Kp.refl _ | with_reducible assumption | with_reducible refine Kp.set ?_ _ _ ?_ | (dsimp only; omega) | with_reducible refine Kp.drew ?_ | with_reducible refine Kp.drewN ?_ _ | with_reducible refine Kp.al ?_ _ | with_reducible refine Kp.trans ?_ (by with_reducible assumption)), by rw [HNX.out]; simp [go_sem, s2], by rw [HNX.out]; simp [go_sem, s3], by simp [go_sem, s4], by simp [go_sem, s5]⟩
                            case measure => simp [intOf]; omega
                          | false =>
                            rw [hb] at cl
                            have hn2 : pckAt f Ts (q + 1) = ((hc : Int), yc) := by rw [hnx]; unfold pstep; rw [if_neg (by rw [hb]; decide), EC.out]
                            have HNX := Lib.hid hn2
                            have CL := Lib.hid cl
                            clear hq0 hnx hn2 cl hlx hb eSt
                            go_wp2_with fail
                            refine (CL.out _).mono ?_
                            rintro e wd ⟨rfl, hkd⟩
                            have s2 := hkd.get p0
                            have s3 := hkd.get p1
                            have s4 := hkd.free p0 p2
                            have s5 := hkd.free p1 p3
                            have KD := KZ.trans hkd
                            clear hkd x0 x1 p0 p1 p2 p3 q0 q1 q2 r0 r1 r2
                            go_wp2_with fail
                            go_roundw
                            case rel => exact ⟨q + 1, by omega, by go_num, by repeat (first | exact Kp.refl _ | with_reducible assumption | with_reducible refine Kp.set ?_ _ _ ?_ | (dsimp only; omega) | with_reducible refine Kp.drew ?_ | with_reducible refine Kp.drewN ?_ _ | with_reducible refine Kp.al ?_ _ | with_reducible refine Kp.trans ?_ (by with_reducible assumption)), by rw [HNX.out]; exact s2, by rw [HNX.out]; exact s3, s4, s5⟩
                            case measure => simp [intOf]; omega
                  · have hd2 : decide ((q : Int) < (len : Int)) = false := by simp; omega
                    obtain rfl : q = len := by omega
                    have hC : pckAt f Ts q = syAt (sol none ws) i := by
                      rw [pckAt_all f Ts q (by have := EL.out; omega), sol_at none ws i hiw, ← EF.out, ETS.out]
                    rw [hC] at p0 p1
                    have htk : flatS ((sol none ws).take (i + 1)) = flatS ((sol none ws).take i) ++ [.int .i64 (syAt (sol none ws) i).1, .int .i64 (syAt (sol none ws) i).2] := by
                      have hsl : i < (sol none ws).length := by have := HSL.out; omega
                      rw [List.take_succ_eq_append_getElem hsl, flatS_app]
                      simp [flatS, syAt, List.getD, hsl]
                    obtain ⟨x1, ex1⟩ : ∃ x1, x1 = (syAt (sol none ws) i).1 := ⟨_, rfl⟩
                    obtain ⟨x2, ex2⟩ : ∃ x2, x2 = (syAt (sol none ws) i).2 := ⟨_, rfl⟩
                    rw [← ex1] at p0 htk
                    rw [← ex2] at p1 htk
                    have HTK := Lib.hid htk
                    have HOr := Lib.hid (ow_kp HO.out hKq)
                    have HKf := Lib.hid (HKI.out.trans hKq)
                    have hfl := HKf.out.low
                    clear hC htk ex1 ex2 e0 e1 qa
                    obtain ⟨i0, hi0, hz0, hz1, hz2⟩ := info_parts syl_info
                    have HI := Lib.hid hi0; have HZ0 := Lib.hid hz0; have HZ1 := Lib.hid hz1; have HZ2 := Lib.hid hz2
                    clear hi0 hz0 hz1 hz2
                    go_wp2_with (at_builtin; refine wpList_append_own _ rfl (.tmp 188) (.tmp 190) 27 rfl wf.heap.size 34 i0 (.agg #[.int .i64 0, .int .i64 0]) 2 16 Tryd.underlying27 HI.out HZ0.out HZ1.out HZ2.out rfl (by decide) _ i (flatS ((sol none ws).take i)) rfl ?own ⟨wr.heap.size, 0, none⟩ 1 1 [.int .i64 x1, .int .i64 x2] rfl rfl ?c1 ?c2 ?c3 ?c4 ?c5 ?_)
                    case own => exact HOr.out.alloc _
                    case c1 => exact cell2_new _ _ _ _
                    case c2 => simp [Value.oneCell']
                    case c3 => simp only [maxLen]; omega
                    case c4 => omega
                    case c5 => simp; omega
                    intro v' w2 hown' hgrow _
                    have hk2 := Lib.hid (ow_app HKf.out HOr.out ((Kp.refl wr).al _) hgrow)
                    rw [← HTK.out] at hown'
                    obtain ⟨g, cap, rfl⟩ := ownsRow_succ hown'
                    have HO2 := Lib.hid hown'
                    clear hgrow hown'
                    go_wp2_with fail
                    go_roundw
                    case rel => exact ⟨i + 1, by omega, by go_num, HO2.out, hk2.out⟩
                    case measure => simp [intOf]; omega
              · have hd : decide ((i : Int) < (k : Int)) = false := by simp; omega
                obtain rfl : i = k := by omega
                have hsl : (sol none ws).length = i := by have := HSL.out; have := HWL.out; omega
                have hw0 : 0 < ws.length := by have := HWL.out; omega
                have hmem := sol_mem HA.out hw0 none
                obtain ⟨h, h8, eh, cB⟩ := cost_at HR.out HA.out hw0 hmem
                have hsy := sys_of_own HO.out
                rw [List.take_of_length_le (by omega)] at hsy
                obtain ⟨b, off, rfl, e0, e1⟩ := hsy.2 0 (by omega)
                rw [Nat.zero_mul, Nat.add_zero] at e0
                rw [eh] at e0
                obtain ⟨c0, _⟩ := (HB.out.kp hKi).cell 0 h (by omega) h8
                rw [cB] at c0
                rw [Nat.zero_mul, Nat.zero_add] at c0
                dsimp only at c0
                have hmu : (rst (ws.drop (0 + 1)) (syAt (sol none ws) 0)).1 = muts ws := by
                  rw [sol_at none ws 0 hw0]
                  have hd0 := drop_cons ws 0 hw0
                  rw [List.drop_zero] at hd0
                  conv => rhs; rw [hd0]
                  rfl
                rw [hmu] at c0
                obtain ⟨M, eM⟩ : ∃ M, M = muts ws := ⟨_, rfl⟩
                rw [← eM] at c0
                have HSY := Lib.hid hsy; have EM := Lib.hid eM
                have k0 : (0 : Int) < (i : Int) := by omega
                have k1 : (0 : Int) ≤ (h : Int) := by omega
                have k2 : (h : Int) < 8 := by omega
                have bl := cell_lt e0
                have cl := cell_lt c0
                have KI := Lib.hid ((hK.trans hKr).trans hKi)
                clear hmu hsl hw0 hmem eh cB hsy e1 eM
                go_wp2_with fail
                go_quiet (fail)
                go_wp2_with fail
                go_ret3
                rw [← EM.out]
                exact ⟨⟨_, _, rfl, HSY.out.kp (by repeat (first | exact Kp.refl _ | with_reducible assumption | with_reducible refine Kp.set ?_ _ _ ?_ | (dsimp only; omega) | with_reducible refine Kp.drew ?_ | with_reducible refine Kp.drewN ?_ _ | with_reducible refine Kp.al ?_ _ | with_reducible refine Kp.trans ?_ (by with_reducible assumption)))⟩, KI.out.trans (by repeat (first | exact Kp.refl _ | with_reducible assumption | with_reducible refine Kp.set ?_ _ _ ?_ | (dsimp only; omega) | with_reducible refine Kp.drew ?_ | with_reducible refine Kp.drewN ?_ _ | with_reducible refine Kp.al ?_ _ | with_reducible refine Kp.trans ?_ (by with_reducible assumption)))⟩
          · obtain ⟨i, ei⟩ : ∃ i : Nat, (m : Int) - 1 = i := ⟨m - 1, by omega⟩
            have hik : i < k := by omega
            have hiw : i < ws.length := by have := HWL.out; omega
            obtain rfl : m = i + 1 := by omega
            rw [ei]
            clear ei
            have hP0 := Pst.first HA.out hiw hR (fun j hj => hL j (by omega))
            obtain ⟨Ai, ci, qa0, hsy⟩ := HAll.out.at_ i hik
            have qa := hKr.get qa0
            have HP0 := Lib.hid hP0
            have HSY := Lib.hid hsy
            have HB0 := Lib.hid hB
            obtain ⟨len, elen⟩ : ∃ len, len = (lsAt ws i).length := ⟨_, rfl⟩
            rw [← elen] at qa HSY
            have EL := Lib.hid elen
            have hlen : len ≤ 7 := by rw [elen, HLS.out i hik]; exact wysTo_len _ _
            clear hP0 hsy hB hR hL elen hm hm0 qa0
            go_wp2_with fail
            obtain ⟨wi, ewi⟩ : ∃ wi : World, wi = wr := ⟨_, rfl⟩
            subst ewi
            go_loopw [71] (fun v wr => ∃ (q : Nat) (B : Nat → Nat → Co), q ≤ len ∧ v = .int .i64 (q : Int) ∧ BestB wr wq.heap.size k B ∧ Pst ws i q none B ∧ Kp wq wr) (fun v _ => len - (intOf v).toNat)
            case atStart => exact ⟨0, _, by omega, rfl, HB0.out, HP0.out, hKr⟩
            case round =>
              clear HB0 HP0
              obtain ⟨q, B, hq, rfl, hB, hP, hKr2⟩ := hrel
              have HBr := Lib.hid hB; have HPr := Lib.hid hP
              clear hB hP qa
              by_cases hqlt : q < len
              · have hd2 : decide ((q : Int) < (len : Int)) = true := by simp; omega
                have hqw : q < (lsAt ws i).length := by have := EL.out; omega
                obtain ⟨b, off, rfl, e0, e1⟩ := (HSY.out.kp hKr2).2 q hqlt
                have hvs := ((HA.out i hiw).2 q hqw).1
                have hcast := hx_cast HA.out hiw hqw
                have h8 := hx_lt HA.out hiw hqw
                obtain ⟨h, eh⟩ : ∃ h, h = hx ws i q := ⟨_, rfl⟩
                rw [← eh] at hcast h8
                obtain ⟨y, ey⟩ : ∃ y, y = (syAt (lsAt ws i) q).2 := ⟨_, rfl⟩
                have esy : syAt (lsAt ws i) q = ((h : Int), y) := Prod.ext hcast ey.symm
                rw [hcast] at e0 hvs
                rw [← ey] at e1 hvs
                have EH := Lib.hid eh; have ESY := Lib.hid esy; have HVS := Lib.hid hvs
                have j1 : (0 : Int) ≤ (h : Int) := by omega
                have j2 : (h : Int) < 8 := by omega
                have j3 : (0 : Int) ≤ (i : Int) := by omega
                have j4 : (i : Int) < (k : Int) := by omega
                clear hcast eh ey esy hvs
                have hkl := hKr2.low
                obtain ⟨g0, g1, g2, g3, g4, g5⟩ := HBr.out.cell i h hik h8
                have gl := cell_lt g0
                by_cases hlast : i + 1 = k
                · have hd3 : ((i : Int) == (k : Int) - 1) = true := by simp; omega
                  go_wp2_with fail
                  go_region
                  all_goals
                    go_wp2_with fail
                    go_roundw
                    case rel =>
                      have hz : rst (ws.drop (i + 1)) (syAt (lsAt ws i) q) = (0, 0) := by
                        rw [List.drop_eq_nil_of_le (by have := HWL.out; omega)]; rfl
                      have hp := HPr.out.put HA.out hiw hqw (some (rst (ws.drop (i + 1)) (syAt (lsAt ws i) q)))
                      have hb := HBr.out.put i h hik h8 (cEnc (some (rst (ws.drop (i + 1)) (syAt (lsAt ws i) q))))
                      rw [← EH.out] at hp
                      rw [hz] at hb
                      refine ⟨q + 1, _, by omega, by go_num, ?_, hp.next, by repeat (first | exact Kp.refl _ | with_reducible assumption | with_reducible refine Kp.set ?_ _ _ ?_ | (dsimp only; omega) | with_reducible refine Kp.drew ?_ | with_reducible refine Kp.drewN ?_ _ | with_reducible refine Kp.al ?_ _ | with_reducible refine Kp.trans ?_ (by with_reducible assumption))⟩
                      rw [hz]
                      exact hb.kp (by repeat (first | exact Kp.refl _ | with_reducible assumption | with_reducible refine Kp.set ?_ _ _ ?_ | (dsimp only; omega) | with_reducible refine Kp.drew ?_ | with_reducible refine Kp.drewN ?_ _ | with_reducible refine Kp.al ?_ _ | with_reducible refine Kp.trans ?_ (by with_reducible assumption)))
                    case measure => simp [intOf]; omega
                · have hd3 : ((i : Int) == (k : Int) - 1) = false := by simp; omega
                  have hik1 : i + 1 < k := by omega
                  have hiw1 : i + 1 < ws.length := by have := HWL.out; omega
                  obtain ⟨An, cn, qb0, hsyn⟩ := HAll.out.at_ (i + 1) hik1
                  have qb := hKr2.get qb0
                  have hlen2 : (lsAt ws (i + 1)).length ≤ 7 := by rw [HLS.out (i + 1) hik1]; exact wysTo_len _ _
                  obtain ⟨len2, elen2⟩ : ∃ len2, len2 = (lsAt ws (i + 1)).length := ⟨_, rfl⟩
                  rw [← elen2] at qb hsyn hlen2
                  have HSN := Lib.hid hsyn
                  have EL2 := Lib.hid elen2
                  have j5 : ((i : Int) + 1).toNat = i + 1 := by omega
                  have J5 := Lib.hid j5
                  have j6 : (0 : Int) ≤ (i : Int) + 1 := by omega
                  have j7 : (i : Int) + 1 < (k : Int) := by omega
                  clear g0 g1 g2 g3 g4 g5 qb0 hsyn elen2
                  have hqbl := cell_lt qb
                  go_wp2_with fail
                  obtain ⟨wm, ewm⟩ : ∃ wm : World, wm = wr.alloc (.cells #[.int .i64 (h : Int), .int .i64 y] 34) := ⟨_, rfl⟩
                  have hKm : Kp wr wm := by rw [ewm]; repeat (first | exact Kp.refl _ | with_reducible assumption | with_reducible refine Kp.set ?_ _ _ ?_ | (dsimp only; omega) | with_reducible refine Kp.drew ?_ | with_reducible refine Kp.drewN ?_ _ | with_reducible refine Kp.al ?_ _ | with_reducible refine Kp.trans ?_ (by with_reducible assumption))
                  have p0 : wm.cell? ⟨wr.heap.size, 0, none⟩ = some (.int .i64 (h : Int)) := by rw [ewm]; simp [go_sem]
                  have p1 : wm.cell? ⟨wr.heap.size, 1, none⟩ = some (.int .i64 y) := by rw [ewm]; simp [go_sem]
                  rw [← ewm]
                  have HKM := Lib.hid (hKr2.trans hKm)
                  have HBm := Lib.hid (HBr.out.kp hKm)
                  have P0 := Lib.hid p0; have P1 := Lib.hid p1
                  obtain ⟨vb, evb⟩ : ∃ vb, vb = wr.heap.size := ⟨_, rfl⟩
                  rw [← evb] at P0 P1 ⊢
                  have hvb : wq.heap.size < vb := by omega
                  clear ewm hKm p0 p1 evb HBr e0 e1 qb gl hKr2 hkl hqbl
                  go_loopw [93] (fun v wr => ∃ (q2 : Nat) (B : Nat → Nat → Co), q2 ≤ len2 ∧ v = .int .i64 (q2 : Int) ∧ BestB wr wq.heap.size k B ∧ Pst ws i q (curAt ws i ((h : Int), y) q2) B ∧ Kp wq wr ∧ wr.cell? ⟨vb, 0, none⟩ = some (.int .i64 (h : Int)) ∧ wr.cell? ⟨vb, 1, none⟩ = some (.int .i64 y)) (fun v _ => len2 - (intOf v).toNat)
                  case atStart => exact ⟨0, _, by omega, rfl, HBm.out, HPr.out, HKM.out, P0.out, P1.out⟩
                  case round =>
                    clear HBm HKM P0 P1 HPr
                    obtain ⟨q2, B, hq2, rfl, hB, hP, hKr2, p0, p1⟩ := hrel
                    have HBr := Lib.hid hB; have HPr := Lib.hid hP
                    clear hB hP
                    by_cases hqlt2 : q2 < len2
                    · have hd4 : decide ((q2 : Int) < (len2 : Int)) = true := by simp; omega
                      have hqw2 : q2 < (lsAt ws (i + 1)).length := by have := EL2.out; omega
                      obtain ⟨b2, off2, rfl, e0, e1⟩ := (HSN.out.kp hKr2).2 q2 hqlt2
                      have hvs := ((HA.out (i + 1) hiw1).2 q2 hqw2).1
                      have hcast := hx_cast HA.out hiw1 hqw2
                      have h82 := hx_lt HA.out hiw1 hqw2
                      have hbr := HPr.out.rows (i + 1) (Nat.le_refl _) hiw1 q2 hqw2
                      have hbh := HPr.out.here hqw
                      have hcs := cur_succ ws i ((h : Int), y) q2 hqw2
                      have hml := mstep_less (fnx ws i ((h : Int), y)) (curAt ws i ((h : Int), y) q2) (syAt (lsAt ws (i + 1)) q2)
                      obtain ⟨h2, eh2⟩ : ∃ h2, h2 = hx ws (i + 1) q2 := ⟨_, rfl⟩
                      rw [← eh2] at hcast h82 hbr
                      obtain ⟨y2, ey2⟩ : ∃ y2, y2 = (syAt (lsAt ws (i + 1)) q2).2 := ⟨_, rfl⟩
                      have esy2 : syAt (lsAt ws (i + 1)) q2 = ((h2 : Int), y2) := Prod.ext hcast ey2.symm
                      rw [hcast] at e0 hvs
                      rw [← ey2] at e1 hvs
                      rw [esy2] at hbr hml hcs
                      obtain ⟨x0, x1, x2, -, -, -⟩ := HBr.out.cell (i + 1) h2 hik1 h82
                      obtain ⟨z0, z1, z2, z3, z4, z5⟩ := HBr.out.cell i h hik h8
                      rw [hbr] at x0 x1 x2
                      rw [EH.out, hbh] at z0 z1 z2
                      rw [← EH.out] at z0 z1 z2
                      obtain ⟨bd1, bd2, bd3, bd4⟩ := rst_bd (ws.drop (i + 1 + 1)) ((h2 : Int), y2)
                      have hdl : ((ws.drop (i + 1 + 1)).length : Int) ≤ 400 := by have := HWL.out; simp; omega
                      simp only [doneC, cEnc] at x0 x1 x2
                      obtain ⟨M, eM⟩ : ∃ M, M = (rst (ws.drop (i + 1 + 1)) ((h2 : Int), y2)).1 := ⟨_, rfl⟩
                      obtain ⟨R, eR⟩ : ∃ R, R = (rst (ws.drop (i + 1 + 1)) ((h2 : Int), y2)).2 := ⟨_, rfl⟩
                      rw [← eM] at x0 bd1 bd2
                      rw [← eR] at x1 bd3 bd4
                      have ct := fun w t => then_ok M R true h y h2 y2 w t HVS.out hvs (by omega) (by omega) (by omega) (by omega)
                      have ef : fnx ws i ((h : Int), y) ((h2 : Int), y2) = (M + (stp ((h : Int), y) ((h2 : Int), y2)).1, R + (stp ((h : Int), y) ((h2 : Int), y2)).2) := by unfold fnx addC; rw [eM, eR]
                      rw [ef] at hml
                      obtain ⟨sb1, sb2, sb3, sb4⟩ := stp_bd ((h : Int), y) ((h2 : Int), y2)
                      obtain ⟨M2, eM2⟩ : ∃ M2, M2 = M + (stp ((h : Int), y) ((h2 : Int), y2)).1 := ⟨_, rfl⟩
                      obtain ⟨R2, eR2⟩ : ∃ R2, R2 = R + (stp ((h : Int), y) ((h2 : Int), y2)).2 := ⟨_, rfl⟩
                      rw [← eM2, ← eR2] at ct hml
                      obtain ⟨cu, ecu⟩ : ∃ cu, cu = curAt ws i ((h : Int), y) q2 := ⟨_, rfl⟩
                      rw [← ecu] at hml hcs z0 z1 z2
                      obtain ⟨cm, cr, cb, ecc⟩ : ∃ cm cr cb, cEnc cu = (cm, cr, cb) := ⟨_, _, _, rfl⟩
                      rw [ecc] at hml z0 z1 z2
                      dsimp only at hml z0 z1 z2
                      have HCS := Lib.hid hcs; have HML := Lib.hid hml; have CT := Lib.hid ct; have ECU := Lib.hid ecu
                      clear eh2 ey2 esy2 hcast hbr hbh hcs hml ct ef eM eR eM2 eR2 ecc bd1 bd2 bd3 bd4 hdl sb1 sb2 sb3 sb4 hvs ecu
                      have k1 : (0 : Int) ≤ (h2 : Int) := by omega
                      have k2 : (h2 : Int) < 8 := by omega
                      have xl := cell_lt x0
                      have pl := cell_lt p0
                      go_wp2_with fail
                      obtain ⟨wc, ewc⟩ : ∃ wc : World, wc = wr.alloc (.cells #[.int .i64 (h2 : Int), .int .i64 y2] 34) := ⟨_, rfl⟩
                      have hKc : Kp wr wc := by rw [ewc]; repeat (first | exact Kp.refl _ | with_reducible assumption | with_reducible refine Kp.set ?_ _ _ ?_ | (dsimp only; omega) | with_reducible refine Kp.drew ?_ | with_reducible refine Kp.drewN ?_ _ | with_reducible refine Kp.al ?_ _ | with_reducible refine Kp.trans ?_ (by with_reducible assumption))
                      have s0 : wc.cell? ⟨wr.heap.size, 0, none⟩ = some (.int .i64 (h2 : Int)) := by rw [ewc]; simp [go_sem]
                      have s1 : wc.cell? ⟨wr.heap.size, 1, none⟩ = some (.int .i64 y2) := by rw [ewc]; simp [go_sem]
                      rw [← ewc]
                      obtain ⟨vt, evt⟩ : ∃ vt, vt = wr.heap.size := ⟨_, rfl⟩
                      rw [← evt] at s0 s1 ⊢
                      have hvt : wq.heap.size < vt := by omega
                      have u0 := hKc.get x0
                      have u1 := hKc.get x1
                      have u2 := hKc.get x2
                      have o0 := hKc.get z0
                      have o1 := hKc.get z1
                      have o2 := hKc.get z2
                      have o3 := hKc.free z0 z3
                      have o4 := hKc.free z1 z4
                      have o5 := hKc.free z2 z5
                      have p0c := hKc.get p0
                      have p1c := hKc.get p1
                      have HBc := Lib.hid (HBr.out.kp hKc)
                      have KC := hKr2.trans hKc
                      have lu := cell_lt u0
                      have lp := cell_lt p0c
                      have ls := cell_lt s0
                      clear ewc evt hKc x0 x1 x2 z0 z1 z2 z3 z4 z5 p0 p1 HBr hKr2 e0 e1 xl pl
                      have w1' : IntKind.i64.wrap ((i : Int) + 1) = (i : Int) + 1 := IntWalk.i64_in _ (by omega)
                      have w2' := J5.out
                      have HTC := Lib.hid (HT.out.below (hK.trans KC))
                      go_cut [16] (fun v16 wz => ∃ b16 : Nat, v16 = .pointer (some ⟨b16, 0, none⟩) ∧ wz.cell? ⟨b16, 0, none⟩ = some (.int .i64 M2) ∧ wz.cell? ⟨b16, 1, none⟩ = some (.int .i64 R2) ∧ wz.cell? ⟨b16, 2, none⟩ = some (.bool true) ∧ wc.heap.size ≤ b16 ∧ Kp wc wz)
                      case first =>
                        go_region_held3 (fun w' => w'.cell? ⟨wq.heap.size, (i + 1) * 24 + h2 * 3, none⟩ = some (.int .i64 M) ∧ w'.cell? ⟨wq.heap.size, (i + 1) * 24 + h2 * 3 + 1, none⟩ = some (.int .i64 R) ∧ w'.cell? ⟨wq.heap.size, (i + 1) * 24 + h2 * 3 + 2, none⟩ = some (.bool true) ∧ w'.cell? ⟨vb, 0, none⟩ = some (.int .i64 (h : Int)) ∧ w'.cell? ⟨vb, 1, none⟩ = some (.int .i64 y) ∧ w'.cell? ⟨vt, 0, none⟩ = some (.int .i64 (h2 : Int)) ∧ w'.cell? ⟨vt, 1, none⟩ = some (.int .i64 y2))
                          (((try dsimp only); (repeat' apply And.intro) <;> (repeat (first | with_reducible assumption | with_reducible refine cell_drew ?_ | with_reducible refine cell_drewN ?_ | with_reducible refine cell_al ?_ | with_reducible refine cell_setb (by dsimp only; omega) ?_ | with_reducible refine Kp.get (by with_reducible assumption) ?_))))
                          ((go_at_call 38; refine (CT.out _ (HTC.out.below (by repeat (first | exact Kp.refl _ | with_reducible assumption | with_reducible refine Kp.set ?_ _ _ ?_ | (dsimp only; omega) | with_reducible refine Kp.drew ?_ | with_reducible refine Kp.drewN ?_ _ | with_reducible refine Kp.al ?_ _ | with_reducible refine Kp.trans ?_ (by with_reducible assumption))))).mono ?_; rintro e wx ⟨rfl, hkx⟩; have KX : Kp wc wx := (by repeat (first | exact Kp.refl _ | with_reducible assumption | with_reducible refine Kp.set ?_ _ _ ?_ | (dsimp only; omega) | with_reducible refine Kp.drew ?_ | with_reducible refine Kp.drewN ?_ _ | with_reducible refine Kp.al ?_ _ | with_reducible refine Kp.trans ?_ (by with_reducible assumption))); have KXl := KX.low; first | (have hnc := newcost (w := wc) hkx; obtain ⟨n0, n1, n2, m0, m1, m2, nl⟩ := hnc) | skip))
                        all_goals
                          clear w1' w2'
                          go_wp2_with fail
                          go_meet
                          first | exact ⟨_, rfl, by simp [go_sem], by simp [go_sem], by simp [go_sem], KXl, by repeat (first | exact Kp.refl _ | with_reducible assumption | with_reducible refine Kp.set ?_ _ _ ?_ | (dsimp only; omega) | with_reducible refine Kp.drew ?_ | with_reducible refine Kp.drewN ?_ _ | with_reducible refine Kp.al ?_ _ | with_reducible refine Kp.trans ?_ (by with_reducible assumption))⟩ | exact ⟨_, rfl, by simp [go_sem, n0], by simp [go_sem, n1], by simp [go_sem, n2], Nat.le_refl _, by repeat (first | exact Kp.refl _ | with_reducible assumption | with_reducible refine Kp.set ?_ _ _ ?_ | (dsimp only; omega) | with_reducible refine Kp.drew ?_ | with_reducible refine Kp.drewN ?_ _ | with_reducible refine Kp.al ?_ _ | with_reducible refine Kp.trans ?_ (by with_reducible assumption))⟩
                      case rest =>
                        obtain ⟨b16, rfl, c0, c1, c2, hb16, KZ⟩ := hcut
                        clear w1' w2'
                        have r0 := KZ.get o0
                        have r1 := KZ.get o1
                        have r2 := KZ.get o2
                        have r3 := KZ.free o0 o3
                        have r4 := KZ.free o1 o4
                        have r5 := KZ.free o2 o5
                        have q0 := KZ.get p0c
                        have q1 := KZ.get p1c
                        have HBz := Lib.hid (HBc.out.kp KZ)
                        have KQ := KC.trans KZ
                        have lz := cell_lt r0
                        have lb := cell_lt c0
                        have lq := cell_lt q0
                        clear o0 o1 o2 o3 o4 o5 p0c p1c u0 u1 u2 s0 s1 HBc KC KZ lu lp ls
                        have cl := fun w => less_any M2 R2 true cm cr cb w
                        rcases HML.out with ⟨hl1, hl2⟩ | ⟨hl1, hl2⟩
                        · rw [hl1] at cl
                          have CL := Lib.hid cl
                          have HL2 := Lib.hid hl2
                          clear cl hl1 hl2
                          go_wp2_with fail
                          go_region_held3 (fun w' => w'.cell? ⟨wq.heap.size, i * 24 + h * 3, none⟩ = some (.int .i64 cm) ∧ w'.cell? ⟨wq.heap.size, i * 24 + h * 3 + 1, none⟩ = some (.int .i64 cr) ∧ w'.cell? ⟨wq.heap.size, i * 24 + h * 3 + 2, none⟩ = some (.bool cb) ∧ w'.cell? ⟨vb, 0, none⟩ = some (.int .i64 (h : Int)) ∧ w'.cell? ⟨b16, 0, none⟩ = some (.int .i64 M2) ∧ w'.cell? ⟨b16, 1, none⟩ = some (.int .i64 R2) ∧ w'.cell? ⟨b16, 2, none⟩ = some (.bool true))
                            (((try dsimp only); (repeat' apply And.intro) <;> (repeat (first | with_reducible assumption | with_reducible refine cell_drew ?_ | with_reducible refine cell_drewN ?_ | with_reducible refine Kp.get (by with_reducible assumption) ?_))))
                            ((go_at_call 39; refine (CL.out _).mono ?_; rintro e wy ⟨rfl, hky⟩; have KY : Kp wc wy := (by repeat (first | exact Kp.refl _ | with_reducible assumption | with_reducible refine Kp.set ?_ _ _ ?_ | (dsimp only; omega) | with_reducible refine Kp.drew ?_ | with_reducible refine Kp.drewN ?_ _ | with_reducible refine Kp.al ?_ _ | with_reducible refine Kp.trans ?_ (by with_reducible assumption)))))
                          have t0' := KY.get r0
                          have t1' := KY.get r1
                          have t2' := KY.get r2
                          have t3' := KY.free r0 r3
                          have t4' := KY.free r1 r4
                          have t5' := KY.free r2 r5
                          have q0' := KY.get q0
                          have q1' := KY.get q1
                          have e0' := KY.get c0
                          have e1' := KY.get c1
                          have e2' := KY.get c2
                          have HBy := Lib.hid (HBz.out.kp KY)
                          have KW := KQ.trans KY
                          have lz' := cell_lt t0'
                          clear r0 r1 r2 r3 r4 r5 q0 q1 c0 c1 c2 HBz KQ hky KY
                          go_wp2_with fail
                          go_region
                          all_goals
                            go_wp2_with fail
                            go_roundw
                            case rel =>
                              have hp := HPr.out.put HA.out hiw hqw (some (M2, R2))
                              have hb := HBy.out.put i h hik h8 (cEnc (some (M2, R2)))
                              rw [← EH.out] at hp
                              refine ⟨q2 + 1, _, by omega, by go_num, hb.kp (by repeat (first | exact Kp.refl _ | with_reducible assumption | with_reducible refine Kp.set ?_ _ _ ?_ | (dsimp only; omega) | with_reducible refine Kp.drew ?_ | with_reducible refine Kp.drewN ?_ _ | with_reducible refine Kp.al ?_ _ | with_reducible refine Kp.trans ?_ (by with_reducible assumption))), ?_, by repeat (first | exact Kp.refl _ | with_reducible assumption | with_reducible refine Kp.set ?_ _ _ ?_ | (dsimp only; omega) | with_reducible refine Kp.drew ?_ | with_reducible refine Kp.drewN ?_ _ | with_reducible refine Kp.al ?_ _ | with_reducible refine Kp.trans ?_ (by with_reducible assumption)), ?_, ?_⟩
                              · rw [HCS.out, HL2.out]; exact hp
                              · refine cell_drew ?_
                                repeat (refine cell_setb (by dsimp only; omega) ?_)
                                exact q0'
                              · refine cell_drew ?_
                                repeat (refine cell_setb (by dsimp only; omega) ?_)
                                exact q1'
                            case measure => simp [intOf]; omega
                        · rw [hl1] at cl
                          have CL := Lib.hid cl
                          have HL2 := Lib.hid hl2
                          clear cl hl1 hl2
                          go_wp2_with fail
                          go_region_held3 (fun w' => w'.cell? ⟨wq.heap.size, i * 24 + h * 3, none⟩ = some (.int .i64 cm) ∧ w'.cell? ⟨wq.heap.size, i * 24 + h * 3 + 1, none⟩ = some (.int .i64 cr) ∧ w'.cell? ⟨wq.heap.size, i * 24 + h * 3 + 2, none⟩ = some (.bool cb) ∧ w'.cell? ⟨vb, 0, none⟩ = some (.int .i64 (h : Int)) ∧ w'.cell? ⟨b16, 0, none⟩ = some (.int .i64 M2) ∧ w'.cell? ⟨b16, 1, none⟩ = some (.int .i64 R2) ∧ w'.cell? ⟨b16, 2, none⟩ = some (.bool true))
                            (((try dsimp only); (repeat' apply And.intro) <;> (repeat (first | with_reducible assumption | with_reducible refine cell_drew ?_ | with_reducible refine cell_drewN ?_ | with_reducible refine Kp.get (by with_reducible assumption) ?_))))
                            ((go_at_call 39; refine (CL.out _).mono ?_; rintro e wy ⟨rfl, hky⟩; have KY : Kp wc wy := (by repeat (first | exact Kp.refl _ | with_reducible assumption | with_reducible refine Kp.set ?_ _ _ ?_ | (dsimp only; omega) | with_reducible refine Kp.drew ?_ | with_reducible refine Kp.drewN ?_ _ | with_reducible refine Kp.al ?_ _ | with_reducible refine Kp.trans ?_ (by with_reducible assumption)))))
                          have t0' := KY.get r0
                          have t1' := KY.get r1
                          have t2' := KY.get r2
                          have t3' := KY.free r0 r3
                          have t4' := KY.free r1 r4
                          have t5' := KY.free r2 r5
                          have q0' := KY.get q0
                          have q1' := KY.get q1
                          have e0' := KY.get c0
                          have e1' := KY.get c1
                          have e2' := KY.get c2
                          have HBy := Lib.hid (HBz.out.kp KY)
                          have KW := KQ.trans KY
                          have lz' := cell_lt t0'
                          clear r0 r1 r2 r3 r4 r5 q0 q1 c0 c1 c2 HBz KQ hky KY
                          go_wp2_with fail
                          go_roundw
                          case rel => exact ⟨q2 + 1, B, by omega, by go_num, HBy.out, by rw [HCS.out, HL2.out, ECU.out]; exact HPr.out, KW, q0', q1'⟩
                          case measure => simp [intOf]; omega
                    · have hd4 : decide ((q2 : Int) < (len2 : Int)) = false := by simp; omega
                      have hce := cur_end ws i ((h : Int), y) q2 hiw1 (HA.out (i + 1) hiw1).1 (by have := EL2.out; omega)
                      have HCE := Lib.hid hce
                      clear hce
                      go_wp2_with fail
                      go_roundw
                      case rel =>
                        refine ⟨q + 1, B, by omega, by go_num, HBr.out, Pst.next ?_, hKr2⟩
                        rw [ESY.out, ← HCE.out]
                        exact HPr.out
                      case measure => simp [intOf]; omega
              · have hd2 : decide ((q : Int) < (len : Int)) = false := by simp; omega
                obtain ⟨r1, r2⟩ := HPr.out.done (by have := EL.out; omega)
                have R1 := Lib.hid r1; have R2 := Lib.hid r2
                clear r1 r2
                go_wp2_with fail
                go_roundw
                case rel => exact ⟨i, B, by omega, rfl, HBr.out, R1.out, R2.out, hKr2⟩
                case measure => first | (simp [intOf]; done) | (simp [intOf]; omega)
end Go.Proofs.YtaobndijldidfaaDoor
