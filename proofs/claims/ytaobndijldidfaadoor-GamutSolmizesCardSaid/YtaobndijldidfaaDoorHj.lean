/- Contract of the reference's Best. -/
import Derived.Test.YtaobndijldidfaaDoorHn
import Derived.Test.YtaobndijldidfaaDoorHb
import Derived.BigQuiet
set_option linter.unusedSimpArgs false
set_option linter.unusedVariables false
namespace Go.Proofs.YtaobndijldidfaaDoor
open Go.RowKit

set_option maxRecDepth 100000 in
set_option maxHeartbeats 8000000 in
theorem rbest_ok (A : Option Addr) (n c : Nat) (ps : List Pt) (w : World) (hx0 : Pts w A n ps) (hn : n ≤ 60) (hg : ∀ p ∈ ps, Vp p.1 p.2.1 p.2.2 ∧ wys p ≠ []) :
    Calls Tryd.prog 42 #[.slice A n c] w fun e w' => (∃ A' c', e = .returned (.tuple #[.slice A' n c', .int .i64 (muts (ps.map wys))]) ∧ Sys w' A' n (sol none (ps.map wys))) ∧ Kp w w' := by
  have hm1 := make_all n (by omega)
  have hm2 := make_rows n (by omega)
  have hl := hx0.1
  have ha := asc_map ps (fun p hp => (hg p hp).2)
  have hls : ∀ i, i < n → lsAt (ps.map wys) i = wys (ptAt ps i) := fun i hi => ls_map ps i (by omega)
  have hvp : ∀ i, i < n → Vp (ptAt ps i).1 (ptAt ps i).2.1 (ptAt ps i).2.2 := fun i hi => (hg _ (by unfold ptAt; simp [List.getD, show i < ps.length by omega])).1
  have hwl : (ps.map wys).length = n := by simpa using hl
  obtain ⟨ws, ews⟩ : ∃ ws, ws = ps.map wys := ⟨_, rfl⟩
  rw [← ews] at ha hls hwl ⊢
  have HX := Lib.hid hx0; have HA := Lib.hid ha; have HLS := Lib.hid hls; have HVP := Lib.hid hvp; have HWL := Lib.hid hwl
  clear hx0 hl ha hls hvp hwl ews hg
  by_cases h0 : n = 0
  · have h0' : ((n : Int) == 0) = true := by simp; omega
    have hws : ws = [] := List.eq_nil_of_length_eq_zero (by have := HWL.out; omega)
    subst hws
    clear hm1 hm2
    go_enter Tryd.func42, Tryd.ntmps42
    go_wp2_with fail
    go_ret2
    rw [h0]
    exact ⟨⟨none, 0, rfl, (⟨rfl, fun j hj => absurd hj (by omega)⟩ : Sys _ none 0 [])⟩, by repeat (first | exact Kp.refl _ | with_reducible assumption | with_reducible refine Kp.set ?_ _ _ ?_ | (dsimp only; omega) | with_reducible refine Kp.drew ?_ | with_reducible refine Kp.drewN ?_ _ | with_reducible refine Kp.al ?_ _ | with_reducible refine Kp.trans ?_ (by with_reducible assumption))⟩
  · have h0' : ((n : Int) == 0) = false := by simp; omega
    have r0 : IntKind.i64.wrap ((n : Int) - 1) = (n : Int) - 1 := IntWalk.i64_in _ (by omega)
    go_enter Tryd.func42, Tryd.ntmps42
    go_wp2_with fail
    clear hm1 hm2
    obtain ⟨wz, ewz⟩ : ∃ wz : World, wz = ((w.alloc (.cells (madeCells #[.slice none 0 0] n) 27)).alloc (.cells (madeCells #[.slice none 0 0] n) 22)).alloc (.cells (madeCells #[.slice none 0 0] n) 22) := ⟨_, rfl⟩
    have KZ : Kp w wz := by rw [ewz]; repeat (first | exact Kp.refl _ | with_reducible assumption | with_reducible refine Kp.set ?_ _ _ ?_ | (dsimp only; omega) | with_reducible refine Kp.drew ?_ | with_reducible refine Kp.drewN ?_ _ | with_reducible refine Kp.al ?_ _ | with_reducible refine Kp.trans ?_ (by with_reducible assumption))
    obtain ⟨g, eg⟩ : ∃ g, g = w.heap.size := ⟨_, rfl⟩
    have htb : TabB wz g (g + 1) (g + 2) (g + 3) n ws n := by
      refine ⟨madeCells #[.slice none 0 0] n, madeCells #[.slice none 0 0] n, madeCells #[.slice none 0 0] n, ?_, ?_, ?_, size_madeCells _ _, size_madeCells _ _, size_madeCells _ _, fun j h1 h2 => absurd h2 (by omega), fun j h1 h2 => ⟨made_nil _ _ h2, made_nil _ _ h2⟩⟩
      · rw [ewz, eg]
        exact ((Blk.new w 27 (madeCells #[.slice none 0 0] n)).al _).al _
      · rw [ewz, eg]
        exact (Blk.new2 w 27 22 (madeCells #[.slice none 0 0] n) (madeCells #[.slice none 0 0] n)).al _
      · rw [ewz, eg]
        have := Blk.new2 (w.alloc (.cells (madeCells #[.slice none 0 0] n) 27)) 22 22 (madeCells #[.slice none 0 0] n) (madeCells #[.slice none 0 0] n)
        rwa [World.size_alloc] at this
    have hzs : wz.heap.size = g + 3 := by rw [ewz, eg]; simp
    have HTB := Lib.hid htb; have HKZ := Lib.hid KZ
    have EG := Lib.hid eg
    rw [← ewz]
    rw [← eg]
    obtain ⟨g2, eg2⟩ : ∃ g2, g2 = g + 1 := ⟨_, rfl⟩
    obtain ⟨g3, eg3⟩ : ∃ g3, g3 = g + 1 + 1 := ⟨_, rfl⟩
    have eg3' : g + 2 = g3 := by omega
    have HG := Lib.hid (show w.heap.size ≤ g ∧ g < g2 ∧ g2 < g3 ∧ g3 + 1 = wz.heap.size from ⟨by have := EG.out; omega, by omega, by omega, by omega⟩)
    rw [show g + 3 = wz.heap.size from hzs.symm, eg3', ← eg2] at HTB
    obtain ⟨hi, ehi⟩ : ∃ hi, hi = wz.heap.size := ⟨_, rfl⟩
    rw [← ehi] at HTB HG
    rw [← eg3]
    rw [← eg2]
    clear htb KZ ewz eg eg2 eg3 eg3' hzs EG ehi
    go_loopw [7] (fun v wr => ∃ m : Nat, m ≤ n ∧ v = .int .i64 ((m : Int) - 1) ∧ TabB wr g g2 g3 hi n ws m ∧ Kp w wr) (fun v _ => (intOf v + 1).toNat)
    case atStart => exact ⟨n, Nat.le_refl _, rfl, HTB.out, HKZ.out⟩
    case round =>
      obtain ⟨m, hm, rfl, hT, hK⟩ := hrel
      by_cases hm0 : m = 0
      · as_aux_lemma =>
          subst hm0
          have em : ((0 : Nat) : Int) - 1 = -1 := rfl
          rw [em]
          clear em
          have HT := Lib.hid hT
          clear hT
          go_wp2_with fail
          obtain ⟨wf, ewf⟩ : ∃ wf : World, wf = wr := ⟨_, rfl⟩
          subst ewf
          have HSL := Lib.hid (sol_len none ws)
          obtain ⟨i0, hi0, hz0, hz1, hz2⟩ := info_parts syl_info
          have HI := Lib.hid hi0; have HZ0 := Lib.hid hz0; have HZ1 := Lib.hid hz1; have HZ2 := Lib.hid hz2
          clear hi0 hz0 hz1 hz2
          go_loopw [14, 15] (fun ov v wr => ∃ i : Nat, i ≤ n ∧ v = .int .i64 (i : Int) ∧ wr.ownsRow wf.heap.size 34 2 ov i (flatS ((sol none ws).take i)) ∧ Kp wf wr) (fun _ v _ => n - (intOf v).toNat)
          case atStart => exact ⟨0, by omega, rfl, World.ownsRow_nil _ _ _ _, Kp.refl _⟩
          case round =>
            obtain ⟨i, hi', rfl, hown, hKi⟩ := hrel
            obtain ⟨Ao, co, rfl⟩ := ow_form hown
            have HO := Lib.hid hown
            clear hown
            by_cases hlt : i < n
            · have hd : decide ((i : Int) < (n : Int)) = true := by simp; omega
              have hiw : i < ws.length := by have := HWL.out; omega
              obtain ⟨c1, c2, c3, B1, B2, B3, s1, s2, s3, hdone, _⟩ := HT.out
              obtain ⟨A1, d1, A2, d2, A3, d3, h1, h2, h3, f1, f2, f3, S1, S2, S3⟩ := hdone i (Nat.zero_le _) hlt
              have q1 : wr.cell? ⟨g, i, none⟩ = some (.slice A1 (lsAt ws i).length d1) := hKi.get (by rw [B1.cell, h1])
              have q2 : wr.cell? ⟨g2, i, none⟩ = some (.slice A2 (lsAt ws i).length d2) := hKi.get (by rw [B2.cell, h2])
              have q3 : wr.cell? ⟨g3, i, none⟩ = some (.slice A3 (lsAt ws i).length d3) := hKi.get (by rw [B3.cell, h3])
              have HS1 := Lib.hid (S1.kp hKi); have HS2 := Lib.hid (S2.kp hKi); have HS3 := Lib.hid (S3.kp hKi)
              have hlen : (lsAt ws i).length ≤ 7 := by rw [HLS.out i hlt]; exact wysTo_len _ _
              have hlen1 : 1 ≤ (lsAt ws i).length := List.length_pos_iff.2 (HA.out i hiw).1
              have hmv : ∀ q, q < (lsAt ws i).length → (rm ws i).getD q 0 = (rst (ws.drop (i + 1)) (syAt (lsAt ws i) q)).1 ∧ (rr ws i).getD q 0 = (rst (ws.drop (i + 1)) (syAt (lsAt ws i) q)).2 := by
                intro q hq
                unfold rm rr syAt
                simp [List.getD, hq]
              obtain ⟨f, ef⟩ : ∃ f, f = key (prevAt none (sol none ws) i) (ws.drop (i + 1)) := ⟨_, rfl⟩
              have hsol := sol_at none ws i hiw
              rw [← ef] at hsol
              obtain ⟨Ts, eTs⟩ : ∃ Ts, Ts = lsAt ws i := ⟨_, rfl⟩
              have hav := fun q (hq : q < Ts.length) => ((HA.out i hiw).2 q (by rw [← eTs]; exact hq)).1
              rw [← eTs] at q1 q2 q3 HS1 HS2 HS3 hlen hlen1 hmv hsol hav
              obtain ⟨len, elen⟩ : ∃ len, len = Ts.length := ⟨_, rfl⟩
              rw [← elen] at q1 q2 q3 HS1 HS2 HS3 hlen hlen1 hmv hav
              have EF := Lib.hid ef; have HSOL := Lib.hid hsol; have HAV := Lib.hid hav; have EL := Lib.hid elen; have HMV := Lib.hid hmv
              have Q1 := Lib.hid q1; have Q2 := Lib.hid q2; have Q3 := Lib.hid q3
              clear ef hsol hav eTs elen hmv B1 B2 B3 s1 s2 s3 hdone h1 h2 h3 f1 f2 f3 S1 S2 S3
              have gl1 := cell_lt q1
              go_wp2_with fail
              obtain ⟨wh, ewh⟩ : ∃ wh : World, wh = wr := ⟨_, rfl⟩
              subst ewh
              have HKi := Lib.hid hKi
              clear hKi q1 q2 q3
              go_loopw [16, 17, 18, 19] (fun vb vm vr vq wr => ∃ q : Nat, q ≤ len ∧ vq = .int .i64 (q : Int) ∧ ((q = 0 ∧ vb = .int .i64 (-1) ∧ vm = .int .i64 0 ∧ vr = .int .i64 0) ∨ (1 ≤ q ∧ ∃ bi : Nat, bi < len ∧ vb = .int .i64 (bi : Int) ∧ syAt Ts bi = pckAt f Ts q ∧ vm = .int .i64 (f (pckAt f Ts q)).1 ∧ vr = .int .i64 (f (pckAt f Ts q)).2)) ∧ Kp wh wr) (fun _ _ _ v _ => len - (intOf v).toNat)
              case atStart => exact ⟨0, by omega, rfl, .inl ⟨rfl, rfl, rfl, rfl⟩, Kp.refl _⟩
              case round =>
                obtain ⟨q, hq, rfl, hst, hKq⟩ := hrel
                have q1 := hKq.get Q1.out
                have q2 := hKq.get Q2.out
                have q3 := hKq.get Q3.out
                have gl2 := cell_lt q1
                have gl3 := cell_lt q2
                have gl4 := cell_lt q3
                have m1 : (0 : Int) ≤ (i : Int) := by omega
                have m2 : (i : Int) < (n : Int) := by omega
                by_cases hql : q < len
                · have hd2 : decide ((q : Int) < (len : Int)) = true := by simp; omega
                  obtain ⟨b2, o2, rfl, u0⟩ := (HS2.out.kp hKq).2 q hql
                  obtain ⟨b3, o3, rfl, u1⟩ := (HS3.out.kp hKq).2 q hql
                  obtain ⟨b1, o1, rfl, v0, v1⟩ := (HS1.out.kp hKq).2 q hql
                  obtain ⟨hm1, hm2⟩ := HMV.out q hql
                  rw [hm1] at u0
                  rw [hm2] at u1
                  have bd := rst_bd (ws.drop (i + 1)) (syAt Ts q)
                  have hdl : (ws.drop (i + 1)).length ≤ 60 := by have := HWL.out; simp; omega
                  have hav := HAV.out q hql
                  have hnx : 1 ≤ q → pckAt f Ts (q + 1) = pstep f (pckAt f Ts q) (syAt Ts q) := fun h => pckAt_succ f Ts q h (by have := EL.out; omega)
                  have hn0 : q = 0 → pckAt f Ts (q + 1) = syAt Ts q := fun h => by subst h; exact pckAt_zero f Ts (fun e => by have := EL.out; rw [e] at this; simp at this; omega)
                  obtain ⟨S, eS⟩ : ∃ S, S = syAt Ts q := ⟨_, rfl⟩
                  rw [← eS] at u0 u1 v0 v1 bd hav hnx hn0
                  obtain ⟨R1, eR1⟩ : ∃ R, R = (rst (ws.drop (i + 1)) S).1 := ⟨_, rfl⟩
                  obtain ⟨R2, eR2⟩ : ∃ R, R = (rst (ws.drop (i + 1)) S).2 := ⟨_, rfl⟩
                  have ERS : Hid (rst (ws.drop (i + 1)) S = (R1, R2)) := Prod.ext eR1.symm eR2.symm
                  rw [← eR1] at u0 bd
                  rw [← eR2] at u1 bd
                  obtain ⟨s1, es1⟩ : ∃ s, s = S.1 := ⟨_, rfl⟩
                  obtain ⟨s2, es2⟩ : ∃ s, s = S.2 := ⟨_, rfl⟩
                  have ESS : Hid (S = (s1, s2)) := Prod.ext es1.symm es2.symm
                  rw [← es1] at v0 hav
                  rw [← es2] at v1 hav
                  have HAVQ := Lib.hid hav; have HNX := Lib.hid hnx; have HN0 := Lib.hid hn0; have HST := Lib.hid hst; have HES := Lib.hid eS
                  have k1 : (0 : Int) ≤ (q : Int) := by omega
                  have k2 : (q : Int) < (len : Int) := by omega
                  have ul0 := cell_lt u0
                  have ul1 := cell_lt u1
                  have vl0 := cell_lt v0
                  clear hm1 hm2 hav hnx hn0 hst eS eR1 eR2 es1 es2
                  go_wp2_with fail
                  go_quiet (fail)
                  go_upto_if 185 with (fail)
                  go_cut [20, 21] (fun vx vy wz => vx = .int .i64 (f S).1 ∧ vy = .int .i64 (f S).2 ∧ Kp wr wz)
                  case first =>
                    by_cases hi0 : i = 0
                    · have d0 : decide (0 < (i : Int)) = false := by simp; omega
                      have d0n : decide (0 < i) = false := by simp; omega
                      have d0h : ¬ 0 < i := by omega
                      have hfS : f S = (R1, R2) := by rw [EF.out, ← ERS.out]; unfold prevAt key; rw [if_pos hi0]
                      have HFS := Lib.hid hfS
                      clear hfS hi0
                      go_wp2_with fail
                      go_meet
                      rw [HFS.out]
                      exact ⟨rfl, rfl, by repeat (first | exact Kp.refl _ | with_reducible assumption | with_reducible refine Kp.set ?_ _ _ ?_ | (dsimp only; omega) | with_reducible refine Kp.drew ?_ | with_reducible refine Kp.drewN ?_ _ | with_reducible refine Kp.al ?_ _ | with_reducible refine Kp.trans ?_ (by with_reducible assumption))⟩
                    · as_aux_lemma =>
                        obtain ⟨j, ej⟩ : ∃ j, j = i - 1 := ⟨_, rfl⟩
                        have d0 : decide (0 < (i : Int)) = true := by simp; omega
                        have d0h : 0 < i := by omega
                        have d0n : decide (0 < i) = true := decide_eq_true d0h
                        have hji : j < i := by omega
                        have jm1 : IntKind.i64.wrap ((i : Int) - 1) = (i : Int) - 1 := IntWalk.i64_in _ (by omega)
                        have jm2 : ((i : Int) - 1).toNat = j := by omega
                        have j3 : (0 : Int) ≤ (i : Int) - 1 := by omega
                        have j4 : (i : Int) - 1 < (i : Int) := by omega
                        have j5 : (1 : Int) ≤ (i : Int) := by omega
                        have htj : syAt ((sol none ws).take i) j = syAt (sol none ws) j := by unfold syAt; simp [List.getD, List.getElem?_take_of_lt hji]
                        obtain ⟨bo, oo, rfl, p0, p1⟩ := ((sys_of_own HO.out).kp hKq).2 j hji
                        rw [htj] at p0 p1
                        have hjw : j < ws.length := by omega
                        have hvp2 : Vs (syAt (sol none ws) j).1 (syAt (sol none ws) j).2 := (asc_mem HA.out hjw (sol_mem HA.out hjw none)).1
                        have hfS : f S = addC (rst (ws.drop (i + 1)) S) (stp (syAt (sol none ws) j) S) := by rw [EF.out]; unfold prevAt key; rw [if_neg hi0, ← ej]
                        obtain ⟨P, eP⟩ : ∃ P, P = syAt (sol none ws) j := ⟨_, rfl⟩
                        rw [← eP] at p0 p1 hvp2 hfS
                        obtain ⟨P1, P2⟩ := P
                        dsimp only at p0 p1 hvp2
                        rw [ERS.out, ESS.out] at hfS
                        have sb := stp_bd (P1, P2) (s1, s2)
                        have cs := fun w => rcost_ok P1 P2 s1 s2 w hvp2 HAVQ.out
                        obtain ⟨a, ea⟩ : ∃ a, a = (stp (P1, P2) (s1, s2)).1 := ⟨_, rfl⟩
                        obtain ⟨b, eb⟩ : ∃ b, b = (stp (P1, P2) (s1, s2)).2 := ⟨_, rfl⟩
                        have hf1 : (f S).1 = R1 + a := by rw [ESS.out, hfS, ea]; rfl
                        have hf2 : (f S).2 = R2 + b := by rw [ESS.out, hfS, eb]; rfl
                        rw [← ea, ← eb] at sb cs
                        have W1 : IntKind.i64.wrap (R1 + a) = R1 + a := IntWalk.i64_in _ (by omega)
                        have W2 : IntKind.i64.wrap (R2 + b) = R2 + b := IntWalk.i64_in _ (by omega)
                        have CS := Lib.hid cs; have HF1 := Lib.hid hf1; have HF2 := Lib.hid hf2
                        have M1' := Lib.hid jm1; have M2' := Lib.hid jm2
                        have pl0 := cell_lt p0
                        have N5 := Lib.hid (fun (w' : World) (k : Kp wr w') => And.intro (k.get p0) (And.intro (k.get p1) (And.intro (k.get q1) (And.intro (k.get v0) (k.get v1)))))
                        clear hfS hi0 ej htj hjw hvp2 eP sb cs ea eb hf1 hf2 jm1 jm2 u0 u1
                        go_wp2_with fail
                        have jm1 := M1'.out
                        have jm2 := M2'.out
                        obtain ⟨wd, ewd⟩ : ∃ wd : World, wd = wr.drewN nq := ⟨_, rfl⟩
                        have KD : Kp wr wd := by rw [ewd]; repeat (first | exact Kp.refl _ | with_reducible assumption | with_reducible refine Kp.set ?_ _ _ ?_ | (dsimp only; omega) | with_reducible refine Kp.drew ?_ | with_reducible refine Kp.drewN ?_ _ | with_reducible refine Kp.al ?_ _ | with_reducible refine Kp.trans ?_ (by with_reducible assumption))
                        have p0d := KD.get p0
                        have p1d := KD.get p1
                        have q1d := KD.get q1
                        have v0d := KD.get v0
                        have v1d := KD.get v1
                        have pl0d := cell_lt p0d
                        have gl2d := cell_lt q1d
                        have vl0d := cell_lt v0d
                        rw [← ewd]
                        have HKD := Lib.hid KD
                        have N6 := Lib.hid (fun (w' : World) (k : Kp wd w') => And.intro (k.get p0d) (And.intro (k.get p1d) (And.intro (k.get q1d) (And.intro (k.get v0d) (k.get v1d)))))
                        clear ewd KD p0 p1 q1 v0 v1 q2 q3 N5 pl0 gl2 gl3 gl4 ul0 ul1 vl0 bd
                        go_region_held3 (fun w' => w'.cell? ⟨bo, oo + j * 2, none⟩ = some (.int .i64 P1) ∧ w'.cell? ⟨bo, oo + j * 2 + 1, none⟩ = some (.int .i64 P2) ∧ w'.cell? ⟨g, i, none⟩ = some (.slice (some ⟨b1, o1, none⟩) len d1) ∧ w'.cell? ⟨b1, o1 + q * 2, none⟩ = some (.int .i64 s1) ∧ w'.cell? ⟨b1, o1 + q * 2 + 1, none⟩ = some (.int .i64 s2))
                          (exact N6.out _ (by repeat (first | exact Kp.refl _ | with_reducible assumption | with_reducible refine Kp.set ?_ _ _ ?_ | (dsimp only; omega) | with_reducible refine Kp.drew ?_ | with_reducible refine Kp.drewN ?_ _ | with_reducible refine Kp.al ?_ _ | with_reducible refine Kp.trans ?_ (by with_reducible assumption))))
                          (first | (go_at_call 55; refine (CS.out _).mono ?_; rintro e wx ⟨rfl, hkx⟩; have KX : Kp wd wx := (by repeat (first | exact Kp.refl _ | with_reducible assumption | with_reducible refine Kp.set ?_ _ _ ?_ | (dsimp only; omega) | with_reducible refine Kp.drew ?_ | with_reducible refine Kp.drewN ?_ _ | with_reducible refine Kp.al ?_ _ | with_reducible refine Kp.trans ?_ (by with_reducible assumption))); clear hkx))
                        clear jm1 jm2
                        go_wp2_with fail
                        go_meet
                        rw [HF1.out, HF2.out]
                        exact ⟨rfl, rfl, HKD.out.trans KX⟩
                  case rest =>
                    obtain ⟨rfl, rfl, KC⟩ := hcut
                    obtain ⟨F1, eF1⟩ : ∃ F, F = (f S).1 := ⟨_, rfl⟩
                    obtain ⟨F2, eF2⟩ : ∃ F, F = (f S).2 := ⟨_, rfl⟩
                    have HF1 := Lib.hid eF1; have HF2 := Lib.hid eF2
                    rw [← eF1]
                    rw [← eF2]
                    rcases HST.out with ⟨h0, rfl, rfl, rfl⟩ | ⟨hq1, bi, hbi, rfl, hbs, rfl, rfl⟩
                    · have HNN := Lib.hid (HN0.out h0)
                      clear eF1 eF2 u0 u1 v0 v1 ul0 ul1 vl0 bd
                      go_wp2_with fail
                      go_roundw
                      case rel => exact ⟨q + 1, by omega, by go_num, .inr ⟨by omega, q, hql, rfl, by rw [HNN.out, HES.out], by rw [HNN.out, HF1.out], by rw [HNN.out, HF2.out]⟩, hKq.trans KC⟩
                      case measure => simp [intOf]; omega
                    · have hnx := HNX.out hq1
                      obtain ⟨C, eC⟩ : ∃ C, C = pckAt f Ts q := ⟨_, rfl⟩
                      rw [← eC] at hnx hbs
                      rw [← eC]
                      obtain ⟨G1, eG1⟩ : ∃ F, F = (f C).1 := ⟨_, rfl⟩
                      obtain ⟨G2, eG2⟩ : ∃ F, F = (f C).2 := ⟨_, rfl⟩
                      have HG1 := Lib.hid eG1; have HG2 := Lib.hid eG2; have HBS := Lib.hid hbs
                      rw [← eG1]
                      rw [← eG2]
                      have hlx : lx (f S) (f C) = (if F1 ≠ G1 then decide (F1 < G1) else decide (F2 < G2)) := by unfold lx; rw [← eF1, ← eF2, ← eG1, ← eG2]
                      have hps : pstep f C S = if lx (f S) (f C) then S else C := rfl
                      rw [hps, hlx] at hnx
                      have db : decide ((bi : Int) < 0) = false := by simp
                      clear eF1 eF2 eG1 eG2 u0 u1 v0 v1 ul0 ul1 vl0 bd hbs hlx hps eC
                      by_cases h1 : F1 < G1
                      · have dA : decide (F1 < G1) = true := decide_eq_true h1
                        rw [if_pos (show F1 ≠ G1 by omega), dA, if_pos rfl] at hnx
                        have HNN := Lib.hid hnx
                        clear hnx h1
                        go_wp2_with fail
                        go_roundw
                        case rel => exact ⟨q + 1, by omega, by go_num, .inr ⟨by omega, q, hql, rfl, by rw [HNN.out, HES.out], by rw [HNN.out, HF1.out], by rw [HNN.out, HF2.out]⟩, hKq.trans KC⟩
                        case measure => simp [intOf]; omega
                      · have dA : decide (F1 < G1) = false := decide_eq_false h1
                        by_cases h2 : F1 = G1
                        · have dB : (F1 == G1) = true := by simpa using h2
                          rw [if_neg (show ¬ F1 ≠ G1 from fun h => h h2)] at hnx
                          by_cases h3 : F2 < G2
                          · have dC : decide (F2 < G2) = true := decide_eq_true h3
                            rw [dC, if_pos rfl] at hnx
                            have HNN := Lib.hid hnx
                            clear hnx h1 h2 h3
                            go_wp2_with fail
                            go_roundw
                            case rel => exact ⟨q + 1, by omega, by go_num, .inr ⟨by omega, q, hql, rfl, by rw [HNN.out, HES.out], by rw [HNN.out, HF1.out], by rw [HNN.out, HF2.out]⟩, hKq.trans KC⟩
                            case measure => simp [intOf]; omega
                          · have dC : decide (F2 < G2) = false := decide_eq_false h3
                            rw [dC, if_neg Bool.false_ne_true] at hnx
                            have HNN := Lib.hid hnx
                            clear hnx h1 h2 h3
                            go_wp2_with fail
                            go_roundw
                            case rel => exact ⟨q + 1, by omega, by go_num, .inr ⟨by omega, bi, hbi, rfl, by rw [HNN.out, HBS.out], by rw [HNN.out, HG1.out], by rw [HNN.out, HG2.out]⟩, hKq.trans KC⟩
                            case measure => simp [intOf]; omega
                        · have dB : (F1 == G1) = false := by simpa using h2
                          rw [if_pos (show F1 ≠ G1 from h2), dA, if_neg Bool.false_ne_true] at hnx
                          have HNN := Lib.hid hnx
                          clear hnx h1 h2
                          go_wp2_with fail
                          go_roundw
                          case rel => exact ⟨q + 1, by omega, by go_num, .inr ⟨by omega, bi, hbi, rfl, by rw [HNN.out, HBS.out], by rw [HNN.out, HG1.out], by rw [HNN.out, HG2.out]⟩, hKq.trans KC⟩
                          case measure => simp [intOf]; omega
                · have hd2 : decide ((q : Int) < (len : Int)) = false := by simp; omega
                  obtain rfl : q = len := by omega
                  rcases hst with ⟨h0', _⟩ | ⟨_, bi, hbi, rfl, hbs, rfl, rfl⟩
                  · omega
                  · have hC : syAt Ts bi = syAt (sol none ws) i := by rw [hbs, pckAt_all f Ts q (by have := EL.out; omega), HSOL.out]
                    obtain ⟨b, off, rfl, e0, e1⟩ := (HS1.out.kp hKq).2 bi hbi
                    rw [hC] at e0 e1
                    have htk : flatS ((sol none ws).take (i + 1)) = flatS ((sol none ws).take i) ++ [.int .i64 (syAt (sol none ws) i).1, .int .i64 (syAt (sol none ws) i).2] := by
                      have hsl : i < (sol none ws).length := by have := HSL.out; omega
                      rw [List.take_succ_eq_append_getElem hsl, flatS_app]
                      simp [flatS, syAt, List.getD, hsl]
                    obtain ⟨x1, ex1⟩ : ∃ x1, x1 = (syAt (sol none ws) i).1 := ⟨_, rfl⟩
                    obtain ⟨x2, ex2⟩ : ∃ x2, x2 = (syAt (sol none ws) i).2 := ⟨_, rfl⟩
                    rw [← ex1] at e0 htk
                    rw [← ex2] at e1 htk
                    have HTK := Lib.hid htk
                    have HOr := Lib.hid (ow_kp HO.out hKq)
                    have HKf := Lib.hid (HKi.out.trans hKq)
                    have hfl := HKf.out.low
                    have bl := cell_lt e0
                    have m3 : (0 : Int) ≤ (bi : Int) := by omega
                    have m4 : (bi : Int) < (q : Int) := by omega
                    clear hC htk ex1 ex2 hbs
                    go_wp2_with (at_builtin; refine wpList_append_own _ rfl (.tmp 228) (.tmp 236) 27 rfl wf.heap.size 34 i0 (.agg #[.int .i64 0, .int .i64 0]) 2 16 Tryd.underlying27 HI.out HZ0.out HZ1.out HZ2.out rfl (by decide) _ i (flatS ((sol none ws).take i)) rfl ?own ⟨wr.heap.size, 0, none⟩ 1 1 [.int .i64 x1, .int .i64 x2] rfl rfl ?c1 ?c2 ?c3 ?c4 ?c5 ?_)
                    case own => exact HOr.out.alloc _
                    case c1 => exact cell2_new _ _ _ _
                    case c2 => simp [Value.oneCell']
                    case c3 => simp only [maxLen]; omega
                    case c4 => omega
                    case c5 => simp; omega
                    intro v' w2 hown' hgrow _
                    have hk2 := Lib.hid (ow_app HKf.out HOr.out ((Kp.refl wr).al _) hgrow)
                    rw [← HTK.out] at hown'
                    obtain ⟨g', cap, rfl⟩ := ownsRow_succ hown'
                    have HO2 := Lib.hid hown'
                    clear hgrow hown'
                    go_wp2_with fail
                    go_roundw
                    case rel => exact ⟨i + 1, by omega, by go_num, HO2.out, hk2.out⟩
                    case measure => simp [intOf]; omega
            · obtain rfl : i = n := by omega
              have hd : decide ((i : Int) < (i : Int)) = false := by simp
              have htk : (sol none ws).take i = sol none ws := List.take_of_length_le (by have := HSL.out; have := HWL.out; omega)
              have HSO := Lib.hid (show Sys wr Ao i (sol none ws) by have := sys_of_own HO.out; rwa [htk] at this)
              have hfw : Full ws := by
                intro ts hts
                obtain ⟨j, hj, e⟩ := List.getElem_of_mem hts
                have := (HA.out j hj).1
                unfold lsAt at this
                simp [List.getD, hj, e] at this
                exact this
              have CM := Lib.hid (fun w h => rmoves_ok Ao i co (sol none ws) w h (by omega))
              rw [← muts_path ws hfw] at CM
              clear htk hfw
              go_wp2_with fail
              refine (CM.out _ HSO.out).mono ?_
              rintro e wr1 ⟨rfl, hb1⟩
              have Q1 : Kp wr wr1 := by repeat (first | exact Kp.refl _ | with_reducible assumption | with_reducible refine Kp.set ?_ _ _ ?_ | (dsimp only; omega) | with_reducible refine Kp.drew ?_ | with_reducible refine Kp.drewN ?_ _ | with_reducible refine Kp.al ?_ _ | with_reducible refine Kp.trans ?_ (by with_reducible assumption))
              have K1 := Q1
              clear hb1 Q1
              have HSP := Lib.hid (HSO.out.kp K1)
              go_wp2_with fail
              go_ret2
              exact ⟨⟨_, _, rfl, HSP.out⟩, (hK.trans hKi).trans (by repeat (first | exact Kp.refl _ | with_reducible assumption | with_reducible refine Kp.set ?_ _ _ ?_ | (dsimp only; omega) | with_reducible refine Kp.drew ?_ | with_reducible refine Kp.drewN ?_ _ | with_reducible refine Kp.al ?_ _ | with_reducible refine Kp.trans ?_ (by with_reducible assumption)))⟩
      · obtain ⟨i, rfl⟩ : ∃ i, m = i + 1 := ⟨m - 1, by omega⟩
        have em : ((i + 1 : Nat) : Int) - 1 = (i : Int) := by omega
        rw [em]
        clear em hm0
        have HT := Lib.hid hT
        have HKR := Lib.hid hK
        clear hT hK
        have d0 : decide (0 ≤ (i : Int)) = true := by simp
        have hin : i < n := hm
        obtain ⟨wa, ewa⟩ : ∃ wa : World, wa = wr := ⟨_, rfl⟩
        subst ewa
        have m1 : (0 : Int) ≤ (i : Int) := by omega
        have m2 : (i : Int) < (n : Int) := by omega
        have hxk := HX.out.kp HKR.out
        obtain ⟨bp, op, rfl, x0, x1, x2⟩ := hxk.2 i hin
        have cw := fun w => mways_ok (ptAt ps i).1 (ptAt ps i).2.1 (ptAt ps i).2.2 w (HVP.out i hin)
        have epp : ((ptAt ps i).1, (ptAt ps i).2.1, (ptAt ps i).2.2) = ptAt ps i := rfl
        rw [epp] at cw
        rw [← HLS.out i hin] at cw
        obtain ⟨t1, et1⟩ : ∃ t, t = (ptAt ps i).1 := ⟨_, rfl⟩
        obtain ⟨t2, et2⟩ : ∃ t, t = (ptAt ps i).2.1 := ⟨_, rfl⟩
        obtain ⟨t3, et3⟩ : ∃ t, t = (ptAt ps i).2.2 := ⟨_, rfl⟩
        rw [← et1] at x0 cw
        rw [← et2] at x1 cw
        rw [← et3] at x2 cw
        obtain ⟨Ts, eTs⟩ : ∃ Ts, Ts = lsAt ws i := ⟨_, rfl⟩
        rw [← eTs] at cw
        have hTl : Ts.length ≤ 7 := by rw [eTs, HLS.out i hin]; exact wysTo_len _ _
        have hav := fun q (hq : q < Ts.length) => ((HA.out i (by have := HWL.out; omega)).2 q (by rw [← eTs]; exact hq)).1
        rw [← eTs] at hav
        obtain ⟨len, elen⟩ : ∃ len, len = Ts.length := ⟨_, rfl⟩
        rw [← elen] at cw hTl hav
        have CW := Lib.hid cw; have HAV := Lib.hid hav; have EL := Lib.hid elen; have ETS := Lib.hid eTs
        obtain ⟨c1, c2, c3, B1, B2, B3, s1, s2, s3, hdone, hnil⟩ := HT.out
        have gl1 : g < wa.heap.size := B1.lt
        clear hxk cw hav elen eTs et1 et2 et3 epp
        go_wp2_with fail
        refine (CW.out _).mono ?_
        rintro e w1 ⟨⟨A1, d1, rfl, hown⟩, hb1⟩
        have K1 : Kp wa w1 := by repeat (first | exact Kp.refl _ | with_reducible assumption | with_reducible refine Kp.set ?_ _ _ ?_ | (dsimp only; omega) | with_reducible refine Kp.drew ?_ | with_reducible refine Kp.drewN ?_ _ | with_reducible refine Kp.al ?_ _ | with_reducible refine Kp.trans ?_ (by with_reducible assumption))
        have E1 := Lib.hid (B1.kp K1); have E2 := Lib.hid (B2.kp K1); have E3 := Lib.hid (B3.kp K1)
        have hfr := E1.out.free i
        have hci : w1.cell? ⟨g, i, none⟩ = some (c1[i]'(by omega)) := by rw [E1.out.cell]; simp [s1, hin]
        have gl2 : g < w1.heap.size := E1.out.lt
        have HOW := Lib.hid hown; have HD := Lib.hid hdone; have HN := Lib.hid hnil; have HK1 := Lib.hid K1
        clear hb1 hown hdone hnil K1 gl1 x0 x1 x2
        go_wp2_with fail
        have hgg := HG.out
        obtain ⟨wi, ewi⟩ : ∃ wi : World, wi = w1.setCell ⟨g, i, none⟩ (.slice A1 len d1) := ⟨_, rfl⟩
        obtain ⟨C1, eC1⟩ : ∃ C1, C1 = c1.setIfInBounds i (.slice A1 len d1) := ⟨_, rfl⟩
        have G1 : Blk wi g 27 C1 := by rw [ewi, eC1]; exact E1.out.set_ i _
        have G2 : Blk wi g2 22 c2 := by rw [ewi]; exact E2.out.far (by dsimp only; omega) _
        have G3 : Blk wi g3 22 c3 := by rw [ewi]; exact E3.out.far (by dsimp only; omega) _
        have KX1 : Kx g hi wa wi := by rw [ewi]; exact (Kx.of_kp HK1.out).set g i _ (Nat.le_refl _) (by omega)
        have hhi : hi ≤ wa.heap.size := by have := B3.lt; omega
        have f1 : ∀ ad, A1 = some ad → hi ≤ ad.block := fun ad e => by have := HOW.out.lt ad.block (by rw [e]; rfl); omega
        have y1 : Sys wi A1 len Ts := by rw [ewi]; exact (sys_of_own HOW.out).far _ (fun ad e => by have := f1 ad e; dsimp only; omega)
        have hdn : ∀ j, i + 1 ≤ j → j < n → Done wi hi ws C1 c2 c3 j := fun j hj hjn => (HD.out j hj hjn).kx KX1 (by rw [eC1, Array.getElem?_setIfInBounds_ne (by omega)]) rfl rfl
        have e1 : C1[i]? = some (.slice A1 len d1) := by rw [eC1]; simp [s1, hin]
        have z1 : C1.size = n := by rw [eC1]; simp [s1]
        have hr0 : RowS wi g g2 g3 hi n C1 c2 c3 ws i 0 wi := RowS.first G1 G2 G3 s2 s3 (HN.out i (by omega) hin).1 (HN.out i (by omega) hin).2 ⟨by omega, by omega, by omega, Nat.le_trans hhi KX1.size⟩
        have HE1 := Lib.hid e1; have HZ := Lib.hid z1; have HF1 := Lib.hid f1; have HY1 := Lib.hid y1; have HDN := Lib.hid hdn; have HR0 := Lib.hid hr0; have HKI := Lib.hid (KX1.kp HKR.out (by omega))
        rw [← ewi]
        clear hgg ewi eC1 G1 G2 G3 KX1 hhi f1 y1 hdn e1 z1 hr0 B1 B2 B3 s1 s2 s3 E1 E2 E3 HK1 HOW HD hfr hci gl2
        go_loopw [8] (fun v wr => ∃ k : Nat, k ≤ len ∧ v = .int .i64 (k : Int) ∧ RowS wi g g2 g3 hi n C1 c2 c3 ws i k wr) (fun v _ => len - (intOf v).toNat)
        case atStart => exact ⟨0, by omega, rfl, HR0.out⟩
        case round =>
          obtain ⟨k, hk, rfl, hR⟩ := hrel
          by_cases hkl : k < len
          · have hd2 : decide ((k : Int) < (len : Int)) = true := by simp; omega
            obtain ⟨d2, d3, v2, v3, st, z2, z3, h2, h3, ho⟩ := hR
            obtain ⟨b1, o1, rfl, p0, p1⟩ := (st.kx.sys HY1.out HF1.out).2 k hkl
            have q1 : wr.cell? ⟨g, i, none⟩ = some (.slice (some ⟨b1, o1, none⟩) len d1) := by rw [st.b1.cell, HE1.out]
            obtain ⟨B2, e2', rfl⟩ := ow_form st.o2
            obtain ⟨B3, e3', rfl⟩ := ow_form st.o3
            have H2' := Lib.hid h2; have H3' := Lib.hid h3
            have havk := HAV.out k hkl
            obtain ⟨S, eS⟩ : ∃ S, S = syAt Ts k := ⟨_, rfl⟩
            rw [← eS] at p0 p1 havk
            obtain ⟨s1, s2⟩ := S
            dsimp only at p0 p1 havk
            obtain ⟨L, eL⟩ : ∃ L, L = (lsAt ws (i + 1)).length := ⟨_, rfl⟩
            have hL7 : L ≤ 7 := by
              by_cases h : i + 1 < n
              · rw [eL, HLS.out _ h]
                exact wysTo_len _ _
              · have : lsAt ws (i + 1) = [] := by unfold lsAt; simp [List.getD, show ws.length ≤ i + 1 by have := HWL.out; omega]
                rw [eL, this]
                simp
            have hLn : 0 < L → i + 1 < n := by
              intro h
              by_cases h' : i + 1 < n
              · exact h'
              · have : lsAt ws (i + 1) = [] := by unfold lsAt; simp [List.getD, show ws.length ≤ i + 1 by have := HWL.out; omega]
                rw [eL, this] at h
                simp at h
            have hdn := fun h : i + 1 < n => (HDN.out (i + 1) (Nat.le_refl _) h).kx st.kx rfl (ho _ (by omega)).1 (ho _ (by omega)).2
            have hnx : i + 1 < n → ∃ A4 d4 A5 d5 A6 d6, wr.cell? ⟨g, i + 1, none⟩ = some (.slice A4 L d4) ∧ wr.cell? ⟨g2, i + 1, none⟩ = some (.slice A5 L d5) ∧ wr.cell? ⟨g3, i + 1, none⟩ = some (.slice A6 L d6) ∧
                Sys wr A4 L (lsAt ws (i + 1)) ∧ Ints wr A5 L (rm ws (i + 1)) ∧ Ints wr A6 L (rr ws (i + 1)) := fun h => by
              obtain ⟨A4, d4, A5, d5, A6, d6, a1, a2, a3, -, -, -, y1, y2, y3⟩ := hdn h
              rw [eL]
              exact ⟨A4, d4, A5, d5, A6, d6, by rw [st.b1.cell, a1], by rw [st.b2.cell, a2], by rw [st.b3.cell, a3], y1, y2, y3⟩
            have HNX := Lib.hid hnx; have HLN := Lib.hid hLn; have EL' := Lib.hid eL; have HHO := Lib.hid ho; have HST := Lib.hid st; have HAVK := Lib.hid havk; have HES := Lib.hid eS
            have HZ2 := Lib.hid z2; have HZ3 := Lib.hid z3
            have P0 := Lib.hid p0; have P1 := Lib.hid p1; have Q1 := Lib.hid q1
            have gl1 := cell_lt q1
            clear hnx hLn eL ho st havk eS hdn z2 z3 h2 h3 p0 p1
            go_wp2_with fail
            obtain ⟨wk, ewk⟩ : ∃ wk : World, wk = wr := ⟨_, rfl⟩
            subst ewk
            clear q1
            go_loopw [9, 10, 11] (fun vm vr vj wr => ∃ q : Nat, q ≤ L ∧ vj = .int .i64 (q : Int) ∧ vm = .int .i64 ((curAt ws i (s1, s2) q).getD (0, 0)).1 ∧ vr = .int .i64 ((curAt ws i (s1, s2) q).getD (0, 0)).2 ∧ Kp wk wr) (fun _ _ v _ => L - (intOf v).toNat)
            case atStart => exact ⟨0, by omega, rfl, rfl, rfl, Kp.refl _⟩
            case round =>
              obtain ⟨q, hq, rfl, rfl, rfl, hKq⟩ := hrel
              have w1' : IntKind.i64.wrap ((i : Int) + 1) = (i : Int) + 1 := IntWalk.i64_in _ (by omega)
              have w2' : ((i : Int) + 1).toNat = i + 1 := by omega
              have W1' := Lib.hid w1'; have W2' := Lib.hid w2'
              go_upto_region 15 with (fail)
              go_cut [74] (fun v wz => v = .bool (decide (q < L)) ∧ wz = wr)
              case first =>
                by_cases hln : i + 1 < n
                · obtain ⟨A4, d4, A5, d5, A6, d6, t4, -⟩ := HNX.out hln
                  have t4' := hKq.get t4
                  have gl2 := cell_lt t4'
                  have e1 : decide ((i : Int) + 1 < (n : Int)) = true := by simp; omega
                  have e2 : (0 : Int) ≤ (i : Int) + 1 := by omega
                  have e3 : (i : Int) + 1 < (n : Int) := by omega
                  have e4 : decide ((q : Int) < (L : Int)) = decide (q < L) := by simp
                  clear t4
                  go_wp2_with fail
                  go_meet
                  exact ⟨rfl, rfl⟩
                · have e1 : decide ((i : Int) + 1 < (n : Int)) = false := by simp; omega
                  have e5 : decide (q < L) = false := by have := HLN.out; simp; omega
                  go_wp2_with fail
                  go_meet
                  rw [e5]
                  exact ⟨rfl, rfl⟩
              case rest =>
                obtain ⟨rfl, rfl⟩ := hcut
                obtain ⟨wj, ewj⟩ : ∃ wj : World, wj = wc := ⟨_, rfl⟩
                subst ewj
                by_cases hqL : q < L
                · as_aux_lemma =>
                    have hln := HLN.out (by omega)
                    have e6 : decide (q < L) = true := by simpa using hqL
                    obtain ⟨A4, d4, A5, d5, A6, d6, t4, t5, t6, y4, y5, y6⟩ := HNX.out hln
                    obtain ⟨b4, o4, rfl, u0, u1⟩ := (y4.kp hKq).2 q hqL
                    obtain ⟨b5, o5, rfl, u2⟩ := (y5.kp hKq).2 q hqL
                    obtain ⟨b6, o6, rfl, u3⟩ := (y6.kp hKq).2 q hqL
                    have hqq : q < (lsAt ws (i + 1)).length := by have := EL'.out; omega
                    have hm5 : (rm ws (i + 1)).getD q 0 = (rst (ws.drop (i + 2)) (syAt (lsAt ws (i + 1)) q)).1 := by
                      unfold rm syAt
                      simp [List.getD, hqq]
                    have hm6 : (rr ws (i + 1)).getD q 0 = (rst (ws.drop (i + 2)) (syAt (lsAt ws (i + 1)) q)).2 := by
                      unfold rr syAt
                      simp [List.getD, hqq]
                    rw [hm5] at u2
                    rw [hm6] at u3
                    have hiw : i + 1 < ws.length := by have := HWL.out; omega
                    have havt := ((HA.out (i + 1) hiw).2 q hqq).1
                    have hcs := cur_succ ws i (s1, s2) q hqq
                    have hc1 : 1 ≤ q → ∃ c, curAt ws i (s1, s2) q = some c := fun h => by
                      have hne : (lsAt ws (i + 1)).take q ≠ [] := by
                        intro e
                        have := congrArg List.length e
                        simp at this
                        rcases this with e | e
                        · omega
                        · rw [e] at hqq
                          simp at hqq
                      obtain ⟨c, hc, _⟩ := mn_some (fnx ws i (s1, s2)) ((lsAt ws (i + 1)).take q) none (.inr hne)
                      exact ⟨c, hc⟩
                    have hdl : (ws.drop (i + 2)).length ≤ 60 := by have := HWL.out; simp; omega
                    obtain ⟨T, eT⟩ : ∃ T, T = syAt (lsAt ws (i + 1)) q := ⟨_, rfl⟩
                    rw [← eT] at u0 u1 u2 u3 havt hcs
                    have bd := rst_bd (ws.drop (i + 2)) T
                    have sb := stp_bd (s1, s2) T
                    have hfx : fnx ws i (s1, s2) T = ((stp (s1, s2) T).1 + (rst (ws.drop (i + 2)) T).1, (stp (s1, s2) T).2 + (rst (ws.drop (i + 2)) T).2) := by
                      unfold fnx addC
                      rw [Int.add_comm (rst (ws.drop (i + 2)) T).1, Int.add_comm (rst (ws.drop (i + 2)) T).2]
                    obtain ⟨RM, eRM⟩ : ∃ R, R = (rst (ws.drop (i + 2)) T).1 := ⟨_, rfl⟩
                    obtain ⟨RR, eRR⟩ : ∃ R, R = (rst (ws.drop (i + 2)) T).2 := ⟨_, rfl⟩
                    rw [← eRM] at u2 bd hfx
                    rw [← eRR] at u3 bd hfx
                    obtain ⟨T1, T2⟩ := T
                    dsimp only at u0 u1 havt
                    have cs := fun w => rcost_ok s1 s2 T1 T2 w HAVK.out havt
                    obtain ⟨a, ea⟩ : ∃ a, a = (stp (s1, s2) (T1, T2)).1 := ⟨_, rfl⟩
                    obtain ⟨b, eb⟩ : ∃ b, b = (stp (s1, s2) (T1, T2)).2 := ⟨_, rfl⟩
                    rw [← ea] at sb hfx cs
                    rw [← eb] at sb hfx cs
                    have W1 : IntKind.i64.wrap (a + RM) = a + RM := IntWalk.i64_in _ (by omega)
                    have W2 : IntKind.i64.wrap (b + RR) = b + RR := IntWalk.i64_in _ (by omega)
                    have t4' := hKq.get t4
                    have t5' := hKq.get t5
                    have t6' := hKq.get t6
                    have p0 := hKq.get P0.out
                    have p1 := hKq.get P1.out
                    have q1 := hKq.get Q1.out
                    have CS := Lib.hid cs; have HFX := Lib.hid hfx; have HCS := Lib.hid hcs; have HC1 := Lib.hid hc1
                    have e2 : (0 : Int) ≤ (i : Int) + 1 := by omega
                    have e3 : (i : Int) + 1 < (n : Int) := by omega
                    have k1 : (0 : Int) ≤ (k : Int) := by omega
                    have k2 : (k : Int) < (len : Int) := by omega
                    have k3 : (0 : Int) ≤ (q : Int) := by omega
                    have k4 : (q : Int) < (L : Int) := by omega
                    clear t4 t5 t6 y4 y5 y6 hm5 hm6 havt hcs hc1 eT bd sb hfx eRM eRR cs ea eb w1' w2'
                    go_wp2_with fail
                    have w1' := W1'.out
                    have w2' := W2'.out
                    have N5 := Lib.hid (fun (w' : World) (h : Kp wj w') => And.intro (h.get q1) (And.intro (h.get p0) (And.intro (h.get p1) (And.intro (h.get t4') (And.intro (h.get u0) (h.get u1))))))
                    have gl2 := cell_lt q1
                    have gl3 := cell_lt p0
                    have gl4 := cell_lt u0
                    go_region_held3 (fun w' => w'.cell? ⟨g, i, none⟩ = some (.slice (some ⟨b1, o1, none⟩) len d1) ∧ w'.cell? ⟨b1, o1 + k * 2, none⟩ = some (.int .i64 s1) ∧ w'.cell? ⟨b1, o1 + k * 2 + 1, none⟩ = some (.int .i64 s2) ∧ w'.cell? ⟨g, i + 1, none⟩ = some (.slice (some ⟨b4, o4, none⟩) L d4) ∧ w'.cell? ⟨b4, o4 + q * 2, none⟩ = some (.int .i64 T1) ∧ w'.cell? ⟨b4, o4 + q * 2 + 1, none⟩ = some (.int .i64 T2))
                      (exact N5.out _ (by repeat (first | exact Kp.refl _ | with_reducible assumption | with_reducible refine Kp.set ?_ _ _ ?_ | (dsimp only; omega) | with_reducible refine Kp.drew ?_ | with_reducible refine Kp.drewN ?_ _ | with_reducible refine Kp.al ?_ _ | with_reducible refine Kp.trans ?_ (by with_reducible assumption))))
                      (first | (go_at_call 55; refine (CS.out _).mono ?_; rintro e wx ⟨rfl, hkx⟩; have KX : Kp wj wx := (by repeat (first | exact Kp.refl _ | with_reducible assumption | with_reducible refine Kp.set ?_ _ _ ?_ | (dsimp only; omega) | with_reducible refine Kp.drew ?_ | with_reducible refine Kp.drewN ?_ _ | with_reducible refine Kp.al ?_ _ | with_reducible refine Kp.trans ?_ (by with_reducible assumption))); clear hkx))
                    clear w1' w2' gl2 gl3 gl4
                    have x5 := KX.get t5'
                    have x6 := KX.get t6'
                    have x2 := KX.get u2
                    have x3 := KX.get u3
                    have xl5 := cell_lt x5
                    have xl6 := cell_lt x6
                    have xl2 := cell_lt x2
                    have xl3 := cell_lt x3
                    clear t4' t5' t6' q1 p0 p1 u0 u1 u2 u3 N5
                    have HKX := Lib.hid (hKq.trans KX)
                    go_wp2_with fail
                    have w1' := W1'.out
                    have w2' := W2'.out
                    go_quiet (fail)
                    clear w1' w2'
                    obtain ⟨M, eM⟩ : ∃ M, M = ((curAt ws i (s1, s2) q).getD (0, 0)).1 := ⟨_, rfl⟩
                    obtain ⟨R, eR⟩ : ∃ R, R = ((curAt ws i (s1, s2) q).getD (0, 0)).2 := ⟨_, rfl⟩
                    obtain ⟨X, eX⟩ : ∃ X, X = a + RM := ⟨_, rfl⟩
                    obtain ⟨Y, eY⟩ : ∃ Y, Y = b + RR := ⟨_, rfl⟩
                    rw [← eM]
                    rw [← eR]
                    rw [← eX]
                    rw [← eY]
                    have hfx := HFX.out
                    rw [← eX, ← eY] at hfx
                    have hcs := HCS.out
                    clear W1 W2 x5 x6 x2 x3 xl5 xl6 xl2 xl3
                    by_cases hq0 : q = 0
                    · have d1 : ((q : Int) == 0) = true := by simp; omega
                      have hn : curAt ws i (s1, s2) (q + 1) = some (X, Y) := by
                        rw [hcs, hq0, cur_zero]
                        show some (fnx ws i (s1, s2) (T1, T2)) = _
                        rw [hfx]
                      have HN1 : Hid (((curAt ws i (s1, s2) (q + 1)).getD (0, 0)).1 = X) := by exact (by rw [hn]; rfl)
                      have HN2 : Hid (((curAt ws i (s1, s2) (q + 1)).getD (0, 0)).2 = Y) := by exact (by rw [hn]; rfl)
                      clear hn hcs hfx eX eY eM eR hq0
                      go_wp2_with fail
                      go_roundw
                      case rel => exact ⟨q + 1, by omega, by go_num, by rw [HN1.out], by rw [HN2.out], by have := HKX.out; repeat (first | exact Kp.refl _ | with_reducible assumption | with_reducible refine Kp.set ?_ _ _ ?_ | (dsimp only; omega) | with_reducible refine Kp.drew ?_ | with_reducible refine Kp.drewN ?_ _ | with_reducible refine Kp.al ?_ _ | with_reducible refine Kp.trans ?_ (by with_reducible assumption))⟩
                      case measure => simp [intOf]; omega
                    · have d1 : ((q : Int) == 0) = false := by simp; omega
                      have d1n : ¬ q = 0 := hq0
                      obtain ⟨c0, hc0⟩ := HC1.out (by omega)
                      have hC : curAt ws i (s1, s2) q = some (M, R) := by rw [eM, eR, hc0]; rfl
                      have hn : curAt ws i (s1, s2) (q + 1) = if lx (X, Y) (M, R) then some (X, Y) else some (M, R) := by
                        rw [hcs, hC]
                        show (if lx (fnx ws i (s1, s2) (T1, T2)) (M, R) then some (fnx ws i (s1, s2) (T1, T2)) else some (M, R)) = _
                        rw [hfx]
                      have hlx : lx (X, Y) (M, R) = if X ≠ M then decide (X < M) else decide (Y < R) := rfl
                      rw [hlx] at hn
                      clear hlx hC hcs hfx eX eY eM eR hq0
                      by_cases c1' : X < M
                      · have dA : decide (X < M) = true := decide_eq_true c1'
                        rw [if_pos (show X ≠ M by omega), dA, if_pos rfl] at hn
                        have HN1 : Hid (((curAt ws i (s1, s2) (q + 1)).getD (0, 0)).1 = X) := by exact (by rw [hn]; rfl)
                        have HN2 : Hid (((curAt ws i (s1, s2) (q + 1)).getD (0, 0)).2 = Y) := by exact (by rw [hn]; rfl)
                        clear hn c1'
                        go_wp2_with fail
                        go_roundw
                        case rel => exact ⟨q + 1, by omega, by go_num, by rw [HN1.out], by rw [HN2.out], by have := HKX.out; repeat (first | exact Kp.refl _ | with_reducible assumption | with_reducible refine Kp.set ?_ _ _ ?_ | (dsimp only; omega) | with_reducible refine Kp.drew ?_ | with_reducible refine Kp.drewN ?_ _ | with_reducible refine Kp.al ?_ _ | with_reducible refine Kp.trans ?_ (by with_reducible assumption))⟩
                        case measure => simp [intOf]; omega
                      · have dA : decide (X < M) = false := decide_eq_false c1'
                        by_cases c2' : X = M
                        · have dB : (X == M) = true := by simpa using c2'
                          rw [if_neg (show ¬ X ≠ M from fun h => h c2')] at hn
                          by_cases c3' : Y < R
                          · have dC : decide (Y < R) = true := decide_eq_true c3'
                            rw [dC, if_pos rfl] at hn
                            have HN1 : Hid (((curAt ws i (s1, s2) (q + 1)).getD (0, 0)).1 = X) := by exact (by rw [hn]; rfl)
                            have HN2 : Hid (((curAt ws i (s1, s2) (q + 1)).getD (0, 0)).2 = Y) := by exact (by rw [hn]; rfl)
                            clear hn c1' c2' c3'
                            go_wp2_with fail
                            go_roundw
                            case rel => exact ⟨q + 1, by omega, by go_num, by rw [HN1.out], by rw [HN2.out], by have := HKX.out; repeat (first | exact Kp.refl _ | with_reducible assumption | with_reducible refine Kp.set ?_ _ _ ?_ | (dsimp only; omega) | with_reducible refine Kp.drew ?_ | with_reducible refine Kp.drewN ?_ _ | with_reducible refine Kp.al ?_ _ | with_reducible refine Kp.trans ?_ (by with_reducible assumption))⟩
                            case measure => simp [intOf]; omega
                          · have dC : decide (Y < R) = false := decide_eq_false c3'
                            rw [dC, if_neg Bool.false_ne_true] at hn
                            have HN1 : Hid (((curAt ws i (s1, s2) (q + 1)).getD (0, 0)).1 = M) := by exact (by rw [hn]; rfl)
                            have HN2 : Hid (((curAt ws i (s1, s2) (q + 1)).getD (0, 0)).2 = R) := by exact (by rw [hn]; rfl)
                            clear hn c1' c2' c3'
                            go_wp2_with fail
                            go_roundw
                            case rel => exact ⟨q + 1, by omega, by go_num, by rw [HN1.out], by rw [HN2.out], by have := HKX.out; repeat (first | exact Kp.refl _ | with_reducible assumption | with_reducible refine Kp.set ?_ _ _ ?_ | (dsimp only; omega) | with_reducible refine Kp.drew ?_ | with_reducible refine Kp.drewN ?_ _ | with_reducible refine Kp.al ?_ _ | with_reducible refine Kp.trans ?_ (by with_reducible assumption))⟩
                            case measure => simp [intOf]; omega
                        · have dB : (X == M) = false := by simpa using c2'
                          rw [if_pos (show X ≠ M from c2'), dA, if_neg Bool.false_ne_true] at hn
                          have HN1 : Hid (((curAt ws i (s1, s2) (q + 1)).getD (0, 0)).1 = M) := by exact (by rw [hn]; rfl)
                          have HN2 : Hid (((curAt ws i (s1, s2) (q + 1)).getD (0, 0)).2 = R) := by exact (by rw [hn]; rfl)
                          clear hn c1' c2'
                          go_wp2_with fail
                          go_roundw
                          case rel => exact ⟨q + 1, by omega, by go_num, by rw [HN1.out], by rw [HN2.out], by have := HKX.out; repeat (first | exact Kp.refl _ | with_reducible assumption | with_reducible refine Kp.set ?_ _ _ ?_ | (dsimp only; omega) | with_reducible refine Kp.drew ?_ | with_reducible refine Kp.drewN ?_ _ | with_reducible refine Kp.al ?_ _ | with_reducible refine Kp.trans ?_ (by with_reducible assumption))⟩
                          case measure => simp [intOf]; omega
                · as_aux_lemma =>
                    have e6 : decide (q < L) = false := by simpa using hqL
                    obtain rfl : q = L := by omega
                    have hfin : (curAt ws i (s1, s2) q).getD (0, 0) = rst (ws.drop (i + 1)) (s1, s2) := by
                      by_cases hln : i + 1 < ws.length
                      · rw [cur_end ws i (s1, s2) q hln (HA.out _ hln).1 (by have := EL'.out; omega)]
                        rfl
                      · have h1 : lsAt ws (i + 1) = [] := by unfold lsAt; simp [List.getD, show ws.length ≤ i + 1 by omega]
                        have h2 : ws.drop (i + 1) = [] := List.drop_eq_nil_of_le (by omega)
                        unfold curAt
                        rw [h1, h2]
                        simp [rst]
                    rw [hfin]
                    obtain ⟨X, eX⟩ : ∃ X, X = (rst (ws.drop (i + 1)) (s1, s2)).1 := ⟨_, rfl⟩
                    obtain ⟨Y, eY⟩ : ∃ Y, Y = (rst (ws.drop (i + 1)) (s1, s2)).2 := ⟨_, rfl⟩
                    rw [← eX]
                    rw [← eY]
                    have HEX := Lib.hid eX; have HEY := Lib.hid eY
                    clear hfin eX eY
                    -- region21
                    go_wp2_with fail
                    have HSJ := Lib.hid ((HST.out.kp hKq).kp (Kp.drew (Kp.refl _)))
                    have HH2 := H2'; have HH3 := H3'
                    obtain ⟨ii, hi0, hi1, hi2, hi3⟩ := info_parts one_int
                    have HI0 := Lib.hid hi0; have HI1 := Lib.hid hi1; have HI2 := Lib.hid hi2; have HI3 := Lib.hid hi3
                    clear hi0 hi1 hi2 hi3
                    refine wp_region_till (S := (fun w' => w'.cell? ⟨g2, i, none⟩ = some (.slice B2 k e2') ∧ w'.cell? ⟨g3, i, none⟩ = some (.slice B3 k e3'))) (z := 19) (by kernel_rfl) ?_
                    obtain ⟨wd, ewd⟩ : ∃ wd : World, wd = wj.drew := ⟨_, rfl⟩
                    rw [← ewd] at HSJ ⊢
                    have hHeld := HSJ.out.cells HH2.out HH3.out
                    clear ewd hKq gl1
                    refine till_takeW (i := 0) (v := ?v0) rfl (by kernel_rfl) (by kernel_rfl) (by kernel_rfl) (by kernel_rfl) (fun _ _ _ h => h) (Or.inl ⟨by rfl, ?y0⟩) hHeld ?r0
                    case y0 =>
                      intro w hSw
                      clear hSw
                      go_simp
                      try with_reducible rfl
                    try simp only [Act.put, List.getElem_toArray, List.getElem_cons_zero, List.getElem_cons_succ, List.setIfInBounds_toArray, List.set_cons_zero, List.set_cons_succ]
                    refine till_takeW (i := 1) (v := ?v1) rfl (by kernel_rfl) (by kernel_rfl) (by kernel_rfl) (by kernel_rfl) (fun _ _ _ h => h) (Or.inl ⟨by rfl, ?y1⟩) hHeld ?r1
                    case y1 =>
                      intro w hSw
                      clear hSw
                      go_simp
                      try with_reducible rfl
                    try simp only [Act.put, List.getElem_toArray, List.getElem_cons_zero, List.getElem_cons_succ, List.setIfInBounds_toArray, List.set_cons_zero, List.set_cons_succ]
                    refine till_takeW (i := 2) (v := ?v2) rfl (by kernel_rfl) (by kernel_rfl) (by kernel_rfl) (by kernel_rfl) (fun _ _ _ h => h) (Or.inl ⟨by rfl, ?y2⟩) hHeld ?r2
                    case y2 =>
                      intro w hSw
                      clear hSw
                      go_simp
                      try with_reducible rfl
                    try simp only [Act.put, List.getElem_toArray, List.getElem_cons_zero, List.getElem_cons_succ, List.setIfInBounds_toArray, List.set_cons_zero, List.set_cons_succ]
                    refine till_takeW (i := 3) (v := ?v3) rfl (by kernel_rfl) (by kernel_rfl) (by kernel_rfl) (by kernel_rfl) (fun _ _ _ h => h) (Or.inl ⟨by rfl, ?y3⟩) hHeld ?r3
                    case y3 =>
                      intro w hSw
                      clear hSw
                      go_simp
                      try with_reducible rfl
                    try simp only [Act.put, List.getElem_toArray, List.getElem_cons_zero, List.getElem_cons_succ, List.setIfInBounds_toArray, List.set_cons_zero, List.set_cons_succ]
                    refine till_takeW (i := 4) (v := ?v4) rfl (by kernel_rfl) (by kernel_rfl) (by kernel_rfl) (by kernel_rfl) (fun _ _ _ h => h) (Or.inl ⟨by rfl, ?y4⟩) hHeld ?r4
                    case y4 =>
                      intro w hSw
                      clear hSw
                      go_simp
                      try with_reducible rfl
                    try simp only [Act.put, List.getElem_toArray, List.getElem_cons_zero, List.getElem_cons_succ, List.setIfInBounds_toArray, List.set_cons_zero, List.set_cons_succ]
                    refine till_takeW (i := 5) (v := ?v5) rfl (by kernel_rfl) (by kernel_rfl) (by kernel_rfl) (by kernel_rfl) (fun _ _ _ h => h) (Or.inl ⟨by rfl, ?y5⟩) hHeld ?r5
                    case y5 =>
                      intro w hSw
                      clear hSw
                      go_simp
                      try with_reducible rfl
                    try simp only [Act.put, List.getElem_toArray, List.getElem_cons_zero, List.getElem_cons_succ, List.setIfInBounds_toArray, List.set_cons_zero, List.set_cons_succ]
                    refine till_takeW (i := 6) (v := ?v6) rfl (by kernel_rfl) (by kernel_rfl) (by kernel_rfl) (by kernel_rfl) (fun _ _ _ h => h) (Or.inl ⟨by rfl, ?y6⟩) hHeld ?r6
                    case y6 =>
                      intro w hSw
                      clear hSw
                      go_simp
                      try with_reducible rfl
                    try simp only [Act.put, List.getElem_toArray, List.getElem_cons_zero, List.getElem_cons_succ, List.setIfInBounds_toArray, List.set_cons_zero, List.set_cons_succ]
                    refine till_takeW (i := 8) (v := ?v8) rfl (by kernel_rfl) (by kernel_rfl) (by kernel_rfl) (by kernel_rfl) (fun _ _ _ h => h) (Or.inl ⟨by rfl, ?y8⟩) hHeld ?r8
                    case y8 =>
                      intro w hSw
                      clear hSw
                      go_simp
                      try with_reducible rfl
                    try simp only [Act.put, List.getElem_toArray, List.getElem_cons_zero, List.getElem_cons_succ, List.setIfInBounds_toArray, List.set_cons_zero, List.set_cons_succ]
                    refine till_takeW (i := 11) (v := ?v11) rfl (by kernel_rfl) (by kernel_rfl) (by kernel_rfl) (by kernel_rfl) (fun _ _ _ h => h) (Or.inl ⟨by rfl, ?y11⟩) hHeld ?r11
                    case y11 =>
                      intro w hSw
                      clear hSw
                      go_simp
                      try with_reducible rfl
                    try simp only [Act.put, List.getElem_toArray, List.getElem_cons_zero, List.getElem_cons_succ, List.setIfInBounds_toArray, List.set_cons_zero, List.set_cons_succ]
                    refine till_takeW (i := 12) (v := ?v12) rfl (by kernel_rfl) (by kernel_rfl) (by kernel_rfl) (by kernel_rfl) (fun _ _ _ h => h) (Or.inl ⟨by rfl, ?y12⟩) hHeld ?r12
                    case y12 =>
                      intro w hSw
                      clear hSw
                      go_simp
                      try with_reducible rfl
                    try simp only [Act.put, List.getElem_toArray, List.getElem_cons_zero, List.getElem_cons_succ, List.setIfInBounds_toArray, List.set_cons_zero, List.set_cons_succ]
                    refine till_takeW (i := 13) (v := ?v13) rfl (by kernel_rfl) (by kernel_rfl) (by kernel_rfl) (by kernel_rfl) (fun _ _ _ h => h) (Or.inl ⟨by rfl, ?y13⟩) hHeld ?r13
                    case y13 =>
                      intro w hSw
                      clear hSw
                      go_simp
                      try with_reducible rfl
                    try simp only [Act.put, List.getElem_toArray, List.getElem_cons_zero, List.getElem_cons_succ, List.setIfInBounds_toArray, List.set_cons_zero, List.set_cons_succ]
                    refine till_takeW (i := 15) (v := ?v15) rfl (by kernel_rfl) (by kernel_rfl) (by kernel_rfl) (by kernel_rfl) (fun _ _ _ h => h) (Or.inl ⟨by rfl, ?y15⟩) hHeld ?r15
                    case y15 =>
                      intro w hSw
                      clear hSw
                      go_simp
                      try with_reducible rfl
                    try simp only [Act.put, List.getElem_toArray, List.getElem_cons_zero, List.getElem_cons_succ, List.setIfInBounds_toArray, List.set_cons_zero, List.set_cons_succ]
                    refine till_take (i := 7) (v := ?v7) rfl (by kernel_rfl) (by kernel_rfl) (by kernel_rfl) (by kernel_rfl) (by kernel_rfl) (fun _ _ _ h => h) (Or.inl ⟨by rfl, ?y7⟩) hHeld ?r7
                    case y7 =>
                      intro w hSw
                      (try dsimp only at hSw)
                      go_simp
                      try with_reducible rfl
                    try simp only [Act.put, List.getElem_toArray, List.getElem_cons_zero, List.getElem_cons_succ, List.setIfInBounds_toArray, List.set_cons_zero, List.set_cons_succ]
                    refine till_take (i := 14) (v := ?v14) rfl (by kernel_rfl) (by kernel_rfl) (by kernel_rfl) (by kernel_rfl) (by kernel_rfl) (fun _ _ _ h => h) (Or.inl ⟨by rfl, ?y14⟩) hHeld ?r14
                    case y14 =>
                      intro w hSw
                      (try dsimp only at hSw)
                      go_simp
                      try with_reducible rfl
                    try simp only [Act.put, List.getElem_toArray, List.getElem_cons_zero, List.getElem_cons_succ, List.setIfInBounds_toArray, List.set_cons_zero, List.set_cons_succ]
                    clear hHeld
                    refine till_ready (rs := [9, 16]) (by kernel_rfl) (by simp) ?_
                    refine AllTill.cons rfl (fun K hK => ?s15) ?m15
                    case s15 =>
                      try simp only [List.getElem_toArray, List.getElem_cons_zero, List.getElem_cons_succ]
                      go_simp
                      have KA5 : Kp wd (wd.alloc (.cells #[.int .i64 X] 3)) := (Kp.refl _).al _
                      have hc3 : (wd.alloc (.cells #[.int .i64 X] 3)).cell? ⟨wd.heap.size, 0, none⟩ = some (.int .i64 X) := by simp [go_sem]
                      have SA4 := Lib.hid (HSJ.out.kp KA5)
                      obtain ⟨wa1, ewa1⟩ : ∃ x : World, x = wd.alloc (.cells #[.int .i64 X] 3) := ⟨_, rfl⟩
                      rw [← ewa1] at hc3 SA4 ⊢
                      obtain ⟨aa2, eaa2⟩ : ∃ x : Nat, x = wd.heap.size := ⟨_, rfl⟩
                      rw [← eaa2] at hc3 ⊢
                      clear ewa1 eaa2 KA5
                      refine hK.out _ _ (fun _ => SA4.out.cells HH2.out HH3.out) ?_
                      clear hK K
                      try simp only [Act.put, List.getElem_toArray, List.getElem_cons_zero, List.getElem_cons_succ, List.setIfInBounds_toArray, List.set_cons_zero, List.set_cons_succ]
                      refine till_ready (rs := [10, 16]) (by kernel_rfl) (by simp) ?_
                      refine AllTill.cons rfl (fun K hK => ?s7) ?m7
                      case s7 =>
                        try simp only [List.getElem_toArray, List.getElem_cons_zero, List.getElem_cons_succ]
                        refine wp_append_at (.tmp 142) (.tmp 144) 22 rfl wi.heap.size 3 ii (.int .i64 0) 1 8 Tryd.underlying22 HI0.out HI1.out HI2.out HI3.out rfl (by decide) (.slice B2 k e2') k _ rfl SA4.out.o2 ⟨aa2, 0, none⟩ 1 1 [.int .i64 X] rfl rfl (one_cell hc3) (by simp [Value.oneCell']) (by simp only [maxLen]; omega) (by omega) SA4.out.kx.size ?_
                        intro v' wb7 hown' hgrow hb
                        have SB8 := Lib.hid (SA4.out.app2 hgrow hown' hb)
                        obtain ⟨D2, p2, rfl⟩ := ow_form hown'
                        clear hgrow hown' hb hc3
                        refine hK.out _ _ (fun _ => SB8.out.cells HH2.out HH3.out) ?_
                        clear hK K
                        try simp only [Act.put, List.getElem_toArray, List.getElem_cons_zero, List.getElem_cons_succ, List.setIfInBounds_toArray, List.set_cons_zero, List.set_cons_succ]
                        refine till_ready (rs := [16]) (by kernel_rfl) (by simp) ?_
                        refine AllTill.cons rfl (fun K hK => ?s6) ?m6
                        case s6 =>
                          try simp only [List.getElem_toArray, List.getElem_cons_zero, List.getElem_cons_succ]
                          go_simp
                          have KA13 : Kp wb7 (wb7.alloc (.cells #[.int .i64 Y] 3)) := (Kp.refl _).al _
                          have hc11 : (wb7.alloc (.cells #[.int .i64 Y] 3)).cell? ⟨wb7.heap.size, 0, none⟩ = some (.int .i64 Y) := by simp [go_sem]
                          have SA12 := Lib.hid (SB8.out.kp KA13)
                          obtain ⟨wa9, ewa9⟩ : ∃ x : World, x = wb7.alloc (.cells #[.int .i64 Y] 3) := ⟨_, rfl⟩
                          rw [← ewa9] at hc11 SA12 ⊢
                          obtain ⟨aa10, eaa10⟩ : ∃ x : Nat, x = wb7.heap.size := ⟨_, rfl⟩
                          rw [← eaa10] at hc11 ⊢
                          clear ewa9 eaa10 KA13
                          refine hK.out _ _ (fun _ => SA12.out.cells HH2.out HH3.out) ?_
                          clear hK K
                          try simp only [Act.put, List.getElem_toArray, List.getElem_cons_zero, List.getElem_cons_succ, List.setIfInBounds_toArray, List.set_cons_zero, List.set_cons_succ]
                          refine till_ready (rs := [17]) (by kernel_rfl) (by simp) ?_
                          refine AllTill.cons rfl (fun K hK => ?s5) ?m5
                          case s5 =>
                            try simp only [List.getElem_toArray, List.getElem_cons_zero, List.getElem_cons_succ]
                            refine wp_append_at (.tmp 149) (.tmp 151) 22 rfl wi.heap.size 3 ii (.int .i64 0) 1 8 Tryd.underlying22 HI0.out HI1.out HI2.out HI3.out rfl (by decide) (.slice B3 k e3') k _ rfl SA12.out.o3 ⟨aa10, 0, none⟩ 1 1 [.int .i64 Y] rfl rfl (one_cell hc11) (by simp [Value.oneCell']) (by simp only [maxLen]; omega) (by omega) SA12.out.kx.size ?_
                            intro v' wb15 hown' hgrow hb
                            have SB16 := Lib.hid (SA12.out.app3 hgrow hown' hb)
                            obtain ⟨D3, p3, rfl⟩ := ow_form hown'
                            clear hgrow hown' hb hc11
                            refine hK.out _ _ (fun _ => SB16.out.cells HH2.out HH3.out) ?_
                            clear hK K
                            try simp only [Act.put, List.getElem_toArray, List.getElem_cons_zero, List.getElem_cons_succ, List.setIfInBounds_toArray, List.set_cons_zero, List.set_cons_succ]
                            refine till_ready (rs := [18]) (by kernel_rfl) (by simp) ?_
                            refine AllTill.cons rfl (fun K hK => ?s4) ?m4
                            case s4 =>
                              try simp only [List.getElem_toArray, List.getElem_cons_zero, List.getElem_cons_succ]
                              go_simp
                              refine hK.out _ _ (fun _ => SB16.out.cells HH2.out HH3.out) ?_
                              clear hK K
                              try simp only [Act.put, List.getElem_toArray, List.getElem_cons_zero, List.getElem_cons_succ, List.setIfInBounds_toArray, List.set_cons_zero, List.set_cons_succ]
                              refine till_ready (rs := [19]) (by kernel_rfl) (by simp) ?_
                              refine AllTill.cons rfl (fun K hK => ?s3) ?m3
                              case s3 =>
                                try simp only [List.getElem_toArray, List.getElem_cons_zero, List.getElem_cons_succ]
                                have hc17 := (SB16.out.cells HH2.out HH3.out).1
                                have hf19 := SB16.out.b2.free i
                                have gz23 := cell_lt hc17
                                go_simp
                                clear hc17 hf19 gz23
                                have SP22 := Lib.hid (SB16.out.put2 i (.slice D2 (k + 1) p2))
                                have hc18 : (wb15.setCell ⟨g2, i, none⟩ (.slice D2 (k + 1) p2)).cell? ⟨g3, i, none⟩ = some (.slice B3 k e3') := by rw [SP22.out.b3.cell]; exact HH3.out
                                have hf20 := SP22.out.b3.free i
                                obtain ⟨wp21, ewp21⟩ : ∃ x : World, x = wb15.setCell ⟨g2, i, none⟩ (.slice D2 (k + 1) p2) := ⟨_, rfl⟩
                                rw [← ewp21] at hc18 hf20 ⊢
                                have hc18l := cell_lt hc18
                                have Hwp21 := Lib.hid ewp21
                                clear ewp21
                                refine hK.out _ _ (till_past (by kernel_rfl)) ?_
                                clear hK K
                                try simp only [Act.put, List.getElem_toArray, List.getElem_cons_zero, List.getElem_cons_succ, List.setIfInBounds_toArray, List.set_cons_zero, List.set_cons_succ]
                                refine till_ready (rs := [20]) (by kernel_rfl) (by simp) ?_
                                refine AllTill.cons rfl (fun K hK => ?s2) ?m2
                                case s2 =>
                                  try simp only [List.getElem_toArray, List.getElem_cons_zero, List.getElem_cons_succ]
                                  go_simp
                                  refine hK.out _ _ (till_past (by kernel_rfl)) ?_
                                  clear hK K
                                  try simp only [Act.put, List.getElem_toArray, List.getElem_cons_zero, List.getElem_cons_succ, List.setIfInBounds_toArray, List.set_cons_zero, List.set_cons_succ]
                                  refine till_ready (rs := [21]) (by kernel_rfl) (by simp) ?_
                                  refine AllTill.cons rfl (fun K hK => ?s1) ?m1
                                  case s1 =>
                                    try simp only [List.getElem_toArray, List.getElem_cons_zero, List.getElem_cons_succ]
                                    go_simp
                                    refine hK.out _ _ (till_past (by kernel_rfl)) ?_
                                    clear hK K
                                    try simp only [Act.put, List.getElem_toArray, List.getElem_cons_zero, List.getElem_cons_succ, List.setIfInBounds_toArray, List.set_cons_zero, List.set_cons_succ]
                                    refine till_done (by kernel_rfl) ?_ _
                                    rw [Hwp21.out]
                                    clear hc18 hf20 hc18l SP22
                                    have HRN := Lib.hid (RowS.next (i := i) (k := k) (x := X) (y := Y) (by have := EL.out; rw [← ETS.out]; omega) (by rw [← ETS.out, ← HES.out]; exact HEX.out) (by rw [← ETS.out, ← HES.out]; exact HEY.out) hin HZ2.out HZ3.out HHO.out SB16.out)
                                    go_wp2_with fail
                                    go_roundw
                                    case rel => exact ⟨k + 1, by omega, by go_num, HRN.out⟩
                                    case measure => simp [intOf]; omega
                                  exact AllTill.nil
                                exact AllTill.nil
                              exact AllTill.nil
                            exact AllTill.nil
                          exact AllTill.nil
                        exact AllTill.nil
                      refine AllTill.cons rfl (fun K hK => ?s14) ?m14
                      case s14 =>
                        try simp only [List.getElem_toArray, List.getElem_cons_zero, List.getElem_cons_succ]
                        go_simp
                        have KA28 : Kp wa1 (wa1.alloc (.cells #[.int .i64 Y] 3)) := (Kp.refl _).al _
                        have hc26 : (wa1.alloc (.cells #[.int .i64 Y] 3)).cell? ⟨wa1.heap.size, 0, none⟩ = some (.int .i64 Y) := by simp [go_sem]
                        have SA27 := Lib.hid (SA4.out.kp KA28)
                        have la29 : ∀ b, (Value.slice B2 k e2').ownBlock = some b → b < wa1.heap.size := fun b e => (SA4.out.o2.lt b e).2
                        have hc30 := KA28.get hc3
                        obtain ⟨wa24, ewa24⟩ : ∃ x : World, x = wa1.alloc (.cells #[.int .i64 Y] 3) := ⟨_, rfl⟩
                        rw [← ewa24] at hc26 SA27 hc30 ⊢
                        obtain ⟨aa25, eaa25⟩ : ∃ x : Nat, x = wa1.heap.size := ⟨_, rfl⟩
                        rw [← eaa25] at hc26 la29 ⊢
                        clear ewa24 eaa25 KA28
                        refine hK.out _ _ (fun _ => SA27.out.cells HH2.out HH3.out) ?_
                        clear hK K
                        try simp only [Act.put, List.getElem_toArray, List.getElem_cons_zero, List.getElem_cons_succ, List.setIfInBounds_toArray, List.set_cons_zero, List.set_cons_succ]
                        refine till_ready (rs := [10]) (by kernel_rfl) (by simp) ?_
                        refine AllTill.cons rfl (fun K hK => ?s13) ?m13
                        case s13 =>
                          try simp only [List.getElem_toArray, List.getElem_cons_zero, List.getElem_cons_succ]
                          refine wp_append_at (.tmp 142) (.tmp 144) 22 rfl wi.heap.size 3 ii (.int .i64 0) 1 8 Tryd.underlying22 HI0.out HI1.out HI2.out HI3.out rfl (by decide) (.slice B2 k e2') k _ rfl SA27.out.o2 ⟨aa2, 0, none⟩ 1 1 [.int .i64 X] rfl rfl (one_cell hc30) (by simp [Value.oneCell']) (by simp only [maxLen]; omega) (by omega) SA27.out.kx.size ?_
                          intro v' wb31 hown' hgrow hb
                          have SB32 := Lib.hid (SA27.out.app2 hgrow hown' hb)
                          have hc33 := grown_cell hc26 hgrow (fun b e => by have := la29 b e; omega)
                          obtain ⟨D2, p2, rfl⟩ := ow_form hown'
                          clear hgrow hown' hb hc30
                          refine hK.out _ _ (fun _ => SB32.out.cells HH2.out HH3.out) ?_
                          clear hK K
                          try simp only [Act.put, List.getElem_toArray, List.getElem_cons_zero, List.getElem_cons_succ, List.setIfInBounds_toArray, List.set_cons_zero, List.set_cons_succ]
                          refine till_ready (rs := [17]) (by kernel_rfl) (by simp) ?_
                          refine AllTill.cons rfl (fun K hK => ?s12) ?m12
                          case s12 =>
                            try simp only [List.getElem_toArray, List.getElem_cons_zero, List.getElem_cons_succ]
                            refine wp_append_at (.tmp 149) (.tmp 151) 22 rfl wi.heap.size 3 ii (.int .i64 0) 1 8 Tryd.underlying22 HI0.out HI1.out HI2.out HI3.out rfl (by decide) (.slice B3 k e3') k _ rfl SB32.out.o3 ⟨aa25, 0, none⟩ 1 1 [.int .i64 Y] rfl rfl (one_cell hc33) (by simp [Value.oneCell']) (by simp only [maxLen]; omega) (by omega) SB32.out.kx.size ?_
                            intro v' wb34 hown' hgrow hb
                            have SB35 := Lib.hid (SB32.out.app3 hgrow hown' hb)
                            obtain ⟨D3, p3, rfl⟩ := ow_form hown'
                            clear hgrow hown' hb hc33
                            refine hK.out _ _ (fun _ => SB35.out.cells HH2.out HH3.out) ?_
                            clear hK K
                            try simp only [Act.put, List.getElem_toArray, List.getElem_cons_zero, List.getElem_cons_succ, List.setIfInBounds_toArray, List.set_cons_zero, List.set_cons_succ]
                            refine till_ready (rs := [18]) (by kernel_rfl) (by simp) ?_
                            refine AllTill.cons rfl (fun K hK => ?s11) ?m11
                            case s11 =>
                              try simp only [List.getElem_toArray, List.getElem_cons_zero, List.getElem_cons_succ]
                              go_simp
                              refine hK.out _ _ (fun _ => SB35.out.cells HH2.out HH3.out) ?_
                              clear hK K
                              try simp only [Act.put, List.getElem_toArray, List.getElem_cons_zero, List.getElem_cons_succ, List.setIfInBounds_toArray, List.set_cons_zero, List.set_cons_succ]
                              refine till_ready (rs := [19]) (by kernel_rfl) (by simp) ?_
                              refine AllTill.cons rfl (fun K hK => ?s10) ?m10
                              case s10 =>
                                try simp only [List.getElem_toArray, List.getElem_cons_zero, List.getElem_cons_succ]
                                have hc36 := (SB35.out.cells HH2.out HH3.out).1
                                have hf38 := SB35.out.b2.free i
                                have gz42 := cell_lt hc36
                                go_simp
                                clear hc36 hf38 gz42
                                have SP41 := Lib.hid (SB35.out.put2 i (.slice D2 (k + 1) p2))
                                have hc37 : (wb34.setCell ⟨g2, i, none⟩ (.slice D2 (k + 1) p2)).cell? ⟨g3, i, none⟩ = some (.slice B3 k e3') := by rw [SP41.out.b3.cell]; exact HH3.out
                                have hf39 := SP41.out.b3.free i
                                obtain ⟨wp40, ewp40⟩ : ∃ x : World, x = wb34.setCell ⟨g2, i, none⟩ (.slice D2 (k + 1) p2) := ⟨_, rfl⟩
                                rw [← ewp40] at hc37 hf39 ⊢
                                have hc37l := cell_lt hc37
                                have Hwp40 := Lib.hid ewp40
                                clear ewp40
                                refine hK.out _ _ (till_past (by kernel_rfl)) ?_
                                clear hK K
                                try simp only [Act.put, List.getElem_toArray, List.getElem_cons_zero, List.getElem_cons_succ, List.setIfInBounds_toArray, List.set_cons_zero, List.set_cons_succ]
                                refine till_ready (rs := [20]) (by kernel_rfl) (by simp) ?_
                                refine AllTill.cons rfl (fun K hK => ?s9) ?m9
                                case s9 =>
                                  try simp only [List.getElem_toArray, List.getElem_cons_zero, List.getElem_cons_succ]
                                  go_simp
                                  refine hK.out _ _ (till_past (by kernel_rfl)) ?_
                                  clear hK K
                                  try simp only [Act.put, List.getElem_toArray, List.getElem_cons_zero, List.getElem_cons_succ, List.setIfInBounds_toArray, List.set_cons_zero, List.set_cons_succ]
                                  refine till_ready (rs := [21]) (by kernel_rfl) (by simp) ?_
                                  refine AllTill.cons rfl (fun K hK => ?s8) ?m8
                                  case s8 =>
                                    try simp only [List.getElem_toArray, List.getElem_cons_zero, List.getElem_cons_succ]
                                    go_simp
                                    refine hK.out _ _ (till_past (by kernel_rfl)) ?_
                                    clear hK K
                                    try simp only [Act.put, List.getElem_toArray, List.getElem_cons_zero, List.getElem_cons_succ, List.setIfInBounds_toArray, List.set_cons_zero, List.set_cons_succ]
                                    refine till_done (by kernel_rfl) ?_ _
                                    rw [Hwp40.out]
                                    clear hc37 hf39 hc37l SP41
                                    have HRN := Lib.hid (RowS.next (i := i) (k := k) (x := X) (y := Y) (by have := EL.out; rw [← ETS.out]; omega) (by rw [← ETS.out, ← HES.out]; exact HEX.out) (by rw [← ETS.out, ← HES.out]; exact HEY.out) hin HZ2.out HZ3.out HHO.out SB35.out)
                                    go_wp2_with fail
                                    go_roundw
                                    case rel => exact ⟨k + 1, by omega, by go_num, HRN.out⟩
                                    case measure => simp [intOf]; omega
                                  exact AllTill.nil
                                exact AllTill.nil
                              exact AllTill.nil
                            exact AllTill.nil
                          exact AllTill.nil
                        exact AllTill.nil
                      exact AllTill.nil
                    refine AllTill.cons rfl (fun K hK => ?s23) ?m23
                    case s23 =>
                      try simp only [List.getElem_toArray, List.getElem_cons_zero, List.getElem_cons_succ]
                      go_simp
                      have KA47 : Kp wd (wd.alloc (.cells #[.int .i64 Y] 3)) := (Kp.refl _).al _
                      have hc45 : (wd.alloc (.cells #[.int .i64 Y] 3)).cell? ⟨wd.heap.size, 0, none⟩ = some (.int .i64 Y) := by simp [go_sem]
                      have SA46 := Lib.hid (HSJ.out.kp KA47)
                      have la48 : ∀ b, (Value.slice B2 k e2').ownBlock = some b → b < wd.heap.size := fun b e => (HSJ.out.o2.lt b e).2
                      obtain ⟨wa43, ewa43⟩ : ∃ x : World, x = wd.alloc (.cells #[.int .i64 Y] 3) := ⟨_, rfl⟩
                      rw [← ewa43] at hc45 SA46 ⊢
                      obtain ⟨aa44, eaa44⟩ : ∃ x : Nat, x = wd.heap.size := ⟨_, rfl⟩
                      rw [← eaa44] at hc45 la48 ⊢
                      clear ewa43 eaa44 KA47
                      refine hK.out _ _ (fun _ => SA46.out.cells HH2.out HH3.out) ?_
                      clear hK K
                      try simp only [Act.put, List.getElem_toArray, List.getElem_cons_zero, List.getElem_cons_succ, List.setIfInBounds_toArray, List.set_cons_zero, List.set_cons_succ]
                      refine till_ready (rs := [9]) (by kernel_rfl) (by simp) ?_
                      refine AllTill.cons rfl (fun K hK => ?s22) ?m22
                      case s22 =>
                        try simp only [List.getElem_toArray, List.getElem_cons_zero, List.getElem_cons_succ]
                        go_simp
                        have KA53 : Kp wa43 (wa43.alloc (.cells #[.int .i64 X] 3)) := (Kp.refl _).al _
                        have hc51 : (wa43.alloc (.cells #[.int .i64 X] 3)).cell? ⟨wa43.heap.size, 0, none⟩ = some (.int .i64 X) := by simp [go_sem]
                        have SA52 := Lib.hid (SA46.out.kp KA53)
                        have hc55 := KA53.get hc45
                        obtain ⟨wa49, ewa49⟩ : ∃ x : World, x = wa43.alloc (.cells #[.int .i64 X] 3) := ⟨_, rfl⟩
                        rw [← ewa49] at hc51 SA52 hc55 ⊢
                        obtain ⟨aa50, eaa50⟩ : ∃ x : Nat, x = wa43.heap.size := ⟨_, rfl⟩
                        rw [← eaa50] at hc51 ⊢
                        clear ewa49 eaa50 KA53
                        refine hK.out _ _ (fun _ => SA52.out.cells HH2.out HH3.out) ?_
                        clear hK K
                        try simp only [Act.put, List.getElem_toArray, List.getElem_cons_zero, List.getElem_cons_succ, List.setIfInBounds_toArray, List.set_cons_zero, List.set_cons_succ]
                        refine till_ready (rs := [10]) (by kernel_rfl) (by simp) ?_
                        refine AllTill.cons rfl (fun K hK => ?s21) ?m21
                        case s21 =>
                          try simp only [List.getElem_toArray, List.getElem_cons_zero, List.getElem_cons_succ]
                          refine wp_append_at (.tmp 142) (.tmp 144) 22 rfl wi.heap.size 3 ii (.int .i64 0) 1 8 Tryd.underlying22 HI0.out HI1.out HI2.out HI3.out rfl (by decide) (.slice B2 k e2') k _ rfl SA52.out.o2 ⟨aa50, 0, none⟩ 1 1 [.int .i64 X] rfl rfl (one_cell hc51) (by simp [Value.oneCell']) (by simp only [maxLen]; omega) (by omega) SA52.out.kx.size ?_
                          intro v' wb56 hown' hgrow hb
                          have SB57 := Lib.hid (SA52.out.app2 hgrow hown' hb)
                          have hc58 := grown_cell hc55 hgrow (fun b e => by have := la48 b e; omega)
                          obtain ⟨D2, p2, rfl⟩ := ow_form hown'
                          clear hgrow hown' hb hc51
                          refine hK.out _ _ (fun _ => SB57.out.cells HH2.out HH3.out) ?_
                          clear hK K
                          try simp only [Act.put, List.getElem_toArray, List.getElem_cons_zero, List.getElem_cons_succ, List.setIfInBounds_toArray, List.set_cons_zero, List.set_cons_succ]
                          refine till_ready (rs := [17]) (by kernel_rfl) (by simp) ?_
                          refine AllTill.cons rfl (fun K hK => ?s20) ?m20
                          case s20 =>
                            try simp only [List.getElem_toArray, List.getElem_cons_zero, List.getElem_cons_succ]
                            refine wp_append_at (.tmp 149) (.tmp 151) 22 rfl wi.heap.size 3 ii (.int .i64 0) 1 8 Tryd.underlying22 HI0.out HI1.out HI2.out HI3.out rfl (by decide) (.slice B3 k e3') k _ rfl SB57.out.o3 ⟨aa44, 0, none⟩ 1 1 [.int .i64 Y] rfl rfl (one_cell hc58) (by simp [Value.oneCell']) (by simp only [maxLen]; omega) (by omega) SB57.out.kx.size ?_
                            intro v' wb59 hown' hgrow hb
                            have SB60 := Lib.hid (SB57.out.app3 hgrow hown' hb)
                            obtain ⟨D3, p3, rfl⟩ := ow_form hown'
                            clear hgrow hown' hb hc58
                            refine hK.out _ _ (fun _ => SB60.out.cells HH2.out HH3.out) ?_
                            clear hK K
                            try simp only [Act.put, List.getElem_toArray, List.getElem_cons_zero, List.getElem_cons_succ, List.setIfInBounds_toArray, List.set_cons_zero, List.set_cons_succ]
                            refine till_ready (rs := [18]) (by kernel_rfl) (by simp) ?_
                            refine AllTill.cons rfl (fun K hK => ?s19) ?m19
                            case s19 =>
                              try simp only [List.getElem_toArray, List.getElem_cons_zero, List.getElem_cons_succ]
                              go_simp
                              refine hK.out _ _ (fun _ => SB60.out.cells HH2.out HH3.out) ?_
                              clear hK K
                              try simp only [Act.put, List.getElem_toArray, List.getElem_cons_zero, List.getElem_cons_succ, List.setIfInBounds_toArray, List.set_cons_zero, List.set_cons_succ]
                              refine till_ready (rs := [19]) (by kernel_rfl) (by simp) ?_
                              refine AllTill.cons rfl (fun K hK => ?s18) ?m18
                              case s18 =>
                                try simp only [List.getElem_toArray, List.getElem_cons_zero, List.getElem_cons_succ]
                                have hc61 := (SB60.out.cells HH2.out HH3.out).1
                                have hf63 := SB60.out.b2.free i
                                have gz67 := cell_lt hc61
                                go_simp
                                clear hc61 hf63 gz67
                                have SP66 := Lib.hid (SB60.out.put2 i (.slice D2 (k + 1) p2))
                                have hc62 : (wb59.setCell ⟨g2, i, none⟩ (.slice D2 (k + 1) p2)).cell? ⟨g3, i, none⟩ = some (.slice B3 k e3') := by rw [SP66.out.b3.cell]; exact HH3.out
                                have hf64 := SP66.out.b3.free i
                                obtain ⟨wp65, ewp65⟩ : ∃ x : World, x = wb59.setCell ⟨g2, i, none⟩ (.slice D2 (k + 1) p2) := ⟨_, rfl⟩
                                rw [← ewp65] at hc62 hf64 ⊢
                                have hc62l := cell_lt hc62
                                have Hwp65 := Lib.hid ewp65
                                clear ewp65
                                refine hK.out _ _ (till_past (by kernel_rfl)) ?_
                                clear hK K
                                try simp only [Act.put, List.getElem_toArray, List.getElem_cons_zero, List.getElem_cons_succ, List.setIfInBounds_toArray, List.set_cons_zero, List.set_cons_succ]
                                refine till_ready (rs := [20]) (by kernel_rfl) (by simp) ?_
                                refine AllTill.cons rfl (fun K hK => ?s17) ?m17
                                case s17 =>
                                  try simp only [List.getElem_toArray, List.getElem_cons_zero, List.getElem_cons_succ]
                                  go_simp
                                  refine hK.out _ _ (till_past (by kernel_rfl)) ?_
                                  clear hK K
                                  try simp only [Act.put, List.getElem_toArray, List.getElem_cons_zero, List.getElem_cons_succ, List.setIfInBounds_toArray, List.set_cons_zero, List.set_cons_succ]
                                  refine till_ready (rs := [21]) (by kernel_rfl) (by simp) ?_
                                  refine AllTill.cons rfl (fun K hK => ?s16) ?m16
                                  case s16 =>
                                    try simp only [List.getElem_toArray, List.getElem_cons_zero, List.getElem_cons_succ]
                                    go_simp
                                    refine hK.out _ _ (till_past (by kernel_rfl)) ?_
                                    clear hK K
                                    try simp only [Act.put, List.getElem_toArray, List.getElem_cons_zero, List.getElem_cons_succ, List.setIfInBounds_toArray, List.set_cons_zero, List.set_cons_succ]
                                    refine till_done (by kernel_rfl) ?_ _
                                    rw [Hwp65.out]
                                    clear hc62 hf64 hc62l SP66
                                    have HRN := Lib.hid (RowS.next (i := i) (k := k) (x := X) (y := Y) (by have := EL.out; rw [← ETS.out]; omega) (by rw [← ETS.out, ← HES.out]; exact HEX.out) (by rw [← ETS.out, ← HES.out]; exact HEY.out) hin HZ2.out HZ3.out HHO.out SB60.out)
                                    go_wp2_with fail
                                    go_roundw
                                    case rel => exact ⟨k + 1, by omega, by go_num, HRN.out⟩
                                    case measure => simp [intOf]; omega
                                  exact AllTill.nil
                                exact AllTill.nil
                              exact AllTill.nil
                            exact AllTill.nil
                          exact AllTill.nil
                        exact AllTill.nil
                      exact AllTill.nil
                    exact AllTill.nil
                    -- region21end
          · obtain rfl : k = len := by omega
            have hd2 : decide ((k : Int) < (k : Int)) = false := by simp
            have HRK := Lib.hid hR
            obtain ⟨d2, d3, v2, v3, st, z2, z3, h2, h3, ho⟩ := hR
            have q1 : wr.cell? ⟨g, i, none⟩ = some (.slice A1 k d1) := by rw [st.b1.cell, HE1.out]
            have gl1 := cell_lt q1
            have r1 : IntKind.i64.wrap ((i : Int) - 1) = (i : Int) - 1 := IntWalk.i64_in _ (by omega)
            have HST := Lib.hid st
            clear st z2 z3 h2 h3 ho
            go_wp2_with fail
            have hT2 : TabB wr g g2 g3 hi n ws i := by
              have e := ETS.out
              have l := EL.out
              rw [e] at l
              have hr := HRK.out
              have e1 := HE1.out
              have y1 := HY1.out
              rw [e] at y1
              rw [l] at hr e1 y1
              exact hr.last HZ.out e1 HF1.out y1 HDN.out HN.out
            go_roundw
            case rel => exact ⟨i, by omega, rfl, hT2, HST.out.kx.kp HKI.out (by have := HG.out; omega)⟩
            case measure => simp [intOf]
end Go.Proofs.YtaobndijldidfaaDoor
