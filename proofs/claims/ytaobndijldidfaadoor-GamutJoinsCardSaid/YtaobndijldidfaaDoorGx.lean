/- GamutJoins: the walk. -/
import Derived.Test.YtaobndijldidfaaDoorGs
import Derived.Test.YtaobndijldidfaaDoorGw
set_option linter.unusedSimpArgs false
set_option linter.unusedVariables false
namespace Go.Proofs.YtaobndijldidfaaDoor
open Go.RowKit

/-- append(v, x...) of two rows that are owned. -/
theorem wpList_app_row {P : Program} {w : World} {ops : Array Oper} {rest : List Oper} {o : Oper} {a : Act} {Q : Exit → Act → World → Prop} (hgd : o.guard = none) (s x : Operand) (t : TypeId)
    (ho : o.op = .call { callee := .builtin .append, args := #[s, x], argTypes := #[t, t] })
    (base : Nat) (e : TypeId) (i : TypeInfo) (z : Value) (size bytes : Nat) (ht : P.underlying t = some (.slice e)) (hi : P.info? e = some i) (hz : i.zero = some z)
    (hsize : i.size = size) (hby : i.bytes = bytes) (hzs : z.cells.size = size) (hsz : 0 < size)
    (v : Value) (n : Nat) (xs : List Value) (hs : a.eval s = v) (hown : w.ownsRow base e size v n xs)
    (base' : Nat) (vx : Value) (m : Nat) (news : List Value) (hx : a.eval x = vx) (hsrc : w.ownsRow base' e size vx m news) (h1 : ∀ u ∈ news, u.oneCell' = true)
    (h63 : n + m ≤ maxLen) (hbytes : (n + m) * bytes ≤ 140737488355328) (hbase : base ≤ w.heap.size)
    (h : ∀ v' w', w'.ownsRow base e size v' (n + m) (xs ++ news) → w.grownBy w' v.ownBlock → wpList P ops Q rest (a.put o.dst v') w') : wpList P ops Q (o :: rest) a w := by
  rcases hsrc.2 with ⟨rfl, rfl⟩ | ⟨g, cap, cur, rfl, _, hg, hnc, _, hcs, htk⟩
  · have hn0 : news = [] := List.eq_nil_of_length_eq_zero (by have := hsrc.1; omega)
    subst hn0
    refine wpList_append_own_none hgd s x t ho base e i size ht hi v n xs hs hown hx (h v w (by simpa using hown) ⟨rfl, rfl, rfl, Nat.le_refl _, fun _ _ _ => rfl⟩)
  · refine wpList_append_own w hgd s x t ho base e i z size bytes ht hi hz hsize hby hzs hsz v n xs hs hown ⟨g, 0, none⟩ m cap news hx hsrc.1 ?_ h1 h63 hbytes hbase (fun v' w' a b _ => h v' w' a b)
    intro j u hu
    have hj : j < news.length := (List.getElem?_eq_some_iff.1 hu).1
    have hm := hsrc.1
    rw [add_none, Nat.zero_add]
    have h2 : (cur.toList.take (m * size))[j]? = cur.toList[j]? := List.getElem?_take_of_lt (by omega)
    rw [htk, hu] at h2
    have h3 : cur[j]? = some u := by rw [h2]; simp
    simp only [World.cell?, hg]
    simpa using h3

/- stubhere -/
theorem sys_all {ss : List Sy} (h : ∀ y ∈ ss, Vs y.1 y.2) : ∀ j, j < ss.length → Vs (syAt ss j).1 (syAt ss j).2 := fun j hj => h _ (syAt_mem hj)

set_option maxRecDepth 100000 in
set_option maxHeartbeats 4000000 in
theorem gjoins_walk (A : Option Addr) (n c : Nat) (xs : List Int) (A' : Option Addr) (n' c' : Nat) (xs' : List Int) (w : World) (ht0 : Tab w) (hx : Ints w A n xs) (hx' : Ints w A' n' xs') (hmx : n ≤ maxLen) (hmx' : n' ≤ maxLen) :
    Calls Tryd.prog 3 #[.slice A n c, .slice A' n' c'] w fun e w' => e = .returned (.bool true) ∧ Kp w w' := by
  obtain ⟨i0, hi0, hz0, hz1, hz2⟩ := info_parts pitch_info
  have HI := Lib.hid hi0; have HZ0 := Lib.hid hz0; have HZ1 := Lib.hid hz1; have HZ2 := Lib.hid hz2
  have HT := Lib.hid ht0; have HX := Lib.hid hx; have HX' := Lib.hid hx'
  have CK := Lib.hid (fun w t => known_ok w t)
  have cm1 := fun w h => made_ok A n c xs w h hmx
  have cm2 := fun w h => made_ok A' n' c' xs' w h hmx'
  obtain ⟨k1, ek1⟩ : ∃ k, k = min n 30 := ⟨_, rfl⟩
  obtain ⟨k2, ek2⟩ : ∃ k, k = min n' 30 := ⟨_, rfl⟩
  rw [← ek1] at cm1
  rw [← ek2] at cm2
  have hk1 : k1 ≤ 30 := by omega
  have hk2 : k2 ≤ 30 := by omega
  have hv1 := madeS_ok xs k1
  have hv2 := madeS_ok xs' k2
  have hl1 := madeS_len xs k1 (by have := hx.1; omega)
  have hl2 := madeS_len xs' k2 (by have := hx'.1; omega)
  obtain ⟨S1, eS1⟩ : ∃ S, S = madeS xs k1 := ⟨_, rfl⟩
  obtain ⟨S2, eS2⟩ : ∃ S, S = madeS xs' k2 := ⟨_, rfl⟩
  rw [← eS1] at cm1 hv1 hl1
  rw [← eS2] at cm2 hv2 hl2
  have g1 := pit_good hv1
  have g2 := pit_good hv2
  have hj1 := sys_all hv1
  have hj2 := sys_all hv2
  have hj3 := muts_join _ _ (full_of g1) (full_of g2)
  rw [← List.map_append] at hj3
  have bd1 := moves_bd (sol none ((S1.map pitS).map wys))
  have bd2 := moves_bd (sol none ((S2.map pitS).map wys))
  rw [← muts_path _ (full_of g1), sol_len] at bd1
  rw [← muts_path _ (full_of g2), sol_len] at bd2
  have q1 : ((S1.map pitS).map wys).length = k1 := by simpa using hl1
  have q2 : ((S2.map pitS).map wys).length = k2 := by simpa using hl2
  rw [q1] at bd1
  rw [q2] at bd2
  have cs1 := fun w B d t h => solmize_ok B k1 d (S1.map pitS) w t h (by omega) g1
  have cs2 := fun w B d t h => solmize_ok B k2 d (S2.map pitS) w t h (by omega) g2
  have cs3 := fun w B d t h => solmize_ok B (k1 + k2) d (S1.map pitS ++ S2.map pitS) w t h (by omega) (fun p hp => by
    rcases List.mem_append.1 hp with e | e
    · exact g1 p e
    · exact g2 p e)
  obtain ⟨M1, eM1⟩ : ∃ M, M = muts ((S1.map pitS).map wys) := ⟨_, rfl⟩
  obtain ⟨M2, eM2⟩ : ∃ M, M = muts ((S2.map pitS).map wys) := ⟨_, rfl⟩
  obtain ⟨M3, eM3⟩ : ∃ M, M = muts ((S1.map pitS ++ S2.map pitS).map wys) := ⟨_, rfl⟩
  rw [← eM1] at cs1 hj3 bd1
  rw [← eM2] at cs2 hj3 bd2
  rw [← eM3] at cs3 hj3
  rw [hl1] at hj1
  rw [hl2] at hj2
  have cl1 := fun w B d t h => melody_ok B k1 d S1 w t h (by omega) hj1
  have cl2 := fun w B d t h => melody_ok B k2 d S2 w t h (by omega) hj2
  have r1 : IntKind.i64.wrap (M1 + M2) = M1 + M2 := IntWalk.i64_in _ (by omega)
  have r2 : IntKind.i64.wrap (M1 + M2 + 1) = M1 + M2 + 1 := IntWalk.i64_in _ (by omega)
  have d1 : decide (M1 + M2 ≤ M3) = true := decide_eq_true hj3.1
  have d2 : decide (M3 ≤ M1 + M2 + 1) = true := decide_eq_true hj3.2
  have CM1 := Lib.hid cm1; have CM2 := Lib.hid cm2; have CL1 := Lib.hid cl1; have CL2 := Lib.hid cl2
  have CS1 := Lib.hid cs1; have CS2 := Lib.hid cs2; have CS3 := Lib.hid cs3
  clear hi0 hz0 hz1 hz2 ht0 hx hx' cm1 cm2 ek1 ek2 hv1 hv2 hl1 hl2 eS1 eS2 g1 g2 hj1 hj2 hj3 bd1 bd2 q1 q2 cs1 cs2 cs3 cl1 cl2 eM1 eM2 eM3 hmx hmx'
  go_enter Tryd.func3, Tryd.ntmps3
  go_wp2_with fail
  refine (CK.out _ HT.out).mono ?_
  rintro e w1 ⟨rfl, hb1⟩
  have Q1 : Kp w w1 := by repeat (first | exact Kp.refl _ | with_reducible assumption | with_reducible refine Kp.set ?_ _ _ ?_ | (dsimp only; omega) | with_reducible refine Kp.drew ?_ | with_reducible refine Kp.drewN ?_ _ | with_reducible refine Kp.al ?_ _ | with_reducible refine Kp.trans ?_ (by with_reducible assumption))
  have K1 := Q1
  clear hb1 Q1
  go_wp2_with fail
  refine (CM1.out _ (HX.out.kp (by repeat (first | exact Kp.refl _ | with_reducible assumption | with_reducible refine Kp.set ?_ _ _ ?_ | (dsimp only; omega) | with_reducible refine Kp.drew ?_ | with_reducible refine Kp.drewN ?_ _ | with_reducible refine Kp.al ?_ _ | with_reducible refine Kp.trans ?_ (by with_reducible assumption))))).mono ?_
  rintro e w2 ⟨⟨B1, d3, rfl, ho1⟩, hb2⟩
  have Q2 : Kp w1 w2 := by repeat (first | exact Kp.refl _ | with_reducible assumption | with_reducible refine Kp.set ?_ _ _ ?_ | (dsimp only; omega) | with_reducible refine Kp.drew ?_ | with_reducible refine Kp.drewN ?_ _ | with_reducible refine Kp.al ?_ _ | with_reducible refine Kp.trans ?_ (by with_reducible assumption))
  have K2 := K1.trans Q2
  clear hb2 K1 Q2
  have HO1 := Lib.hid (sys_of_own ho1)
  clear ho1
  go_wp2_with fail
  refine (CL1.out _ _ _ (HT.out.below (by repeat (first | exact Kp.refl _ | with_reducible assumption | with_reducible refine Kp.set ?_ _ _ ?_ | (dsimp only; omega) | with_reducible refine Kp.drew ?_ | with_reducible refine Kp.drewN ?_ _ | with_reducible refine Kp.al ?_ _ | with_reducible refine Kp.trans ?_ (by with_reducible assumption)))) HO1.out).mono ?_
  rintro e w3 ⟨⟨B2, d4, rfl, ho2⟩, hb3⟩
  have Q3 : Kp w2 w3 := by repeat (first | exact Kp.refl _ | with_reducible assumption | with_reducible refine Kp.set ?_ _ _ ?_ | (dsimp only; omega) | with_reducible refine Kp.drew ?_ | with_reducible refine Kp.drewN ?_ _ | with_reducible refine Kp.al ?_ _ | with_reducible refine Kp.trans ?_ (by with_reducible assumption))
  have K3 := K2.trans Q3
  clear hb3 K2 Q3
  have HP1 := Lib.hid ho2; have KA := Lib.hid K3; have HTA := Lib.hid (HT.out.below K3); have HXA := Lib.hid (HX'.out.kp K3)
  clear ho2 K3
  go_wp2_with fail
  refine (CM2.out _ HXA.out).mono ?_
  rintro e w31 ⟨⟨B3, d5, rfl, ho3⟩, hb1⟩
  have Q1 : Kp w3 w31 := by repeat (first | exact Kp.refl _ | with_reducible assumption | with_reducible refine Kp.set ?_ _ _ ?_ | (dsimp only; omega) | with_reducible refine Kp.drew ?_ | with_reducible refine Kp.drewN ?_ _ | with_reducible refine Kp.al ?_ _ | with_reducible refine Kp.trans ?_ (by with_reducible assumption))
  have K1 := Q1
  clear hb1 Q1
  have HO2 := Lib.hid (sys_of_own ho3)
  clear ho3
  go_wp2_with fail
  refine (CL2.out _ _ _ (HTA.out.below (by repeat (first | exact Kp.refl _ | with_reducible assumption | with_reducible refine Kp.set ?_ _ _ ?_ | (dsimp only; omega) | with_reducible refine Kp.drew ?_ | with_reducible refine Kp.drewN ?_ _ | with_reducible refine Kp.al ?_ _ | with_reducible refine Kp.trans ?_ (by with_reducible assumption)))) HO2.out).mono ?_
  rintro e w32 ⟨⟨B4, d6, rfl, ho4⟩, hb2⟩
  have Q2 : Kp w31 w32 := by repeat (first | exact Kp.refl _ | with_reducible assumption | with_reducible refine Kp.set ?_ _ _ ?_ | (dsimp only; omega) | with_reducible refine Kp.drew ?_ | with_reducible refine Kp.drewN ?_ _ | with_reducible refine Kp.al ?_ _ | with_reducible refine Kp.trans ?_ (by with_reducible assumption))
  have K2 := K1.trans Q2
  clear hb2 K1 Q2
  have HP2 := Lib.hid ho4; have KC := Lib.hid (KA.out.trans K2); have HTC := Lib.hid (HTA.out.below K2); have HP3 := Lib.hid (ow_kp HP1.out K2)
  clear ho4 K2 HP1
  go_wp2_with fail
  refine (CS1.out _ _ _ (HTC.out.below (by repeat (first | exact Kp.refl _ | with_reducible assumption | with_reducible refine Kp.set ?_ _ _ ?_ | (dsimp only; omega) | with_reducible refine Kp.drew ?_ | with_reducible refine Kp.drewN ?_ _ | with_reducible refine Kp.al ?_ _ | with_reducible refine Kp.trans ?_ (by with_reducible assumption)))) (pts_of_own (ow_kp HP3.out (by repeat (first | exact Kp.refl _ | with_reducible assumption | with_reducible refine Kp.set ?_ _ _ ?_ | (dsimp only; omega) | with_reducible refine Kp.drew ?_ | with_reducible refine Kp.drewN ?_ _ | with_reducible refine Kp.al ?_ _ | with_reducible refine Kp.trans ?_ (by with_reducible assumption)))))).mono ?_
  rintro e w321 ⟨⟨B5, d7, rfl, -⟩, hb1⟩
  have Q1 : Kp w32 w321 := by repeat (first | exact Kp.refl _ | with_reducible assumption | with_reducible refine Kp.set ?_ _ _ ?_ | (dsimp only; omega) | with_reducible refine Kp.drew ?_ | with_reducible refine Kp.drewN ?_ _ | with_reducible refine Kp.al ?_ _ | with_reducible refine Kp.trans ?_ (by with_reducible assumption))
  have K1 := Q1
  clear hb1 Q1
  go_wp2_with fail
  refine (CS2.out _ _ _ (HTC.out.below (by repeat (first | exact Kp.refl _ | with_reducible assumption | with_reducible refine Kp.set ?_ _ _ ?_ | (dsimp only; omega) | with_reducible refine Kp.drew ?_ | with_reducible refine Kp.drewN ?_ _ | with_reducible refine Kp.al ?_ _ | with_reducible refine Kp.trans ?_ (by with_reducible assumption)))) (pts_of_own (ow_kp HP2.out (by repeat (first | exact Kp.refl _ | with_reducible assumption | with_reducible refine Kp.set ?_ _ _ ?_ | (dsimp only; omega) | with_reducible refine Kp.drew ?_ | with_reducible refine Kp.drewN ?_ _ | with_reducible refine Kp.al ?_ _ | with_reducible refine Kp.trans ?_ (by with_reducible assumption)))))).mono ?_
  rintro e w322 ⟨⟨B6, d8, rfl, -⟩, hb2⟩
  have Q2 : Kp w321 w322 := by repeat (first | exact Kp.refl _ | with_reducible assumption | with_reducible refine Kp.set ?_ _ _ ?_ | (dsimp only; omega) | with_reducible refine Kp.drew ?_ | with_reducible refine Kp.drewN ?_ _ | with_reducible refine Kp.al ?_ _ | with_reducible refine Kp.trans ?_ (by with_reducible assumption))
  have K2 := K1.trans Q2
  clear hb2 K1 Q2
  have HP4 := Lib.hid (ow_kp HP3.out K2); have HP5 := Lib.hid (ow_kp HP2.out K2); have KD := Lib.hid (KC.out.trans K2); have HTD := Lib.hid (HTC.out.below K2)
  clear K2 HP3 HP2
  go_wp2_with (at_builtin; refine wpList_app_row rfl (.tmp 51) (.tmp 52) 24 rfl w322.heap.size 36 i0 (.agg #[.int .i64 0, .int .i64 0, .int .i64 0]) 3 24 Tryd.underlying24 HI.out HZ0.out HZ1.out HZ2.out rfl (by decide) (.slice (some ⟨w322.heap.size, 0, none⟩) 0 0) 0 [] rfl ?own _ _ _ _ rfl (ow_kp HP4.out ((Kp.refl w322).al _)) ?c1 ?c3 ?c4 ?c5 ?_)
  case own => exact World.ownsRow_made w322 #[] 0 (Nat.le_refl _) (by decide) rfl
  case c1 => exact flat_one _
  case c3 => simp only [maxLen]; omega
  case c4 => omega
  case c5 => simp
  intro v1 w4 hown hgrow
  have KE : Kp w322 w4 := Below.grown ((Kp.refl w322).al _) hgrow (by simp) (fun j hj => by simp [Value.ownBlock] at hj; omega)
  obtain ⟨B7, d9, rfl⟩ := ow_form hown
  have HQ := Lib.hid hown; have HP6 := Lib.hid (ow_kp HP5.out KE); have KF := Lib.hid KE
  clear hown hgrow KE
  go_wp2_with (at_builtin; refine wpList_app_row rfl (.tmp 53) (.tmp 54) 24 rfl w322.heap.size 36 i0 (.agg #[.int .i64 0, .int .i64 0, .int .i64 0]) 3 24 Tryd.underlying24 HI.out HZ0.out HZ1.out HZ2.out rfl (by decide) _ _ _ rfl HQ.out _ _ _ _ rfl HP6.out ?c1 ?c3 ?c4 ?c5 ?_)
  case c1 => exact flat_one _
  case c3 => simp only [maxLen]; omega
  case c4 => omega
  case c5 => exact KF.out.low
  intro v2 w5 hown hgrow
  have KG : Kp w322 w5 := ow_app KF.out HQ.out (Kp.refl w4) hgrow
  rw [← flat_app] at hown
  obtain ⟨B8, d10, rfl⟩ := ow_form hown
  have HR := Lib.hid (pts_of_own hown); have KH := Lib.hid (KD.out.trans KG); have HTE := Lib.hid (HTD.out.below KG)
  clear hown hgrow KG
  go_wp2_with fail
  refine (CS3.out _ _ _ HTE.out HR.out).mono ?_
  rintro e w51 ⟨⟨B9, d11, rfl, -⟩, hb1⟩
  have Q1 : Kp w5 w51 := by repeat (first | exact Kp.refl _ | with_reducible assumption | with_reducible refine Kp.set ?_ _ _ ?_ | (dsimp only; omega) | with_reducible refine Kp.drew ?_ | with_reducible refine Kp.drewN ?_ _ | with_reducible refine Kp.al ?_ _ | with_reducible refine Kp.trans ?_ (by with_reducible assumption))
  have K1 := Q1
  clear hb1 Q1
  go_wp2_with fail
  go_ret
  exact ⟨rfl, KH.out.trans (by repeat (first | exact Kp.refl _ | with_reducible assumption | with_reducible refine Kp.set ?_ _ _ ?_ | (dsimp only; omega) | with_reducible refine Kp.drew ?_ | with_reducible refine Kp.drewN ?_ _ | with_reducible refine Kp.al ?_ _ | with_reducible refine Kp.trans ?_ (by with_reducible assumption)))⟩
end Go.Proofs.YtaobndijldidfaaDoor
