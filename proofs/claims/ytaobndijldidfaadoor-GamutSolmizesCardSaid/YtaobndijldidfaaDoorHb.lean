/- Contract of the reference's MadeWays, Ways, letter and Name. -/
import Derived.Test.YtaobndijldidfaaDoorHa
import Derived.Test.YtaobndijldidfaaDoorGv
import Derived.BigQuiet
set_option linter.unusedSimpArgs false
set_option linter.unusedVariables false
namespace Go.Proofs.YtaobndijldidfaaDoor
open Go.RowKit

/-- The ways of a pitch ahead of a syllable, in the order of hexachords and syllables. -/
def cntB (L : List Sy) (h s : Nat) : Nat := (L.filter fun x => decide (x.1 < (h : Int) ∨ (x.1 = (h : Int) ∧ x.2 < (s : Int)))).length
def bpt (m : Nat) : Pt := (((m % 7 : Nat) : Int), ((m / 7 % 9 : Nat) : Int), ((m / 63 : Nat) : Int) - 1)
def mwOk (p : Pt) (L : List Sy) : Bool :=
  decide (cntB L 1 1 = 0) && decide (cntB L 8 1 = L.length) &&
  (List.range 7).all fun h => decide (cntB L (h + 1) 7 = cntB L (h + 2) 1) && (List.range 6).all fun s =>
    if pitS (((h + 1 : Nat) : Int), ((s + 1 : Nat) : Int)) = p then decide (cntB L (h + 1) (s + 1) < L.length ∧ syAt L (cntB L (h + 1) (s + 1)) = (((h + 1 : Nat) : Int), ((s + 1 : Nat) : Int)) ∧ cntB L (h + 1) (s + 2) = cntB L (h + 1) (s + 1) + 1)
    else decide (cntB L (h + 1) (s + 2) = cntB L (h + 1) (s + 1))
theorem mw_all : ((List.range 189).all fun m => mwOk (bpt m) (wys (bpt m))) = true := by decide +kernel
structure MwF (p : Pt) (L : List Sy) : Prop where
  first : cntB L 1 1 = 0
  last : cntB L 8 1 = L.length
  turn : ∀ h, 1 ≤ h → h ≤ 7 → cntB L h 7 = cntB L (h + 1) 1
  yes : ∀ h s : Nat, 1 ≤ h → h ≤ 7 → 1 ≤ s → s ≤ 6 → pitS ((h : Int), (s : Int)) = p → cntB L h s < L.length ∧ syAt L (cntB L h s) = ((h : Int), (s : Int)) ∧ cntB L h (s + 1) = cntB L h s + 1
  no : ∀ h s : Nat, 1 ≤ h → h ≤ 7 → 1 ≤ s → s ≤ 6 → pitS ((h : Int), (s : Int)) ≠ p → cntB L h (s + 1) = cntB L h s
theorem mw_nat (m : Nat) (hm : m < 189) : MwF (bpt m) (wys (bpt m)) := by
  have h := List.all_eq_true.1 mw_all m (List.mem_range.2 hm)
  unfold mwOk at h
  simp only [Bool.and_eq_true, decide_eq_true_eq, List.all_eq_true, List.mem_range] at h
  obtain ⟨⟨h2, h3⟩, h4⟩ := h
  refine ⟨h2, h3, fun h a b => ?_, fun h s a b c d e => ?_, fun h s a b c d e => ?_⟩
  · have := (h4 (h - 1) (by omega)).1
    rwa [show h - 1 + 1 = h by omega, show h - 1 + 2 = h + 1 by omega] at this
  · have := (h4 (h - 1) (by omega)).2 (s - 1) (by omega)
    rw [show h - 1 + 1 = h by omega, show s - 1 + 1 = s by omega, show s - 1 + 2 = s + 1 by omega, if_pos e] at this
    exact of_decide_eq_true this
  · have := (h4 (h - 1) (by omega)).2 (s - 1) (by omega)
    rw [show h - 1 + 1 = h by omega, show s - 1 + 1 = s by omega, show s - 1 + 2 = s + 1 by omega, if_neg e] at this
    exact of_decide_eq_true this
theorem mw_f (x y z : Int) (h : Vp x y z) : MwF (x, y, z) (wys (x, y, z)) := by
  unfold Vp at h
  have := mw_nat ((63 * (z + 1) + 7 * y + x).toNat) (by omega)
  have e : bpt ((63 * (z + 1) + 7 * y + x).toNat) = (x, y, z) := by
    unfold bpt
    refine Prod.ext ?_ (Prod.ext ?_ ?_) <;> dsimp only <;> omega
  rwa [e] at this
theorem take_more (L : List Sy) (k : Nat) (h : k < L.length) : flatS (L.take (k + 1)) = flatS (L.take k) ++ [.int .i64 (syAt L k).1, .int .i64 (syAt L k).2] := by
  rw [List.take_succ_eq_append_getElem h, flatS_app]
  simp [flatS, syAt, List.getD, h]

set_option maxRecDepth 100000 in
set_option maxHeartbeats 8000000 in
theorem mways_ok (x y z : Int) (w : World) (hv : Vp x y z) :
    Calls Tryd.prog 41 #[.agg #[.int .i64 x, .int .i64 y, .int .i64 z]] w fun e w' => (∃ A c, e = .returned (.slice A (wys (x, y, z)).length c) ∧ w'.ownsRow w.heap.size 34 2 (.slice A (wys (x, y, z)).length c) (wys (x, y, z)).length (flatS (wys (x, y, z)))) ∧ Kp w w' := by
  have HF := Lib.hid (mw_f x y z hv)
  have hln : (wys (x, y, z)).length ≤ 7 := wysTo_len _ _
  obtain ⟨i0, hi0, hz0, hz1, hz2⟩ := info_parts syl_info
  have HI := Lib.hid hi0; have HZ0 := Lib.hid hz0; have HZ1 := Lib.hid hz1; have HZ2 := Lib.hid hz2
  obtain ⟨L, eL⟩ : ∃ L, L = wys (x, y, z) := ⟨_, rfl⟩
  rw [← eL] at HF hln ⊢
  clear eL hv hi0 hz0 hz1 hz2
  have hc0 := HF.out.first
  go_enter Tryd.func41, Tryd.ntmps41
  go_wp2_with fail
  obtain ⟨wb, ewb⟩ : ∃ wb : World, wb = w.alloc (.cells #[.int .i64 x, .int .i64 y, .int .i64 z] 36) := ⟨_, rfl⟩
  have KB : Kp w wb := by rw [ewb]; repeat (first | exact Kp.refl _ | with_reducible assumption | with_reducible refine Kp.set ?_ _ _ ?_ | (dsimp only; omega) | with_reducible refine Kp.drew ?_ | with_reducible refine Kp.drewN ?_ _ | with_reducible refine Kp.al ?_ _ | with_reducible refine Kp.trans ?_ (by with_reducible assumption))
  obtain ⟨g, eg⟩ : ∃ g, g = w.heap.size := ⟨_, rfl⟩
  have p0 : wb.cell? ⟨g, 0, none⟩ = some (.int .i64 x) := by rw [ewb, eg]; simp [go_sem]
  have p1 : wb.cell? ⟨g, 1, none⟩ = some (.int .i64 y) := by rw [ewb, eg]; simp [go_sem]
  have p2 : wb.cell? ⟨g, 2, none⟩ = some (.int .i64 z) := by rw [ewb, eg]; simp [go_sem]
  rw [← ewb]
  rw [← eg]
  have NN := Lib.hid (fun (w' : World) (k : Kp wb w') => And.intro (k.get p0) (And.intro (k.get p1) (k.get p2)))
  have hbl := KB.low
  have HKB := Lib.hid KB
  clear ewb eg p0 p1 p2 KB
  go_loopw [3, 4] (fun l i wr => ∃ h : Nat, 1 ≤ h ∧ h ≤ 8 ∧ i = .int .i64 (h : Int) ∧ wr.ownsRow wb.heap.size 34 2 l (cntB L h 1) (flatS (L.take (cntB L h 1))) ∧ Kp wb wr) (fun _ i _ => 8 - (intOf i).toNat)
  case atStart => exact ⟨1, by omega, by omega, rfl, by rw [hc0]; exact World.ownsRow_nil _ _ _ _, Kp.refl _⟩
  case round =>
    obtain ⟨h, hh1, hh, rfl, hown0, hK⟩ := hrel
    by_cases hlt : h ≤ 7
    · have hd : decide ((h : Int) ≤ 7) = true := by simp; omega
      have HO0 := Lib.hid hown0
      clear hown0
      go_wp2_with fail
      go_loopw [3, 5] (fun l i wr => ∃ s : Nat, 1 ≤ s ∧ s ≤ 7 ∧ i = .int .i64 (s : Int) ∧ wr.ownsRow wb.heap.size 34 2 l (cntB L h s) (flatS (L.take (cntB L h s))) ∧ Kp wb wr) (fun _ i _ => 7 - (intOf i).toNat)
      case atStart => exact ⟨1, by omega, by omega, rfl, HO0.out, hK⟩
      case round =>
        clear HO0 hK
        obtain ⟨s, hs1, hs, rfl, hown, hK⟩ := hrel
        obtain ⟨B, d, rfl⟩ := ow_form hown
        have HO := Lib.hid hown
        clear hown
        by_cases hst : s ≤ 6
        · have hd2 : decide ((s : Int) ≤ 6) = true := by simp; omega
          have ct := fun w => rmade_ok (h : Int) (s : Int) w ⟨by omega, by omega, by omega, by omega⟩
          have hck : cntB L h s ≤ L.length := List.length_filter_le _ _
          obtain ⟨z0, z1, z2⟩ := NN.out _ hK
          have gl := cell_lt z0
          go_wp2_with fail
          obtain ⟨gs, egs⟩ : ∃ gs, gs = wr.heap.size := ⟨_, rfl⟩
          obtain ⟨wd, ewd⟩ : ∃ wd : World, wd = wr.alloc (.cells #[.int .i64 (h : Int), .int .i64 (s : Int)] 34) := ⟨_, rfl⟩
          have KD : Kp wr wd := by rw [ewd]; repeat (first | exact Kp.refl _ | with_reducible assumption | with_reducible refine Kp.set ?_ _ _ ?_ | (dsimp only; omega) | with_reducible refine Kp.drew ?_ | with_reducible refine Kp.drewN ?_ _ | with_reducible refine Kp.al ?_ _ | with_reducible refine Kp.trans ?_ (by with_reducible assumption))
          have y0 : wd.cell? ⟨gs, 0, none⟩ = some (.int .i64 (h : Int)) := by rw [ewd, egs]; simp [go_sem]
          have y1 : wd.cell? ⟨gs, 1, none⟩ = some (.int .i64 (s : Int)) := by rw [ewd, egs]; simp [go_sem]
          have y2 := KD.get z0
          have y3 := KD.get z1
          have y4 := KD.get z2
          rw [← ewd]
          rw [← egs]
          have N5 := Lib.hid (fun (w' : World) (k : Kp wd w') => And.intro (k.get y0) (And.intro (k.get y1) (And.intro (k.get y2) (And.intro (k.get y3) (k.get y4)))))
          have gl2 := cell_lt y0
          have gl3 := cell_lt y2
          have HOD := Lib.hid (ow_kp HO.out KD); have HKD := Lib.hid (hK.trans KD)
          clear ewd egs z0 z1 z2 KD hK
          obtain ⟨k, ek⟩ : ∃ k, k = cntB L h s := ⟨_, rfl⟩
          by_cases heq : pitS ((h : Int), (s : Int)) = (x, y, z)
          · obtain ⟨f1, f2, f3⟩ := HF.out.yes h s hh1 hlt hs1 hst heq
            rw [heq] at ct
            dsimp only at ct
            rw [← ek] at f1 f2 f3 HO HOD hck
            rw [← ek]
            have efs := take_more L k f1
            rw [f2] at efs
            dsimp only at efs
            have CT := Lib.hid ct; have F3 := Lib.hid f3; have EFS := Lib.hid efs
            have hk7 : k ≤ 7 := by omega
            clear ct f1 f2 f3 efs heq ek hck
            go_cut [21] (fun v wz => v = .bool true ∧ Kp wd wz)
            case first =>
              go_region_held3 (fun w' => w'.cell? ⟨gs, 0, none⟩ = some (.int .i64 (h : Int)) ∧ w'.cell? ⟨gs, 1, none⟩ = some (.int .i64 (s : Int)) ∧ w'.cell? ⟨g, 0, none⟩ = some (.int .i64 x) ∧ w'.cell? ⟨g, 1, none⟩ = some (.int .i64 y) ∧ w'.cell? ⟨g, 2, none⟩ = some (.int .i64 z))
                (exact N5.out _ (by repeat (first | exact Kp.refl _ | with_reducible assumption | with_reducible refine Kp.set ?_ _ _ ?_ | (dsimp only; omega) | with_reducible refine Kp.drew ?_ | with_reducible refine Kp.drewN ?_ _ | with_reducible refine Kp.al ?_ _ | with_reducible refine Kp.trans ?_ (by with_reducible assumption))))
                (first | (go_at_call 49; refine (CT.out _).mono ?_; rintro e wx ⟨rfl, hkx⟩; have KX : Kp wd wx := (by repeat (first | exact Kp.refl _ | with_reducible assumption | with_reducible refine Kp.set ?_ _ _ ?_ | (dsimp only; omega) | with_reducible refine Kp.drew ?_ | with_reducible refine Kp.drewN ?_ _ | with_reducible refine Kp.al ?_ _ | with_reducible refine Kp.trans ?_ (by with_reducible assumption))); clear hkx))
              go_wp2_with fail
              go_meet
              exact ⟨rfl, by assumption⟩
            case rest =>
              obtain ⟨rfl, KC⟩ := hcut
              have u0 := KC.get y0
              have u1 := KC.get y1
              have ul := cell_lt u0
              have HOC := Lib.hid (ow_kp HOD.out KC); have HKC := Lib.hid (HKD.out.trans KC)
              have hlw := HKC.out.low
              clear KC y0 y1 y2 y3 y4
              go_wp2_with (at_builtin; refine wpList_append_own _ rfl (.tmp 22) (.tmp 24) 27 rfl wb.heap.size 34 i0 (.agg #[.int .i64 0, .int .i64 0]) 2 16 Tryd.underlying27 HI.out HZ0.out HZ1.out HZ2.out rfl (by decide) _ k (flatS (L.take k)) rfl ?own ⟨wc.heap.size, 0, none⟩ 1 1 [.int .i64 (h : Int), .int .i64 (s : Int)] rfl rfl ?c1 ?c2 ?c3 ?c4 ?c5 ?_)
              case own => exact ow_kp HOC.out ((Kp.refl wc).al _)
              case c1 => exact cell2_new _ _ _ _
              case c2 => simp [Value.oneCell']
              case c3 => simp only [maxLen]; omega
              case c4 => omega
              case c5 => simp; omega
              intro v' w2 hown' hgrow _
              have hk2 := Lib.hid (ow_app HKC.out HOC.out ((Kp.refl wc).al _) hgrow)
              rw [← EFS.out] at hown'
              obtain ⟨g', cap, rfl⟩ := ownsRow_succ hown'
              have HO2 := Lib.hid hown'
              clear hgrow hown'
              go_wp2_with fail
              go_roundw
              case rel => exact ⟨s + 1, by omega, by omega, by go_num, by rw [F3.out]; exact HO2.out, hk2.out⟩
              case measure => simp [intOf]; omega
          · have F3 := Lib.hid (HF.out.no h s hh1 hlt hs1 hst heq)
            obtain ⟨px, epx⟩ : ∃ px, px = (pitS ((h : Int), (s : Int))).1 := ⟨_, rfl⟩
            obtain ⟨py, epy⟩ : ∃ py, py = (pitS ((h : Int), (s : Int))).2.1 := ⟨_, rfl⟩
            obtain ⟨pz, epz⟩ : ∃ pz, pz = (pitS ((h : Int), (s : Int))).2.2 := ⟨_, rfl⟩
            rw [← epx, ← epy, ← epz] at ct
            have hne : ¬ px = x ∨ (x = px ∧ ¬ py = y) ∨ (x = px ∧ y = py ∧ ¬ pz = z) := by
              by_cases a1 : px = x
              · by_cases a2 : py = y
                · refine .inr (.inr ⟨a1.symm, a2.symm, fun a3 => heq ?_⟩)
                  refine Prod.ext ?_ (Prod.ext ?_ ?_)
                  · rw [← epx]; exact a1
                  · rw [← epy]; exact a2
                  · rw [← epz]; exact a3
                · exact .inr (.inl ⟨a1.symm, a2⟩)
              · exact .inl a1
            rw [← ek] at F3 HO HOD
            rw [← ek]
            have CT := Lib.hid ct
            clear ct heq epx epy epz ek hck
            rcases hne with a | ⟨rfl, a⟩ | ⟨rfl, rfl, a⟩
            · have d5 : (px == x) = false := by simpa using a
              go_cut [21] (fun v wz => v = .bool false ∧ Kp wd wz)
              case first =>
                go_region_held3 (fun w' => w'.cell? ⟨gs, 0, none⟩ = some (.int .i64 (h : Int)) ∧ w'.cell? ⟨gs, 1, none⟩ = some (.int .i64 (s : Int)) ∧ w'.cell? ⟨g, 0, none⟩ = some (.int .i64 x) ∧ w'.cell? ⟨g, 1, none⟩ = some (.int .i64 y) ∧ w'.cell? ⟨g, 2, none⟩ = some (.int .i64 z))
                  (exact N5.out _ (by repeat (first | exact Kp.refl _ | with_reducible assumption | with_reducible refine Kp.set ?_ _ _ ?_ | (dsimp only; omega) | with_reducible refine Kp.drew ?_ | with_reducible refine Kp.drewN ?_ _ | with_reducible refine Kp.al ?_ _ | with_reducible refine Kp.trans ?_ (by with_reducible assumption))))
                  (first | (go_at_call 49; refine (CT.out _).mono ?_; rintro e wx ⟨rfl, hkx⟩; have KX : Kp wd wx := (by repeat (first | exact Kp.refl _ | with_reducible assumption | with_reducible refine Kp.set ?_ _ _ ?_ | (dsimp only; omega) | with_reducible refine Kp.drew ?_ | with_reducible refine Kp.drewN ?_ _ | with_reducible refine Kp.al ?_ _ | with_reducible refine Kp.trans ?_ (by with_reducible assumption))); clear hkx))
                go_wp2_with fail
                go_meet
                exact ⟨rfl, by assumption⟩
              case rest =>
                obtain ⟨rfl, KC⟩ := hcut
                have HOC := Lib.hid (ow_kp HOD.out KC); have HKC := Lib.hid (HKD.out.trans KC)
                clear KC
                go_wp2_with fail
                go_roundw
                case rel => exact ⟨s + 1, by omega, by omega, by go_num, by rw [F3.out]; exact HOC.out, HKC.out⟩
                case measure => simp [intOf]; omega
            · have d5 : (py == y) = false := by simpa using a
              go_cut [21] (fun v wz => v = .bool false ∧ Kp wd wz)
              case first =>
                go_region_held3 (fun w' => w'.cell? ⟨gs, 0, none⟩ = some (.int .i64 (h : Int)) ∧ w'.cell? ⟨gs, 1, none⟩ = some (.int .i64 (s : Int)) ∧ w'.cell? ⟨g, 0, none⟩ = some (.int .i64 x) ∧ w'.cell? ⟨g, 1, none⟩ = some (.int .i64 y) ∧ w'.cell? ⟨g, 2, none⟩ = some (.int .i64 z))
                  (exact N5.out _ (by repeat (first | exact Kp.refl _ | with_reducible assumption | with_reducible refine Kp.set ?_ _ _ ?_ | (dsimp only; omega) | with_reducible refine Kp.drew ?_ | with_reducible refine Kp.drewN ?_ _ | with_reducible refine Kp.al ?_ _ | with_reducible refine Kp.trans ?_ (by with_reducible assumption))))
                  (first | (go_at_call 49; refine (CT.out _).mono ?_; rintro e wx ⟨rfl, hkx⟩; have KX : Kp wd wx := (by repeat (first | exact Kp.refl _ | with_reducible assumption | with_reducible refine Kp.set ?_ _ _ ?_ | (dsimp only; omega) | with_reducible refine Kp.drew ?_ | with_reducible refine Kp.drewN ?_ _ | with_reducible refine Kp.al ?_ _ | with_reducible refine Kp.trans ?_ (by with_reducible assumption))); clear hkx))
                go_wp2_with fail
                go_meet
                exact ⟨rfl, by assumption⟩
              case rest =>
                obtain ⟨rfl, KC⟩ := hcut
                have HOC := Lib.hid (ow_kp HOD.out KC); have HKC := Lib.hid (HKD.out.trans KC)
                clear KC
                go_wp2_with fail
                go_roundw
                case rel => exact ⟨s + 1, by omega, by omega, by go_num, by rw [F3.out]; exact HOC.out, HKC.out⟩
                case measure => simp [intOf]; omega
            · have d5 : (pz == z) = false := by simpa using a
              go_cut [21] (fun v wz => v = .bool false ∧ Kp wd wz)
              case first =>
                go_region_held3 (fun w' => w'.cell? ⟨gs, 0, none⟩ = some (.int .i64 (h : Int)) ∧ w'.cell? ⟨gs, 1, none⟩ = some (.int .i64 (s : Int)) ∧ w'.cell? ⟨g, 0, none⟩ = some (.int .i64 x) ∧ w'.cell? ⟨g, 1, none⟩ = some (.int .i64 y) ∧ w'.cell? ⟨g, 2, none⟩ = some (.int .i64 z))
                  (exact N5.out _ (by repeat (first | exact Kp.refl _ | with_reducible assumption | with_reducible refine Kp.set ?_ _ _ ?_ | (dsimp only; omega) | with_reducible refine Kp.drew ?_ | with_reducible refine Kp.drewN ?_ _ | with_reducible refine Kp.al ?_ _ | with_reducible refine Kp.trans ?_ (by with_reducible assumption))))
                  (first | (go_at_call 49; refine (CT.out _).mono ?_; rintro e wx ⟨rfl, hkx⟩; have KX : Kp wd wx := (by repeat (first | exact Kp.refl _ | with_reducible assumption | with_reducible refine Kp.set ?_ _ _ ?_ | (dsimp only; omega) | with_reducible refine Kp.drew ?_ | with_reducible refine Kp.drewN ?_ _ | with_reducible refine Kp.al ?_ _ | with_reducible refine Kp.trans ?_ (by with_reducible assumption))); clear hkx))
                go_wp2_with fail
                go_meet
                exact ⟨rfl, by assumption⟩
              case rest =>
                obtain ⟨rfl, KC⟩ := hcut
                have HOC := Lib.hid (ow_kp HOD.out KC); have HKC := Lib.hid (HKD.out.trans KC)
                clear KC
                go_wp2_with fail
                go_roundw
                case rel => exact ⟨s + 1, by omega, by omega, by go_num, by rw [F3.out]; exact HOC.out, HKC.out⟩
                case measure => simp [intOf]; omega
        · obtain rfl : s = 7 := by omega
          have ht := HF.out.turn h hh1 hlt
          go_wp2_with fail
          go_roundw
          case rel => exact ⟨h + 1, by omega, by omega, by go_num, by rw [← ht]; exact HO.out, hK⟩
          case measure => simp [intOf]; omega
    · obtain rfl : h = 8 := by omega
      obtain ⟨B, d, rfl⟩ := ow_form hown0
      have hl := HF.out.last
      have htk : L.take L.length = L := List.take_length
      rw [hl, htk] at hown0
      rw [hl]
      have HO := Lib.hid hown0
      clear hown0
      go_wp2_with fail
      go_ret
      exact ⟨⟨_, _, rfl, by
        refine ⟨HO.out.1, ?_⟩
        rcases HO.out.2 with e | ⟨g', cap, cur, e, hg, rest⟩
        · exact .inl e
        · exact .inr ⟨g', cap, cur, e, Nat.le_trans hbl hg, rest⟩⟩, HKB.out.trans hK⟩
end Go.Proofs.YtaobndijldidfaaDoor
