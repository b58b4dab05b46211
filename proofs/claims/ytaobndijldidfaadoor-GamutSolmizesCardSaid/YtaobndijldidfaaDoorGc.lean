/- The ways of a pitch; the iterator ways gives them in their order, to every loop body that keeps the tables and the pitch. -/
import Derived.Test.YtaobndijldidfaaDoorGb
import Derived.RangeFuncNested
import Derived.RangeFuncBound
import Derived.RangeFuncCalls
import Derived.RangeFuncLeaves
import Derived.Shelf.Abstract
import Derived.Shelf.RegionOpen
import Derived.WalkKit
import Derived.OwnWalkIn
import Derived.TacticsInMore
import Derived.LoopNIn
import Derived.LoopIn
namespace Go.Proofs.YtaobndijldidfaaDoor
open Go.RowKit Go.Shelf
attribute [local go_sem] Oper.semAt_some

/-- Blocks of cells that are tables or the block p stay as they are. -/
def KS (p : Nat) (W W' : World) : Prop := ∀ b c t f, (b ≤ 1 ∨ b = p) → W.heap[b]? = some (.cells c t f) → W'.heap[b]? = some (.cells c t f)
theorem KS.trans {p : Nat} {A B C : World} (h : KS p A B) (k : KS p B C) : KS p A C := fun b c t f hb hc => k b c t f hb (h b c t f hb hc)
theorem KS.refl (p : Nat) (W : World) : KS p W W := fun _ _ _ _ _ h => h
theorem KS.of_kp {p : Nat} {W W' : World} (h : Kp W W') : KS p W W' := fun b _ _ _ _ hc => (h.block b (Array.getElem?_eq_some_iff.1 hc).1).trans hc
theorem KS.put {p : Nat} (W : World) (l : Nat) (o o' : Obj) (hl : W.heap[l]? = some o) (ho : o.isCells = false) : KS p W (W.putObj l o') := by
  intro b c t f _ hc
  by_cases e : b = l
  · subst e; rw [hl] at hc; cases hc; cases ho
  · exact (World.putObj_heap_other e).trans hc
theorem cell_blk {W W' : World} {b i : Nat} {v : Value} (h : ∀ c t f, W.heap[b]? = some (.cells c t f) → W'.heap[b]? = some (.cells c t f)) (hc : W.cell? ⟨b, i, none⟩ = some v) : W'.cell? ⟨b, i, none⟩ = some v := by
  cases hb : W.heap[b]? with
  | none => simp [World.cell?, hb] at hc
  | some x =>
    cases x with
    | cells c t f =>
      have := h c t f hb
      simp only [World.cell?, hb] at hc
      simp only [World.cell?, this]
      exact hc
    | _ => simp [World.cell?, hb] at hc
theorem KS.tab {p : Nat} {W W' : World} (h : KS p W W') (t : Tab W) : Tab W' :=
  ⟨fun k hk => cell_blk (fun c t f => h 0 c t f (.inl (by omega))) (t.1 k hk), fun k hk => cell_blk (fun c t f => h 1 c t f (.inl (by omega))) (t.2 k hk)⟩
theorem KS.blk {p : Nat} {W W' : World} (h : KS p W W') {t : TypeId} {cs : Array Value} (b : Blk W p t cs) : Blk W' p t cs := h p cs t (0, 0) (.inr rfl) b

theorem grown_kp {W W' : World} (h : Kp W W') : W.grownBy W' none := ⟨h.os, h.tape, h.output, h.size, fun i hi _ => h.block i hi⟩

/-- The ways of a pitch in the first k hexachords. -/
def good (p : Pt) (x : Sy) : Bool := decide (1 ≤ x.2 ∧ x.2 ≤ 6 ∧ pitS x = p)
def cand (p : Pt) (i : Nat) : Sy := ((i : Int) + 1, 7 * p.2.1 + p.1 - 18 - startN (i + 1) + 1)
def wysTo (p : Pt) (k : Nat) : List Sy := ((List.range k).map (cand p)).filter (good p)
def wys (p : Pt) : List Sy := wysTo p 7
theorem wysTo_yes {p : Pt} {k : Nat} (h : good p (cand p k) = true) : wysTo p (k + 1) = wysTo p k ++ [cand p k] := by simp [wysTo, List.range_succ, List.filter_append, h]
theorem wysTo_no {p : Pt} {k : Nat} (h : good p (cand p k) = false) : wysTo p (k + 1) = wysTo p k := by simp [wysTo, List.range_succ, List.filter_append, h]
theorem wysTo_len (p : Pt) (k : Nat) : (wysTo p k).length ≤ k := by
  unfold wysTo
  exact Nat.le_trans (List.length_filter_le _ _) (by simp)
theorem wysTo_prefix (p : Pt) : ∀ {k m : Nat}, k ≤ m → wysTo p k <+: wysTo p m := by
  intro k m h
  induction m with
  | zero => obtain rfl : k = 0 := by omega
            exact List.prefix_refl _
  | succ m ih =>
    by_cases e : k = m + 1
    · subst e; exact List.prefix_refl _
    · refine (ih (by omega)).trans ?_
      cases hg : good p (cand p m) with
      | true => rw [wysTo_yes hg]; exact List.prefix_append _ _
      | false => rw [wysTo_no hg]; exact List.prefix_refl _
theorem wys_mem {p : Pt} {x : Sy} (h : x ∈ wys p) : Vs x.1 x.2 ∧ pitS x = p := by
  unfold wys wysTo at h
  rw [List.mem_filter] at h
  obtain ⟨h1, h2⟩ := h
  simp only [good, decide_eq_true_eq] at h2
  obtain ⟨i, hi, e⟩ := List.mem_map.1 h1
  have hi' := List.mem_range.1 hi
  have e1 : x.1 = (i : Int) + 1 := by rw [← e]; rfl
  exact ⟨⟨by omega, by omega, h2.1, h2.2.1⟩, h2.2.2⟩
theorem pit_ok {x : Sy} (h : Vs x.1 x.2) : Vp (pitS x).1 (pitS x).2.1 (pitS x).2.2 ∧ 7 * (pitS x).2.1 + (pitS x).1 = numS x.1 x.2 := by
  have := numS_bd h
  have := altS_bd x.1 x.2
  unfold Vp pitS; dsimp only; omega
theorem wys_out {p : Pt} (h : ¬ (Vp p.1 p.2.1 p.2.2 ∧ 18 ≤ 7 * p.2.1 + p.1 ∧ 7 * p.2.1 + p.1 ≤ 37)) : wys p = [] := by
  apply List.eq_nil_iff_forall_not_mem.2
  intro x hx
  obtain ⟨h1, h2⟩ := wys_mem hx
  obtain ⟨h3, h4⟩ := pit_ok h1
  have := numS_bd h1
  rw [h2] at h3 h4
  exact h ⟨h3, by omega, by omega⟩
def encS (x : Sy) : Array Value := #[.agg #[.int .i64 x.1, .int .i64 x.2]]
theorem good_at {s o a : Int} {h : Nat} (h1 : 1 ≤ h) (h2 : h ≤ 7) (hs : 0 ≤ s) (hs6 : s ≤ 6) : good (s, o, a) (cand (s, o, a) (h - 1)) = true ↔ (1 ≤ 7 * o + s - 18 - startN h + 1 ∧ 7 * o + s - 18 - startN h + 1 ≤ 6 ∧ altS h (7 * o + s - 18 - startN h + 1) = a) := by
  have e : h - 1 + 1 = h := by omega
  have e1 : (((h - 1 : Nat) : Int) + 1) = h := by omega
  unfold good cand
  simp only [decide_eq_true_eq, e, e1, pitS]
  have en : numS (h : Int) (7 * o + s - 18 - startN h + 1) = 7 * o + s := by unfold numS; simp only [Int.toNat_natCast]; omega
  rw [en]
  have e7 : (7 * o + s) % 7 = s := by omega
  have e8 : (7 * o + s) / 7 = o := by omega
  rw [e7, e8]
  constructor
  · rintro ⟨p, q, r⟩
    injection r with _ r
    injection r with _ r
    exact ⟨p, q, r⟩
  · rintro ⟨p, q, r⟩
    exact ⟨p, q, by rw [r]⟩

set_option maxRecDepth 100000 in
set_option maxHeartbeats 2000000 in
theorem ways_in (n : Nat) (hn : 1 ≤ n) (l Bp : Nat) (s o a : Int) (J Jx : List Sy → World → Prop) (W : World) (ht : Tab W) (hp : Blk W Bp 36 #[.int .i64 s, .int .i64 o, .int .i64 a]) (hJ : AbidesFrom W.heap.size J)
    (hY : ∀ pre x W1, J pre W1 → pre.length < 7 → Tab W1 → Vs x.1 x.2 → YieldAt Fence.wide (n - 1) Tryd.prog l (encS x) W1 fun e W' =>
      (e = .returned (.bool true) ∧ J (pre ++ [x]) W' ∧ KS Bp W1 W') ∨ (e = .returned (.bool false) ∧ Jx (pre ++ [x]) W'))
    (h0 : J [] W) :
    CallsIn Fence.wide n Tryd.prog 58 #[.func (.yield l) #[] #[], .pointer (some ⟨Bp, 0, none⟩)] W fun e W' => (∃ v, e = .returned v) ∧
      ((∃ ys, ys = wys (s, o, a) ∧ J ys W') ∨ (∃ pre, pre <+: wys (s, o, a) ∧ Jx pre W')) := by
  refine callsIn_of_wp Tryd.func58 rfl trivial ?_ rfl
  simp only [Tryd.ntmps58, List.size_toArray, List.length_cons, List.length_nil, Nat.reduceAdd, Nat.reduceSub, Array.replicate_succ, Array.replicate_zero, List.push_toArray, List.append_toArray, List.nil_append, List.cons_append]
  have HY := Lib.hid hY
  have HJ := Lib.hid hJ
  have HT := Lib.hid ht
  have HP := Lib.hid hp
  have p0 : W.cell? ⟨Bp, 0, none⟩ = some (.int .i64 s) := hp.cell 0
  have p1 : W.cell? ⟨Bp, 1, none⟩ = some (.int .i64 o) := hp.cell 1
  have p2 : W.cell? ⟨Bp, 2, none⟩ = some (.int .i64 a) := hp.cell 2
  have H0 := Lib.hid h0
  clear hY hJ ht hp h0
  by_cases hin : Vp s o a ∧ 18 ≤ 7 * o + s ∧ 7 * o + s ≤ 37
  · obtain ⟨⟨v1, v2, v3, v4, v5, v6⟩, n1, n2⟩ := hin
    gi_wp2_with fail
    refine ⟨trivial, (callsIn_wide.2 (gplace_ok s o a _ v1 v2 v3 v4 v5 v6 n1 n2)).mono ?_⟩
    rintro e w1 ⟨rfl, hk⟩
    have J1 := Lib.hid (HJ.out _ _ _ none H0.out (grown_kp hk) (fun r e => by cases e))
    have T1 := Lib.hid (HT.out.below hk)
    have P1 := Lib.hid (HP.out.kp hk)
    clear p0 p1 p2 hk H0 HT HP
    gi_wp2_with fail
    gi_loopw [5] (fun v wr => ∃ h : Nat, 1 ≤ h ∧ h ≤ 8 ∧ v = .int .i64 (h : Int) ∧ J (wysTo (s, o, a) (h - 1)) wr ∧ Tab wr ∧ Blk wr Bp 36 #[.int .i64 s, .int .i64 o, .int .i64 a]) (fun v _ => 8 - (intOf v).toNat)
    case atStart => exact ⟨1, by omega, by omega, rfl, J1.out, T1.out, P1.out⟩
    case round =>
      obtain ⟨h, h1, h2, rfl, hJr, htr, hpr⟩ := hrel
      clear J1 T1 P1
      have JR := Lib.hid hJr
      have TR := Lib.hid htr
      have PR := Lib.hid hpr
      clear hJr htr hpr
      by_cases hlt : h < 8
      · have hd : decide ((h : Int) < 8) = true := by simp; omega
        have hc := TR.out.1 h hlt
        obtain ⟨b1, b2⟩ := startN_bd h
        have hga := good_at (s := s) (o := o) (a := a) h1 (by omega) v1 v2
        have hsu : h - 1 + 1 = h := by omega
        obtain ⟨c, ec⟩ : ∃ c, c = cand (s, o, a) (h - 1) := ⟨_, rfl⟩
        have ec1 : c.1 = (h : Int) := by rw [ec]; unfold cand; dsimp only; omega
        have ec2 : c.2 = 7 * o + s - 18 - startN h + 1 := by rw [ec]; unfold cand; dsimp only; rw [hsu]
        obtain ⟨st, est⟩ : ∃ st, st = startN h := ⟨_, rfl⟩
        rw [← est] at hc b1 b2 hga ec2
        rw [← ec] at hga
        have hyes : good (s, o, a) c = true → wysTo (s, o, a) h = wysTo (s, o, a) (h - 1) ++ [c] := by
          intro hg; rw [ec] at hg ⊢; have := wysTo_yes hg; rwa [hsu] at this
        have hno : good (s, o, a) c = false → wysTo (s, o, a) h = wysTo (s, o, a) (h - 1) := by
          intro hg; rw [ec] at hg; have := wysTo_no hg; rwa [hsu] at this
        have j1 : (0 : Int) ≤ (h : Int) := by omega
        have hen : numS (h : Int) (7 * o + s - 18 - st + 1) = 7 * o + s := by unfold numS; simp only [Int.toNat_natCast]; rw [← est]; omega
        by_cases hs : 1 ≤ 7 * o + s - 18 - st + 1 ∧ 7 * o + s - 18 - st + 1 ≤ 6
        · obtain ⟨s1, s2⟩ := hs
          have cp := fun w t => gpitch_nat h (7 * o + s - 18 - st + 1) w t h1 (by omega) s1 s2
          have e7 : (7 * o + s) % 7 = s := by omega
          have e8 : (7 * o + s) / 7 = o := by omega
          rw [hen, e7, e8] at cp
          obtain ⟨al, eal⟩ : ∃ al, al = altS h (7 * o + s - 18 - st + 1) := ⟨_, rfl⟩
          rw [← eal] at cp hga
          have CP := Lib.hid cp
          have HYES := Lib.hid hyes; have HNO := Lib.hid hno
          have EC1 := Lib.hid ec1; have EC2 := Lib.hid ec2
          have HGA := Lib.hid hga
          clear cp e7 e8 eal hyes hno ec ec1 ec2 hga est hsu hen
          gi_wp2_with fail
          refine ⟨trivial, (callsIn_wide.2 (CP.out _ TR.out)).mono ?_⟩
          rintro e w2 ⟨rfl, hk⟩
          have J2 := Lib.hid (HJ.out _ _ _ none JR.out (grown_kp hk) (fun r e => by cases e))
          have T2 := Lib.hid (TR.out.below hk)
          have P2 := Lib.hid (PR.out.kp hk)
          have q0 : w2.cell? ⟨Bp, 0, none⟩ = some (.int .i64 s) := P2.out.cell 0
          have q1 : w2.cell? ⟨Bp, 1, none⟩ = some (.int .i64 o) := P2.out.cell 1
          have q2 : w2.cell? ⟨Bp, 2, none⟩ = some (.int .i64 a) := P2.out.cell 2
          have ql := P2.out.lt
          clear hk JR TR PR hc
          by_cases hal : al = a
          · subst hal
            have hw := HYES.out (HGA.out.2 ⟨s1, s2, rfl⟩)
            have HW := Lib.hid hw
            clear hw
            obtain ⟨W3, hW3⟩ : ∃ W3 : World, W3 = w2.alloc (.cells #[.int .i64 s, .int .i64 o, .int .i64 al] 36) := ⟨_, rfl⟩
            have K3 : Kp w2 W3 := by rw [hW3]; repeat (first | exact Kp.refl _ | with_reducible assumption | with_reducible refine Kp.set ?_ _ _ ?_ | (dsimp only; omega) | with_reducible refine Kp.drew ?_ | with_reducible refine Kp.drewN ?_ _ | with_reducible refine Kp.al ?_ _ | with_reducible refine Kp.trans ?_ (by with_reducible assumption))
            have T3 := Lib.hid (T2.out.below K3)
            have P3 := Lib.hid (P2.out.kp K3)
            have hJ3 : J (wysTo (s, o, al) (h - 1)) W3 := HJ.out _ _ _ none J2.out (grown_kp K3) (fun r e => by cases e)
            obtain ⟨fn, tmps, assign, body, hy, hR⟩ := HY.out (wysTo (s, o, al) (h - 1)) c W3 hJ3 (by have := wysTo_len (s, o, al) (h - 1); omega) T3.out ⟨by rw [EC1.out]; omega, by rw [EC1.out]; omega, by rw [EC2.out]; exact s1, by rw [EC2.out]; exact s2⟩
            simp only [encS, EC1.out, EC2.out] at hy
            subst hW3
            have HR := Lib.hid hR
            clear hR hJ3
            gi_wp2_with fail
            refine HR.out.mono ?_
            rintro e W4 (⟨rfl, hJ4, hk4⟩ | ⟨rfl, hX4⟩)
            · have J4 := Lib.hid hJ4
              have T4 := Lib.hid (hk4.tab T3.out)
              have P4 := Lib.hid (hk4.blk P3.out)
              clear hJ4 hk4 q0 q1 q2
              gi_wp2_with fail
              go_roundw
              case rel => exact ⟨h + 1, by omega, by omega, by go_num, by rw [Nat.add_sub_cancel, HW.out]; exact J4.out, T4.out, P4.out⟩
              case measure => simp [intOf]; omega
            · have X4 := Lib.hid hX4
              clear hX4 q0 q1 q2
              gi_wp2_with fail
              refine bodyPost_ret (results_none rfl _ _ _) rfl ?_
              refine ⟨⟨_, rfl⟩, .inr ⟨_, ?_, X4.out⟩⟩
              rw [← HW.out]
              exact wysTo_prefix _ (by omega)
          · have hw := HNO.out (by
              cases hg : good (s, o, a) c with
              | false => rfl
              | true => exact absurd (HGA.out.1 hg).2.2 hal)
            have HW := Lib.hid hw
            have hal2 : (al == a) = false := by simpa using hal
            clear hw
            gi_wp2_with fail
            refine ⟨fun _ e => (by cases e), ?_⟩
            have J3 := Lib.hid (HJ.out _ _ _ none J2.out (World.grownBy_alloc w2 (.cells #[.int .i64 s, .int .i64 o, .int .i64 al] 36) none) (fun r e => by cases e))
            have T3 := Lib.hid (T2.out.below ((Kp.refl w2).al (.cells #[.int .i64 s, .int .i64 o, .int .i64 al] 36)))
            have P3 := Lib.hid (P2.out.al (.cells #[.int .i64 s, .int .i64 o, .int .i64 al] 36))
            gi_wp2_with fail
            go_roundw
            case rel => exact ⟨h + 1, by omega, by omega, by go_num, by rw [Nat.add_sub_cancel, HW.out]; exact J3.out, T3.out, P3.out⟩
            case measure => simp [intOf]; omega
        · have hw := hno (by
            cases hg : good (s, o, a) c with
            | false => rfl
            | true => exact absurd ⟨(hga.1 hg).1, (hga.1 hg).2.1⟩ hs)
          have HW := Lib.hid hw
          have hcase : 7 * o + s - 18 - st + 1 < 1 ∨ (1 ≤ 7 * o + s - 18 - st + 1 ∧ 6 < 7 * o + s - 18 - st + 1) := by omega
          clear hw hs ec ec1 ec2 hyes hno hga est hen
          rcases hcase with s1 | ⟨s1, s2⟩
          all_goals
            gi_wp2_with fail
            go_roundw
            case rel => exact ⟨h + 1, by omega, by omega, by go_num, by rw [Nat.add_sub_cancel, HW.out]; exact JR.out, TR.out, PR.out⟩
            case measure => simp [intOf]; omega
      · have hd : decide ((h : Int) < 8) = false := by simp; omega
        obtain rfl : h = 8 := by omega
        gi_wp2_with fail
        go_end0
        exact ⟨⟨_, rfl⟩, .inl ⟨_, rfl, JR.out⟩⟩
  · have hw : wys (s, o, a) = [] := wys_out hin
    have hcall : Calls Tryd.prog 17 #[.agg #[.int .i64 s, .int .i64 o, .int .i64 a]] W fun e w' => e = .returned (.tuple #[.int .i64 0, .int .i64 2]) ∧ Kp W w' := by
      by_cases hv : Vp s o a
      · obtain ⟨v1, v2, v3, v4, v5, v6⟩ := hv
        exact gplace_out s o a W v1 v2 v3 v4 v5 v6 (by have hx : ¬ (18 ≤ 7 * o + s ∧ 7 * o + s ≤ 37) := fun h => hin ⟨⟨v1, v2, v3, v4, v5, v6⟩, h⟩; omega)
      · exact gplace_no s o a W hv
    have HW := Lib.hid hw
    have HC := Lib.hid hcall
    clear hw hin hcall
    gi_wp2_with fail
    refine ⟨trivial, (callsIn_wide.2 HC.out).mono ?_⟩
    rintro e w1 ⟨rfl, hk⟩
    have J1 := Lib.hid (HJ.out _ _ _ none H0.out (grown_kp hk) (fun r e => by cases e))
    clear p0 p1 p2 hk H0 HT HP
    gi_wp2_with fail
    refine bodyPost_ret (results_none rfl _ _ _) rfl ?_
    exact ⟨⟨_, rfl⟩, .inl ⟨_, HW.out.symm, J1.out⟩⟩
end Go.Proofs.YtaobndijldidfaaDoor
