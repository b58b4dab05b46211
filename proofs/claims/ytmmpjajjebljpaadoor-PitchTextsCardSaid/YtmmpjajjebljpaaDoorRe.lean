/- Contract of tactusref03.Parse. -/
import Derived.Test.YtmmpjajjebljpaaDoorRd
import Derived.LoopTactic
namespace Go.Proofs.YtmmpjajjebljpaaDoor
open Go.RowKit

/-- The text of the tone with number n. -/
def ntx (n a : Int) : ByteArray := ptx (n % 7) (n / 7) a

theorem str_ne {a b : ByteArray} (h : a ≠ b) : (a.toList == b.toList) = false := by
  rw [beq_eq_false_iff_ne]
  intro e
  rw [ByteArray.toList_eq, ByteArray.toList_eq] at e
  obtain ⟨⟨x⟩⟩ := a
  obtain ⟨⟨y⟩⟩ := b
  exact h (by simp only at e; rw [e])

set_option maxHeartbeats 2000000 in
theorem rparse_no (b : ByteArray) (w : World) (h : NoText b) :
    Calls Tryd.prog 14 #[.string b] w fun e w' => e = .returned (.tuple #[.agg #[.int .i64 0, .int .i64 0, .int .i64 0], .int .i64 3]) ∧ Kp w w' := by
  have H := Lib.hid h; clear h
  go_enter Tryd.func14, Tryd.ntmps14
  go_wp2_with fail
  go_loopw [4] (fun v wr => ∃ n : Nat, n ≤ 63 ∧ v = .int .i64 (n : Int) ∧ Kp w wr ∧ Ow wr w.heap.size 0 (.int .i64 0) ∧ Ow wr w.heap.size 1 (.int .i64 0) ∧ Ow wr w.heap.size 2 (.int .i64 0)) (fun v _ => 63 - (intOf v).toNat)
  case atStart => exact ⟨0, by omega, rfl, by repeat (first | exact Kp.refl _ | with_reducible assumption | with_reducible refine Kp.set ?_ _ _ ?_ | (dsimp only; omega) | with_reducible refine Kp.drew ?_ | with_reducible refine Kp.drewN ?_ _ | with_reducible refine Kp.al ?_ _ | with_reducible refine Kp.trans ?_ (by with_reducible assumption)), ⟨by simp [go_sem], by simp [go_sem]⟩, ⟨by simp [go_sem], by simp [go_sem]⟩, ⟨by simp [go_sem], by simp [go_sem]⟩⟩
  case round =>
    obtain ⟨n, hn, rfl, hK, ⟨o0, f0⟩, ⟨o1, f1⟩, ⟨o2, f2⟩⟩ := hrel
    by_cases hlt : n < 63
    · have hd : decide ((n : Int) < 63) = true := by simp; omega
      go_wp2_with fail
      obtain ⟨wo, hwo⟩ : ∃ wo : World, wo = wr := ⟨_, rfl⟩
      subst hwo
      go_loopw [5] (fun v wr => ∃ k : Nat, k ≤ 3 ∧ v = .int .i64 ((k : Int) - 1) ∧ Kp w wr ∧ Ow wr w.heap.size 0 (.int .i64 0) ∧ Ow wr w.heap.size 1 (.int .i64 0) ∧ Ow wr w.heap.size 2 (.int .i64 0)) (fun v _ => 3 - (intOf v + 1).toNat)
      case atStart => exact ⟨0, by omega, rfl, hK, ⟨o0, f0⟩, ⟨o1, f1⟩, ⟨o2, f2⟩⟩
      case round =>
        clear o0 f0 o1 f1 o2 f2 hK
        obtain ⟨k, hk, rfl, hK, o0, o1, o2⟩ := hrel
        by_cases hl3 : k < 3
        · have hd3 : decide ((k : Int) - 1 ≤ 1) = true := by simp; omega
          have HN := Lib.hid (str_ne (H.out ((n : Int) % 7) ((n : Int) / 7) ((k : Int) - 1) (by omega) (by omega) (by omega) (by omega) (by omega) (by omega)).symm)
          go_wp2_with fail
          refine (rOf_ok _ _ _ (by omega) (by omega) (by omega) (by omega)).mono ?_
          rintro e w1 ⟨rfl, hb1⟩
          have K1 := hK.trans hb1
          have p0 := o0.kp hb1
          have p1 := o1.kp hb1
          have p2 := o2.kp hb1
          clear hb1 o0 o1 o2 hK
          go_wp2_with fail
          refine (rtext_ok _ _ _ _ (by omega) (by omega) (by omega) (by omega) (by omega) (by omega)).mono ?_
          rintro e w2 ⟨rfl, hb2⟩
          have Q2 := ((Kp.refl w1).al _).trans hb2
          have K2 := K1.trans Q2
          have o0 := p0.kp Q2
          have o1 := p1.kp Q2
          have o2 := p2.kp Q2
          have hne := HN.out
          clear hb2 p0 p1 p2 Q2 K1
          go_wp2_with fail
          go_roundw
          case rel => exact ⟨k + 1, by omega, by go_num, K2, o0, o1, o2⟩
          case measure => simp [intOf]; omega
        · have hd3 : decide ((k : Int) - 1 ≤ 1) = false := by simp; omega
          go_wp2_with fail
          go_roundw
          case rel => exact ⟨n + 1, by omega, by go_num, hK, o0, o1, o2⟩
          case measure => simp [intOf]; omega
    · go_wp2_with fail
      exact bodyPost_ret (v := .tuple #[.agg #[.int .i64 0, .int .i64 0, .int .i64 0], .int .i64 3]) (by simp [results, Tryd.results14, go_sem, o0, o1, o2]) rfl ⟨rfl, by repeat (first | exact Kp.refl _ | with_reducible assumption | with_reducible refine Kp.set ?_ _ _ ?_ | (dsimp only; omega) | with_reducible refine Kp.drew ?_ | with_reducible refine Kp.drewN ?_ _ | with_reducible refine Kp.al ?_ _ | with_reducible refine Kp.trans ?_ (by with_reducible assumption))⟩
theorem ptx_inj {s o a s' o' a' : Int} (e : ptx s o a = ptx s' o' a') (h1 : 0 ≤ s) (h2 : s ≤ 6) (h3 : 0 ≤ o) (h4 : o ≤ 8) (h5 : -1 ≤ a) (h6 : a ≤ 1) (k1 : 0 ≤ s') (k2 : s' ≤ 6) (k3 : 0 ≤ o') (k4 : o' ≤ 8) (k5 : -1 ≤ a') (k6 : a' ≤ 1) : s = s' ∧ o = o' ∧ a = a' := by
  by_cases ha : a = 0 <;> by_cases hb : a' = 0
  · subst ha hb
    obtain ⟨x, y, e1, e2, e3⟩ := ptx2 s o h1 h2 h3 h4
    obtain ⟨x', y', f1, f2, f3⟩ := ptx2 s' o' k1 k2 k3 k4
    rw [e1, f1] at e
    simp at e
    obtain ⟨rfl, rfl⟩ := e
    omega
  · subst ha
    obtain ⟨x, y, e1, e2, e3⟩ := ptx2 s o h1 h2 h3 h4
    obtain ⟨x', y', z', f1, f2, f3⟩ := ptx3 s' o' a' k1 k2 k3 k4 (by omega)
    rw [e1, f1] at e
    simp at e
  · subst hb
    obtain ⟨x, y, z, e1, e2, e3⟩ := ptx3 s o a h1 h2 h3 h4 (by omega)
    obtain ⟨x', y', f1, f2, f3⟩ := ptx2 s' o' k1 k2 k3 k4
    rw [e1, f1] at e
    simp at e
  · obtain ⟨x, y, z, e1, e2, e3, e4⟩ := ptx3 s o a h1 h2 h3 h4 (by omega)
    obtain ⟨x', y', z', f1, f2, f3, f4⟩ := ptx3 s' o' a' k1 k2 k3 k4 (by omega)
    rw [e1, f1] at e
    simp at e
    obtain ⟨rfl, rfl, rfl⟩ := e
    omega
set_option maxHeartbeats 2000000 in
theorem rparse_at (N : Nat) (a : Int) (w : World) (hN : N ≤ 62) (ha1 : -1 ≤ a) (ha2 : a ≤ 1) :
    Calls Tryd.prog 14 #[.string (ntx N a)] w fun e w' => e = .returned (.tuple #[.agg #[.int .i64 ((N : Int) % 7), .int .i64 ((N : Int) / 7), .int .i64 a], .int .i64 0]) ∧ Kp w w' := by
  obtain ⟨b, hb⟩ : ∃ b, b = ntx N a := ⟨_, rfl⟩
  have HB := Lib.hid hb
  rw [← hb]
  clear hb
  go_enter Tryd.func14, Tryd.ntmps14
  go_wp2_with fail
  go_loopw [4] (fun v wr => ∃ n : Nat, n ≤ N ∧ v = .int .i64 (n : Int) ∧ Kp w wr ∧ Ow wr w.heap.size 0 (.int .i64 0) ∧ Ow wr w.heap.size 1 (.int .i64 0) ∧ Ow wr w.heap.size 2 (.int .i64 0)) (fun v _ => 63 - (intOf v).toNat)
  case atStart => exact ⟨0, by omega, rfl, by repeat (first | exact Kp.refl _ | with_reducible assumption | with_reducible refine Kp.set ?_ _ _ ?_ | (dsimp only; omega) | with_reducible refine Kp.drew ?_ | with_reducible refine Kp.drewN ?_ _ | with_reducible refine Kp.al ?_ _ | with_reducible refine Kp.trans ?_ (by with_reducible assumption)), ⟨by simp [go_sem], by simp [go_sem]⟩, ⟨by simp [go_sem], by simp [go_sem]⟩, ⟨by simp [go_sem], by simp [go_sem]⟩⟩
  case round =>
    obtain ⟨n, hn, rfl, hK, ⟨o0, f0⟩, ⟨o1, f1⟩, ⟨o2, f2⟩⟩ := hrel
    · have hlt : n < 63 := by omega
      have hd : decide ((n : Int) < 63) = true := by simp; omega
      go_wp2_with fail
      obtain ⟨wo, hwo⟩ : ∃ wo : World, wo = wr := ⟨_, rfl⟩
      subst hwo
      go_loopw [5] (fun v wr => ∃ k : Nat, (n : Int) ≤ N ∧ k ≤ 3 ∧ (n < N ∨ (k : Int) - 1 ≤ a) ∧ v = .int .i64 ((k : Int) - 1) ∧ Kp w wr ∧ Ow wr w.heap.size 0 (.int .i64 0) ∧ Ow wr w.heap.size 1 (.int .i64 0) ∧ Ow wr w.heap.size 2 (.int .i64 0)) (fun v _ => 3 - (intOf v + 1).toNat)
      case atStart => exact ⟨0, by omega, by omega, by omega, rfl, hK, ⟨o0, f0⟩, ⟨o1, f1⟩, ⟨o2, f2⟩⟩
      case round =>
        clear o0 f0 o1 f1 o2 f2 hK
        obtain ⟨k, hnN, hk, hka, rfl, hK, o0, o1, o2⟩ := hrel
        by_cases hl3 : k < 3
        · have hd3 : decide ((k : Int) - 1 ≤ 1) = true := by simp; omega
          by_cases hit : n = N ∧ (k : Int) - 1 = a
          · obtain ⟨rfl, hka'⟩ := hit
            have HA := Lib.hid hka'
            have HN : Hid ((ptx ((n : Int) % 7) ((n : Int) / 7) ((k : Int) - 1)).toList == b.toList) := by
              have e : ptx ((n : Int) % 7) ((n : Int) / 7) ((k : Int) - 1) = b := by rw [hka', HB.out]; rfl
              have : ((ptx ((n : Int) % 7) ((n : Int) / 7) ((k : Int) - 1)).toList == b.toList) = true := by rw [e]; exact beq_self_eq_true _
              exact this
            clear hka' hka
            go_wp2_with fail
            refine (rOf_ok _ _ _ (by omega) (by omega) (by omega) (by omega)).mono ?_
            rintro e w1 ⟨rfl, hb1⟩
            have K1 := hK.trans hb1
            have p0 := o0.kp hb1
            have p1 := o1.kp hb1
            have p2 := o2.kp hb1
            clear hb1 o0 o1 o2 hK
            go_wp2_with fail
            refine (rtext_ok _ _ _ _ (by omega) (by omega) (by omega) (by omega) (by omega) (by omega)).mono ?_
            rintro e w2 ⟨rfl, hb2⟩
            have Q2 := ((Kp.refl w1).al _).trans hb2
            have K2 := K1.trans Q2
            have o0 := p0.kp Q2
            have o1 := p1.kp Q2
            have o2 := p2.kp Q2
            have hne : ((ptx ((n : Int) % 7) ((n : Int) / 7) ((k : Int) - 1)).toList == b.toList) = true := HN.out
            have c0 := hb2.get (b := w1.heap.size) (o := 0) (v := .int .i64 ((n : Int) % 7)) (by first | with_reducible assumption | (simp [go_sem]; done) | (simp [go_sem, *]; done))
            have c1 := hb2.get (b := w1.heap.size) (o := 1) (v := .int .i64 ((n : Int) / 7)) (by first | with_reducible assumption | (simp [go_sem]; done) | (simp [go_sem, *]; done))
            have c2 := hb2.get (b := w1.heap.size) (o := 2) (v := .int .i64 ((k : Int) - 1)) (by first | with_reducible assumption | (simp [go_sem]; done) | (simp [go_sem, *]; done))
            obtain ⟨q0, f0⟩ := o0
            obtain ⟨q1, f1⟩ := o1
            obtain ⟨q2, f2⟩ := o2
            clear hb2 p0 p1 p2 Q2 K1
            go_wp2_with fail
            exact bodyPost_ret (v := .tuple #[.agg #[.int .i64 ((n : Int) % 7), .int .i64 ((n : Int) / 7), .int .i64 a], .int .i64 0]) (by simp [results, Tryd.results14, go_sem, q0, q1, q2, HA.out]) rfl ⟨rfl, by repeat (first | exact Kp.refl _ | with_reducible assumption | with_reducible refine Kp.set ?_ _ _ ?_ | (dsimp only; omega) | with_reducible refine Kp.drew ?_ | with_reducible refine Kp.drewN ?_ _ | with_reducible refine Kp.al ?_ _ | with_reducible refine Kp.trans ?_ (by with_reducible assumption))⟩
          · have HN := Lib.hid (str_ne (a := ptx ((n : Int) % 7) ((n : Int) / 7) ((k : Int) - 1)) (b := b) (by
              rw [HB.out]
              intro e
              have := ptx_inj e (by omega) (by omega) (by omega) (by omega) (by omega) (by omega) (by omega) (by omega) (by omega) (by omega) (by omega) (by omega)
              omega))
            have hka'' : n < N ∨ (k : Int) ≤ a := by omega
            clear hka hit
            go_wp2_with fail
            refine (rOf_ok _ _ _ (by omega) (by omega) (by omega) (by omega)).mono ?_
            rintro e w1 ⟨rfl, hb1⟩
            have K1 := hK.trans hb1
            have p0 := o0.kp hb1
            have p1 := o1.kp hb1
            have p2 := o2.kp hb1
            clear hb1 o0 o1 o2 hK
            go_wp2_with fail
            refine (rtext_ok _ _ _ _ (by omega) (by omega) (by omega) (by omega) (by omega) (by omega)).mono ?_
            rintro e w2 ⟨rfl, hb2⟩
            have Q2 := ((Kp.refl w1).al _).trans hb2
            have K2 := K1.trans Q2
            have o0 := p0.kp Q2
            have o1 := p1.kp Q2
            have o2 := p2.kp Q2
            have hne := HN.out
            clear hb2 p0 p1 p2 Q2 K1
            go_wp2_with fail
            go_roundw
            case rel => exact ⟨k + 1, hnN, by omega, by omega, by go_num, K2, o0, o1, o2⟩
            case measure => simp [intOf]; omega
        · have hd3 : decide ((k : Int) - 1 ≤ 1) = false := by simp; omega
          go_wp2_with fail
          go_roundw
          case rel => exact ⟨n + 1, by omega, by go_num, hK, o0, o1, o2⟩
          case measure => simp [intOf]; omega
theorem rparse_ok (s o a : Int) (w : World) (h1 : 0 ≤ s) (h2 : s ≤ 6) (h3 : 0 ≤ o) (h4 : o ≤ 8) (h5 : -1 ≤ a) (h6 : a ≤ 1) :
    Calls Tryd.prog 14 #[.string (ptx s o a)] w fun e w' => e = .returned (.tuple #[.agg #[.int .i64 s, .int .i64 o, .int .i64 a], .int .i64 0]) ∧ Kp w w' := by
  have H := rparse_at (7 * o + s).toNat a w (by omega) h5 h6
  have e0 : (((7 * o + s).toNat : Nat) : Int) = 7 * o + s := by omega
  have e1 : (7 * o + s) / 7 = o := by omega
  have e2 : (7 * o + s) % 7 = s := by omega
  unfold ntx at H
  rwa [e0, e1, e2] at H
end Go.Proofs.YtmmpjajjebljpaaDoor
