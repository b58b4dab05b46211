/- Contract of clef.Best: the errors ahead of the search. -/
import Derived.Test.YtgajdmefflndmaaBj
import Derived.Laws.AppendOwn
namespace Go.Proofs.Ytgajdmefflndmaa
open Go.RowKit

theorem best_e1 (key : Int) (v : Value) (w : World) (h : key < 0 ∨ 2 < key) :
    Calls Try.prog 13 #[.int .i64 key, v] w fun e w' => e = .returned (.tuple #[.agg #[.int .i64 0, .int .i64 0], .int .i64 2]) ∧ Kp w w' := by
  rcases h with h | h
  all_goals
    go_enter Try.func13, Try.ntmps13
    go_wp2_with fail
    exact bodyPost_ret (v := .tuple #[.agg #[.int .i64 0, .int .i64 0], .int .i64 2]) (by simp [results, Try.results13, go_sem]) rfl ⟨rfl, by repeat (first | exact Kp.refl _ | with_reducible assumption | with_reducible refine Kp.set ?_ _ _ ?_ | (dsimp only; omega) | with_reducible refine Kp.drew ?_ | with_reducible refine Kp.drewN ?_ _ | with_reducible refine Kp.al ?_ _ | with_reducible refine Kp.trans ?_ (by with_reducible assumption))⟩

theorem int_info : (Try.prog.info? 3).map (fun i => (i.zero, i.size, i.bytes)) = some (some (.int .i64 0), 1, 8) := by kernel_rfl
/-- What holds at the head of the loop that collects the numbers. -/
structure BR (w wr : World) (ps : List Pt) (k : Nat) (A : Option Addr) (c : Nat) : Prop where
  kp : Kp w wr
  res : Blk wr w.heap.size 23 #[.int .i64 0, .int .i64 0]
  box : Blk wr (w.heap.size + 1) 48 #[.slice A k c]
  own : wr.ownsRow (w.heap.size + 2) 3 1 (.slice A k c) k (((nums ps).take k).map (Value.int .i64))
  val : ∀ j, j < k → Vp (ptAt ps j).1 (ptAt ps j).2.1 (ptAt ps j).2.2
theorem BR.start (w : World) (ps : List Pt) : BR w ((w.alloc (.cells #[.int .i64 0, .int .i64 0] 23)).alloc (.cells #[.slice none 0 0] 48)) ps 0 none 0 :=
  ⟨by repeat (first | exact Kp.refl _ | with_reducible assumption | with_reducible refine Kp.set ?_ _ _ ?_ | (dsimp only; omega) | with_reducible refine Kp.drew ?_ | with_reducible refine Kp.drewN ?_ _ | with_reducible refine Kp.al ?_ _ | with_reducible refine Kp.trans ?_ (by with_reducible assumption)), (Blk.new w _ _).al _, by have := Blk.new (w.alloc (.cells #[.int .i64 0, .int .i64 0] 23)) 48 #[.slice none 0 0]; rwa [World.size_alloc] at this, by simpa using World.ownsRow_nil _ _ _ _, fun j hj => absurd hj (by omega)⟩
theorem BR.more {w wr w1 : World} {ps : List Pt} {k : Nat} {A : Option Addr} {c : Nat} (h : BR w wr ps k A c) (hk : Kp wr w1) : BR w w1 ps k A c :=
  ⟨h.kp.trans hk, h.res.kp hk, h.box.kp hk, by
    refine ⟨h.own.1, ?_⟩
    rcases h.own.2 with e | ⟨g, cap, cur, e, hb, hg, rest⟩
    · exact .inl e
    · exact .inr ⟨g, cap, cur, e, hb, (hk.block g (Array.getElem?_eq_some_iff.1 hg).1).trans hg, rest⟩, h.val⟩
theorem ints_of_own {w : World} {B : Nat} {t : TypeId} {A : Option Addr} {n c : Nat} {xs : List Int} (h : w.ownsRow B t 1 (.slice A n c) n (xs.map (Value.int .i64))) : Ints w A n xs := by
  obtain ⟨hl, h⟩ := h
  have hl' : xs.length = n := by simpa using hl
  refine ⟨hl', fun k hk => ?_⟩
  rcases h with ⟨_, h0⟩ | ⟨g, cap, cur, e, _, hg, _, _, _, ht⟩
  · omega
  · obtain ⟨rfl, -, -⟩ : A = some ⟨g, 0, none⟩ ∧ n = n ∧ c = cap := by injection e with e1 e2 e3; exact ⟨e1, rfl, e3⟩
    refine ⟨g, 0, rfl, ?_⟩
    have h1 : cur.toList[k]? = some (.int .i64 (xs.getD k 0)) := by
      have h2 : (cur.toList.take (n * 1))[k]? = cur.toList[k]? := List.getElem?_take_of_lt (by omega)
      rw [← h2, ht]
      simp [hl', hk]
    have h3 : cur[k]? = some (.int .i64 (xs.getD k 0)) := by rw [← h1]; simp
    simp only [World.cell?, hg, Nat.zero_add]
    simpa using h3

theorem BR.push {w w1 w2 : World} {ps : List Pt} {k : Nat} {B : Option Addr} {d g cap : Nat} {x : Int} {ob : Obj} (h : BR w w1 ps k B d) (hgrow : (w1.alloc ob).grownBy w2 (Value.slice B k d).ownBlock)
    (hown : w2.ownsRow (w.heap.size + 2) 3 1 (.slice (some ⟨g, 0, none⟩) (k + 1) cap) (k + 1) (((nums ps).take k).map (Value.int .i64) ++ [.int .i64 x])) (hk : k < ps.length) (hx : x = 7 * (ptAt ps k).2.1 + (ptAt ps k).1)
    (hv : Vp (ptAt ps k).1 (ptAt ps k).2.1 (ptAt ps k).2.2) : BR w (w2.setCell ⟨w.heap.size + 1, 0, none⟩ (.slice (some ⟨g, 0, none⟩) (k + 1) cap)) ps (k + 1) (some ⟨g, 0, none⟩) cap := by
  have hob : ∀ j, (Value.slice B k d).ownBlock = some j → w.heap.size + 2 ≤ j := fun j hj => (h.own.lt j hj).1
  have hne : ∀ j, j < w.heap.size + 2 → some j ≠ (Value.slice B k d).ownBlock := fun j hj e => by have := hob j e.symm; omega
  have hK : Kp w w2 := Below.grown (h.kp.al _) hgrow (by have := h.kp.low; simp; omega) (fun j hj => by have := hob j hj; omega)
  have hres : Blk w2 w.heap.size 23 #[.int .i64 0, .int .i64 0] := (hgrow.block _ (h.res.al ob).lt (hne _ (by omega))).trans (h.res.al ob)
  have hbox : Blk w2 (w.heap.size + 1) 48 #[.slice B k d] := (hgrow.block _ (h.box.al ob).lt (hne _ (by omega))).trans (h.box.al ob)
  refine ⟨hK.set _ _ (by dsimp only; omega), hres.far (by dsimp only; omega) _, hbox.set_ 0 _, ?_, fun j hj => ?_⟩
  · have e : ((nums ps).take (k + 1)).map (Value.int .i64) = ((nums ps).take k).map (Value.int .i64) ++ [.int .i64 x] := by
      have hk' : k < (nums ps).length := by rw [nums_len]; exact hk
      have ek := nums_at ps k hk
      rw [List.take_succ_eq_append_getElem hk', List.map_append]
      have : (nums ps)[k] = x := by rw [hx, ← ek]; simp [List.getD, hk']
      simp [this]
    rw [e]
    refine ⟨hown.1, ?_⟩
    rcases hown.2 with e | ⟨g', cap', cur, e, hb, hg, rest⟩
    · exact .inl e
    · exact .inr ⟨g', cap', cur, e, hb, (Below.heap_setCell w2 _ _ g' (by dsimp only; omega)).trans hg, rest⟩
  · by_cases hj' : j < k
    · exact h.val j hj'
    · obtain rfl : j = k := by omega
      exact hv

set_option maxHeartbeats 2000000 in
theorem best_bad (key : Int) (A : Option Addr) (n c : Nat) (ps : List Pt) (w : World) (k1 : 0 ≤ key) (k2 : key ≤ 2) (hx : Pts w A n ps) (hn : n ≤ 1000) (hbad : ¬ ∀ k, k < n → Vp (ptAt ps k).1 (ptAt ps k).2.1 (ptAt ps k).2.2) :
    Calls Try.prog 13 #[.int .i64 key, .slice A n c] w fun e w' => e = .returned (.tuple #[.agg #[.int .i64 0, .int .i64 0], .int .i64 2]) ∧ Kp w w' := by
  obtain ⟨i0, hi0, hz0, hz1, hz2⟩ := info_parts int_info
  have HI := Lib.hid hi0; have HZ0 := Lib.hid hz0; have HZ1 := Lib.hid hz1; have HZ2 := Lib.hid hz2
  have hl := hx.1
  have HX := Lib.hid hx
  have HB := Lib.hid hbad
  have HL := Lib.hid hl
  clear hx hbad hl hi0 hz0 hz1 hz2
  go_enter Try.func13, Try.ntmps13
  go_wp2_with fail
  go_loopw [24] (fun v wr => ∃ (k : Nat) (B : Option Addr) (d : Nat), k ≤ n ∧ v = .int .i64 (k : Int) ∧ BR w wr ps k B d) (fun v _ => n - (intOf v).toNat)
  case atStart => exact ⟨0, none, 0, by omega, rfl, BR.start w ps⟩
  case round =>
    obtain ⟨k, B, d, hk, rfl, hR⟩ := hrel
    have HR := Lib.hid hR
    clear hR
    by_cases hlt : k < n
    · have hd : decide ((k : Int) < (n : Int)) = true := by simp; omega
      obtain ⟨b, off, rfl, e0, e1, e2⟩ := (HX.out.kp HR.out.kp).2 k hlt
      obtain ⟨s, es⟩ : ∃ s, s = (ptAt ps k).1 := ⟨_, rfl⟩
      obtain ⟨o, eo⟩ : ∃ o, o = (ptAt ps k).2.1 := ⟨_, rfl⟩
      obtain ⟨a, ea⟩ : ∃ a, a = (ptAt ps k).2.2 := ⟨_, rfl⟩
      rw [← es] at e0
      rw [← eo] at e1
      rw [← ea] at e2
      have ES := Lib.hid es; have EO := Lib.hid eo; have EA := Lib.hid ea
      clear es eo ea
      by_cases hv : Vp s o a
      · obtain ⟨v1, v2, v3, v4, v5, v6⟩ := hv
        go_wp2_with fail
        refine (number_ok _ _ _ _ v1 v2 v3 v4 v5 v6).mono ?_
        rintro e w1 ⟨rfl, hb1⟩
        have Q1 := ((Kp.refl wr).al _).trans hb1
        have H1 := Lib.hid (HR.out.more Q1)
        have x0 : w1.cell? ⟨w.heap.size + 1, 0, none⟩ = some (.slice B k d) := H1.out.box.cell 0
        have x1 := H1.out.box.free 0
        have x2 := H1.out.box.lt
        have K1 := H1.out.kp.low
        clear hb1 Q1 e0 e1 e2
        go_wp2_with (at_builtin; refine wpList_append_own _ rfl (.tmp 37) (.tmp 39) 48 rfl (w.heap.size + 2) 3 i0 (.int .i64 0) 1 8 Try.underlying48 HI.out HZ0.out HZ1.out HZ2.out rfl (by decide) _ k (((nums ps).take k).map (Value.int .i64)) rfl ?own ⟨w1.heap.size, 0, none⟩ 1 1 [.int .i64 (7 * o + s)] rfl rfl ?c1 ?c2 ?c3 ?c4 ?c5 ?_)
        case own => exact H1.out.own.alloc _
        case c1 => exact cell_one_new _ _ _
        case c2 => simp [Value.oneCell']
        case c3 => simp only [maxLen]; omega
        case c4 => omega
        case c5 => simp; omega
        intro v' w2 hown' hgrow _
        rw [← List.map_take] at hown'
        obtain ⟨g, cap, rfl⟩ := ownsRow_succ hown'
        have hob : w.heap.size + 1 < (w1.alloc (.cells #[.int .i64 (7 * o + s)] 3)).heap.size := by simp; omega
        have HP := Lib.hid (H1.out.push (x := 7 * o + s) hgrow hown' (by have := HL.out; omega) (by rw [EO.out, ES.out]) (by rw [← ES.out, ← EO.out, ← EA.out]; exact ⟨v1, v2, v3, v4, v5, v6⟩))
        have hbx : Blk w2 (w.heap.size + 1) 48 #[.slice B k d] := (hgrow.block _ hob (fun e => by have := (H1.out.own.lt _ e.symm).1; omega)).trans (H1.out.box.al _)
        have y0 : w2.cell? ⟨w.heap.size + 1, 0, none⟩ = some (.slice B k d) := hbx.cell 0
        have y1 := hbx.free 0
        clear hown' hgrow hbx hob x0 x1 x2
        go_wp2_with fail
        go_roundw
        case rel => exact ⟨k + 1, _, _, by omega, by go_num, HP.out⟩
        case measure => simp [intOf]; omega
      · have HV := Lib.hid hv
        clear hv
        go_wp2_with fail
        refine (number_no _ _ _ _ HV.out).mono ?_
        rintro e w1 ⟨rfl, hb1⟩
        have Q1 := ((Kp.refl wr).al _).trans hb1
        have H1 := HR.out.more Q1
        have x0 : w1.cell? ⟨w.heap.size, 0, none⟩ = some (.int .i64 0) := H1.res.cell 0
        have x1 : w1.cell? ⟨w.heap.size, 1, none⟩ = some (.int .i64 0) := H1.res.cell 1
        have x2 := H1.res.free 0
        have x3 := H1.res.free 1
        have K1 := H1.kp
        clear hb1 Q1 e0 e1 e2 H1
        go_wp2_with fail
        exact bodyPost_ret (v := .tuple #[.agg #[.int .i64 0, .int .i64 0], .int .i64 2]) (by simp [results, Try.results13, go_sem, x0, x1]) rfl ⟨rfl, by repeat (first | exact Kp.refl _ | with_reducible assumption | with_reducible refine Kp.set ?_ _ _ ?_ | (dsimp only; omega) | with_reducible refine Kp.drew ?_ | with_reducible refine Kp.drewN ?_ _ | with_reducible refine Kp.al ?_ _ | with_reducible refine Kp.trans ?_ (by with_reducible assumption))⟩
    · exact absurd (fun j hj => HR.out.val j (by omega)) HB.out
end Go.Proofs.Ytgajdmefflndmaa
