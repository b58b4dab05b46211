/- Contract of gamut.Ways. -/
import Derived.Test.YtaobndijldidfaaDoorGc
import Derived.Laws.EntriesVeiled
import Derived.RangeFuncBox
namespace Go.Proofs.YtaobndijldidfaaDoor
open Go.RowKit Go.Shelf
attribute [local go_sem] Oper.semAt_some

/-- The cells of a list of syllables. -/
def flatS : List Sy → List Value
  | [] => []
  | p :: ps => .int .i64 p.1 :: .int .i64 p.2 :: flatS ps
theorem flatS_len : ∀ ps : List Sy, (flatS ps).length = ps.length * 2
  | [] => rfl
  | _ :: ps => by simp only [flatS, List.length_cons, flatS_len ps]; omega
theorem flatS_app (ps qs : List Sy) : flatS (ps ++ qs) = flatS ps ++ flatS qs := by
  induction ps with
  | nil => rfl
  | cons p ps ih => simp [flatS, ih]
theorem flatS_at : ∀ (ps : List Sy) (k : Nat), k < ps.length → (flatS ps)[k * 2]? = some (.int .i64 (syAt ps k).1) ∧ (flatS ps)[k * 2 + 1]? = some (.int .i64 (syAt ps k).2)
  | [], k, h => absurd h (by simp)
  | p :: ps, 0, _ => ⟨rfl, rfl⟩
  | p :: ps, k + 1, h => by
    have ih := flatS_at ps k (by simpa using h)
    have e : (k + 1) * 2 = k * 2 + 1 + 1 := by omega
    rw [e]
    exact ih
theorem sys_of_own {w : World} {B : Nat} {t : TypeId} {A : Option Addr} {n c : Nat} {ps : List Sy} (h : w.ownsRow B t 2 (.slice A n c) n (flatS ps)) : Sys w A n ps := by
  obtain ⟨hl, h⟩ := h
  have hl' : ps.length = n := by rw [flatS_len] at hl; omega
  refine ⟨hl', fun k hk => ?_⟩
  rcases h with ⟨_, h0⟩ | ⟨g, cap, cur, e, _, hg, _, _, _, ht⟩
  · omega
  · obtain rfl : A = some ⟨g, 0, none⟩ := by injection e
    have get : ∀ j v, j < n * 2 → (flatS ps)[j]? = some v → w.cell? ⟨g, 0 + j, none⟩ = some v := by
      intro j v hj hv
      have h2 : (cur.toList.take (n * 2))[j]? = cur.toList[j]? := List.getElem?_take_of_lt hj
      rw [ht, hv] at h2
      have h3 : cur[j]? = some v := by rw [h2]; simp
      simp only [World.cell?, hg, Nat.zero_add]
      simpa using h3
    obtain ⟨f0, f1⟩ := flatS_at ps k (by omega)
    exact ⟨g, 0, rfl, get _ _ (by omega) f0, get _ _ (by omega) f1⟩
theorem syl_info : (Tryd.prog.info? 34).map (fun i => (i.zero, i.size, i.bytes)) = some (some (.agg #[.int .i64 0, .int .i64 0]), 2, 16) := by kernel_rfl

theorem ways_fn (s o a : Int) (w : World) : Calls Tryd.prog 46 #[.agg #[.int .i64 s, .int .i64 o, .int .i64 a]] w fun e w' => e = .returned (.func (.func 58) #[] #[.pointer (some ⟨w.heap.size, 0, none⟩)]) ∧ w' = w.alloc (.cells #[.int .i64 s, .int .i64 o, .int .i64 a] 36) := by
  go_enter Tryd.func46, Tryd.ntmps46
  go_wp2
  go_ret
  exact ⟨rfl, rfl⟩

theorem gways_no (s o a : Int) (w : World) (h : ¬ Vp s o a) :
    Calls Tryd.prog 19 #[.agg #[.int .i64 s, .int .i64 o, .int .i64 a]] w fun e w' => e = .returned (.tuple #[.slice none 0 0, .int .i64 2]) ∧ Kp w w' := by
  have H := Lib.hid h; clear h
  go_enter Tryd.func19, Tryd.ntmps19
  go_wp2_with fail
  refine (check_no _ _ _ _ H.out).mono ?_
  rintro e w1 ⟨rfl, hb1⟩
  have Q1 : Kp w w1 := by repeat (first | exact Kp.refl _ | with_reducible assumption | with_reducible refine Kp.set ?_ _ _ ?_ | (dsimp only; omega) | with_reducible refine Kp.drew ?_ | with_reducible refine Kp.drewN ?_ _ | with_reducible refine Kp.al ?_ _ | with_reducible refine Kp.trans ?_ (by with_reducible assumption))
  have c1_0_1 := hb1.get (b := w.heap.size) (o := 0) (v := .int .i64 (s)) (by first | with_reducible assumption | (simp [go_sem]; done) | (simp [go_sem, *]; done))
  have c1_1_1 := hb1.get (b := w.heap.size) (o := 1) (v := .int .i64 (o)) (by first | with_reducible assumption | (simp [go_sem]; done) | (simp [go_sem, *]; done))
  have c1_2_1 := hb1.get (b := w.heap.size) (o := 2) (v := .int .i64 (a)) (by first | with_reducible assumption | (simp [go_sem]; done) | (simp [go_sem, *]; done))
  have l1_1 := cell_lt c1_0_1
  have K1 := Q1
  clear hb1 Q1
  go_wp2_with fail
  go_ret2
  exact ⟨rfl, by repeat (first | exact Kp.refl _ | with_reducible assumption | with_reducible refine Kp.set ?_ _ _ ?_ | (dsimp only; omega) | with_reducible refine Kp.drew ?_ | with_reducible refine Kp.drewN ?_ _ | with_reducible refine Kp.al ?_ _ | with_reducible refine Kp.trans ?_ (by with_reducible assumption))⟩

theorem Kp.put {w W : World} (h : Kp w W) (D : Nat) (o : Obj) (hD : w.heap.size ≤ D) : Kp w (W.putObj D o) :=
  ⟨h.os, h.tape, h.output, by simpa using h.size, fun k hk => (World.putObj_heap_other (by omega)).trans (h.block k hk)⟩
/-- What holds between two rounds: the variable's block holds a slice of what has come. -/
def WI (w : World) (Bo n1 : Nat) (pre : List Sy) (W : World) : Prop := Kp w W ∧ n1 ≤ W.heap.size ∧ ∃ v, Boxed W Bo 27 v ∧ W.ownsRow n1 34 2 v pre.length (flatS pre)
theorem WI.own {w : World} {Bo n1 : Nat} {pre : List Sy} {X Y : World} {row : Option Nat} {D : Nat} (hs : WI w Bo n1 pre X) (hD : w.heap.size ≤ D) (hg : X.grownBy Y row)
    (hr : ∀ r, row = some r → D ≤ r ∧ ∃ o : Obj, X.heap[r]? = some o ∧ o.isCells = false) : WI w Bo n1 pre Y := by
  obtain ⟨hk, hn, v, hv, ho⟩ := hs
  obtain ⟨v', hv', ho', _⟩ := holdsRow_own (β := List Sy) n1 Bo 27 34 2 List.length flatS (fun _ _ => True) pre X Y row ⟨v, hv, ho, trivial⟩ hg (fun r e => (hr r e).2)
  exact ⟨Below.grown hk hg hk.low (fun k e => Nat.le_trans hD (hr k e).1), Nat.le_trans hn hg.size, v', hv', ho'⟩
theorem WI.kp {w : World} {Bo n1 : Nat} {pre : List Sy} {X Y : World} (hs : WI w Bo n1 pre X) (k : Kp X Y) : WI w Bo n1 pre Y := by
  obtain ⟨hk, hn, v, hv, ho⟩ := hs
  exact ⟨hk.trans k, Nat.le_trans hn k.low, v, (k.block Bo hv.lt).trans hv, ow_kp ho k⟩
theorem blk_own {W W' : World} {row : Option Nat} {g : Nat} {t : TypeId} {cs : Array Value} (b : Blk W g t cs) (hg : W.grownBy W' row) (hr : ∀ r, row = some r → ∃ o : Obj, W.heap[r]? = some o ∧ o.isCells = false) : Blk W' g t cs :=
  (hg.block g b.lt (fun e => by obtain ⟨o, h1, h2⟩ := hr g e.symm; unfold Blk at b; rw [b] at h1; cases h1; cases h2)).trans b
/-- A round: x has come. -/
theorem WI.more {w : World} {Bo n1 Bp : Nat} {pre : List Sy} {x : Sy} {W w1 : World} {v v' : Value} {tmp : Obj} (hk : Kp w W) (hB : w.heap.size ≤ Bo) (hv : Boxed W Bo 27 v) (hr : W.ownsRow n1 34 2 v pre.length (flatS pre))
    (h1 : 1 < Bo) (hBp : Bo < Bp) (hn : Bp < n1) (hn1 : n1 ≤ W.heap.size)
    (hown' : w1.ownsRow n1 34 2 v' (pre.length + 1) (flatS pre ++ [.int .i64 x.1, .int .i64 x.2])) (hgrow : (W.alloc tmp).grownBy w1 v.ownBlock) :
    Boxed w1 Bo 27 v ∧ KeepsOthers W (w1.setCell ⟨Bo, 0, none⟩ v') ∧ KS Bp W (w1.setCell ⟨Bo, 0, none⟩ v') ∧ WI w Bo n1 (pre ++ [x]) (w1.setCell ⟨Bo, 0, none⟩ v') := by
  have low : ∀ {W : World} {v : Value} {k : Nat} {xs : List Value}, W.ownsRow n1 34 2 v k xs → W.ownsRow 0 34 2 v k xs := by
    rintro W v k xs ⟨hl, h⟩
    refine ⟨hl, ?_⟩
    rcases h with e | ⟨g, cap, cur, e, _, rest⟩
    · exact .inl e
    · exact .inr ⟨g, cap, cur, e, Nat.zero_le _, rest⟩
  have hob : ∀ j, v.ownBlock = some j → n1 ≤ j := fun j hj => (hr.lt j hj).1
  obtain ⟨a1, a2, _, a4, _⟩ := Boxed.appended (n₀ := 0) hv (by decide) (low hr) (Nat.zero_le _) (Nat.zero_le _) (low hown') hgrow
  have ha3 : (w1.setCell ⟨Bo, 0, none⟩ v').ownsRow n1 34 2 v' (pre.length + 1) (flatS pre ++ [.int .i64 x.1, .int .i64 x.2]) :=
    hown'.kept (grownBy_setCell' w1 Bo v') (.inr (a1.not_row (by decide) hown').symm)
  have hK1 : Kp w w1 := Below.grown (hk.al _) hgrow (by have := hk.low; simp; omega) (fun j hj => by have := hob j hj; omega)
  refine ⟨a1, a4, ?_, hK1.set _ _ hB, ?_, v', a2, ?_⟩
  rotate_left
  · have h1 := hgrow.size
    have h2 := (KeepsWalks.setCell w1 ⟨Bo, 0, none⟩ v').size
    simp at h1; omega
  rotate_left
  · intro b c t f hb hc
    have hlt : b < W.heap.size := (Array.getElem?_eq_some_iff.1 hc).1
    have e1 : (W.alloc tmp).heap[b]? = W.heap[b]? := Below.heap_alloc W tmp b hlt
    have e2 : w1.heap[b]? = (W.alloc tmp).heap[b]? := hgrow.block b (by simp; omega) (fun e => by have := hob b e.symm; omega)
    rw [Below.heap_setCell w1 _ _ b (by dsimp only; omega), e2, e1, hc]
  · rw [List.length_append, flatS_app]
    exact ha3

set_option maxRecDepth 100000 in
set_option maxHeartbeats 2000000 in
theorem gways_ok (s o a : Int) (w : World) (ht0 : Tab w) (h1 : 0 ≤ s) (h2 : s ≤ 6) (h3 : 0 ≤ o) (h4 : o ≤ 8) (h5 : -1 ≤ a) (h6 : a ≤ 1) :
    Calls Tryd.prog 19 #[.agg #[.int .i64 s, .int .i64 o, .int .i64 a]] w fun e w' => (∃ A c, e = .returned (.tuple #[.slice A (wys (s, o, a)).length c, .int .i64 0]) ∧ (∀ ad, A = some ad → w.heap.size ≤ ad.block) ∧ Sys w' A (wys (s, o, a)).length (wys (s, o, a))) ∧ Kp w w' := by
  obtain ⟨i0, hi0, hz0, hz1, hz2⟩ := info_parts syl_info
  have HI := Lib.hid hi0; have HZ0 := Lib.hid hz0; have HZ1 := Lib.hid hz1; have HZ2 := Lib.hid hz2
  have HT := Lib.hid ht0
  clear hi0 hz0 hz1 hz2 ht0
  refine (callsIn_wide (n := 9)).1 ?_
  refine callsIn_of_wp_marks Tryd.func19 rfl trivial ?_ rfl
  refine wpIn_wide.2 ?_
  simp only [Tryd.ntmps19, List.size_toArray, List.length_cons, List.length_nil, Nat.reduceAdd, Nat.reduceSub, Array.replicate_succ, Array.replicate_zero, List.push_toArray, List.append_toArray, List.nil_append, List.cons_append]
  go_wp2_with fail
  refine (check_ok _ _ _ _ h1 h2 h3 h4 h5 h6).mono ?_
  rintro e w1 ⟨rfl, hk1⟩
  have c0 := hk1.get (b := w.heap.size) (o := 0) (v := .int .i64 s) (by first | with_reducible assumption | (simp [go_sem]; done) | (simp [go_sem, *]; done))
  have c1 := hk1.get (b := w.heap.size) (o := 1) (v := .int .i64 o) (by first | with_reducible assumption | (simp [go_sem]; done) | (simp [go_sem, *]; done))
  have c2 := hk1.get (b := w.heap.size) (o := 2) (v := .int .i64 a) (by first | with_reducible assumption | (simp [go_sem]; done) | (simp [go_sem, *]; done))
  have l0 := cell_lt c0
  have KA : Kp w w1 := by repeat (first | exact Kp.refl _ | with_reducible assumption | with_reducible refine Kp.set ?_ _ _ ?_ | (dsimp only; omega) | with_reducible refine Kp.drew ?_ | with_reducible refine Kp.drewN ?_ _ | with_reducible refine Kp.al ?_ _ | with_reducible refine Kp.trans ?_ (by with_reducible assumption))
  clear hk1
  go_wp2_with fail
  refine (ways_fn _ _ _ _).mono ?_
  rintro e w2 ⟨rfl, rfl⟩
  go_wp2_with fail
  obtain ⟨W0, hW0⟩ : ∃ W0 : World, W0 = (w1.alloc (.cells #[.slice none 0 0] 27)).alloc (.cells #[.int .i64 s, .int .i64 o, .int .i64 a] 36) := ⟨_, rfl⟩
  have hs0 : w1.heap.size + 2 ≤ W0.heap.size := by rw [hW0]; simp
  have hK0 : Kp w W0 := by rw [hW0]; repeat (first | exact Kp.refl _ | with_reducible assumption | with_reducible refine Kp.set ?_ _ _ ?_ | (dsimp only; omega) | with_reducible refine Kp.drew ?_ | with_reducible refine Kp.drewN ?_ _ | with_reducible refine Kp.al ?_ _ | with_reducible refine Kp.trans ?_ (by with_reducible assumption))
  have hB0 : Boxed W0 w1.heap.size 27 (.slice none 0 0) := by rw [hW0]; exact (Boxed.new w1 _ _).alloc _
  have hP0 : Blk W0 (w1.heap.size + 1) 36 #[.int .i64 s, .int .i64 o, .int .i64 a] := by
    have := Blk.new (w1.alloc (.cells #[.slice none 0 0] 27)) 36 #[.int .i64 s, .int .i64 o, .int .i64 a]
    rw [World.size_alloc] at this
    rw [hW0]; exact this
  have hT0 : Tab W0 := HT.out.below hK0
  have htl := HT.out.lt
  rw [← hW0]
  have HI0 : Hid (WI w w1.heap.size W0.heap.size [] W0) := ⟨hK0, Nat.le_refl _, _, hB0, World.ownsRow_nil _ _ _ _⟩
  have HK0 := Lib.hid hK0; have HP0 := Lib.hid hP0; have HT0 := Lib.hid hT0
  have hlow := KA.low
  clear hW0 hB0 hK0 hP0 hT0 HT c0 c1 c2 KA
  refine (wpIn_wide (n := 9)).1 ?_
  refine wpIn_rangeFunc_ownH (α := Sy) rfl (by omega) (gf := 58) (lb := #[.pointer (some ⟨w1.heap.size + 1, 0, none⟩)]) rfl trivial (enters_of Tryd.func58 (by kernel_rfl) rfl)
    (encs := encS) (Kp := KS (w1.heap.size + 1)) (S := fun ys => ys = wys (s, o, a)) (Sp := fun pre => pre <+: wys (s, o, a)) (N := 7) (w0 := W0)
    (fun l J Jx W hW hJ _ hY h0 => ways_in 8 (by omega) l (w1.heap.size + 1) s o a J Jx W (HT0.out.below hW) (HP0.out.kp hW) hJ (fun pre x W1 q1 q2 _ _ => hY pre x W1 q1 q2) h0)
    (fun h k => h.trans k) (fun W l o o' _ hl ho _ => KS.put W l o o' hl ho) (Below.refl _ _) (fun _ => rfl)
    (fun pre W => WI w w1.heap.size W0.heap.size pre W)
    (fun _ _ _ => False)
    (fun s X Y row hs hg hr => hs.own (by omega) hg hr)
    (fun _ _ _ _ _ hs _ _ => hs)
    HI0.out
    (fun x a' W => ∃ Bx, Blk W Bx 34 #[.int .i64 x.1, .int .i64 x.2] ∧ W0.heap.size ≤ Bx ∧ a' = { tmps := #[.agg #[.int .i64 s, .int .i64 o, .int .i64 a], .pointer (some ⟨w.heap.size, 0, none⟩), .slice none 0 0, .int .i64 0, .int .i64 0, .pointer (some ⟨w1.heap.size, 0, none⟩), .pointer (some ⟨Bx, 0, none⟩), .agg #[.int .i64 s, .int .i64 o, .int .i64 a], .int .i64 0, .int .i64 0, .bool false, undef, .agg #[.int .i64 s, .int .i64 o, .int .i64 a], .func (.func 58) #[] #[.pointer (some ⟨w1.heap.size + 1, 0, none⟩)], .agg #[.int .i64 x.1, .int .i64 x.2], undef, undef, undef, undef, undef], defers := [] })
    (fun x a' _ X Y row hs hg hr => by obtain ⟨Bx, h1, h2, h3⟩ := hs; exact ⟨Bx, blk_own h1 hg (fun r e => (hr r e).2), h2, h3⟩)
    ?assign ?body ?done ?stop
  case assign =>
    rintro l pre x W K hi hK
    have HK := Lib.hid hK
    have HI' := Lib.hid hi
    have hsz := hi.2.1
    clear hK hi
    simp only [encS]
    gi_wp2
    exact HK.out _ _ ((KeepsOthers.alloc _ _).from _) (KS.of_kp ((Kp.refl W).al _)) (HI'.out.kp ((Kp.refl W).al _)) ⟨W.heap.size, Blk.new W _ _, hsz, rfl⟩
  case body =>
    rintro l pre x a' W hl _ hi ⟨Bx, bX, hBx, rfl⟩ hlt
    obtain ⟨hk, hsz, v, hv, hr⟩ := hi
    obtain ⟨A, c, rfl⟩ := ow_form hr
    have z0 : W.cell? ⟨w1.heap.size, 0, none⟩ = some (.slice A pre.length c) := hv.cell
    have z1 : W.cell? ⟨Bx, 0, none⟩ = some (.int .i64 x.1) := bX.cell 0
    have z2 : W.cell? ⟨Bx, 1, none⟩ = some (.int .i64 x.2) := bX.cell 1
    have HV := Lib.hid hv; have HR := Lib.hid hr; have HKW := Lib.hid hk
    have hwl := hk.low
    clear bX hv hr hk
    gi_wp2_with (gi_at_builtin; refine wpListIn_append_own _ rfl (.tmp 15) (.tmp 17) 27 rfl W0.heap.size 34 i0 (.agg #[.int .i64 0, .int .i64 0]) 2 16 Tryd.underlying27 HI.out HZ0.out HZ1.out HZ2.out rfl (by decide) _ pre.length (flatS pre) rfl ?own ⟨W.heap.size, 0, none⟩ 1 1 [.int .i64 x.1, .int .i64 x.2] rfl rfl ?c1 ?c2 ?c3 ?c4 ?c5 ?_)
    case own => exact HR.out.alloc _
    case c1 => exact cell2_new _ _ _ _
    case c2 => simp [Value.oneCell']
    case c3 => simp only [maxLen]; omega
    case c4 => omega
    case c5 => simp; omega
    intro v' w3 hown' hgrow _
    have HM := Lib.hid (WI.more (Bp := w1.heap.size + 1) HKW.out (by omega) HV.out HR.out (by omega) (by omega) (by omega) (by omega) hown' hgrow)
    obtain ⟨g, cap, rfl⟩ := ownsRow_succ hown'
    have y0 : w3.cell? ⟨w1.heap.size, 0, none⟩ = some (.slice A pre.length c) := HM.out.1.cell
    have y1 : w3.frozen? ⟨w1.heap.size, 0, none⟩ = false := HM.out.1.frozen
    clear hown' hgrow z0 z1 z2
    gi_wp2
    refine ⟨HM.out.2.1.from _, HM.out.2.2.1, ?_⟩
    exact HM.out.2.2.2
  case done =>
    rintro D ys W hD hS hi hK
    have EY := Lib.hid hS
    obtain ⟨hk, hsz, v, hv, hr⟩ := hi
    obtain ⟨A, c, rfl⟩ := ow_form hr
    have l0 : W.cell? ⟨w1.heap.size, 0, none⟩ = some (.slice A ys.length c) := hv.cell
    have HR := Lib.hid hr; have HKW := Lib.hid hk; have HK := Lib.hid hK
    clear hv hr hk hK hS
    go_wp2_with fail
    refine ⟨by simp, .inl ⟨_, _, rfl, run_takeDeferred HK.out, ?_⟩⟩
    have hP := sys_of_own (ownsRow_putObj HR.out (.deferred none) HK.out rfl)
    have he := EY.out
    rw [he] at hP
    exact ⟨.tuple #[.slice A ys.length c, .int .i64 0], by simp [results, Tryd.results19, go_sem], ⟨A, c, by rw [he], fun ad e => by subst e; have := (HR.out.lt ad.block rfl).1; omega, hP⟩, HKW.out.put D _ (by omega)⟩
  case stop =>
    rintro D cc pre W _ _ h _
    exact h.elim
end Go.Proofs.YtaobndijldidfaaDoor
