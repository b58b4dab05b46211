/- Contract of gamut.smooth. -/
import Derived.Test.YtaobndijldidfaaDoorGd
namespace Go.Proofs.YtaobndijldidfaaDoor
open Go.RowKit Go.Shelf
attribute [local go_sem] Oper.semAt_some

theorem cell_own {W W' : World} {row : Option Nat} {b o : Nat} {v : Value} (h : W.cell? ⟨b, o, none⟩ = some v) (hg : W.grownBy W' row) (hr : ∀ r, row = some r → ∃ o : Obj, W.heap[r]? = some o ∧ o.isCells = false) : W'.cell? ⟨b, o, none⟩ = some v := by
  have e : W'.heap[b]? = W.heap[b]? := hg.block b (cell_lt h) (fun e => by
    obtain ⟨x, h1, h2⟩ := hr b e.symm
    unfold World.cell? at h
    dsimp only at h
    rw [h1] at h
    cases x <;> first | (simp at h; done) | (simp [Obj.isCells] at h2; done))
  exact (World.cell?_of_block (a := ⟨b, o, none⟩) e).trans h
/-- A pitch has a way in a hexachord; a step between two ways is smooth. -/
def hasHex (p : Pt) (h : Int) : Bool := (wys p).any fun x => x.1 == h
def smB (a b : Sy) : Bool := hasHex (pitS b) a.1 || hasHex (pitS a) b.1
theorem hasHex_no {p : Pt} {h : Int} {ys : List Sy} (he : ys = wys p) (hn : ∀ x ∈ ys, x.1 ≠ h) : hasHex p h = false := by
  subst he
  unfold hasHex
  rw [List.any_eq_false]
  intro x hx
  simpa using hn x hx
theorem hasHex_yes {p : Pt} {h : Int} {pre : List Sy} {x : Sy} (hp : pre <+: wys p) (hx : x ∈ pre) (he : x.1 = h) : hasHex p h = true := by
  unfold hasHex
  rw [List.any_eq_true]
  exact ⟨x, hp.subset hx, by simpa using he⟩

set_option maxRecDepth 100000 in
set_option maxHeartbeats 2000000 in
theorem smooth_ok (a b c d : Int) (w : World) (ht0 : Tab w) (ha : Vs a b) (hc : Vs c d) :
    Calls Tryd.prog 53 #[.agg #[.int .i64 a, .int .i64 b], .agg #[.int .i64 c, .int .i64 d]] w fun e w' => e = .returned (.bool (smB (a, b) (c, d))) ∧ Kp w w' := by
  have HT := Lib.hid ht0
  have HA := Lib.hid ha; have HC := Lib.hid hc
  obtain ⟨s1, o1, a1, e1⟩ : ∃ s o a', pitS (a, b) = (s, o, a') := ⟨_, _, _, rfl⟩
  obtain ⟨s2, o2, a2, e2⟩ : ∃ s o a', pitS (c, d) = (s, o, a') := ⟨_, _, _, rfl⟩
  have c1 := fun w t => gpitch_ok a b w t ha
  have c2 := fun w t => gpitch_ok c d w t hc
  rw [e1] at c1
  rw [e2] at c2
  dsimp only at c1 c2
  have C1 := Lib.hid c1; have C2 := Lib.hid c2; have E1 := Lib.hid e1; have E2 := Lib.hid e2
  clear c1 c2 e1 e2 ht0 ha hc
  refine (callsIn_wide (n := 9)).1 ?_
  refine callsIn_of_wp_marks Tryd.func53 rfl trivial ?_ rfl
  refine wpIn_wide.2 ?_
  simp only [Tryd.ntmps53, List.size_toArray, List.length_cons, List.length_nil, Nat.reduceAdd, Nat.reduceSub, Array.replicate_succ, Array.replicate_zero, List.push_toArray, List.append_toArray, List.nil_append, List.cons_append]
  have s3 : w.heap.size ≤ w.heap.size + 1 + 1 := by omega
  have n3_1 : ¬ w.heap.size + 1 + 1 = w.heap.size := by omega
  have n1_3 : ¬ w.heap.size = w.heap.size + 1 + 1 := by omega
  have n3_2 : ¬ w.heap.size + 1 + 1 = w.heap.size + 1 := by omega
  have n2_3 : ¬ w.heap.size + 1 = w.heap.size + 1 + 1 := by omega
  go_wp2_with fail
  refine (C1.out _ (HT.out.below (by repeat (first | exact Kp.refl _ | with_reducible assumption | with_reducible refine Kp.set ?_ _ _ ?_ | (dsimp only; omega) | with_reducible refine Kp.drew ?_ | with_reducible refine Kp.drewN ?_ _ | with_reducible refine Kp.al ?_ _ | with_reducible refine Kp.trans ?_ (by with_reducible assumption))))).mono ?_
  rintro e w1 ⟨rfl, hb1⟩
  have Q1 : Kp w w1 := by repeat (first | exact Kp.refl _ | with_reducible assumption | with_reducible refine Kp.set ?_ _ _ ?_ | (dsimp only; omega) | with_reducible refine Kp.drew ?_ | with_reducible refine Kp.drewN ?_ _ | with_reducible refine Kp.al ?_ _ | with_reducible refine Kp.trans ?_ (by with_reducible assumption))
  have c1_0_1 := hb1.get (b := w.heap.size) (o := 0) (v := .int .i64 (a)) (by first | with_reducible assumption | (simp [go_sem]; done) | (simp [go_sem, *]; done))
  have c1_1_1 := hb1.get (b := w.heap.size) (o := 1) (v := .int .i64 (b)) (by first | with_reducible assumption | (simp [go_sem]; done) | (simp [go_sem, *]; done))
  have l1_1 := cell_lt c1_0_1
  have c2_0_1 := hb1.get (b := w.heap.size + 1) (o := 0) (v := .int .i64 (c)) (by first | with_reducible assumption | (simp [go_sem]; done) | (simp [go_sem, *]; done))
  have c2_1_1 := hb1.get (b := w.heap.size + 1) (o := 1) (v := .int .i64 (d)) (by first | with_reducible assumption | (simp [go_sem]; done) | (simp [go_sem, *]; done))
  have l2_1 := cell_lt c2_0_1
  have c3_0_1 := hb1.get (b := w.heap.size + 1 + 1) (o := 0) (v := .bool false) (by first | with_reducible assumption | (simp [go_sem]; done) | (simp [go_sem, *]; done))
  have f3_0_1 := hb1.free (b := w.heap.size + 1 + 1) (o := 0) (v := .bool false) (by first | with_reducible assumption | (simp [go_sem]; done) | (simp [go_sem, *]; done)) (by first | with_reducible assumption | (simp [go_sem]; done) | (simp [go_sem, *]; done))
  have l3_1 := cell_lt c3_0_1
  have K1 := Q1
  clear hb1 Q1
  have n4_3 : ¬ w1.heap.size = w.heap.size + 1 + 1 := by omega
  have n3_4 : ¬ w.heap.size + 1 + 1 = w1.heap.size := by omega
  go_wp2_with fail
  refine (C2.out _ (HT.out.below (by repeat (first | exact Kp.refl _ | with_reducible assumption | with_reducible refine Kp.set ?_ _ _ ?_ | (dsimp only; omega) | with_reducible refine Kp.drew ?_ | with_reducible refine Kp.drewN ?_ _ | with_reducible refine Kp.al ?_ _ | with_reducible refine Kp.trans ?_ (by with_reducible assumption))))).mono ?_
  rintro e w2 ⟨rfl, hb2⟩
  have Q2 : Kp w1 w2 := by repeat (first | exact Kp.refl _ | with_reducible assumption | with_reducible refine Kp.set ?_ _ _ ?_ | (dsimp only; omega) | with_reducible refine Kp.drew ?_ | with_reducible refine Kp.drewN ?_ _ | with_reducible refine Kp.al ?_ _ | with_reducible refine Kp.trans ?_ (by with_reducible assumption))
  have c4_0_2 := hb2.get (b := w1.heap.size) (o := 0) (v := .int .i64 (s1)) (by first | with_reducible assumption | (simp [go_sem]; done) | (simp [go_sem, *]; done))
  have c4_1_2 := hb2.get (b := w1.heap.size) (o := 1) (v := .int .i64 (o1)) (by first | with_reducible assumption | (simp [go_sem]; done) | (simp [go_sem, *]; done))
  have c4_2_2 := hb2.get (b := w1.heap.size) (o := 2) (v := .int .i64 (a1)) (by first | with_reducible assumption | (simp [go_sem]; done) | (simp [go_sem, *]; done))
  have l4_2 := cell_lt c4_0_2
  have c1_0_2 := Q2.get c1_0_1
  have c1_1_2 := Q2.get c1_1_1
  have l1_2 := cell_lt c1_0_2
  have c2_0_2 := Q2.get c2_0_1
  have c2_1_2 := Q2.get c2_1_1
  have l2_2 := cell_lt c2_0_2
  have f3_0_2 := Q2.free c3_0_1 f3_0_1
  have c3_0_2 := Q2.get c3_0_1
  have l3_2 := cell_lt c3_0_2
  have K2 := K1.trans Q2
  clear hb2 c1_0_1 c1_1_1 l1_1 c2_0_1 c2_1_1 l2_1 f3_0_1 c3_0_1 l3_1 K1 Q2
  have n5_3 : ¬ w2.heap.size = w.heap.size + 1 + 1 := by omega
  have n3_5 : ¬ w.heap.size + 1 + 1 = w2.heap.size := by omega
  go_wp2_with fail
  refine (ways_fn _ _ _ _).mono ?_
  rintro e w3 ⟨rfl, rfl⟩
  go_wp2_with fail
  obtain ⟨W0, hW0⟩ : ∃ W0 : World, W0 = (w2.alloc (.cells #[.int .i64 s2, .int .i64 o2, .int .i64 a2] 36)).alloc (.cells #[.int .i64 s2, .int .i64 o2, .int .i64 a2] 36) := ⟨_, rfl⟩
  have hs0 : w2.heap.size + 2 ≤ W0.heap.size := by rw [hW0]; simp
  have hK2 : Kp w2 W0 := by rw [hW0]; repeat (first | exact Kp.refl _ | with_reducible assumption | with_reducible refine Kp.set ?_ _ _ ?_ | (dsimp only; omega) | with_reducible refine Kp.drew ?_ | with_reducible refine Kp.drewN ?_ _ | with_reducible refine Kp.al ?_ _ | with_reducible refine Kp.trans ?_ (by with_reducible assumption))
  have hP0 : Blk W0 (w2.heap.size + 1) 36 #[.int .i64 s2, .int .i64 o2, .int .i64 a2] := by
    have := Blk.new (w2.alloc (.cells #[.int .i64 s2, .int .i64 o2, .int .i64 a2] 36)) 36 #[.int .i64 s2, .int .i64 o2, .int .i64 a2]
    rw [World.size_alloc] at this
    rw [hW0]; exact this
  have hK0 : Kp w W0 := K2.trans hK2
  have g1 := hK2.get c1_0_2
  have g2 := hK2.get c2_0_2
  have g3 : Ow W0 (w.heap.size + 1 + 1) 0 (.bool false) := ⟨hK2.get c3_0_2, hK2.free c3_0_2 f3_0_2⟩
  have g4 := hK2.get c4_0_2
  have g5 := hK2.get c4_1_2
  have g6 := hK2.get c4_2_2
  rw [← hW0]
  have HK0 := Lib.hid hK0; have HP0 := Lib.hid hP0; have HT0 := Lib.hid (HT.out.below hK0)
  have G1 := Lib.hid g1; have G2 := Lib.hid g2; have G3 := Lib.hid g3; have G4 := Lib.hid g4; have G5 := Lib.hid g5; have G6 := Lib.hid g6
  have hlow := hK0.low
  clear hW0 hK0 hK2 hP0 g1 g2 g3 g4 g5 g6 c1_0_2 c1_1_2 c2_0_2 c2_1_2 c3_0_2 f3_0_2 c4_0_2 c4_1_2 c4_2_2 K2
  refine (wpIn_wide (n := 9)).1 ?_
  refine wpIn_rangeFunc_ownH (α := Sy) rfl (by omega) (gf := 58) (lb := #[.pointer (some ⟨w2.heap.size + 1, 0, none⟩)]) rfl trivial (enters_of Tryd.func58 (by kernel_rfl) rfl)
    (encs := encS) (Kp := KS (w2.heap.size + 1)) (S := fun ys => ys = wys (s2, o2, a2)) (Sp := fun pre => pre <+: wys (s2, o2, a2)) (N := 7) (w0 := W0)
    (fun l J Jx W hW hJ _ hY h0 => ways_in 8 (by omega) l (w2.heap.size + 1) s2 o2 a2 J Jx W (HT0.out.below hW) (HP0.out.kp hW) hJ (fun pre x W1 q1 q2 _ _ => hY pre x W1 q1 q2) h0)
    (fun h k => h.trans k) (fun W l o o' _ hl ho _ => KS.put W l o o' hl ho) (Below.refl _ _) (fun _ => rfl)
    (fun pre W => Kp W0 W ∧ ∀ x ∈ pre, x.1 ≠ a)
    (fun cc pre W => cc = .ret ∧ Kp w W ∧ W.cell? ⟨w.heap.size + 1 + 1, 0, none⟩ = some (.bool true) ∧ ∃ x ∈ pre, x.1 = a)
    (fun s X Y row hs hg hr => ⟨Below.grown hs.1 hg hs.1.low (fun k e => (hr k e).1), hs.2⟩)
    (fun cc s X Y row hs hg hr => ⟨hs.1, Below.grown hs.2.1 hg hs.2.1.low (fun k e => Nat.le_trans hlow (hr k e).1), cell_own hs.2.2.1 hg (fun r e => (hr r e).2), hs.2.2.2⟩)
    ⟨Kp.refl _, fun x hx => by cases hx⟩
    (fun x a' W => ∃ Bx, Blk W Bx 34 #[.int .i64 x.1, .int .i64 x.2] ∧ W0.heap.size ≤ Bx ∧ a' = { tmps := #[.agg #[.int .i64 a, .int .i64 b], .agg #[.int .i64 c, .int .i64 d], .pointer (some ⟨w.heap.size, 0, none⟩), .pointer (some ⟨w.heap.size + 1, 0, none⟩), .pointer (some ⟨w.heap.size + 1 + 1, 0, none⟩), .pointer (some ⟨w1.heap.size, 0, none⟩), .int .i64 0, .pointer (some ⟨w2.heap.size, 0, none⟩), .int .i64 0, .pointer (some ⟨Bx, 0, none⟩), undef, .tuple #[.agg #[.int .i64 s1, .int .i64 o1, .int .i64 a1], .int .i64 0], .agg #[.int .i64 a, .int .i64 b], .tuple #[.agg #[.int .i64 s1, .int .i64 o1, .int .i64 a1], .int .i64 0], .agg #[.int .i64 s1, .int .i64 o1, .int .i64 a1], .int .i64 0, .tuple #[.agg #[.int .i64 s2, .int .i64 o2, .int .i64 a2], .int .i64 0], .agg #[.int .i64 c, .int .i64 d], .tuple #[.agg #[.int .i64 s2, .int .i64 o2, .int .i64 a2], .int .i64 0], .agg #[.int .i64 s2, .int .i64 o2, .int .i64 a2], .int .i64 0, .agg #[.int .i64 s2, .int .i64 o2, .int .i64 a2], .func (.func 58) #[] #[.pointer (some ⟨w2.heap.size + 1, 0, none⟩)], .agg #[.int .i64 x.1, .int .i64 x.2], undef, undef, undef, undef, undef, undef, undef, undef, undef, undef, undef, undef, undef], defers := [] })
    (fun x a' _ X Y row hs hg hr => by obtain ⟨Bx, h1, h2, h3⟩ := hs; exact ⟨Bx, blk_own h1 hg (fun r e => (hr r e).2), h2, h3⟩)
    ?assign1 ?body1 ?done1 ?stop1
  case assign1 =>
    rintro l pre x W K hi hK
    have HK := Lib.hid hK
    have HI' := Lib.hid hi
    have hsz := hi.1.low
    clear hK hi
    simp only [encS]
    gi_wp2
    exact HK.out _ _ ((KeepsOthers.alloc _ _).from _) (KS.of_kp ((Kp.refl W).al _)) ⟨HI'.out.1.al _, HI'.out.2⟩ ⟨W.heap.size, Blk.new W _ _, hsz, rfl⟩
  case body1 =>
    rintro l pre x a' W hl _ hi ⟨Bx, bX, hBx, rfl⟩ hlt
    obtain ⟨hk, hn⟩ := hi
    have z1 : W.cell? ⟨Bx, 0, none⟩ = some (.int .i64 x.1) := bX.cell 0
    have z2 := hk.get G1.out
    have O3 := G3.out.kp hk
    obtain ⟨z3, z4⟩ := O3
    have HN := Lib.hid hn; have HKW := Lib.hid hk
    clear bX hk hn
    by_cases hxa : x.1 = a
    · have d1 : (x.1 == a) = true := by simpa using hxa
      have HX := Lib.hid hxa
      clear hxa
      gi_wp2
      have kset := (Kp.refl W).set
      refine ⟨(KeepsOthers.setCell W ⟨w.heap.size + 1 + 1, 0, none⟩ (.bool true)).from _, rfl, (HK0.out.trans HKW.out).set _ _ (by dsimp only; omega), ?_, x, by simp, HX.out⟩
      simp [go_sem, z3]
    · have d1 : (x.1 == a) = false := by simpa using hxa
      have HX := Lib.hid hxa
      clear hxa
      gi_wp2
      refine ⟨KeepsFrom.refl _ _, KS.refl _ _, HKW.out, fun y hy => ?_⟩
      rcases List.mem_append.1 hy with h | h
      · exact HN.out y h
      · obtain rfl : y = x := by simpa using h
        exact HX.out
  case stop1 =>
    rintro D cc pre W hD hpre ⟨rfl, hk, hc, x, hx, hxa⟩ hK
    have hsm : smB (a, b) (c, d) = true := by
      unfold smB
      rw [E2.out, hasHex_yes hpre hx hxa]; rfl
    have SM := Lib.hid hsm
    have KW := Lib.hid hk; have HK := Lib.hid hK; have HCc := Lib.hid hc
    clear hsm hk hK hc hpre hx hxa
    refine wpIn_wide.2 ?_
    go_wp2_with fail
    refine ⟨by simp, .inl ⟨_, _, rfl, run_takeDeferred HK.out, ?_⟩⟩
    have hne : D ≠ w.heap.size + 1 + 1 := fun e => by
      have h1 := HCc.out; have h2 := HK.out
      rw [e] at h2
      simp [World.cell?, h2] at h1
    have y0 : (W.putObj D (.deferred none)).cell? ⟨w.heap.size + 1 + 1, 0, none⟩ = some (.bool true) := (World.cell?_of_block (a := ⟨w.heap.size + 1 + 1, 0, none⟩) (World.putObj_heap_other (fun e => hne e.symm))).trans HCc.out
    exact ⟨.bool true, by simp [results, Tryd.results53, go_sem, y0], by rw [SM.out], KW.out.put D _ (by omega)⟩
  case done1 =>
    rintro D ys W hD hS hi hK
    obtain ⟨hk, hn⟩ := hi
    have hno : hasHex (s2, o2, a2) a = false := hasHex_no hS hn
    have HNO := Lib.hid hno; have HK := Lib.hid hK; have HKW := Lib.hid hk
    have z1 := hk.get G4.out
    have z2 := hk.get G5.out
    have z3 := hk.get G6.out
    have zl := cell_lt z1
    clear hno hK hk hS hn
    go_wp2_with fail
    refine (ways_fn _ _ _ _).mono ?_
    rintro e w3 ⟨rfl, rfl⟩
    go_wp2_with fail
    obtain ⟨V, hV⟩ : ∃ V : World, V = W.alloc (.cells #[.int .i64 s1, .int .i64 o1, .int .i64 a1] 36) := ⟨_, rfl⟩
    have hVs : W.heap.size + 1 ≤ V.heap.size := by rw [hV]; simp
    have kWV : Kp W V := by rw [hV]; repeat (first | exact Kp.refl _ | with_reducible assumption | with_reducible refine Kp.set ?_ _ _ ?_ | (dsimp only; omega) | with_reducible refine Kp.drew ?_ | with_reducible refine Kp.drewN ?_ _ | with_reducible refine Kp.al ?_ _ | with_reducible refine Kp.trans ?_ (by with_reducible assumption))
    have hPV : Blk V W.heap.size 36 #[.int .i64 s1, .int .i64 o1, .int .i64 a1] := by rw [hV]; exact Blk.new W _ _
    have hDW := (Array.getElem?_eq_some_iff.1 HK.out).1
    have KV := Lib.hid (HKW.out.trans kWV)
    have HPV := Lib.hid hPV
    have HDV := Lib.hid ((kWV.block D hDW).trans HK.out)
    rw [← hV]
    clear hV kWV hPV z1 z2 z3
    have hlow2 := KV.out.low
    refine (wpIn_wide (n := 9)).1 ?_
    refine wpIn_rangeFunc_ownH (α := Sy) rfl (by omega) (gf := 58) (lb := #[.pointer (some ⟨W.heap.size, 0, none⟩)]) rfl trivial (enters_of Tryd.func58 (by kernel_rfl) rfl)
      (encs := encS) (Kp := KS W.heap.size) (S := fun ys => ys = wys (s1, o1, a1)) (Sp := fun pre => pre <+: wys (s1, o1, a1)) (N := 7) (w0 := V)
      (fun l J Jx X hX hJ _ hY h0 => ways_in 8 (by omega) l W.heap.size s1 o1 a1 J Jx X ((HT0.out.below KV.out).below hX) (HPV.out.kp hX) hJ (fun pre x W1 q1 q2 _ _ => hY pre x W1 q1 q2) h0)
      (fun h k => h.trans k) (fun W l o o' _ hl ho _ => KS.put W l o o' hl ho) (Below.refl _ _) (fun _ => rfl)
      (fun pre X => Kp V X ∧ ∀ x ∈ pre, x.1 ≠ c)
      (fun cc pre X => cc = .ret ∧ Kp w X ∧ X.heap[D]? = some (.deferred (some [])) ∧ X.cell? ⟨w.heap.size + 1 + 1, 0, none⟩ = some (.bool true) ∧ ∃ x ∈ pre, x.1 = c)
      (fun s X Y row hs hg hr => ⟨Below.grown hs.1 hg hs.1.low (fun k e => (hr k e).1), hs.2⟩)
      (fun cc s X Y row hs hg hr => ⟨hs.1, Below.grown hs.2.1 hg hs.2.1.low (fun k e => Nat.le_trans hlow (Nat.le_trans hlow2 (hr k e).1)), (hg.block D (Array.getElem?_eq_some_iff.1 hs.2.2.1).1 (fun e => by have := (hr D e.symm).1; omega)).trans hs.2.2.1, cell_own hs.2.2.2.1 hg (fun r e => (hr r e).2), hs.2.2.2.2⟩)
      ⟨Kp.refl _, fun x hx => by cases hx⟩
      (fun x a' X => ∃ Bx, Blk X Bx 34 #[.int .i64 x.1, .int .i64 x.2] ∧ V.heap.size ≤ Bx ∧ a' = { tmps := #[.agg #[.int .i64 a, .int .i64 b], .agg #[.int .i64 c, .int .i64 d], .pointer (some ⟨w.heap.size, 0, none⟩), .pointer (some ⟨w.heap.size + 1, 0, none⟩), .pointer (some ⟨w.heap.size + 1 + 1, 0, none⟩), .pointer (some ⟨w1.heap.size, 0, none⟩), .int .i64 0, .pointer (some ⟨w2.heap.size, 0, none⟩), .int .i64 0, undef, .pointer (some ⟨Bx, 0, none⟩), .tuple #[.agg #[.int .i64 s1, .int .i64 o1, .int .i64 a1], .int .i64 0], .agg #[.int .i64 a, .int .i64 b], .tuple #[.agg #[.int .i64 s1, .int .i64 o1, .int .i64 a1], .int .i64 0], .agg #[.int .i64 s1, .int .i64 o1, .int .i64 a1], .int .i64 0, .tuple #[.agg #[.int .i64 s2, .int .i64 o2, .int .i64 a2], .int .i64 0], .agg #[.int .i64 c, .int .i64 d], .tuple #[.agg #[.int .i64 s2, .int .i64 o2, .int .i64 a2], .int .i64 0], .agg #[.int .i64 s2, .int .i64 o2, .int .i64 a2], .int .i64 0, .agg #[.int .i64 s2, .int .i64 o2, .int .i64 a2], .func (.func 58) #[] #[.pointer (some ⟨w2.heap.size + 1, 0, none⟩)], undef, undef, undef, undef, undef, undef, .agg #[.int .i64 s1, .int .i64 o1, .int .i64 a1], .func (.func 58) #[] #[.pointer (some ⟨W.heap.size, 0, none⟩)], .agg #[.int .i64 x.1, .int .i64 x.2], undef, undef, undef, undef, undef], defers := [] })
      (fun x a' _ X Y row hs hg hr => by obtain ⟨Bx, h1, h2, h3⟩ := hs; exact ⟨Bx, blk_own h1 hg (fun r e => (hr r e).2), h2, h3⟩)
      ?assign2 ?body2 ?done2 ?stop2
    case assign2 =>
      rintro l pre x X K hi hK
      have HK := Lib.hid hK
      have HI' := Lib.hid hi
      have hsz := hi.1.low
      clear hK hi
      simp only [encS]
      gi_wp2
      exact HK.out _ _ ((KeepsOthers.alloc _ _).from _) (KS.of_kp ((Kp.refl X).al _)) ⟨HI'.out.1.al _, HI'.out.2⟩ ⟨X.heap.size, Blk.new X _ _, hsz, rfl⟩
    case body2 =>
      rintro l pre x a' X hl _ hi ⟨Bx, bX, hBx, rfl⟩ hlt
      obtain ⟨hk, hn⟩ := hi
      have z1 : X.cell? ⟨Bx, 0, none⟩ = some (.int .i64 x.1) := bX.cell 0
      have hk0 := KV.out.trans hk
      have z2 := hk0.get G2.out
      have O3 := G3.out.kp hk0
      obtain ⟨z3, z4⟩ := O3
      have HN := Lib.hid hn; have HKX := Lib.hid hk
      have HDX := Lib.hid ((hk.block D (Array.getElem?_eq_some_iff.1 HDV.out).1).trans HDV.out)
      clear bX hk hn hk0
      by_cases hxa : x.1 = c
      · have d1 : (x.1 == c) = true := by simpa using hxa
        have HX := Lib.hid hxa
        clear hxa
        gi_wp2
        refine ⟨(KeepsOthers.setCell X ⟨w.heap.size + 1 + 1, 0, none⟩ (.bool true)).from _, rfl, (HK0.out.trans (KV.out.trans HKX.out)).set _ _ (by dsimp only; omega), ?_, ?_, x, by simp, HX.out⟩
        · refine (Below.heap_setCell X _ _ D ?_).trans HDX.out
          intro e
          have h2 := HDX.out
          dsimp only at e
          rw [e] at h2
          simp [World.cell?, h2] at z3
        · simp [go_sem, z3]
      · have d1 : (x.1 == c) = false := by simpa using hxa
        have HX := Lib.hid hxa
        clear hxa
        gi_wp2
        refine ⟨KeepsFrom.refl _ _, KS.refl _ _, HKX.out, fun y hy => ?_⟩
        rcases List.mem_append.1 hy with h | h
        · exact HN.out y h
        · obtain rfl : y = x := by simpa using h
          exact HX.out
    case stop2 =>
      rintro D2 cc pre X hD2 hpre ⟨rfl, hk, hD1, hc, x, hx, hxa⟩ hK
      have hsm : smB (a, b) (c, d) = true := by
        unfold smB
        rw [E1.out, hasHex_yes hpre hx hxa, Bool.or_true]
      have SM := Lib.hid hsm
      have KW := Lib.hid hk; have HK2 := Lib.hid hK; have HCc := Lib.hid hc; have HK1 := Lib.hid hD1
      clear hsm hk hK hc hpre hx hxa hD1
      have HN1 : Hid (D ≠ w.heap.size + 1 + 1) := by
        intro e; have h2 := HK1.out; have h1 := HCc.out; rw [e] at h2; simp [World.cell?, h2] at h1
      have HN2 : Hid (D2 ≠ w.heap.size + 1 + 1) := by
        intro e; have h2 := HK2.out; have h1 := HCc.out; rw [e] at h2; simp [World.cell?, h2] at h1
      refine wpIn_wide.2 ?_
      go_wp2_with fail
      have hX1 : X.heap[D]? = some (.deferred (some [])) := HK1.out
      have hX2 : X.heap[D2]? = some (.deferred (some [])) := HK2.out
      have hne2 : D ≠ D2 := by have := (Array.getElem?_eq_some_iff.1 HDV.out).1; omega
      have hY1 : (X.putObj D2 (.deferred none)).heap[D]? = some (.deferred (some [])) := (World.putObj_heap_other hne2).trans hX1
      have y0 : ((X.putObj D2 (.deferred none)).putObj D (.deferred none)).cell? ⟨w.heap.size + 1 + 1, 0, none⟩ = some (.bool true) :=
        (World.cell?_of_block (a := ⟨w.heap.size + 1 + 1, 0, none⟩) (World.putObj_heap_other (fun e => HN1.out e.symm))).trans ((World.cell?_of_block (a := ⟨w.heap.size + 1 + 1, 0, none⟩) (World.putObj_heap_other (fun e => HN2.out e.symm))).trans HCc.out)
      refine ⟨by simp, .inl ⟨_, _, rfl, run_takeDeferred hX2, by simp, .inl ⟨_, _, rfl, run_takeDeferred hY1, ?_⟩⟩⟩
      exact ⟨.bool true, by simp [results, Tryd.results53, go_sem, y0], by rw [SM.out], (KW.out.put D2 _ (by omega)).put D _ (by omega)⟩
    case done2 =>
      rintro D2 ys X hD2 hS hi hK
      obtain ⟨hk, hn⟩ := hi
      have hno2 : hasHex (s1, o1, a1) c = false := hasHex_no hS hn
      have hsm : smB (a, b) (c, d) = false := by
        unfold smB
        rw [E1.out, E2.out, HNO.out, hno2]; rfl
      have SM := Lib.hid hsm
      have KW := Lib.hid (HK0.out.trans (KV.out.trans hk)); have HK2 := Lib.hid hK
      have HK1 := Lib.hid ((hk.block D (Array.getElem?_eq_some_iff.1 HDV.out).1).trans HDV.out)
      have O3 := G3.out.kp (KV.out.trans hk)
      obtain ⟨z3, z4⟩ := O3
      have HN1 : Hid (D ≠ w.heap.size + 1 + 1) := by
        intro e; have h2 := HK1.out; have h1 := z3; rw [e] at h2; simp [World.cell?, h2] at h1
      have HN2 : Hid (D2 ≠ w.heap.size + 1 + 1) := by
        intro e; have h2 := HK2.out; have h1 := z3; rw [e] at h2; simp [World.cell?, h2] at h1
      clear hno2 hsm hk hK hS hn
      go_wp2_with fail
      have hX1 : (X.setCell ⟨w.heap.size + 1 + 1, 0, none⟩ (.bool false)).heap[D]? = some (.deferred (some [])) := (Below.heap_setCell X _ _ D (by dsimp only; exact HN1.out)).trans HK1.out
      have hX2 : (X.setCell ⟨w.heap.size + 1 + 1, 0, none⟩ (.bool false)).heap[D2]? = some (.deferred (some [])) := (Below.heap_setCell X _ _ D2 (by dsimp only; exact HN2.out)).trans HK2.out
      have hne2 : D ≠ D2 := by have := (Array.getElem?_eq_some_iff.1 HDV.out).1; omega
      have hY1 : ((X.setCell ⟨w.heap.size + 1 + 1, 0, none⟩ (.bool false)).putObj D2 (.deferred none)).heap[D]? = some (.deferred (some [])) := (World.putObj_heap_other hne2).trans hX1
      have y0 : (((X.setCell ⟨w.heap.size + 1 + 1, 0, none⟩ (.bool false)).putObj D2 (.deferred none)).putObj D (.deferred none)).cell? ⟨w.heap.size + 1 + 1, 0, none⟩ = some (.bool false) :=
        (World.cell?_of_block (a := ⟨w.heap.size + 1 + 1, 0, none⟩) (World.putObj_heap_other (fun e => HN1.out e.symm))).trans ((World.cell?_of_block (a := ⟨w.heap.size + 1 + 1, 0, none⟩) (World.putObj_heap_other (fun e => HN2.out e.symm))).trans (by simp [go_sem, z3]))
      refine ⟨by simp, .inl ⟨_, _, rfl, run_takeDeferred hX2, by simp, .inl ⟨_, _, rfl, run_takeDeferred hY1, ?_⟩⟩⟩
      exact ⟨.bool false, by simp [results, Tryd.results53, go_sem, y0], by rw [SM.out], ((KW.out.set ⟨w.heap.size + 1 + 1, 0, none⟩ (.bool false) (by dsimp only; omega)).put D2 _ (by omega)).put D _ (by omega)⟩
end Go.Proofs.YtaobndijldidfaaDoor
