/- Contract of clef.Best: the search. -/
import Derived.Test.YtgajdmefflndmaaBk
import Derived.Laws.EntriesVeiled
namespace Go.Proofs.Ytgajdmefflndmaa
open Go.RowKit Go.Shelf
attribute [local go_sem] Oper.semAt_some

theorem clefs_fn (w : World) : Calls Try.prog 41 #[] w fun e w' => e = .returned (.func (.func 46) #[] #[]) ∧ w = w' := by
  go_enter Try.func41, Try.ntmps41
  go_wp2
  go_ret
  exact ⟨rfl, rfl⟩
/-- What has come of the clefs so far; the best clef and its lines. -/
def foldC (xs : List Int) (pre : List VC) : (Int × Int) × Int := pre.foldl (fun s (c : VC) => tryC xs s c.1) ((0, 0), -1)
theorem foldC_snoc (xs : List Int) (pre : List VC) (c : VC) : foldC xs (pre ++ [c]) = tryC xs (foldC xs pre) c.1 := by simp [foldC]
def bestC (xs : List Int) : (Int × Int) × Int := foldC xs (clefs 15)

theorem Kp.put {w W : World} (h : Kp w W) (D : Nat) (o : Obj) (hD : w.heap.size ≤ D) : Kp w (W.putObj D o) :=
  ⟨h.os, h.tape, h.output, by simpa using h.size, fun k hk => (World.putObj_heap_other (by omega)).trans (h.block k hk)⟩
/-- Behind the loop: the result's block, and the block for deferred calls, after the last stores. -/
theorem last_blk {w W : World} {D : Nat} {a b : Int} (hres : Blk W w.heap.size 23 #[.int .i64 0, .int .i64 0]) (hK : W.heap[D]? = some (.deferred (some []))) (hkp : Kp w W) (hD : w.heap.size < D) :
    ((W.setCell ⟨w.heap.size, 0, none⟩ (.int .i64 a)).setCell ⟨w.heap.size, 1, none⟩ (.int .i64 b)).heap[D]? = some (.deferred (some [])) ∧
    Blk (((W.setCell ⟨w.heap.size, 0, none⟩ (.int .i64 a)).setCell ⟨w.heap.size, 1, none⟩ (.int .i64 b)).putObj D (.deferred none)) w.heap.size 23 #[.int .i64 a, .int .i64 b] ∧
    Kp w (((W.setCell ⟨w.heap.size, 0, none⟩ (.int .i64 a)).setCell ⟨w.heap.size, 1, none⟩ (.int .i64 b)).putObj D (.deferred none)) :=
  ⟨(Below.heap_setCell _ _ _ D (by dsimp only; omega)).trans ((Below.heap_setCell _ _ _ D (by dsimp only; omega)).trans hK),
   (World.putObj_heap_other (by omega)).trans ((hres.set_ 0 (.int .i64 a)).set_ 1 (.int .i64 b)),
   ((hkp.set ⟨w.heap.size, 0, none⟩ _ (Nat.le_refl _)).set ⟨w.heap.size, 1, none⟩ _ (Nat.le_refl _)).put D _ (by omega)⟩
theorem blk_own {W W' : World} {row : Option Nat} {g : Nat} {t : TypeId} {cs : Array Value} (b : Blk W g t cs) (hg : W.grownBy W' row) (hr : ∀ r, row = some r → ∃ o : Obj, W.heap[r]? = some o ∧ o.isCells = false) : Blk W' g t cs :=
  (hg.block g b.lt (fun e => by obtain ⟨o, h1, h2⟩ := hr g e.symm; unfold Blk at b; rw [b] at h1; cases h1; cases h2)).trans b
theorem cell_own {W W' : World} {row : Option Nat} {b o : Nat} {v : Value} (h : W.cell? ⟨b, o, none⟩ = some v) (hg : W.grownBy W' row) (hr : ∀ r, row = some r → ∃ o : Obj, W.heap[r]? = some o ∧ o.isCells = false) : W'.cell? ⟨b, o, none⟩ = some v := by
  have e : W'.heap[b]? = W.heap[b]? := hg.block b (cell_lt h) (fun e => by
    obtain ⟨x, h1, h2⟩ := hr b e.symm
    unfold World.cell? at h
    dsimp only at h
    rw [h1] at h
    cases x <;> first | (simp at h; done) | (simp [Obj.isCells] at h2; done))
  exact (World.cell?_of_block (a := ⟨b, o, none⟩) e).trans h
theorem Ints.own {W W' : World} {row : Option Nat} {A : Option Addr} {n : Nat} {xs : List Int} (h : Ints W A n xs) (hg : W.grownBy W' row) (hr : ∀ r, row = some r → ∃ o : Obj, W.heap[r]? = some o ∧ o.isCells = false) : Ints W' A n xs :=
  ⟨h.1, fun j hj => by obtain ⟨b, off, e, hc⟩ := h.2 j hj; exact ⟨b, off, e, cell_own hc hg hr⟩⟩
/-- What holds between two rounds of the search. -/
structure BI (w : World) (bb : Nat) (xs : List Int) (B : Option Addr) (n d : Nat) (r : (Int × Int) × Int) (W : World) : Prop where
  kp : Kp w W
  hi : w.heap.size + 2 ≤ bb
  res : Blk W w.heap.size 23 #[.int .i64 0, .int .i64 0]
  box : Blk W (w.heap.size + 1) 48 #[.slice B n d]
  row : ∀ g, B = some g → g.block < bb
  ints : Ints W B n xs
  best : Blk W bb 23 #[.int .i64 r.1.1, .int .i64 r.1.2]
  least : Blk W (bb + 1) 3 #[.int .i64 r.2]
  clo : Blk W (bb + 1 + 1) 58 #[.func (.func 39) #[] #[.pointer (some ⟨w.heap.size + 1, 0, none⟩), .pointer (some ⟨bb + 1, 0, none⟩), .pointer (some ⟨bb, 0, none⟩)]]
theorem BI.own {w : World} {bb : Nat} {xs : List Int} {B : Option Addr} {n d : Nat} {r : (Int × Int) × Int} {W W' : World} {row : Option Nat} {D : Nat} (h : BI w bb xs B n d r W) (hD : w.heap.size ≤ D) (hg : W.grownBy W' row)
    (hr : ∀ r, row = some r → D ≤ r ∧ ∃ o : Obj, W.heap[r]? = some o ∧ o.isCells = false) : BI w bb xs B n d r W' :=
  have hr' := fun r e => (hr r e).2
  ⟨Below.grown h.kp hg h.kp.low (fun k e => Nat.le_trans hD (hr k e).1), h.hi, blk_own h.res hg hr', blk_own h.box hg hr', h.row, h.ints.own hg hr', blk_own h.best hg hr', blk_own h.least hg hr', blk_own h.clo hg hr'⟩
theorem BI.more {w : World} {bb : Nat} {xs : List Int} {B : Option Addr} {n d : Nat} {r : (Int × Int) × Int} {W W' : World} (h : BI w bb xs B n d r W) (k : Kp W W') : BI w bb xs B n d r W' :=
  ⟨h.kp.trans k, h.hi, h.res.kp k, h.box.kp k, h.row, h.ints.kp k, h.best.kp k, h.least.kp k, h.clo.kp k⟩
/-- A round: the clef c has been tried. -/
theorem BI.tried {w : World} {bb : Nat} {xs : List Int} {B : Option Addr} {n d : Nat} {r r' : (Int × Int) × Int} {W W' : World} (h : BI w bb xs B n d r W) (t : Tw (bb + 1) bb W W')
    (hl : Blk W' (bb + 1) 3 #[.int .i64 r'.2]) (hb : Blk W' bb 23 #[.int .i64 r'.1.1, .int .i64 r'.1.2]) : BI w bb xs B n d r' W' := by
  have hh := h.hi
  refine ⟨⟨t.os.trans h.kp.os, t.tape.trans h.kp.tape, t.output.trans h.kp.output, Nat.le_trans h.kp.size t.size, fun k hk => (t.block k (Nat.lt_of_lt_of_le hk h.kp.size) (by omega) (by omega)).trans (h.kp.block k hk)⟩, hh, t.blk h.res (by omega) (by omega), t.blk h.box (by omega) (by omega), h.row, ?_, hb, hl, t.blk h.clo (by omega) (by omega)⟩
  refine ⟨h.ints.1, fun j hj => ?_⟩
  obtain ⟨b, off, e, hc⟩ := h.ints.2 j hj
  have hlt := h.row _ e
  dsimp only at hlt
  exact ⟨b, off, e, (World.cell?_of_block (a := ⟨b, off + j, none⟩) (t.block b (cell_lt hc) (by omega) (by omega))).trans hc⟩

set_option maxRecDepth 100000 in
set_option maxHeartbeats 4000000 in
theorem best_ok (key : Int) (A : Option Addr) (n c : Nat) (ps : List Pt) (w : World) (k1 : 0 ≤ key) (k2 : key ≤ 2) (hx : Pts w A n ps) (hn : n ≤ 1000) (hval : ∀ k, k < n → Vp (ptAt ps k).1 (ptAt ps k).2.1 (ptAt ps k).2.2) :
    Calls Try.prog 13 #[.int .i64 key, .slice A n c] w fun e w' => ((bestC (nums ps)).2 < 0 ∧ e = .returned (.tuple #[.agg #[.int .i64 0, .int .i64 0], .int .i64 18]) ∨ ¬ (bestC (nums ps)).2 < 0 ∧ e = .returned (.tuple #[.agg #[.int .i64 (bestC (nums ps)).1.1, .int .i64 (bestC (nums ps)).1.2], .int .i64 0])) ∧ Kp w w' := by
  obtain ⟨i0, hi0, hz0, hz1, hz2⟩ := info_parts int_info
  have HI := Lib.hid hi0; have HZ0 := Lib.hid hz0; have HZ1 := Lib.hid hz1; have HZ2 := Lib.hid hz2
  have hl := hx.1
  have HX := Lib.hid hx
  have HV := Lib.hid hval
  have HL := Lib.hid hl
  clear hx hval hl hi0 hz0 hz1 hz2
  have t1 : decide (key < 0) = false := by simp; omega
  have t2 : decide (2 < key) = false := by simp; omega
  refine (callsIn_wide (n := 9)).1 ?_
  refine callsIn_of_wp_marks Try.func13 rfl trivial ?_ rfl
  refine wpIn_wide.2 ?_
  simp only [Try.ntmps13, List.size_toArray, List.length_cons, List.length_nil, Nat.reduceAdd, Nat.reduceSub, Array.replicate_succ, Array.replicate_zero, List.push_toArray, List.append_toArray, List.nil_append, List.cons_append]
  go_wp2_with fail
  go_loopw [24] (fun v wr => ∃ (k : Nat) (B : Option Addr) (d : Nat), k ≤ n ∧ v = .int .i64 (k : Int) ∧ BR w wr ps k B d) (fun v _ => n - (intOf v).toNat)
  case atStart => exact ⟨0, none, 0, by omega, rfl, BR.start w ps⟩
  case round =>
    obtain ⟨k, B, d, hk, rfl, hR⟩ := hrel
    have HR := Lib.hid hR
    clear hR
    by_cases hlt : k < n
    · have hd : decide ((k : Int) < (n : Int)) = true := by simp; omega
      obtain ⟨b, off, rfl, e0, e1, e2⟩ := (HX.out.kp HR.out.kp).2 k hlt
      obtain ⟨s, es⟩ : ∃ s, s = (ptAt ps k).1 := ⟨_, rfl⟩
      obtain ⟨o, eo⟩ : ∃ o, o = (ptAt ps k).2.1 := ⟨_, rfl⟩
      obtain ⟨a, ea⟩ : ∃ a, a = (ptAt ps k).2.2 := ⟨_, rfl⟩
      rw [← es] at e0
      rw [← eo] at e1
      rw [← ea] at e2
      have ES := Lib.hid es; have EO := Lib.hid eo; have EA := Lib.hid ea
      clear es eo ea
      have hv : Vp s o a := by rw [ES.out, EO.out, EA.out]; exact HV.out k hlt
      · obtain ⟨v1, v2, v3, v4, v5, v6⟩ := hv
        go_wp2_with fail
        refine (number_ok _ _ _ _ v1 v2 v3 v4 v5 v6).mono ?_
        rintro e w1 ⟨rfl, hb1⟩
        have Q1 := ((Kp.refl wr).al _).trans hb1
        have H1 := Lib.hid (HR.out.more Q1)
        have x0 : w1.cell? ⟨w.heap.size + 1, 0, none⟩ = some (.slice B k d) := H1.out.box.cell 0
        have x1 := H1.out.box.free 0
        have x2 := H1.out.box.lt
        have K1 := H1.out.kp.low
        clear hb1 Q1 e0 e1 e2
        go_wp2_with (at_builtin; refine wpList_append_own _ rfl (.tmp 37) (.tmp 39) 48 rfl (w.heap.size + 2) 3 i0 (.int .i64 0) 1 8 Try.underlying48 HI.out HZ0.out HZ1.out HZ2.out rfl (by decide) _ k (((nums ps).take k).map (Value.int .i64)) rfl ?own ⟨w1.heap.size, 0, none⟩ 1 1 [.int .i64 (7 * o + s)] rfl rfl ?c1 ?c2 ?c3 ?c4 ?c5 ?_)
        case own => exact H1.out.own.alloc _
        case c1 => exact cell_one_new _ _ _
        case c2 => simp [Value.oneCell']
        case c3 => simp only [maxLen]; omega
        case c4 => omega
        case c5 => simp; omega
        intro v' w2 hown' hgrow _
        rw [← List.map_take] at hown'
        obtain ⟨g, cap, rfl⟩ := ownsRow_succ hown'
        have hob : w.heap.size + 1 < (w1.alloc (.cells #[.int .i64 (7 * o + s)] 3)).heap.size := by simp; omega
        have HP := Lib.hid (H1.out.push (x := 7 * o + s) hgrow hown' (by have := HL.out; omega) (by rw [EO.out, ES.out]) (by rw [← ES.out, ← EO.out, ← EA.out]; exact ⟨v1, v2, v3, v4, v5, v6⟩))
        have hbx : Blk w2 (w.heap.size + 1) 48 #[.slice B k d] := (hgrow.block _ hob (fun e => by have := (H1.out.own.lt _ e.symm).1; omega)).trans (H1.out.box.al _)
        have y0 : w2.cell? ⟨w.heap.size + 1, 0, none⟩ = some (.slice B k d) := hbx.cell 0
        have y1 := hbx.free 0
        clear hown' hgrow hbx hob x0 x1 x2
        go_wp2_with fail
        go_roundw
        case rel => exact ⟨k + 1, _, _, by omega, by go_num, HP.out⟩
        case measure => simp [intOf]; omega
    · have hd : decide ((k : Int) < (n : Int)) = false := by simp; omega
      obtain rfl : k = n := by omega
      go_wp2_with fail
      refine (clefs_fn _).mono ?_
      rintro e _ ⟨rfl, rfl⟩
      go_wp2_with fail
      have hnum : (nums ps).take k = nums ps := List.take_of_length_le (by rw [nums_len, HL.out]; exact Nat.le_refl _)
      have hsz := HR.out.kp.low
      have hB2 := HR.out.box.lt
      have hI0 : BI w wr.heap.size (nums ps) B k d ((0, 0), -1) (((wr.alloc (.cells #[.int .i64 0, .int .i64 0] 23)).alloc (.cells #[.int .i64 (-1)] 3)).alloc (.cells #[.func (.func 39) #[] #[.pointer (some ⟨w.heap.size + 1, 0, none⟩), .pointer (some ⟨wr.heap.size + 1, 0, none⟩), .pointer (some ⟨wr.heap.size, 0, none⟩)]] 58)) := by
        have hown := HR.out.own
        rw [hnum] at hown
        have q0 := HR.out
        refine ⟨((q0.kp.al _).al _).al _, by omega, ((q0.res.al _).al _).al _, ((q0.box.al _).al _).al _, ?_, (ints_of_own hown).kp (by repeat (first | exact Kp.refl _ | with_reducible assumption | with_reducible refine Kp.set ?_ _ _ ?_ | (dsimp only; omega) | with_reducible refine Kp.drew ?_ | with_reducible refine Kp.drewN ?_ _ | with_reducible refine Kp.al ?_ _ | with_reducible refine Kp.trans ?_ (by with_reducible assumption))), ((Blk.new wr _ _).al _).al _, ?_, ?_⟩
        · rintro g rfl
          rcases hown.2 with ⟨e, _⟩ | ⟨g', cap', cur, e, _, hg, _⟩
          · cases e
          · injection e with e1 _ _
            injection e1 with e1
            subst e1
            exact (Array.getElem?_eq_some_iff.1 hg).1
        · have := (Blk.new (wr.alloc (.cells #[.int .i64 0, .int .i64 0] 23)) 3 #[.int .i64 (-1)])
          rw [World.size_alloc] at this
          exact this.al _
        · have := Blk.new ((wr.alloc (.cells #[.int .i64 0, .int .i64 0] 23)).alloc (.cells #[.int .i64 (-1)] 3)) 58 #[.func (.func 39) #[] #[.pointer (some ⟨w.heap.size + 1, 0, none⟩), .pointer (some ⟨wr.heap.size + 1, 0, none⟩), .pointer (some ⟨wr.heap.size, 0, none⟩)]]
          rw [World.size_alloc, World.size_alloc] at this
          exact this
      obtain ⟨W0, hW0⟩ : ∃ W0 : World, W0 = (((wr.alloc (.cells #[.int .i64 0, .int .i64 0] 23)).alloc (.cells #[.int .i64 (-1)] 3)).alloc (.cells #[.func (.func 39) #[] #[.pointer (some ⟨w.heap.size + 1, 0, none⟩), .pointer (some ⟨wr.heap.size + 1, 0, none⟩), .pointer (some ⟨wr.heap.size, 0, none⟩)]] 58)) := ⟨_, rfl⟩
      have hs0 : W0.heap.size = wr.heap.size + 3 := by rw [hW0]; simp
      rw [← hW0] at hI0 ⊢
      clear hW0 hnum
      refine (wpIn_wide (n := 9)).1 ?_
      refine wpIn_rangeFunc_ownH (α := VC) rfl (by omega) (gf := 46) (lb := #[]) rfl trivial (enters_of Try.func46 (by kernel_rfl) rfl)
        (encs := encC) (Kp := Kr W0.heap.size) (S := fun ys => ys = clefs 15) (Sp := fun pre => pre <+: clefs 15) (N := 15) (w0 := W0)
        (fun l J Jx W hW hJ _ hY h0 => clefs_in Fence.wide 8 trivial rfl (by omega) l W0.heap.size J Jx W hW.size hJ hY h0)
        (fun h k => h.trans k) (fun W l o o' _ hl ho _ => Kr.put W l o o' hl ho) (Below.refl _ _) (fun _ => rfl)
        (fun pre W => BI w wr.heap.size (nums ps) B k d (foldC (nums ps) pre) W)
        (fun _ _ _ => False)
        (fun s X Y row hs hg hr => hs.own (by omega) hg hr)
        (fun _ _ _ _ _ hs _ _ => hs)
        hI0
        (fun x a' W => ∃ Bx, Blk W Bx 23 #[.int .i64 x.1.1, .int .i64 x.1.2] ∧ W0.heap.size ≤ Bx ∧ a' = { tmps := #[.int .i64 key, .slice A k c, undef, undef, .pointer (some ⟨w.heap.size, 0, none⟩), u5, .pointer (some ⟨w.heap.size + 1, 0, none⟩), undef, u8, u9, u10, .pointer (some ⟨wr.heap.size, 0, none⟩), .pointer (some ⟨wr.heap.size + 1, 0, none⟩), .pointer (some ⟨wr.heap.size + 1 + 1, 0, none⟩), .pointer (some ⟨Bx, 0, none⟩), .int .i64 key, .bool false, .bool false, .int .i64 key, .bool false, .bool false, undef, .slice A k c, .int .i64 (k : Int), .int .i64 (k : Int), .bool false, u26, u27, u28, u29, u30, u31, u32, u33, u34, u35, u36, u37, u38, u39, u40, u41, .func (.func 39) #[] #[.pointer (some ⟨w.heap.size + 1, 0, none⟩), .pointer (some ⟨wr.heap.size + 1, 0, none⟩), .pointer (some ⟨wr.heap.size, 0, none⟩)], .func (.func 46) #[] #[], .agg #[.int .i64 x.1.1, .int .i64 x.1.2], undef, undef, undef, undef, undef, undef, undef], defers := [] })
        (fun x a' _ X Y row hs hg hr => by obtain ⟨Bx, h1, h2, h3⟩ := hs; exact ⟨Bx, blk_own h1 hg (fun r e => (hr r e).2), h2, h3⟩)
        ?assign ?body ?done ?stop
      case assign =>
        rintro l pre x W K hi hK
        have HK := Lib.hid hK
        have HI' := Lib.hid hi
        clear hK hi
        simp only [encC]
        gi_wp2
        exact HK.out _ _ ((KeepsOthers.alloc _ _).from _) (Kr.of_kp ((Kp.refl W).al _)) (HI'.out.more ((Kp.refl W).al _)) ⟨W.heap.size, Blk.new W _ _, by have := HI'.out.clo.lt; omega, rfl⟩
      case body =>
        rintro l pre x a' W hl _ hi ⟨Bx, bX, hBx, rfl⟩ hlt
        obtain ⟨r, er⟩ : ∃ r, r = foldC (nums ps) pre := ⟨_, rfl⟩
        rw [← er] at hi
        have ER := Lib.hid er
        have HI' := Lib.hid hi
        have z0 : W.cell? ⟨wr.heap.size + 1 + 1, 0, none⟩ = some (.func (.func 39) #[] #[.pointer (some ⟨w.heap.size + 1, 0, none⟩), .pointer (some ⟨wr.heap.size + 1, 0, none⟩), .pointer (some ⟨wr.heap.size, 0, none⟩)]) := hi.clo.cell 0
        have z1 : W.cell? ⟨Bx, 0, none⟩ = some (.int .i64 x.1.1) := bX.cell 0
        have z2 : W.cell? ⟨Bx, 1, none⟩ = some (.int .i64 x.1.2) := bX.cell 1
        have hN : ∀ j, j < k → 0 ≤ (nums ps).getD j 0 ∧ (nums ps).getD j 0 ≤ 62 := fun j hj => by
          have := HV.out j hj
          rw [nums_at _ _ (by have := HL.out; omega)]
          unfold Vp at this
          omega
        have HT := Lib.hid (try_any x.1.1 x.1.2 (w.heap.size + 1) (wr.heap.size + 1) wr.heap.size B k d (nums ps) r.1.1 r.1.2 r.2 W x.2 hi.ints hn hN (hi.box.cell 0) hi.least hi.best (by omega))
        clear er hi bX hN
        gi_wp2_with fail
        refine ⟨trivial, (CallsIn.inRound l (callsIn_wide.2 HT.out)).mono ?_⟩
        rintro e W' ⟨⟨v, rfl⟩, hT, hl', hb'⟩
        have HI2 := Lib.hid (HI'.out.tried hT hl' hb')
        have hk1 := Lib.hid (show KeepsFrom W0.heap.size W W' from ⟨hT.size, fun j ob hj hjo _ => (hT.block j (Array.getElem?_eq_some_iff.1 hjo).1 (by omega) (by omega)).trans hjo⟩)
        have hk2 := Lib.hid (show Kr W0.heap.size W W' from fun j cs ty fr hj hjo => (hT.block j (Array.getElem?_eq_some_iff.1 hjo).1 (by omega) (by omega)).trans hjo)
        clear hT hl' hb' HT
        gi_wp2
        refine ⟨hk1.out, hk2.out, ?_⟩
        dsimp only
        rw [foldC_snoc, ← ER.out]
        exact HI2.out
      case done =>
        rintro D ys W hD rfl hi hK
        have HI' := Lib.hid hi
        have HK := Lib.hid hK
        have eb : foldC (nums ps) (clefs 15) = bestC (nums ps) := rfl
        rw [eb] at hi
        obtain ⟨r, er⟩ : ∃ r, r = bestC (nums ps) := ⟨_, rfl⟩
        rw [← er] at hi
        have ER := Lib.hid er
        clear er eb
        have l0 : W.cell? ⟨wr.heap.size + 1, 0, none⟩ = some (.int .i64 r.2) := hi.least.cell 0
        have b0 : W.cell? ⟨wr.heap.size, 0, none⟩ = some (.int .i64 r.1.1) := hi.best.cell 0
        have b1 : W.cell? ⟨wr.heap.size, 1, none⟩ = some (.int .i64 r.1.2) := hi.best.cell 1
        have r0 : W.cell? ⟨w.heap.size, 0, none⟩ = some (.int .i64 0) := hi.res.cell 0
        have r1 : W.cell? ⟨w.heap.size, 1, none⟩ = some (.int .i64 0) := hi.res.cell 1
        have r2 := hi.res.free 0
        have r3 := hi.res.free 1
        have HKp := Lib.hid hi.kp
        have HRs := Lib.hid hi.res
        clear hi hK
        by_cases hlt : r.2 < 0
        · have td : decide (r.2 < 0) = true := by simpa using hlt
          go_wp2_with fail
          obtain ⟨g1, g2, g3⟩ := last_blk (a := 0) (b := 0) HRs.out HK.out HKp.out (show w.heap.size < D by omega)
          have y0 := g2.cell 0
          have y1 := g2.cell 1
          refine ⟨by simp, .inl ⟨_, _, rfl, run_takeDeferred g1, ?_⟩⟩
          exact ⟨.tuple #[.agg #[.int .i64 0, .int .i64 0], .int .i64 18], by simp [results, Try.results13, go_sem, y0, y1], .inl ⟨by rw [← ER.out]; exact hlt, rfl⟩, g3⟩
        · have td : decide (r.2 < 0) = false := by simpa using hlt
          go_wp2_with fail
          obtain ⟨g1, g2, g3⟩ := last_blk (a := r.1.1) (b := r.1.2) HRs.out HK.out HKp.out (show w.heap.size < D by omega)
          have y0 := g2.cell 0
          have y1 := g2.cell 1
          refine ⟨by simp, .inl ⟨_, _, rfl, run_takeDeferred g1, ?_⟩⟩
          exact ⟨.tuple #[.agg #[.int .i64 r.1.1, .int .i64 r.1.2], .int .i64 0], by simp [results, Try.results13, go_sem, y0, y1], .inr ⟨by rw [← ER.out]; omega, by rw [← ER.out]⟩, g3⟩
      case stop =>
        rintro D cc pre W _ _ h _
        exact h.elim
end Go.Proofs.Ytgajdmefflndmaa
