/- Blocks that are known whole; the closure of clef.Best that tries one clef. -/
import Derived.Test.YtgajdmefflndmaaBi
namespace Go.Proofs.Ytgajdmefflndmaa
open Go.RowKit

/-- Block g is just these cells, none frozen. -/
def Blk (w : World) (g : Nat) (t : TypeId) (cs : Array Value) : Prop := w.heap[g]? = some (.cells cs t (0, 0))
section
variable {w w' : World} {g : Nat} {t : TypeId} {cs : Array Value}
theorem Blk.lt (h : Blk w g t cs) : g < w.heap.size := (Array.getElem?_eq_some_iff.1 h).1
theorem Blk.cell (h : Blk w g t cs) (i : Nat) : w.cell? ⟨g, i, none⟩ = cs[i]? := by unfold Blk at h; simp [World.cell?, h]
theorem Blk.free (h : Blk w g t cs) (i : Nat) : w.frozen? ⟨g, i, none⟩ = false := by unfold Blk at h; simp [World.frozen?, h]
theorem Blk.new (w : World) (t : TypeId) (cs : Array Value) : Blk (w.alloc (.cells cs t)) w.heap.size t cs := heap_alloc_new w _
theorem Blk.al (h : Blk w g t cs) (o : Obj) : Blk (w.alloc o) g t cs := (Below.heap_alloc w o g h.lt).trans h
theorem Blk.kp (h : Blk w g t cs) (k : Kp w w') : Blk w' g t cs := (k.block g h.lt).trans h
theorem Blk.drew (h : Blk w g t cs) : Blk w.drew g t cs := h
theorem Blk.set_ (h : Blk w g t cs) (i : Nat) (u : Value) : Blk (w.setCell ⟨g, i, none⟩ u) g t (cs.setIfInBounds i u) := by
  unfold Blk at h ⊢
  simp [World.setCell, Array.getElem?_modify, h]
theorem Blk.far (h : Blk w g t cs) {p : Addr} (hp : g ≠ p.block) (u : Value) : Blk (w.setCell p u) g t cs := (Below.heap_setCell w p u g hp).trans h
end

/-- All but the blocks p and q is as it was. -/
structure Tw (p q : Nat) (w w' : World) : Prop where
  os : w'.os = w.os
  tape : w'.tape = w.tape
  output : w'.output = w.output
  size : w.heap.size ≤ w'.heap.size
  block : ∀ k, k < w.heap.size → k ≠ p → k ≠ q → w'.heap[k]? = w.heap[k]?
theorem Tw.of_kp {p q : Nat} {w w' : World} (h : Kp w w') : Tw p q w w' := ⟨h.os, h.tape, h.output, h.size, fun k hk _ _ => h.block k hk⟩
theorem Tw.set {p q : Nat} {w w' : World} (h : Tw p q w w') (a : Addr) (v : Value) (ha : a.block = p ∨ a.block = q) : Tw p q w (w'.setCell a v) :=
  ⟨h.os, h.tape, h.output, by simpa [World.setCell] using h.size, fun k hk h1 h2 => (Below.heap_setCell w' a v k (by rcases ha with e | e <;> (rw [e]; assumption))).trans (h.block k hk h1 h2)⟩
theorem Tw.blk {p q : Nat} {w w' : World} (h : Tw p q w w') {g : Nat} {t : TypeId} {cs : Array Value} (b : Blk w g t cs) (h1 : g ≠ p) (h2 : g ≠ q) : Blk w' g t cs := (h.block g b.lt h1 h2).trans b

/-- The numbers of a clef. -/
def lowC (c : Int × Int) : Int := low c.1 c.2
instance (L : Int) (xs : List Int) : Decidable (Fit L xs) := by unfold Fit; infer_instance
/-- One clef is tried: the best one so far and its lines. -/
def tryC (xs : List Int) (s : (Int × Int) × Int) (c : Int × Int) : (Int × Int) × Int :=
  if Fit (lowC c) xs ∧ (s.2 < 0 ∨ lsum (lowC c) xs xs.length < s.2) then (c, lsum (lowC c) xs xs.length) else s

set_option maxHeartbeats 1000000 in
theorem try_any (st ln : Int) (Bn Bl Bb : Nat) (A : Option Addr) (n c : Nat) (xs : List Int) (bs bl le : Int) (w : World) (hc : Vc st ln) (hx : Ints w A n xs) (hn : n ≤ 1000) (hv : ∀ k, k < n → 0 ≤ xs.getD k 0 ∧ xs.getD k 0 ≤ 62)
    (h1 : w.cell? ⟨Bn, 0, none⟩ = some (.slice A n c)) (h2 : Blk w Bl 3 #[.int .i64 le]) (h3 : Blk w Bb 23 #[.int .i64 bs, .int .i64 bl]) (hne : Bl ≠ Bb) :
    Calls Try.prog 39 #[.agg #[.int .i64 st, .int .i64 ln], .pointer (some ⟨Bn, 0, none⟩), .pointer (some ⟨Bl, 0, none⟩), .pointer (some ⟨Bb, 0, none⟩)] w fun e w' => (∃ v, e = .returned v) ∧ Tw Bl Bb w w' ∧
      Blk w' Bl 3 #[.int .i64 (tryC xs ((bs, bl), le) (st, ln)).2] ∧ Blk w' Bb 23 #[.int .i64 (tryC xs ((bs, bl), le) (st, ln)).1.1, .int .i64 (tryC xs ((bs, bl), le) (st, ln)).1.2] := by
  have hl := hx.1
  have HC := Lib.hid hc
  have HX := Lib.hid hx
  have HV := Lib.hid hv
  have H2 := Lib.hid h2
  have H3 := Lib.hid h3
  clear hc hx hv h2 h3
  have key : ∀ b, (Fit (low st ln) xs ∧ (le < 0 ∨ lsum (low st ln) xs n < le)) → b = tryC xs ((bs, bl), le) (st, ln) → b = ((st, ln), lsum (low st ln) xs n) := fun b hb e => by rw [e]; unfold tryC lowC; rw [hl]; exact if_pos hb
  have keyn : ∀ b, ¬ (Fit (low st ln) xs ∧ (le < 0 ∨ lsum (low st ln) xs n < le)) → b = tryC xs ((bs, bl), le) (st, ln) → b = ((bs, bl), le) := fun b hb e => by rw [e]; unfold tryC lowC; rw [hl]; exact if_neg hb
  obtain ⟨r, er⟩ : ∃ r, r = tryC xs ((bs, bl), le) (st, ln) := ⟨_, rfl⟩
  rw [← er]
  have KEY := Lib.hid key; have KEYN := Lib.hid keyn; have ER := Lib.hid er
  clear key keyn er hl
  have hBn := cell_lt h1
  go_enter Try.func39, Try.ntmps39
  go_wp2_with fail
  refine (need_any _ _ _ _ _ xs _ HC.out (HX.out.kp (by repeat (first | exact Kp.refl _ | with_reducible assumption | with_reducible refine Kp.set ?_ _ _ ?_ | (dsimp only; omega) | with_reducible refine Kp.drew ?_ | with_reducible refine Kp.drewN ?_ _ | with_reducible refine Kp.al ?_ _ | with_reducible refine Kp.trans ?_ (by with_reducible assumption)))) hn HV.out).mono ?_
  rintro e w1 ⟨⟨hF, rfl⟩ | ⟨hF, rfl⟩, hb1⟩
  · have K1 : Kp w w1 := by repeat (first | exact Kp.refl _ | with_reducible assumption | with_reducible refine Kp.set ?_ _ _ ?_ | (dsimp only; omega) | with_reducible refine Kp.drew ?_ | with_reducible refine Kp.drewN ?_ _ | with_reducible refine Kp.al ?_ _ | with_reducible refine Kp.trans ?_ (by with_reducible assumption))
    have d0 := hb1.get (b := w.heap.size) (o := 0) (v := .int .i64 st) (by first | with_reducible assumption | (simp [go_sem]; done) | (simp [go_sem, *]; done))
    have d1 := hb1.get (b := w.heap.size) (o := 1) (v := .int .i64 ln) (by first | with_reducible assumption | (simp [go_sem]; done) | (simp [go_sem, *]; done))
    have e2 : Blk w1 Bl 3 #[.int .i64 le] := H2.out.kp K1
    have e3 : Blk w1 Bb 23 #[.int .i64 bs, .int .i64 bl] := H3.out.kp K1
    have l0 : w1.cell? ⟨Bl, 0, none⟩ = some (.int .i64 le) := e2.cell 0
    have l1 := e2.free 0
    have b0 : w1.cell? ⟨Bb, 0, none⟩ = some (.int .i64 bs) := e3.cell 0
    have b1 : w1.cell? ⟨Bb, 1, none⟩ = some (.int .i64 bl) := e3.cell 1
    have b2 := e3.free 0
    have b3 := e3.free 1
    have g1 := H2.out.lt
    have g2 := H3.out.lt
    have E2 := Lib.hid e2; have E3 := Lib.hid e3; have HF := Lib.hid hF
    have n1 : ¬ Bb = Bl := fun e => hne e.symm
    have n2 : ¬ Bl = Bb := hne
    clear e2 e3 hF hb1 h1
    by_cases hless : le < 0 ∨ lsum (low st ln) xs n < le
    · have HR := Lib.hid (KEY.out r ⟨HF.out, hless⟩ ER.out)
      have hcase : (decide (le < 0) = true) ∨ (decide (le < 0) = false ∧ decide (lsum (low st ln) xs n < le) = true) := by simp; omega
      clear hless
      rcases hcase with t1 | ⟨t1, t2⟩
      all_goals
        go_wp2_with fail
        go_end0
        refine ⟨⟨_, rfl⟩, ?_, ?_, ?_⟩
        · refine Tw.set ?_ ⟨Bl, 0, none⟩ _ (.inl rfl)
          refine Tw.set ?_ ⟨Bb, 1, none⟩ _ (.inr rfl)
          refine Tw.set ?_ ⟨Bb, 0, none⟩ _ (.inr rfl)
          exact Tw.of_kp K1
        · rw [HR.out]
          exact ((E2.out.far (p := ⟨Bb, 0, none⟩) hne _).far (p := ⟨Bb, 1, none⟩) hne _).set_ 0 _
        · rw [HR.out]
          exact ((E3.out.set_ 0 _).set_ 1 _).far (p := ⟨Bl, 0, none⟩) (fun e => hne e.symm) _
    · have HR := Lib.hid (KEYN.out r (fun h => hless h.2) ER.out)
      have t1 : decide (le < 0) = false := by simp; omega
      have t2 : decide (lsum (low st ln) xs n < le) = false := by simp; omega
      clear hless
      go_wp2_with fail
      go_end0
      refine ⟨⟨_, rfl⟩, Tw.of_kp K1, ?_, ?_⟩
      · rw [HR.out]; exact E2.out
      · rw [HR.out]; exact E3.out
  · have K1 : Kp w w1 := by repeat (first | exact Kp.refl _ | with_reducible assumption | with_reducible refine Kp.set ?_ _ _ ?_ | (dsimp only; omega) | with_reducible refine Kp.drew ?_ | with_reducible refine Kp.drewN ?_ _ | with_reducible refine Kp.al ?_ _ | with_reducible refine Kp.trans ?_ (by with_reducible assumption))
    have HR := Lib.hid (KEYN.out r (fun h => hF h.1) ER.out)
    clear hF hb1 h1
    go_wp2_with fail
    go_end0
    refine ⟨⟨_, rfl⟩, Tw.of_kp K1, ?_, ?_⟩
    · rw [HR.out]; exact H2.out.kp K1
    · rw [HR.out]; exact H3.out.kp K1
end Go.Proofs.Ytgajdmefflndmaa
