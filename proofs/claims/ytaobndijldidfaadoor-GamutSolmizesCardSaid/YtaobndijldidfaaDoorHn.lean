/- A drawn region whose loads are taken first though a later operation of it writes the cells they read; and two rows that grow side by side. -/
import Derived.Test.YtaobndijldidfaaDoorHm
set_option linter.unusedSimpArgs false
set_option linter.unusedVariables false
namespace Go.Proofs.YtaobndijldidfaaDoor
open Go.RowKit

section
variable {P : Program} {ops : Array Oper} {Q : Exit → Act → World → Prop} {md : Region.Mode} {S : World → Prop} {z : Nat}

/-- Whatever order is picked from here on; as long as number z has not come up, S holds behind each step. -/
def wpTill (P : Program) (md : Region.Mode) (ops : Array Oper) (Q : Exit → Act → World → Prop) (S : World → Prop) (z : Nat) : Nat → Array Bool → Act → World → Prop
  | 0, L, a, w => Region.ready md ops L = [] ∧ Q .normal a w
  | f + 1, L, a, w => (Region.ready md ops L = [] → Q .normal a w) ∧
    ∀ j ∈ Region.ready md ops L, wpOp P ops Q j (fun a' w' => ((L.setIfInBounds j true).getD z true = false → S w') ∧ wpTill P md ops Q S z f (L.setIfInBounds j true) a' w') a w

theorem till_any : ∀ (f : Nat) (L : Array Bool) (a : Act) (w : World), wpTill P md ops Q S z f L a w → wpAny P md ops Q f L a w
  | 0, _, _, _, h => h
  | f + 1, _, _, _, h => ⟨h.1, fun j hj => wpOp_mono (fun a' w' h' => till_any f _ a' w' h'.2) (h.2 j hj)⟩

/-- What may come up now does not wait for another that may come up now. -/
theorem ready_no_wait {L : Array Bool} {i j : Nat} {oj : Oper} (hr : i ∈ Region.ready md ops L) (hj : j ∈ Region.ready md ops L) (hoj : ops[j]? = some oj) : ∀ e ∈ oj.after, Region.binds md e = true → e.on ≠ i := by
  obtain ⟨_, o, ho, hall⟩ := mem_ready.1 hj
  obtain rfl : o = oj := Option.some.inj (ho.symm.trans hoj)
  intro e he hb e1
  have yes := hall e he hb
  have no := (mem_ready.1 hr).1
  rw [e1] at yes
  cases hc : L[i]? <;> simp [hc] at yes no
  rw [yes] at no
  cases no
/-- Number i is carried out at once: S0 is what it needs, I what is kept of the list till then. -/
theorem till_gen {S0 : World → Prop} {I : Array Bool → Prop} {i : Nat} {oi : Oper} {v : Value} (hi : ops[i]? = some oi) (hiz : i ≠ z)
    (hsel : ∀ (j : Nat) (o : Oper) cs b, ops[j]? = some o → o.op ≠ .select cs b) (hQ : ∀ c a w, Q (.panic c) (a.put oi.dst v) w → Q (.panic c) a w)
    (hI : ∀ L j, I L → i ∈ Region.ready md ops L → j ∈ Region.ready md ops L → j ≠ i → I (L.setIfInBounds j true))
    (hneed : ∀ L w, I L → (L.getD z true = false → S w) → S0 w) (f : Nat) : ∀ (L : Array Bool) (a : Act) (w : World), I L →
      (∀ j oj, ops[j]? = some oj → j ≠ i → L.getD j true = false → (∀ e ∈ oj.after, Region.binds md e = true → e.on ≠ i) → oi.apart ops oj = true) →
      i ∈ Region.ready md ops L → YieldsIf P ops S0 oi v a → (L.getD z true = false → S w) →
      wpTill P md ops Q S z f (L.setIfInBounds i true) (a.put oi.dst v) w → wpTill P md ops Q S z (f + 1) L a w := by
  induction f with
  | zero =>
    intro L a w hL _ hr hy hS H
    refine ⟨fun e => absurd (e ▸ hr) (by simp), fun j hj => ?_⟩
    rcases Classical.em (j = i) with rfl | hne
    · exact hy.wpOp hi (hneed L w hL hS) ⟨fun h => hS ((getD_set_ne true hiz).symm.trans h), H⟩
    · exact absurd (H.1 ▸ ready_mono hj hne) (by simp)
  | succ f ih =>
    intro L a w hL hfree hr hy hS H
    refine ⟨fun e => absurd (e ▸ hr) (by simp), fun j hj => ?_⟩
    rcases Classical.em (j = i) with rfl | hne
    · exact hy.wpOp hi (hneed L w hL hS) ⟨fun h => hS ((getD_set_ne true hiz).symm.trans h), H⟩
    · obtain ⟨hun, oj, hoj, _⟩ := mem_ready.1 hj
      have swap : (L.setIfInBounds i true).setIfInBounds j true = (L.setIfInBounds j true).setIfInBounds i true := Array.setIfInBounds_comm _ _ (Ne.symm hne)
      have step := H.2 j (ready_mono hj hne)
      rw [swap, getD_set_ne true hiz] at step
      exact wpOp_mono (fun a' w' ⟨hy', hS', H'⟩ => ⟨hS', ih _ a' w' (hI L j hL hr hj hne)
        (fun k ok hk hki hu hno => hfree k ok hk hki (by
          rcases Classical.em (j = k) with rfl | hjk
          · exact hun
          · exact (getD_set_ne true hjk).symm.trans hu) hno)
        (ready_mono hr (Ne.symm hne)) hy' hS' H'⟩)
        (wpOp_putIf hoj (hfree j oj hoj hne hun (ready_no_wait hr hj hoj)) (fun cs b => hsel i oi cs b hi) (fun cs b => hsel j oj cs b hoj) hQ hy step)

/-- Number z waits for number i. -/
def waitsB (md : Region.Mode) (ops : Array Oper) (z i : Nat) : Bool := (ops[z]?.map fun o => o.after.any fun e => Region.binds md e && e.on == i).getD false && i != z
/-- A load is taken first if the first store waits for it. -/
theorem till_take {i : Nat} {oi : Oper} {v : Value} {f : Nat} {L : Array Bool} {a : Act} {w : World} (hi : ops[i]? = some oi)
    (hs : Region.noSelect ops = true) (hf : Region.free md ops L i = true) (hr : (Region.ready md ops L).contains i = true) (hw : waitsB md ops z i = true) (hz : L.getD z true = false)
    (hQ : ∀ c a w, Q (.panic c) (a.put oi.dst v) w → Q (.panic c) a w) (hy : YieldsIf P ops S oi v a) (hS : S w)
    (h : wpTill P md ops Q S z f (L.setIfInBounds i true) (a.put oi.dst v) w) : wpTill P md ops Q S z (f + 1) L a w := by
  unfold waitsB at hw
  cases hoz : ops[z]? with
  | none => rw [hoz] at hw; simp at hw
  | some oz =>
    rw [hoz] at hw
    simp only [Option.map_some, Option.getD_some, Bool.and_eq_true, bne_iff_ne, ne_eq] at hw
    obtain ⟨e, he, hb⟩ := Array.any_eq_true'.1 hw.1
    simp only [Bool.and_eq_true, beq_iff_eq] at hb
    refine till_gen (I := fun L => L.getD z true = false) hi hw.2 (Region.noSelect_spec hs) hQ (fun L j hL hri hrj hne => ?_) (fun L w hL g => g hL) f L a w hz (Region.free_spec hi hf) (by simpa using hr) hy (fun _ => hS) h
    have hjz : j ≠ z := by
      rintro rfl
      exact ready_no_wait hri hrj hoz e he hb.1 hb.2
    exact (getD_set_ne true hjz).trans hL
/-- What yields in every world is taken first wherever it may come up. -/
theorem till_takeW {i : Nat} {oi : Oper} {v : Value} {f : Nat} {L : Array Bool} {a : Act} {w : World} (hi : ops[i]? = some oi)
    (hs : Region.noSelect ops = true) (hf : Region.free md ops L i = true) (hr : (Region.ready md ops L).contains i = true) (hw : (i != z) = true)
    (hQ : ∀ c a w, Q (.panic c) (a.put oi.dst v) w → Q (.panic c) a w) (hy : YieldsIf P ops (fun _ => True) oi v a) (hS : S w)
    (h : wpTill P md ops Q S z f (L.setIfInBounds i true) (a.put oi.dst v) w) : wpTill P md ops Q S z (f + 1) L a w :=
  till_gen (I := fun _ => True) hi (by simpa using hw) (Region.noSelect_spec hs) hQ (fun _ _ _ _ _ _ => trivial) (fun _ _ _ _ => trivial) f L a w trivial (Region.free_spec hi hf) (by simpa using hr) hy (fun _ => hS) h

def AllTill (P : Program) (md : Region.Mode) (ops : Array Oper) (Q : Exit → Act → World → Prop) (S : World → Prop) (z f : Nat) (L : Array Bool) (a : Act) (w : World) (rs : List Nat) : Prop :=
  ∀ j ∈ rs, wpOp P ops Q j (fun a' w' => ((L.setIfInBounds j true).getD z true = false → S w') ∧ wpTill P md ops Q S z f (L.setIfInBounds j true) a' w') a w
theorem AllTill.nil {f : Nat} {L : Array Bool} {a : Act} {w : World} : AllTill P md ops Q S z f L a w [] := fun _ h => by cases h
theorem AllTill.cons {f : Nat} {L : Array Bool} {a : Act} {w : World} {j : Nat} {o : Oper} {rs : List Nat} (ho : ops[j]? = some o)
    (h : ∀ K' : Act → World → Prop, Shut (∀ a w, ((L.setIfInBounds j true).getD z true = false → S w) → wpTill P md ops Q S z f (L.setIfInBounds j true) a w → K' a w) → if Region.wanted o (yielded ops a.tmps) = true then Oper.wp P o a w K' Q else K' (a.put o.dst undef) w)
    (hs : AllTill P md ops Q S z f L a w rs) : AllTill P md ops Q S z f L a w (j :: rs) := fun k hk => by
  rcases List.mem_cons.1 hk with rfl | hk
  · exact wpOp_step ho (fun K' hK => h K' (fun a w hS hW => hK a w ⟨hS, hW⟩))
  · exact hs k hk
theorem till_ready {rs : List Nat} {f : Nat} {L : Array Bool} {a : Act} {w : World} (hr : Region.ready md ops L = rs) (hne : rs ≠ [])
    (h : AllTill P md ops Q S z f L a w rs) : wpTill P md ops Q S z (f + 1) L a w := ⟨fun h0 => absurd (hr ▸ h0) hne, hr ▸ h⟩
theorem till_done {L : Array Bool} {a : Act} {w : World} (hr : Region.ready md ops L = []) (h : Q .normal a w) : ∀ f, wpTill P md ops Q S z f L a w
  | 0 => ⟨hr, h⟩
  | _ + 1 => ⟨fun _ => h, by rw [hr]; simp⟩
theorem till_past {L : Array Bool} {p : Prop} (h : L.getD z true = true) : L.getD z true = false → p := fun h' => by rw [h] at h'; cases h'
theorem wp_region_till {id : Nat} {a : Act} {w : World} (hm : P.follows .mixedOrders = true)
    (h : wpTill P .any ops Q S z ops.size (Array.replicate ops.size false) a w.drew) : (Code.region id ops true).wp P Q a w :=
  wp_region_any hm (till_any _ _ _ _ h)
end

theorem own_apart {w w2 : World} {B : Nat} {t : TypeId} {s n : Nat} {v : Value} {xs : List Value} {r : Option Nat} (h : w.ownsRow B t s v n xs) (hg : w.grownBy w2 r) (hne : ∀ b, v.ownBlock = some b → r ≠ some b) : w2.ownsRow B t s v n xs := by
  refine ⟨h.1, ?_⟩
  rcases h.2 with e | ⟨g, cap, cur, e, hb, hc, rest⟩
  · exact .inl e
  · exact .inr ⟨g, cap, cur, e, hb, (hg.block g (Array.getElem?_eq_some_iff.1 hc).1 (fun e2 => hne g (by rw [e]; rfl) e2.symm)).trans hc, rest⟩
theorem ow_set {w : World} {B : Nat} {t : TypeId} {s n : Nat} {v : Value} {xs : List Value} (h : w.ownsRow B t s v n xs) (g o : Nat) (u : Value) (hp : g < B) : (w.setCell ⟨g, o, none⟩ u).ownsRow B t s v n xs := by
  refine ⟨h.1, ?_⟩
  rcases h.2 with e | ⟨k, cap, cur, e, hb, hc, rest⟩
  · exact .inl e
  · exact .inr ⟨k, cap, cur, e, hb, (Below.heap_setCell w ⟨g, o, none⟩ u k (by dsimp only; omega)).trans hc, rest⟩
theorem grown_blk {w w2 : World} {g : Nat} {t : TypeId} {cs : Array Value} {r : Option Nat} (b : Blk w g t cs) (hg : w.grownBy w2 r) (hne : ∀ k, r = some k → k ≠ g) : Blk w2 g t cs :=
  (hg.block g b.lt (fun e => hne g e.symm rfl)).trans b

theorem grown_cell {w w2 : World} {r : Option Nat} {g o : Nat} {v : Value} (hc : w.cell? ⟨g, o, none⟩ = some v) (hg : w.grownBy w2 r) (hne : ∀ k, r = some k → k ≠ g) : w2.cell? ⟨g, o, none⟩ = some v :=
  (World.cell?_of_block (w := w) (a := ⟨g, o, none⟩) (hg.block g (cell_lt hc) (fun e => hne g e.symm rfl))).trans hc
theorem one_cell {w : World} {g : Nat} {v : Value} (hc : w.cell? ⟨g, 0, none⟩ = some v) : ∀ j u, [v][j]? = some u → w.cell? ((⟨g, 0, none⟩ : Addr).add j) = some u := by
  intro j u hu
  match j, hu with
  | 0, hu => simp at hu; subst hu; simpa [Addr.add] using hc
theorem one_int : (Tryd.prog.info? 3).map (fun i => (i.zero, i.size, i.bytes)) = some (some (.int .i64 0), 1, 8) := by kernel_rfl

/-- The three blocks, and the two rows that grow. -/
structure St (w0 : World) (g g2 g3 hi : Nat) (C1 c2 c3 : Array Value) (v2 v3 : Value) (k2 k3 : Nat) (xs2 xs3 : List Value) (W : World) : Prop where
  b1 : Blk W g 27 C1
  b2 : Blk W g2 22 c2
  b3 : Blk W g3 22 c3
  o2 : W.ownsRow w0.heap.size 3 1 v2 k2 xs2
  o3 : W.ownsRow w0.heap.size 3 1 v3 k3 xs3
  ne : ∀ b, v2.ownBlock = some b → v3.ownBlock ≠ some b
  kx : Kx g hi w0 W
  lt : g < g2 ∧ g2 < g3 ∧ g3 < hi ∧ hi ≤ w0.heap.size
section
variable {w0 W W2 : World} {g g2 g3 hi : Nat} {C1 c2 c3 : Array Value} {v2 v3 v' : Value} {k2 k3 k' : Nat} {xs2 xs3 xs' : List Value}
theorem St.kp (h : St w0 g g2 g3 hi C1 c2 c3 v2 v3 k2 k3 xs2 xs3 W) (k : Kp W W2) : St w0 g g2 g3 hi C1 c2 c3 v2 v3 k2 k3 xs2 xs3 W2 :=
  ⟨h.b1.kp k, h.b2.kp k, h.b3.kp k, ow_kp h.o2 k, ow_kp h.o3 k, h.ne, h.kx.trans (.of_kp k), h.lt⟩
theorem St.app2 (h : St w0 g g2 g3 hi C1 c2 c3 v2 v3 k2 k3 xs2 xs3 W) (hg : W.grownBy W2 v2.ownBlock) (hown : W2.ownsRow w0.heap.size 3 1 v' k' xs') (hb : v'.ownBlock = v2.ownBlock ∨ v'.ownBlock = some W.heap.size) :
    St w0 g g2 g3 hi C1 c2 c3 v' v3 k' k3 xs' xs3 W2 := by
  have hl := fun k e => h.o2.lt k e
  have hl3 := fun k e => h.o3.lt k e
  have := h.lt
  exact ⟨grown_blk h.b1 hg (fun k e => by have := hl k e; omega), grown_blk h.b2 hg (fun k e => by have := hl k e; omega), grown_blk h.b3 hg (fun k e => by have := hl k e; omega), hown, own_apart h.o3 hg (fun b hb3 e => h.ne b e hb3),
    fun b e e3 => by
      rcases hb with hb | hb
      · exact h.ne b (hb.symm.trans e) e3
      · have h1 := hl3 b e3
        rw [hb] at e
        injection e with e
        omega,
    h.kx.grown hg (fun k e => by have := hl k e; omega), h.lt⟩
theorem St.app3 (h : St w0 g g2 g3 hi C1 c2 c3 v2 v3 k2 k3 xs2 xs3 W) (hg : W.grownBy W2 v3.ownBlock) (hown : W2.ownsRow w0.heap.size 3 1 v' k' xs') (hb : v'.ownBlock = v3.ownBlock ∨ v'.ownBlock = some W.heap.size) :
    St w0 g g2 g3 hi C1 c2 c3 v2 v' k2 k' xs2 xs' W2 := by
  have hl := fun k e => h.o2.lt k e
  have hl3 := fun k e => h.o3.lt k e
  have := h.lt
  exact ⟨grown_blk h.b1 hg (fun k e => by have := hl3 k e; omega), grown_blk h.b2 hg (fun k e => by have := hl3 k e; omega), grown_blk h.b3 hg (fun k e => by have := hl3 k e; omega), own_apart h.o2 hg (fun b hb2 e => h.ne b hb2 e), hown,
    fun b e e3 => by
      rcases hb with hb | hb
      · exact h.ne b e (hb.symm.trans e3)
      · have h1 := hl b e
        rw [hb] at e3
        injection e3 with e3
        omega,
    h.kx.grown hg (fun k e => by have := hl3 k e; omega), h.lt⟩
theorem St.put2 (h : St w0 g g2 g3 hi C1 c2 c3 v2 v3 k2 k3 xs2 xs3 W) (i : Nat) (u : Value) : St w0 g g2 g3 hi C1 (c2.setIfInBounds i u) c3 v2 v3 k2 k3 xs2 xs3 (W.setCell ⟨g2, i, none⟩ u) := by
  have := h.lt
  exact ⟨h.b1.far (by dsimp only; omega) _, h.b2.set_ i u, h.b3.far (by dsimp only; omega) _, ow_set h.o2 _ _ _ (by omega), ow_set h.o3 _ _ _ (by omega), h.ne, h.kx.set _ _ _ (by omega) (by omega), h.lt⟩
theorem St.put3 (h : St w0 g g2 g3 hi C1 c2 c3 v2 v3 k2 k3 xs2 xs3 W) (i : Nat) (u : Value) : St w0 g g2 g3 hi C1 c2 (c3.setIfInBounds i u) v2 v3 k2 k3 xs2 xs3 (W.setCell ⟨g3, i, none⟩ u) := by
  have := h.lt
  exact ⟨h.b1.far (by dsimp only; omega) _, h.b2.far (by dsimp only; omega) _, h.b3.set_ i u, ow_set h.o2 _ _ _ (by omega), ow_set h.o3 _ _ _ (by omega), h.ne, h.kx.set _ _ _ (by omega) (by omega), h.lt⟩
theorem St.cells (h : St w0 g g2 g3 hi C1 c2 c3 v2 v3 k2 k3 xs2 xs3 W) {i : Nat} {u2 u3 : Value} (e2 : c2[i]? = some u2) (e3 : c3[i]? = some u3) : W.cell? ⟨g2, i, none⟩ = some u2 ∧ W.cell? ⟨g3, i, none⟩ = some u3 :=
  ⟨by rw [h.b2.cell, e2], by rw [h.b3.cell, e3]⟩
end
/-- The state of the round for list i, k ways done. -/
def RowS (w0 : World) (g g2 g3 hi n : Nat) (C1 c2 c3 : Array Value) (ws : List (List Sy)) (i k : Nat) (W : World) : Prop :=
  ∃ d2 d3 v2 v3, St w0 g g2 g3 hi C1 d2 d3 v2 v3 k k (((rm ws i).take k).map (Value.int .i64)) (((rr ws i).take k).map (Value.int .i64)) W ∧ d2.size = n ∧ d3.size = n ∧
    d2[i]? = some v2 ∧ d3[i]? = some v3 ∧ ∀ j, j ≠ i → d2[j]? = c2[j]? ∧ d3[j]? = c3[j]?
theorem RowS.first {w0 : World} {g g2 g3 hi n : Nat} {C1 c2 c3 : Array Value} {ws : List (List Sy)} {i : Nat} (b1 : Blk w0 g 27 C1) (b2 : Blk w0 g2 22 c2) (b3 : Blk w0 g3 22 c3) (s2 : c2.size = n) (s3 : c3.size = n)
    (h2 : c2[i]? = some (.slice none 0 0)) (h3 : c3[i]? = some (.slice none 0 0)) (lt : g < g2 ∧ g2 < g3 ∧ g3 < hi ∧ hi ≤ w0.heap.size) : RowS w0 g g2 g3 hi n C1 c2 c3 ws i 0 w0 :=
  ⟨c2, c3, _, _, ⟨b1, b2, b3, World.ownsRow_nil _ _ _ _, World.ownsRow_nil _ _ _ _, (fun b e => by cases e), Kx.refl _, lt⟩, s2, s3, h2, h3, fun _ _ => ⟨rfl, rfl⟩⟩
theorem RowS.last {w0 W : World} {g g2 g3 hi n : Nat} {C1 c2 c3 : Array Value} {ws : List (List Sy)} {i : Nat} {A1 : Option Addr} {d1 : Nat} (h : RowS w0 g g2 g3 hi n C1 c2 c3 ws i (lsAt ws i).length W) (s1 : C1.size = n)
    (e1 : C1[i]? = some (.slice A1 (lsAt ws i).length d1)) (f1 : ∀ ad, A1 = some ad → hi ≤ ad.block) (y1 : Sys w0 A1 (lsAt ws i).length (lsAt ws i))
    (hd : ∀ j, i + 1 ≤ j → j < n → Done w0 hi ws C1 c2 c3 j) (hn : ∀ j, j < i + 1 → j < n → c2[j]? = some (.slice none 0 0) ∧ c3[j]? = some (.slice none 0 0)) : TabB W g g2 g3 hi n ws i := by
  obtain ⟨d2, d3, v2, v3, st, z2, z3, h2, h3, ho⟩ := h
  have hlt := st.lt
  refine ⟨C1, d2, d3, st.b1, st.b2, st.b3, s1, z2, z3, fun j hj hjn => ?_, fun j hj hjn => ?_⟩
  · by_cases e : j = i
    · subst e
      have o2 := st.o2
      have o3 := st.o3
      have l2 := fun k e => st.o2.lt k e
      have l3 := fun k e => st.o3.lt k e
      obtain ⟨A2, q2, rfl⟩ := ow_form o2
      obtain ⟨A3, q3, rfl⟩ := ow_form o3
      rw [List.take_of_length_le (by unfold rm; simp)] at o2
      rw [List.take_of_length_le (by unfold rr; simp)] at o3
      refine ⟨A1, d1, A2, q2, A3, q3, e1, h2, h3, f1, fun ad ea => ?_, fun ad ea => ?_, st.kx.sys y1 f1, ints_own o2, ints_own o3⟩
      · subst ea
        have := l2 ad.block rfl
        omega
      · subst ea
        have := l3 ad.block rfl
        omega
    · exact (hd j (by omega) hjn).kx st.kx rfl (ho j e).1 (ho j e).2
  · obtain ⟨a, b⟩ := hn j (by omega) hjn
    obtain ⟨p, q⟩ := ho j (by omega)
    exact ⟨p.trans a, q.trans b⟩
theorem RowS.kp {w0 W W2 : World} {g g2 g3 hi n : Nat} {C1 c2 c3 : Array Value} {ws : List (List Sy)} {i k : Nat} (h : RowS w0 g g2 g3 hi n C1 c2 c3 ws i k W) (hk : Kp W W2) : RowS w0 g g2 g3 hi n C1 c2 c3 ws i k W2 := by
  obtain ⟨d2, d3, v2, v3, st, rest⟩ := h
  exact ⟨d2, d3, v2, v3, st.kp hk, rest⟩
/-- Both appends and both stores are done. -/
theorem RowS.next {w0 W : World} {g g2 g3 hi n : Nat} {C1 c2 c3 d2 d3 : Array Value} {ws : List (List Sy)} {i k : Nat} {v2 v3 : Value} {x y : Int} (hk : k < (lsAt ws i).length)
    (hx : x = (rst (ws.drop (i + 1)) (syAt (lsAt ws i) k)).1) (hy : y = (rst (ws.drop (i + 1)) (syAt (lsAt ws i) k)).2) (hin : i < n) (z2 : d2.size = n) (z3 : d3.size = n) (ho : ∀ j, j ≠ i → d2[j]? = c2[j]? ∧ d3[j]? = c3[j]?)
    (h : St w0 g g2 g3 hi C1 d2 d3 v2 v3 (k + 1) (k + 1) (((rm ws i).take k).map (Value.int .i64) ++ [.int .i64 x]) (((rr ws i).take k).map (Value.int .i64) ++ [.int .i64 y]) W) :
    RowS w0 g g2 g3 hi n C1 c2 c3 ws i (k + 1) ((W.setCell ⟨g2, i, none⟩ v2).setCell ⟨g3, i, none⟩ v3) := by
  have l2 : k < (rm ws i).length := by unfold rm; simpa using hk
  have l3 : k < (rr ws i).length := by unfold rr; simpa using hk
  have e2 : (((rm ws i).take (k + 1)).map (Value.int .i64)) = ((rm ws i).take k).map (Value.int .i64) ++ [.int .i64 x] := by
    rw [List.take_succ_eq_append_getElem l2, hx]
    unfold rm syAt
    simp [List.getD, hk]
    exact List.getElem_map _
  have e3 : (((rr ws i).take (k + 1)).map (Value.int .i64)) = ((rr ws i).take k).map (Value.int .i64) ++ [.int .i64 y] := by
    rw [List.take_succ_eq_append_getElem l3, hy]
    unfold rr syAt
    simp [List.getD, hk]
    exact List.getElem_map _
  rw [← e2, ← e3] at h
  refine ⟨_, _, v2, v3, (h.put2 i v2).put3 i v3, by simp [z2], by simp [z3], by simp [z2, hin], by simp [z3, hin], fun j hj => ?_⟩
  rw [Array.getElem?_setIfInBounds_ne (by omega), Array.getElem?_setIfInBounds_ne (by omega)]
  exact ho j hj
end Go.Proofs.YtaobndijldidfaaDoor
