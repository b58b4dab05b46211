/- The reference's Best: its memory. -/
import Derived.Test.YtaobndijldidfaaDoorHi
import Derived.Maps.AppendAt
set_option linter.unusedSimpArgs false
set_option linter.unusedVariables false
namespace Go.Proofs.YtaobndijldidfaaDoor
open Go.RowKit

/-- All blocks but those from lo to hi are as they were. -/
structure Kx (lo hi : Nat) (a b : World) : Prop where
  os : b.os = a.os
  tape : b.tape = a.tape
  output : b.output = a.output
  size : a.heap.size ≤ b.heap.size
  block : ∀ k, k < a.heap.size → (k < lo ∨ hi ≤ k) → b.heap[k]? = a.heap[k]?
section
variable {lo hi : Nat} {a b c : World}
theorem Kx.refl (a : World) : Kx lo hi a a := ⟨rfl, rfl, rfl, Nat.le_refl _, fun _ _ _ => rfl⟩
theorem Kx.of_kp (h : Kp a b) : Kx lo hi a b := ⟨h.os, h.tape, h.output, h.low, fun k hk _ => h.block k hk⟩
theorem Kx.trans (h : Kx lo hi a b) (k : Kx lo hi b c) : Kx lo hi a c :=
  ⟨k.os.trans h.os, k.tape.trans h.tape, k.output.trans h.output, Nat.le_trans h.size k.size, fun j hj h2 => (k.block j (Nat.lt_of_lt_of_le hj h.size) h2).trans (h.block j hj h2)⟩
theorem Kx.set (h : Kx lo hi a b) (g o : Nat) (v : Value) (h1 : lo ≤ g) (h2 : g < hi) : Kx lo hi a (b.setCell ⟨g, o, none⟩ v) :=
  ⟨h.os, h.tape, h.output, by rw [World.size_setCell]; exact h.size, fun j hj hh => (Below.heap_setCell b ⟨g, o, none⟩ v j (by dsimp only; omega)).trans (h.block j hj hh)⟩
theorem Kx.grown {row : Option Nat} (h : Kx lo hi a b) (hg : b.grownBy c row) (hr : ∀ k, row = some k → a.heap.size ≤ k) : Kx lo hi a c :=
  ⟨hg.os.trans h.os, hg.tape.trans h.tape, hg.output.trans h.output, Nat.le_trans h.size hg.size, fun j hj hh => (hg.block j (Nat.lt_of_lt_of_le hj h.size) (fun e => by have := hr j e.symm; omega)).trans (h.block j hj hh)⟩
theorem Kx.kp {w : World} (h : Kx lo hi a b) (k : Kp w a) (hw : w.heap.size ≤ lo) : Kp w b :=
  ⟨h.os.trans k.os, h.tape.trans k.tape, h.output.trans k.output, Nat.le_trans k.size h.size, fun j hj => (h.block j (Nat.lt_of_lt_of_le hj k.size) (.inl (Nat.lt_of_lt_of_le hj hw))).trans (k.block j hj)⟩
theorem Kx.cell (h : Kx lo hi a b) {k o : Nat} {v : Value} (hc : a.cell? ⟨k, o, none⟩ = some v) (h2 : k < lo ∨ hi ≤ k) : b.cell? ⟨k, o, none⟩ = some v :=
  (World.cell?_of_block (w := a) (a := ⟨k, o, none⟩) (h.block k (cell_lt hc) h2)).trans hc
theorem Kx.sys (h : Kx lo hi a b) {A : Option Addr} {n : Nat} {ss : List Sy} (hs : Sys a A n ss) (hf : ∀ ad, A = some ad → hi ≤ ad.block) : Sys b A n ss :=
  ⟨hs.1, fun k hk => by
    obtain ⟨b', off, e, c0, c1⟩ := hs.2 k hk
    have := hf _ e
    exact ⟨b', off, e, h.cell c0 (.inr this), h.cell c1 (.inr this)⟩⟩
theorem Kx.ints (h : Kx lo hi a b) {A : Option Addr} {n : Nat} {xs : List Int} (hs : Ints a A n xs) (hf : ∀ ad, A = some ad → hi ≤ ad.block) : Ints b A n xs :=
  ⟨hs.1, fun k hk => by
    obtain ⟨b', off, e, c0⟩ := hs.2 k hk
    have := hf _ e
    exact ⟨b', off, e, h.cell c0 (.inr this)⟩⟩
end
/-- The numbers of the rest behind each way of list j. -/
def rm (ws : List (List Sy)) (j : Nat) : List Int := (lsAt ws j).map fun s => (rst (ws.drop (j + 1)) s).1
def rr (ws : List (List Sy)) (j : Nat) : List Int := (lsAt ws j).map fun s => (rst (ws.drop (j + 1)) s).2
/-- The entries of the three blocks from list i on. -/
def Done (w : World) (hi : Nat) (ws : List (List Sy)) (c1 c2 c3 : Array Value) (j : Nat) : Prop :=
  ∃ A1 d1 A2 d2 A3 d3, c1[j]? = some (.slice A1 (lsAt ws j).length d1) ∧ c2[j]? = some (.slice A2 (lsAt ws j).length d2) ∧ c3[j]? = some (.slice A3 (lsAt ws j).length d3) ∧
    (∀ ad, A1 = some ad → hi ≤ ad.block) ∧ (∀ ad, A2 = some ad → hi ≤ ad.block) ∧ (∀ ad, A3 = some ad → hi ≤ ad.block) ∧
    Sys w A1 (lsAt ws j).length (lsAt ws j) ∧ Ints w A2 (lsAt ws j).length (rm ws j) ∧ Ints w A3 (lsAt ws j).length (rr ws j)
theorem Done.kx {w w' : World} {lo hi : Nat} {ws : List (List Sy)} {c1 c2 c3 c1' c2' c3' : Array Value} {j : Nat} (h : Done w hi ws c1 c2 c3 j) (k : Kx lo hi w w') (e1 : c1'[j]? = c1[j]?) (e2 : c2'[j]? = c2[j]?) (e3 : c3'[j]? = c3[j]?) : Done w' hi ws c1' c2' c3' j := by
  obtain ⟨A1, d1, A2, d2, A3, d3, h1, h2, h3, f1, f2, f3, s1, s2, s3⟩ := h
  exact ⟨A1, d1, A2, d2, A3, d3, e1.trans h1, e2.trans h2, e3.trans h3, f1, f2, f3, k.sys s1 f1, k.ints s2 f2, k.ints s3 f3⟩
/-- The state of the table ahead of list i. -/
def TabB (w : World) (g1 g2 g3 hi n : Nat) (ws : List (List Sy)) (i : Nat) : Prop :=
  ∃ c1 c2 c3 : Array Value, Blk w g1 27 c1 ∧ Blk w g2 22 c2 ∧ Blk w g3 22 c3 ∧ c1.size = n ∧ c2.size = n ∧ c3.size = n ∧
    (∀ j, i ≤ j → j < n → Done w hi ws c1 c2 c3 j) ∧ (∀ j, j < i → j < n → c2[j]? = some (.slice none 0 0) ∧ c3[j]? = some (.slice none 0 0))
theorem ints_info : (Tryd.prog.info? 22).map (fun i => (i.zero, i.size, i.bytes)) = some (some (.slice none 0 0), 1, 24) := by kernel_rfl
theorem make_rows (n : Nat) (hn : n ≤ 1000) (w : World) : (Instr.makeSlice 82 (.int .i64 (n : Int)) (.int .i64 (n : Int))).run Tryd.prog w = .ok (.slice (some ⟨w.heap.size, 0, none⟩) n n) (w.alloc (.cells (madeCells #[.slice none 0 0] (n * 1)) 22)) := by
  obtain ⟨i0, hi0, hz0, hz1, hz2⟩ := info_parts ints_info
  have := run_make_rows 82 22 i0 _ Tryd.underlying82 hi0 hz0 n (by rw [hz2]; omega) (by omega) w
  rw [hz1] at this
  exact this
theorem made_nil (n j : Nat) (h : j < n) : (madeCells #[Value.slice none 0 0] n)[j]? = some (.slice none 0 0) := by
  unfold madeCells
  simp [h, Nat.mod_one]
theorem wp_append_at {P : Program} {w : World} {o : Oper} {a : Act} {K : Act → World → Prop} {Q : Exit → Act → World → Prop} (s x : Operand) (t : TypeId)
    (ho : o.op = .call { callee := .builtin .append, args := #[s, x], argTypes := #[t, t] })
    (base : Nat) (e : TypeId) (i : TypeInfo) (z : Value) (size bytes : Nat) (ht : P.underlying t = some (.slice e)) (hi : P.info? e = some i) (hz : i.zero = some z)
    (hsize : i.size = size) (hby : i.bytes = bytes) (hzs : z.cells.size = size) (hsz : 0 < size)
    (v : Value) (n : Nat) (xs : List Value) (hs : a.eval s = v) (hown : w.ownsRow base e size v n xs)
    (ad : Addr) (m c : Nat) (news : List Value) (hx : a.eval x = .slice (some ad) m c) (hl : news.length = m * size) (hnews : ∀ j u, news[j]? = some u → w.cell? (ad.add j) = some u) (h1 : ∀ u ∈ news, u.oneCell' = true)
    (h63 : n + m ≤ maxLen) (hbytes : (n + m) * bytes ≤ 140737488355328) (hbase : base ≤ w.heap.size)
    (h : ∀ v' w', w'.ownsRow base e size v' (n + m) (xs ++ news) → w.grownBy w' v.ownBlock → (v'.ownBlock = v.ownBlock ∨ v'.ownBlock = some w.heap.size) → K (a.put o.dst v') w') : o.wp P a w K Q := by
  obtain ⟨v', w', hr, h2, h3, _, h5⟩ := run_append_own_at (P := P) w base t o.type e i z size bytes ht hi hz hsize hby hzs hsz v n xs hown ad m c news hl hnews h1 h63 hbytes hbase
  unfold Oper.wp execOp
  simp only [ho, resolve, invoke, builtin, Sem.run_bind, Sem.run_pure, Result.andThen_ok, List.map_toArray, List.map_cons, List.map_nil, hs, hx, hr]
  exact h v' w' h2 h3 h5
end Go.Proofs.YtaobndijldidfaaDoor
