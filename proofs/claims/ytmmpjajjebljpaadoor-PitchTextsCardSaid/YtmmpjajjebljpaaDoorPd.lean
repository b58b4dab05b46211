/- Contracts of the texts of tones. -/
import Derived.Test.YtmmpjajjebljpaaDoorPb
import Derived.IntWalk
import Derived.Laws.BytesArg
import Derived.Laws.AppendOwn
namespace Go.Proofs.YtmmpjajjebljpaaDoor
open Go.RowKit

theorem cell_ofs {w : World} {b : Nat} {xs : List Int} (h : ∀ i, i < xs.length → w.cell? ⟨b, i, none⟩ = some (.int .u8 (xs.getD i 0))) (c : Nat) :
    (convert 59 9 (.slice (some ⟨b, 0, none⟩) xs.length c)).run Tryd.prog w = .ok (.string (strOfNums xs)) w :=
  run_convert_bytes_arg (P := Tryd.prog) w 59 5 Tryd.underlying59 Tryd.underlying5 b 0 xs.length c xs rfl (fun i hi => by rw [Nat.zero_add]; exact h i hi) 9 Tryd.underlying9
@[go_sem] theorem conv2 {w : World} {b c : Nat} {x y : Int} (h0 : w.cell? ⟨b, 0, none⟩ = some (.int .u8 x)) (h1 : w.cell? ⟨b, 1, none⟩ = some (.int .u8 y)) :
    Sem.run Tryd.prog (convert 59 9 (.slice (some ⟨b, 0, none⟩) 2 c)) w = .ok (.string (strOfNums [x, y])) w :=
  cell_ofs (xs := [x, y]) (fun i hi => by
    match i, hi with
    | 0, _ => exact h0
    | 1, _ => exact h1) c
@[go_sem] theorem conv3 {w : World} {b c : Nat} {x y z : Int} (h0 : w.cell? ⟨b, 0, none⟩ = some (.int .u8 x)) (h1 : w.cell? ⟨b, 1, none⟩ = some (.int .u8 y)) (h2 : w.cell? ⟨b, 2, none⟩ = some (.int .u8 z)) :
    Sem.run Tryd.prog (convert 59 9 (.slice (some ⟨b, 0, none⟩) 3 c)) w = .ok (.string (strOfNums [x, y, z])) w :=
  cell_ofs (xs := [x, y, z]) (fun i hi => by
    match i, hi with
    | 0, _ => exact h0
    | 1, _ => exact h1
    | 2, _ => exact h2) c

/-- The letter of a step, and the text of a tone. -/
def ltr (k : Nat) : Int := [99, 100, 101, 102, 103, 97, 98].getD k 0
@[go_sem] theorem ltr_at (k : Nat) (h : k < (ByteArray.mk #[99, 100, 101, 102, 103, 97, 98]).size) : (((ByteArray.mk #[99, 100, 101, 102, 103, 97, 98])[k]'h).toNat : Int) = ltr k := by
  have h : k < 7 := h
  match k, h with
  | 0, _ => rfl
  | 1, _ => rfl
  | 2, _ => rfl
  | 3, _ => rfl
  | 4, _ => rfl
  | 5, _ => rfl
  | 6, _ => rfl

@[go_sem] theorem alt_at0 (h : 0 < (ByteArray.mk #[98, 32, 35]).size) : (((ByteArray.mk #[98, 32, 35])[0]'h).toNat : Int) = 98 := rfl
@[go_sem] theorem alt_at2 (h : 2 < (ByteArray.mk #[98, 32, 35]).size) : (((ByteArray.mk #[98, 32, 35])[2]'h).toNat : Int) = 35 := rfl
@[go_sem] theorem app20 (a b : Value) (c : Array Value) : (#[a, b] ++ c)[0]? = some a := by rw [Array.getElem?_append_left (by simp)]; rfl
@[go_sem] theorem app21 (a b : Value) (c : Array Value) : (#[a, b] ++ c)[1]? = some b := by rw [Array.getElem?_append_left (by simp)]; rfl

theorem text0 (n : Nat) (w : World) (h2 : n ≤ 62) :
    Calls Tryd.prog 34 #[.agg #[.int .i64 (n : Int), .int .i64 0]] w fun e w' => e = .returned (.string (strOfNums [ltr (n % 7), 48 + (n : Int) / 7])) ∧ Kp w w' := by
  go_enter Tryd.func34, Tryd.ntmps34
  go_wp2
  go_ret
  exact ⟨rfl, by repeat (first | exact Kp.refl _ | with_reducible refine Kp.drew ?_ | with_reducible refine Kp.al ?_ _)⟩
theorem info5 : (Tryd.prog.info? 5).map (fun i => (i.zero, i.size, i.bytes)) = some (some (.int .u8 0), 1, 1) := by kernel_rfl
theorem own1 {w : World} {B b : Nat} {x : Value} (h : w.heap[b]? = some (.cells #[x] 5 (0, 0))) (hb : B ≤ b) : w.ownsRow B 5 1 (.slice (some ⟨b, 0, none⟩) 1 1) 1 [x] :=
  ⟨rfl, .inr ⟨b, 1, #[x], rfl, hb, h, Nat.le_refl _, by decide, rfl, rfl⟩⟩
theorem own_new (w : World) (o : Obj) {n : Nat} (h : w.heap.size = n) : (w.alloc o).heap[n]? = some o := by subst h; exact heap_alloc_new w o
theorem one_cell {w : World} {b : Nat} {x : Value} (h : w.cell? ⟨b, 0, none⟩ = some x) : ∀ j u, [x][j]? = some u → w.cell? ((⟨b, 0, none⟩ : Addr).add j) = some u := by
  intro j u hj
  match j, hj with
  | 0, hj => cases hj; exact h
  | j + 1, hj => simp at hj
theorem one_is {k : IntKind} {n : Int} : ∀ u ∈ [Value.int k n], u.oneCell' = true := by intro u hu; simp at hu; subst hu; rfl
theorem own_conv3 {w : World} {B : Nat} {v : Value} {x y z : Int} (h : w.ownsRow B 5 1 v 3 [.int .u8 x, .int .u8 y, .int .u8 z]) :
    Sem.run Tryd.prog (convert 59 9 v) w = .ok (.string (strOfNums [x, y, z])) w := by
  obtain ⟨_, ⟨_, h0⟩ | ⟨g, cap, cur, rfl, _, hg, _, _, hsz, ht⟩⟩ := h
  · cases h0
  have hc : ∀ i, i < 3 → w.cell? ⟨g, i, none⟩ = [Value.int .u8 x, .int .u8 y, .int .u8 z][i]? := by
    intro i hi
    have e : cur.toList[i]? = [Value.int .u8 x, .int .u8 y, .int .u8 z][i]? := by rw [← ht, List.getElem?_take_of_lt (by omega)]
    have e2 : cur[i]? = cur.toList[i]? := by simp
    simp only [World.cell?, hg]
    rw [← e, ← e2]
    simp [go_sem]
  exact conv3 (hc 0 (by omega)) (hc 1 (by omega)) (hc 2 (by omega))
theorem text2 (n : Nat) (a : Int) (w : World) (h2 : n ≤ 62) (ha : a = 1 ∨ a = -1) :
    Calls Tryd.prog 34 #[.agg #[.int .i64 (n : Int), .int .i64 a]] w fun e w' => e = .returned (.string (strOfNums [ltr (n % 7), if a = 1 then 35 else 98, 48 + (n : Int) / 7])) ∧ Kp w w' := by
  obtain ⟨i0, hi, hz0, hz1, hz2⟩ := info_parts info5
  rcases ha with rfl | rfl
  · go_enter Tryd.func34, Tryd.ntmps34
    go_wp2_with (at_builtin; refine wpList_append_own _ rfl (.tmp 12) (.tmp 17) 59 rfl (w.heap.size + 1) 5 i0 (.int .u8 0) 1 1 Tryd.underlying59 hi hz0 hz1 hz2 rfl (by decide) _ 1 [.int .u8 (ltr (n % 7))] rfl ?own ⟨w.heap.size + 1 + 1, 0, none⟩ 1 1 [.int .u8 35] rfl rfl ?c1 ?c2 ?c3 ?c4 ?c5 ?_)
    case own => exact World.ownsRow.alloc (own1 (own_new _ _ (by simp)) (by omega)) _
    case c1 => exact one_cell (by simp [go_sem])
    case c2 => exact one_is
    case c3 => decide
    case c4 => omega
    case c5 => simp
    intro v1 w1 hown1 hgrow1 _
    have q0 : w1.cell? ⟨w.heap.size, 0, none⟩ = some (.int .i64 (n : Int)) := hgrow1.cell (by simp [go_sem]) (by simp [Value.ownBlock])
    have K1 : Kp w w1 := Below.grown ((((Kp.refl w).al _).al _).al _) hgrow1 (by simp; omega) (by simp [Value.ownBlock])
    have z1 : w.heap.size + 1 ≤ w1.heap.size := by have := hgrow1.size; simp at this; omega
    have H1 := Lib.hid hown1
    clear hgrow1 hown1
    go_wp2_with (at_builtin; refine wpList_append_own _ rfl (.tmp 19) (.tmp 25) 59 rfl (w.heap.size + 1) 5 i0 (.int .u8 0) 1 1 Tryd.underlying59 hi hz0 hz1 hz2 rfl (by decide) _ 2 [.int .u8 (ltr (n % 7)), .int .u8 35] rfl ?own2 ⟨w1.heap.size, 0, none⟩ 1 1 [.int .u8 (48 + (n : Int) / 7)] rfl rfl ?d1 ?d2 ?d3 ?d4 ?d5 ?_)
    case own2 => exact H1.out.alloc _
    case d1 => exact one_cell (by simp [go_sem])
    case d2 => exact one_is
    case d3 => decide
    case d4 => omega
    case d5 => simp; omega
    intro v2 w2 hown2 hgrow2 _
    have hcv := own_conv3 hown2
    have K2 : Kp w w2 := Below.grown (K1.al _) hgrow2 (by have := K1.low; simp; omega) (fun k hk => by have := (H1.out.lt k hk).1; omega)
    clear hown2 hgrow2
    go_wp2
    go_ret
    exact ⟨rfl, K2⟩
  · go_enter Tryd.func34, Tryd.ntmps34
    go_wp2_with (at_builtin; refine wpList_append_own _ rfl (.tmp 12) (.tmp 17) 59 rfl (w.heap.size + 1) 5 i0 (.int .u8 0) 1 1 Tryd.underlying59 hi hz0 hz1 hz2 rfl (by decide) _ 1 [.int .u8 (ltr (n % 7))] rfl ?own ⟨w.heap.size + 1 + 1, 0, none⟩ 1 1 [.int .u8 98] rfl rfl ?c1 ?c2 ?c3 ?c4 ?c5 ?_)
    case own => exact World.ownsRow.alloc (own1 (own_new _ _ (by simp)) (by omega)) _
    case c1 => exact one_cell (by simp [go_sem])
    case c2 => exact one_is
    case c3 => decide
    case c4 => omega
    case c5 => simp
    intro v1 w1 hown1 hgrow1 _
    have q0 : w1.cell? ⟨w.heap.size, 0, none⟩ = some (.int .i64 (n : Int)) := hgrow1.cell (by simp [go_sem]) (by simp [Value.ownBlock])
    have K1 : Kp w w1 := Below.grown ((((Kp.refl w).al _).al _).al _) hgrow1 (by simp; omega) (by simp [Value.ownBlock])
    have z1 : w.heap.size + 1 ≤ w1.heap.size := by have := hgrow1.size; simp at this; omega
    have H1 := Lib.hid hown1
    clear hgrow1 hown1
    go_wp2_with (at_builtin; refine wpList_append_own _ rfl (.tmp 19) (.tmp 25) 59 rfl (w.heap.size + 1) 5 i0 (.int .u8 0) 1 1 Tryd.underlying59 hi hz0 hz1 hz2 rfl (by decide) _ 2 [.int .u8 (ltr (n % 7)), .int .u8 98] rfl ?own2 ⟨w1.heap.size, 0, none⟩ 1 1 [.int .u8 (48 + (n : Int) / 7)] rfl rfl ?d1 ?d2 ?d3 ?d4 ?d5 ?_)
    case own2 => exact H1.out.alloc _
    case d1 => exact one_cell (by simp [go_sem])
    case d2 => exact one_is
    case d3 => decide
    case d4 => omega
    case d5 => simp; omega
    intro v2 w2 hown2 hgrow2 _
    have hcv := own_conv3 hown2
    have K2 : Kp w w2 := Below.grown (K1.al _) hgrow2 (by have := K1.low; simp; omega) (fun k hk => by have := (H1.out.lt k hk).1; omega)
    clear hown2 hgrow2
    go_wp2
    go_ret
    exact ⟨rfl, K2⟩
end Go.Proofs.YtmmpjajjebljpaaDoor
