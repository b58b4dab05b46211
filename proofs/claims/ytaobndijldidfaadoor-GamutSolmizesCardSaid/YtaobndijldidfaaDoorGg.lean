/- The best solmization in plain words: costs from the end backwards, then the choice from the beginning. -/
import Derived.Test.YtaobndijldidfaaDoorGf
namespace Go.Proofs.YtaobndijldidfaaDoor
open Go.RowKit

abbrev Cp := Int × Int
def lx (c d : Cp) : Bool := if c.1 ≠ d.1 then decide (c.1 < d.1) else decide (c.2 < d.2)
def addC (c d : Cp) : Cp := (c.1 + d.1, c.2 + d.2)
def mstep (f : Sy → Cp) (acc : Option Cp) (t : Sy) : Option Cp :=
  match acc with
  | none => some (f t)
  | some c => if lx (f t) c then some (f t) else some c
def mn (f : Sy → Cp) (ts : List Sy) : Option Cp := ts.foldl (mstep f) none
/-- The least cost of the rest behind a way. -/
def rst : List (List Sy) → Sy → Cp
  | [], _ => (0, 0)
  | ts :: rest, s => (mn (fun t => addC (rst rest t) (stp s t)) ts).getD (0, 0)
/-- What a way costs behind the way before. -/
def key (prev : Option Sy) (rest : List (List Sy)) (s : Sy) : Cp :=
  match prev with
  | none => rst rest s
  | some p => addC (rst rest s) (stp p s)
def pstep (f : Sy → Cp) (ch s : Sy) : Sy := if lx (f s) (f ch) then s else ch
def pck (f : Sy → Cp) : List Sy → Sy
  | [] => (0, 0)
  | t :: ts => ts.foldl (pstep f) t
def sol : Option Sy → List (List Sy) → List Sy
  | _, [] => []
  | prev, ts :: rest => pck (key prev rest) ts :: sol (some (pck (key prev rest) ts)) rest
/-- The number of mutations that Solmize returns. -/
def muts : List (List Sy) → Int
  | [] => 0
  | ts :: rest => (rst rest (pck (key none rest) ts)).1

/-- A cost, or none, as the program keeps it. -/
def cEnc : Option Cp → Co
  | none => (0, 0, false)
  | some c => (c.1, c.2, true)
theorem lessC_lx (c d : Cp) : lessC (c.1, c.2, true) (d.1, d.2, true) = lx c d := by
  unfold lessC lx
  dsimp only
  rw [if_neg (by simp)]
theorem mstep_less (f : Sy → Cp) (acc : Option Cp) (t : Sy) : (lessC ((f t).1, (f t).2, true) (cEnc acc) = true ∧ mstep f acc t = some (f t)) ∨ (lessC ((f t).1, (f t).2, true) (cEnc acc) = false ∧ mstep f acc t = acc) := by
  cases acc with
  | none => exact .inl ⟨rfl, rfl⟩
  | some c =>
    have e : lessC ((f t).1, (f t).2, true) (cEnc (some c)) = lx (f t) c := lessC_lx (f t) c
    rw [e]
    simp only [mstep]
    cases h : lx (f t) c with
    | true => exact .inl ⟨rfl, by simp⟩
    | false => exact .inr ⟨rfl, by simp⟩
theorem mn_some (f : Sy → Cp) : ∀ (ts : List Sy) (acc : Option Cp), (acc ≠ none ∨ ts ≠ []) → ∃ c, ts.foldl (mstep f) acc = some c ∧ (acc = some c ∨ ∃ t ∈ ts, c = f t)
  | [], acc, h => by
    cases acc with
    | none => simp at h
    | some c => exact ⟨c, rfl, .inl rfl⟩
  | t :: ts, acc, _ => by
    have hne : mstep f acc t ≠ none := by
      unfold mstep
      split
      · simp
      · split <;> simp
    obtain ⟨c, hc, hor⟩ := mn_some f ts (mstep f acc t) (.inl hne)
    refine ⟨c, hc, ?_⟩
    rcases hor with h | ⟨t', ht', e⟩
    · unfold mstep at h
      split at h
      · exact .inr ⟨t, by simp, by injection h with h; exact h.symm⟩
      · split at h
        · exact .inr ⟨t, by simp, by injection h with h; exact h.symm⟩
        · exact .inl h
    · exact .inr ⟨t', by simp [ht'], e⟩
theorem rst_bd : ∀ (rest : List (List Sy)) (s : Sy), 0 ≤ (rst rest s).1 ∧ (rst rest s).1 ≤ rest.length ∧ 0 ≤ (rst rest s).2 ∧ (rst rest s).2 ≤ rest.length
  | [], s => by simp [rst]
  | ts :: rest, s => by
    unfold rst
    by_cases hts : ts = []
    · subst hts; simp [mn]; omega
    · obtain ⟨c, hc, hor⟩ := mn_some (fun t => addC (rst rest t) (stp s t)) ts none (.inr hts)
      unfold mn
      rw [hc]
      rcases hor with h | ⟨t, _, e⟩
      · cases h
      · have i := rst_bd rest t
        have j := stp_bd s t
        rw [e]
        simp only [Option.getD_some, addC, List.length_cons]
        omega
theorem fold_take {α β : Type} (g : β → α → β) (b : β) (l : List α) (k : Nat) (d : α) (h : k < l.length) : (l.take (k + 1)).foldl g b = g ((l.take k).foldl g b) (l.getD k d) := by
  rw [List.take_succ_eq_append_getElem h, List.foldl_append]
  simp [List.getD, h]

/-- The lists by their index. -/
def lsAt (ws : List (List Sy)) (j : Nat) : List Sy := ws.getD j []
theorem syAt_mem {ss : List Sy} {k : Nat} (h : k < ss.length) : syAt ss k ∈ ss := by
  unfold syAt
  simp [List.getD, h]
theorem wys_asc (p : Pt) {k k' : Nat} (h : k < k') (h' : k' < (wys p).length) : (syAt (wys p) k).1 < (syAt (wys p) k').1 := by
  have hp : (wys p).Pairwise (fun x y : Sy => x.1 < y.1) := by
    unfold wys wysTo
    refine List.Pairwise.filter _ ?_
    rw [List.pairwise_map]
    refine List.Pairwise.imp ?_ List.pairwise_lt_range
    intro a b hab
    unfold cand
    dsimp only
    omega
  have := (List.pairwise_iff_getElem.1 hp) k k' (by omega) h' h
  unfold syAt
  simpa [List.getD, h', show k < (wys p).length by omega] using this
theorem pck_mem (f : Sy → Cp) : ∀ ts : List Sy, ts ≠ [] → pck f ts ∈ ts
  | [], h => absurd rfl h
  | t :: ts, _ => by
    have : ∀ (l : List Sy) (c : Sy), l.foldl (pstep f) c = c ∨ l.foldl (pstep f) c ∈ l := by
      intro l
      induction l with
      | nil => intro c; exact .inl rfl
      | cons x l ih =>
        intro c
        rw [List.foldl_cons]
        rcases ih (pstep f c x) with h | h
        · rw [h]
          unfold pstep
          split
          · exact .inr (by simp)
          · exact .inl rfl
        · exact .inr (by simp [h])
    show ts.foldl (pstep f) t ∈ t :: ts
    rcases this ts t with h | h
    · rw [h]; simp
    · simp [h]
theorem sol_len : ∀ (prev : Option Sy) (ws : List (List Sy)), (sol prev ws).length = ws.length
  | _, [] => rfl
  | prev, ts :: rest => by simp [sol, sol_len]
/-- The way before the i-th. -/
def prevAt (prev : Option Sy) (O : List Sy) (i : Nat) : Option Sy := if i = 0 then prev else some (syAt O (i - 1))
theorem sol_at : ∀ (prev : Option Sy) (ws : List (List Sy)) (i : Nat), i < ws.length → syAt (sol prev ws) i = pck (key (prevAt prev (sol prev ws) i) (ws.drop (i + 1))) (lsAt ws i)
  | _, [], i, h => by simp at h
  | prev, ts :: rest, 0, _ => by simp [sol, syAt, prevAt, lsAt]
  | prev, ts :: rest, i + 1, h => by
    have ih := sol_at (some (pck (key prev rest) ts)) rest i (by simpa using h)
    have e1 : syAt (sol prev (ts :: rest)) (i + 1) = syAt (sol (some (pck (key prev rest) ts)) rest) i := by simp [sol, syAt]
    have e2 : lsAt (ts :: rest) (i + 1) = lsAt rest i := by simp [lsAt]
    have e3 : prevAt prev (sol prev (ts :: rest)) (i + 1) = prevAt (some (pck (key prev rest) ts)) (sol (some (pck (key prev rest) ts)) rest) i := by
      unfold prevAt
      rw [if_neg (by omega)]
      by_cases h0 : i = 0
      · subst h0; simp [sol, syAt]
      · rw [if_neg h0]
        obtain ⟨j, rfl⟩ : ∃ j, i = j + 1 := ⟨i - 1, by omega⟩
        simp [sol, syAt]
    rw [e1, e2, e3, ih]
    simp
end Go.Proofs.YtaobndijldidfaaDoor
