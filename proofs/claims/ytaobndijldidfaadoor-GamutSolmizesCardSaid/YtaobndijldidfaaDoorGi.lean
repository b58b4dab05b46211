/- The state of the table of costs between two steps. -/
import Derived.Test.YtaobndijldidfaaDoorGh
namespace Go.Proofs.YtaobndijldidfaaDoor
open Go.RowKit

def doneC (ws : List (List Sy)) (j : Nat) (s : Sy) : Co := cEnc (some (rst (ws.drop (j + 1)) s))
def hx (ws : List (List Sy)) (i k : Nat) : Nat := (syAt (lsAt ws i) k).1.toNat
/-- Each list of ways is not empty; its ways exist, their hexachords ascend. -/
def Asc (ws : List (List Sy)) : Prop := ∀ i, i < ws.length → lsAt ws i ≠ [] ∧ ∀ k, k < (lsAt ws i).length → Vs (syAt (lsAt ws i) k).1 (syAt (lsAt ws i) k).2 ∧ ∀ k', k < k' → k' < (lsAt ws i).length → (syAt (lsAt ws i) k).1 < (syAt (lsAt ws i) k').1
def RowsB (ws : List (List Sy)) (m : Nat) (B : Nat → Nat → Co) : Prop := ∀ j, m ≤ j → j < ws.length → ∀ k, k < (lsAt ws j).length → B j (hx ws j k) = doneC ws j (syAt (lsAt ws j) k)
structure Pst (ws : List (List Sy)) (i k : Nat) (cur : Option Cp) (B : Nat → Nat → Co) : Prop where
  rows : RowsB ws (i + 1) B
  left : ∀ k', k' < k → k' < (lsAt ws i).length → B i (hx ws i k') = doneC ws i (syAt (lsAt ws i) k')
  here : k < (lsAt ws i).length → B i (hx ws i k) = cEnc cur
  right : ∀ k', k < k' → k' < (lsAt ws i).length → B i (hx ws i k') = (0, 0, false)
  low : ∀ j, j < i → ∀ h, h < 8 → B j h = (0, 0, false)
section
variable {ws : List (List Sy)} {i k : Nat} {cur : Option Cp} {B : Nat → Nat → Co}
theorem hx_lt (ha : Asc ws) (hi : i < ws.length) (hk : k < (lsAt ws i).length) : hx ws i k < 8 := by
  have := ((ha i hi).2 k hk).1
  unfold Vs at this; unfold hx; omega
theorem hx_cast (ha : Asc ws) (hi : i < ws.length) (hk : k < (lsAt ws i).length) : (syAt (lsAt ws i) k).1 = (hx ws i k : Int) := by
  have := ((ha i hi).2 k hk).1
  unfold Vs at this; unfold hx; omega
theorem hx_ne (ha : Asc ws) (hi : i < ws.length) {k' : Nat} (hk : k < (lsAt ws i).length) (hk' : k' < (lsAt ws i).length) (hne : k ≠ k') : hx ws i k ≠ hx ws i k' := by
  have h1 := hx_cast ha hi hk
  have h2 := hx_cast ha hi hk'
  rcases Nat.lt_or_gt_of_ne hne with h | h
  · have := ((ha i hi).2 k hk).2 k' h hk'; omega
  · have := ((ha i hi).2 k' hk').2 k h hk; omega
theorem Pst.first (ha : Asc ws) (hi : i < ws.length) (hr : RowsB ws (i + 1) B) (hl : ∀ j, j ≤ i → ∀ h, h < 8 → B j h = (0, 0, false)) : Pst ws i 0 none B :=
  ⟨hr, fun _ h => absurd h (by omega), fun h => hl i (Nat.le_refl _) _ (hx_lt ha hi h), fun k' _ h => hl i (Nat.le_refl _) _ (hx_lt ha hi h), fun j hj => hl j (by omega)⟩
theorem Pst.put (ha : Asc ws) (hi : i < ws.length) (hk : k < (lsAt ws i).length) (h : Pst ws i k cur B) (cur' : Option Cp) : Pst ws i k cur' (upd B i (hx ws i k) (cEnc cur')) := by
  refine ⟨fun j hj hj' k' hk' => ?_, fun k' hk' hl => ?_, fun _ => ?_, fun k' hk' hl => ?_, fun j hj h' hh => ?_⟩
  · unfold upd; rw [if_neg (by omega)]; exact h.rows j hj hj' k' hk'
  · unfold upd; rw [if_neg (fun e => hx_ne ha hi hl hk (by omega) e.2)]; exact h.left k' hk' hl
  · unfold upd; rw [if_pos ⟨rfl, rfl⟩]
  · unfold upd; rw [if_neg (fun e => hx_ne ha hi hl hk (by omega) e.2)]; exact h.right k' hk' hl
  · unfold upd; rw [if_neg (by omega)]; exact h.low j hj h' hh
theorem Pst.next (h : Pst ws i k (some (rst (ws.drop (i + 1)) (syAt (lsAt ws i) k))) B) : Pst ws i (k + 1) none B := by
  refine ⟨h.rows, fun k' hk' hl => ?_, fun hl => h.right _ (by omega) hl, fun k' hk' hl => h.right k' (by omega) hl, h.low⟩
  by_cases e : k' = k
  · subst e; exact h.here hl
  · exact h.left k' (by omega) hl
theorem Pst.done (h : Pst ws i k cur B) (hk : (lsAt ws i).length ≤ k) : RowsB ws i B ∧ ∀ j, j < i → ∀ h, h < 8 → B j h = (0, 0, false) := by
  refine ⟨fun j hj hj' k' hk' => ?_, h.low⟩
  by_cases e : j = i
  · subst e; exact h.left k' (by omega) hk'
  · exact h.rows j (by omega) hj' k' hk'
end
theorem drop_cons (ws : List (List Sy)) (i : Nat) (h : i < ws.length) : ws.drop i = lsAt ws i :: ws.drop (i + 1) := by
  rw [List.drop_eq_getElem_cons h]
  simp [lsAt, List.getD, h]
/-- The fold over the next list. -/
def fnx (ws : List (List Sy)) (i : Nat) (s : Sy) : Sy → Cp := fun t => addC (rst (ws.drop (i + 2)) t) (stp s t)
def curAt (ws : List (List Sy)) (i : Nat) (s : Sy) (q : Nat) : Option Cp := ((lsAt ws (i + 1)).take q).foldl (mstep (fnx ws i s)) none
theorem cur_zero (ws : List (List Sy)) (i : Nat) (s : Sy) : curAt ws i s 0 = none := rfl
theorem cur_succ (ws : List (List Sy)) (i : Nat) (s : Sy) (q : Nat) (h : q < (lsAt ws (i + 1)).length) : curAt ws i s (q + 1) = mstep (fnx ws i s) (curAt ws i s q) (syAt (lsAt ws (i + 1)) q) := fold_take _ _ _ _ _ h
theorem cur_end (ws : List (List Sy)) (i : Nat) (s : Sy) (q : Nat) (hi : i + 1 < ws.length) (hne : lsAt ws (i + 1) ≠ []) (hq : (lsAt ws (i + 1)).length ≤ q) : curAt ws i s q = some (rst (ws.drop (i + 1)) s) := by
  obtain ⟨c, hc, _⟩ := mn_some (fnx ws i s) (lsAt ws (i + 1)) none (.inr hne)
  have e : rst (ws.drop (i + 1)) s = (mn (fnx ws i s) (lsAt ws (i + 1))).getD (0, 0) := by
    rw [drop_cons ws (i + 1) hi]
    rfl
  rw [e]
  unfold curAt mn
  rw [List.take_of_length_le hq, hc]
  rfl
theorem asc_map (ps : List Pt) (h : ∀ p ∈ ps, wys p ≠ []) : Asc (ps.map wys) := by
  intro i hi
  have hi' : i < ps.length := by simpa using hi
  have e : lsAt (ps.map wys) i = wys ps[i] := by simp [lsAt, List.getD, hi']
  rw [e]
  exact ⟨h _ (List.getElem_mem hi'), fun k hk => ⟨(wys_mem (syAt_mem hk)).1, fun k' h1 h2 => wys_asc _ h1 h2⟩⟩
theorem ls_map (ps : List Pt) (i : Nat) (hi : i < ps.length) : lsAt (ps.map wys) i = wys (ptAt ps i) := by simp [lsAt, ptAt, List.getD, hi]
theorem asc_mem {ws : List (List Sy)} (ha : Asc ws) {i : Nat} (hi : i < ws.length) {x : Sy} (hx : x ∈ lsAt ws i) : Vs x.1 x.2 ∧ ∃ k, k < (lsAt ws i).length ∧ x = syAt (lsAt ws i) k := by
  obtain ⟨k, hk, e⟩ := List.getElem_of_mem hx
  have e' : syAt (lsAt ws i) k = x := by unfold syAt; simp [List.getD, hk, e]
  have := ((ha i hi).2 k hk).1
  rw [e'] at this
  exact ⟨this, k, hk, e'.symm⟩
theorem cost_at {ws : List (List Sy)} {B : Nat → Nat → Co} (hr : RowsB ws 0 B) (ha : Asc ws) {i : Nat} (hi : i < ws.length) {x : Sy} (hx : x ∈ lsAt ws i) :
    ∃ h : Nat, h < 8 ∧ x.1 = (h : Int) ∧ B i h = ((rst (ws.drop (i + 1)) x).1, (rst (ws.drop (i + 1)) x).2, true) := by
  obtain ⟨_, k, hk, rfl⟩ := asc_mem ha hi hx
  exact ⟨_, hx_lt ha hi hk, hx_cast ha hi hk, hr i (Nat.zero_le _) hi k hk⟩
theorem sol_mem {ws : List (List Sy)} (ha : Asc ws) {i : Nat} (hi : i < ws.length) (prev : Option Sy) : syAt (sol prev ws) i ∈ lsAt ws i := by
  rw [sol_at _ _ _ hi]
  exact pck_mem _ _ (ha i hi).1
/-- The choice among the first q ways (at least one). -/
def pckAt (f : Sy → Cp) (ts : List Sy) (q : Nat) : Sy := pck f (ts.take (max q 1))
theorem pckAt_zero (f : Sy → Cp) (ts : List Sy) (h : ts ≠ []) : pckAt f ts 0 = syAt ts 0 := by
  cases ts with
  | nil => exact absurd rfl h
  | cons t ts => rfl
theorem pckAt_one (f : Sy → Cp) (ts : List Sy) : pckAt f ts 1 = pckAt f ts 0 := rfl
theorem pckAt_succ (f : Sy → Cp) (ts : List Sy) (q : Nat) (h1 : 1 ≤ q) (h : q < ts.length) : pckAt f ts (q + 1) = pstep f (pckAt f ts q) (syAt ts q) := by
  cases ts with
  | nil => simp at h
  | cons t ts =>
    obtain ⟨r, rfl⟩ : ∃ r, q = r + 1 := ⟨q - 1, by omega⟩
    have e1 : max (r + 1 + 1) 1 = r + 1 + 1 := by omega
    have e2 : max (r + 1) 1 = r + 1 := by omega
    unfold pckAt
    rw [e1, e2]
    show (ts.take (r + 1)).foldl (pstep f) t = pstep f ((ts.take r).foldl (pstep f) t) (syAt (t :: ts) (r + 1))
    rw [fold_take (pstep f) t ts r (0, 0) (by simpa using h)]
    rfl
theorem pckAt_all (f : Sy → Cp) (ts : List Sy) (q : Nat) (hq : ts.length ≤ q) : pckAt f ts q = pck f ts := by
  unfold pckAt
  rw [List.take_of_length_le (by omega)]
theorem pckAt_mem (f : Sy → Cp) (ts : List Sy) (q : Nat) (h : ts ≠ []) : pckAt f ts q ∈ ts := by
  unfold pckAt
  refine List.mem_of_mem_take (pck_mem f _ ?_)
  cases ts with
  | nil => exact absurd rfl h
  | cons t ts =>
    have : max q 1 = (max q 1 - 1) + 1 := by omega
    rw [this]
    simp
end Go.Proofs.YtaobndijldidfaaDoor
