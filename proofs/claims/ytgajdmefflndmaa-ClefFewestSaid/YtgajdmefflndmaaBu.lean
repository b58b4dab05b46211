/- The best clef in plain words: it is the least; the order of the numbers does not matter. -/
import Derived.Test.YtgajdmefflndmaaBt
namespace Go.Proofs.Ytgajdmefflndmaa
open Go.RowKit

theorem fit_mem (L : Int) (xs : List Int) : Fit L xs ↔ ∀ x ∈ xs, -4 ≤ x - L ∧ x - L ≤ 12 := by
  unfold Fit
  constructor
  · intro h x hx
    obtain ⟨k, hk, rfl⟩ := List.getElem_of_mem hx
    have := h k hk
    simpa [List.getD, hk] using this
  · intro h k hk
    have : xs.getD k 0 ∈ xs := by simp [List.getD, hk]
    exact h _ this
theorem fit_rev (L : Int) (xs : List Int) : Fit L xs.reverse ↔ Fit L xs := by simp [fit_mem]
theorem sum_rev (ys : List Int) : ys.reverse.sum = ys.sum := by
  induction ys with
  | nil => rfl
  | cons y ys ih => simp [List.sum_append, ih]; omega
theorem lsum_all (L : Int) (xs : List Int) : lsum L xs xs.length = (xs.map fun n => led (n - L)).sum := by simp [lsum]
theorem lsum_rev (L : Int) (xs : List Int) : lsum L xs.reverse xs.reverse.length = lsum L xs xs.length := by
  rw [lsum_all, lsum_all, List.map_reverse, sum_rev]
theorem tryC_rev (xs : List Int) (s : (Int × Int) × Int) (c : Int × Int) : tryC xs.reverse s c = tryC xs s c := by
  unfold tryC
  rw [lsum_rev]
  by_cases h : Fit (lowC c) xs ∧ (s.2 < 0 ∨ lsum (lowC c) xs xs.length < s.2)
  · rw [if_pos h, if_pos ⟨(fit_rev _ _).2 h.1, h.2⟩]
  · rw [if_neg h, if_neg (fun h' => h ⟨(fit_rev _ _).1 h'.1, h'.2⟩)]
theorem bestC_rev (xs : List Int) : bestC xs.reverse = bestC xs := by
  unfold bestC foldC
  congr 1
  funext s c
  exact tryC_rev xs s c.1
theorem lsum_nn {L : Int} {xs : List Int} (h : Fit L xs) : 0 ≤ lsum L xs xs.length :=
  (lsum_bd L xs xs.length (Nat.le_refl _) h).1
/-- What the best clef of the first k clefs is. -/
theorem best_inv (xs : List Int) : ∀ k : Nat, k ≤ 15 →
    ((foldC xs (clefs k)).2 < 0 ∧ (foldC xs (clefs k)).1 = (0, 0) ∧ ∀ j, j < k → ¬ Fit (lowC (clefAt j)) xs) ∨
    (0 ≤ (foldC xs (clefs k)).2 ∧ Vc (foldC xs (clefs k)).1.1 (foldC xs (clefs k)).1.2 ∧ Fit (lowC (foldC xs (clefs k)).1) xs ∧ (foldC xs (clefs k)).2 = lsum (lowC (foldC xs (clefs k)).1) xs xs.length ∧
      ∀ j, j < k → Fit (lowC (clefAt j)) xs → (foldC xs (clefs k)).2 ≤ lsum (lowC (clefAt j)) xs xs.length)
  | 0, _ => .inl ⟨(by show (-1 : Int) < 0; decide), rfl, fun j hj => absurd hj (by omega)⟩
  | k + 1, h => by
    have ih := best_inv xs k (by omega)
    rw [clefs_succ, foldC_snoc]
    obtain ⟨r, er⟩ : ∃ r, r = foldC xs (clefs k) := ⟨_, rfl⟩
    rw [← er] at ih ⊢
    show _ ∨ _
    have hc : (clefV k).1 = clefAt k := rfl
    rw [hc]
    by_cases ht : Fit (lowC (clefAt k)) xs ∧ (r.2 < 0 ∨ lsum (lowC (clefAt k)) xs xs.length < r.2)
    · have e : tryC xs r (clefAt k) = (clefAt k, lsum (lowC (clefAt k)) xs xs.length) := if_pos ht
      rw [e]
      refine .inr ⟨lsum_nn ht.1, clefAt_ok k, ht.1, rfl, fun j hj hf => ?_⟩
      by_cases hjk : j < k
      · rcases ih with ⟨_, _, i2⟩ | ⟨i1, _, _, _, i3⟩
        · exact absurd hf (i2 j hjk)
        · have := i3 j hjk hf
          rcases ht.2 with h2 | h2
          · omega
          · exact Int.le_of_lt (Int.lt_of_lt_of_le h2 this)
      · obtain rfl : j = k := by omega
        exact Int.le_refl _
    · have e : tryC xs r (clefAt k) = r := if_neg ht
      rw [e]
      rcases ih with ⟨i1, i0, i2⟩ | ⟨i1, i2, i3, i4, i5⟩
      · refine .inl ⟨i1, i0, fun j hj hf => ?_⟩
        by_cases hjk : j < k
        · exact i2 j hjk hf
        · obtain rfl : j = k := by omega
          exact ht ⟨hf, .inl i1⟩
      · refine .inr ⟨i1, i2, i3, i4, fun j hj hf => ?_⟩
        by_cases hjk : j < k
        · exact i5 j hjk hf
        · obtain rfl : j = k := by omega
          exact Int.not_lt.1 fun hl => ht ⟨hf, .inr hl⟩
/-- A pitch of ClefFewest, from a number. -/
def few (x : Int) : Pt := ((14 + x % 30) % 7, (14 + x % 30) / 7, 0)
theorem few_ok (x : Int) : Vp (few x).1 (few x).2.1 (few x).2.2 := by unfold few Vp; dsimp only; omega
theorem flat_app (ps qs : List Pt) : flat (ps ++ qs) = flat ps ++ flat qs := by
  induction ps with
  | nil => rfl
  | cons p ps ih => simp [flat, ih]
theorem nums_rev (ps : List Pt) : nums ps.reverse = (nums ps).reverse := by simp [nums]
end Go.Proofs.Ytgajdmefflndmaa
