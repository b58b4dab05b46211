/- A slice that a function builds by append: kept by what comes after, and its append keeps all that was there before the function began to build. -/
import Derived.Test.YtaobndijldidfaaDoorKt
import Derived.Laws.AppendOwn
import Derived.Laws.AppendOwnNone
namespace Go.Proofs.YtaobndijldidfaaDoor
open Go.RowKit

section
variable {w0 w w1 w2 : World} {B : Nat} {t : TypeId} {s n : Nat} {v : Value} {xs : List Value}
theorem ow_kp (h : w.ownsRow B t s v n xs) (hk : Kp w w1) : w1.ownsRow B t s v n xs := by
  refine ⟨h.1, ?_⟩
  rcases h.2 with e | ⟨g, cap, cur, e, hb, hg, rest⟩
  · exact .inl e
  · exact .inr ⟨g, cap, cur, e, hb, (hk.block g (Array.getElem?_eq_some_iff.1 hg).1).trans hg, rest⟩
theorem ow_app (hK : Kp w0 w) (hown : w.ownsRow w0.heap.size t s v n xs) (h1 : Kp w w1) (hgrow : w1.grownBy w2 v.ownBlock) : Kp w0 w2 :=
  Below.grown (hK.trans h1) hgrow (hK.trans h1).low (fun j hj => (hown.lt j hj).1)
theorem ow_form (h : w.ownsRow B t s v n xs) : ∃ A c, v = .slice A n c := by
  obtain ⟨_, h⟩ := h
  rcases h with ⟨e, rfl⟩ | ⟨g, cap, cur, e, _⟩
  · exact ⟨_, _, e⟩
  · exact ⟨_, _, e⟩
theorem cell3_new (w : World) (x y z : Value) (t : TypeId) : ∀ j u, [x, y, z][j]? = some u → (w.alloc (.cells #[x, y, z] t)).cell? ((⟨w.heap.size, 0, none⟩ : Addr).add j) = some u := by
  intro j u hj
  match j, hj with
  | 0, hj => simp at hj; subst hj; simp [Addr.add]
  | 1, hj => simp at hj; subst hj; simp [Addr.add]
  | 2, hj => simp at hj; subst hj; simp [Addr.add]
theorem cell2_new (w : World) (x y : Value) (t : TypeId) : ∀ j u, [x, y][j]? = some u → (w.alloc (.cells #[x, y] t)).cell? ((⟨w.heap.size, 0, none⟩ : Addr).add j) = some u := by
  intro j u hj
  match j, hj with
  | 0, hj => simp at hj; subst hj; simp [Addr.add]
  | 1, hj => simp at hj; subst hj; simp [Addr.add]
end
end Go.Proofs.YtaobndijldidfaaDoor
