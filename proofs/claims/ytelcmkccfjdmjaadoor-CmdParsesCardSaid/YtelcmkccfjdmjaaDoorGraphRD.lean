/-
  Walks: the reference's Right and edges.
-/
import Derived.Test.YtelcmkccfjdmjaaDoorProg
import Derived.Test.YtelcmkccfjdmjaaDoorGraphD
namespace Go.Proofs.YtelcmkccfjdmjaaDoor
open Go.Proofs Go.RowKit Go.Shelf

theorem any_from {α : Type} {p : α → Bool} {l : List α} (h : ∀ j (h : j < l.length), p l[j] = false) : l.any p = false := by
  rw [List.any_eq_false]
  intro x hx
  obtain ⟨j, hj, rfl⟩ := List.getElem_of_mem hx
  simp [h j hj]
theorem any_at {α : Type} {p : α → Bool} {l : List α} {j : Nat} (hj : j < l.length) (h : p l[j] = true) : l.any p = true := List.any_eq_true.2 ⟨_, List.getElem_mem hj, h⟩
theorem upto_succ {α : Type} {p : α → Bool} {l : List α} {k : Nat} (h : ∀ j (h : j < l.length), j < k → p l[j] = false) (hk : k < l.length) (hp : p l[k] = false) : ∀ j (h : j < l.length), j < k + 1 → p l[j] = false := by
  intro j hj h2
  by_cases e : j = k
  · subst e; exact hp
  · exact h j hj (by omega)

theorem looseB_eq (n : Int) (e : EdgeD) {a b c : Bool} (h1 : nodeB n e.f = a) (h2 : nodeB n e.t = b) (h3 : (e.f == e.t) = c) : looseB n e = (!a || !b || c) := by unfold looseB; rw [h1, h2, h3]

end Go.Proofs.YtelcmkccfjdmjaaDoor
