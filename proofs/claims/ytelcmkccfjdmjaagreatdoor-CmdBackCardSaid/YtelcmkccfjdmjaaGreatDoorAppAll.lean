/-
  append of a row that may be empty onto a row of one's own.
-/
import Derived.Test.YtelcmkccfjdmjaaGreatDoorBase
import Derived.Laws.OwnMore
import Derived.Below
namespace Go.Proofs.YtelcmkccfjdmjaaGreatDoor
open Go Go.Proofs Go.RowKit Go.Shelf

/-- append of a row of one-cell elements, which may be empty -/
theorem run_appAll {P : Program} {w : World} (t ty : TypeId) (base : Nat) (E : TypeId) (z : Value) (bytes : Nat) (hE : Elem P E z 1 bytes) (ht : P.underlying t = some (.slice E))
    (ao : Option Addr) (n cap : Nat) (xs : List Value) (hown : w.ownsRow base E 1 (.slice ao n cap) n xs) (bo : Option Addr) (m c : Nat) (news : List Value) (hnews : Cel w bo news) (h1 : ∀ u ∈ news, u.oneCell' = true)
    (hl : news.length = m ∧ n + m ≤ 9223372036854775807 ∧ (n + m) * bytes ≤ 140737488355328 ∧ base ≤ w.heap.size) :
    ∃ ao' cap' w', (Builtin.append_ #[t, t] ty #[.slice ao n cap, .slice bo m c]).run P w = .ok (.slice ao' (n + m) cap') w' ∧ w'.ownsRow base E 1 (.slice ao' (n + m) cap') (n + m) (xs ++ news) ∧ Below base w w' := by
  obtain ⟨hE, hz1, hz2⟩ := hE
  obtain ⟨i, hi, hz, hsz, hby⟩ := info_parts hE
  obtain ⟨l1, l2, l3, l5⟩ := hl
  by_cases hm : m = 0
  · subst hm
    have hn : news = [] := List.length_eq_zero_iff.1 l1
    subst hn
    refine ⟨ao, cap, w, ?_, by simpa using hown, Below.refl _ _⟩
    rcases hown.2 with ⟨e, rfl⟩ | ⟨g, cap', cur, e, _, _, hnc, _⟩
    · cases e
      cases bo <;> simp [Builtin.append_, run_underlying ht, sizeOf, typeInfo, hi, Builtin.lenOf, Builtin.firstCells, loadCells, loadCellsFrom, storeCells]
    · cases e
      cases bo <;> simp [Builtin.append_, run_underlying ht, sizeOf, typeInfo, hi, Builtin.lenOf, Builtin.firstCells, hnc, storeCells, loadCells, loadCellsFrom]
  · have hh : ∃ u, news[0]? = some u := ⟨_, List.getElem?_eq_getElem (by omega)⟩
    obtain ⟨u, hu⟩ := hh
    obtain ⟨b, o, rfl, _⟩ := hnews 0 u hu
    have hn2 : ∀ j u, news[j]? = some u → w.cell? ((⟨b, o, none⟩ : Addr).add j) = some u := fun j u hj => by
      obtain ⟨b', o', e, h⟩ := hnews j u hj
      cases e
      rw [Addr.add_lit]
      exact h
    obtain ⟨g, cap', w', hr, ho, hg, _, _⟩ := run_append_lies w t ty base E i z 1 bytes ht hi hz hsz hby hz1 hz2 (.slice ao n cap) n xs hown ⟨b, o, none⟩ m c news (by omega) hn2 h1 (by omega) (by unfold maxLen; omega) l3 l5 _ rfl
    exact ⟨_, cap', w', hr, ho, (Below.refl _ w).grown hg l5 (fun k hk => (hown.lt k hk).1)⟩

end Go.Proofs.YtelcmkccfjdmjaaGreatDoor
