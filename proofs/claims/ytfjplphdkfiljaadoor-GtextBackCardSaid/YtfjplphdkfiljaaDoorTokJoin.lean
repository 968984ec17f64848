/-
  Walks: the line of some words, token.Join and its reference.
-/
import Derived.Test.YtfjplphdkfiljaaDoorProg
import Derived.Test.YtfjplphdkfiljaaDoorTokB
import Derived.Test.YtfjplphdkfiljaaDoorTokC
import Derived.Test.YtfjplphdkfiljaaDoorLinesLaw
import Derived.Test.YtfjplphdkfiljaaDoorShelf
namespace Go.Proofs.YtfjplphdkfiljaaDoor
open Go.Proofs Go.RowKit Go.Shelf

theorem cell_lt {w : World} {a : Addr} {v : Value} (h : w.cell? a = some v) : a.block < w.heap.size := by
  unfold World.cell? at h
  rcases Nat.lt_or_ge a.block w.heap.size with h1 | h1
  · exact h1
  · rw [Array.getElem?_eq_none h1] at h
    simp at h

/-- strings.Join with a blank, at some words -/
theorem sJoin_any (l : List ByteArray) (ao : Option Addr) (cap : Nat) (w : World) (hl : l.length ≤ 140737488355328) (hcap : l.length ≤ cap) (hlen : (Lib.join (tl l) [32]).length ≤ 140737488355328) (hc : Cel w ao (l.map encS)) :
    Calls Tryd.prog 99 #[.slice ao l.length cap, .string ⟨#[32]⟩] w fun e w' => e = .returned (.string ⟨(Lib.join (tl l) [32]).toArray⟩) ∧ Below w.heap.size w w' := by
  cases l with
  | nil => exact (Tryd.strings_Join_none ao cap ⟨#[32]⟩ w).mono fun e w' ⟨he, hw⟩ => ⟨he, hw ▸ Below.refl _ _⟩
  | cons x r =>
    obtain ⟨b, o, e, h0⟩ := hc 0 (encS x) rfl
    subst e
    refine Tryd.strings_Join b o cap (x :: r) ⟨#[32]⟩ w ?_ ?_ hl hcap hlen
    · intro j y hj
      obtain ⟨b', o', e', h'⟩ := hc j (encS y) (by rw [List.getElem?_map, hj]; rfl)
      cases e'
      exact h'
    · exact cell_lt h0

end Go.Proofs.YtfjplphdkfiljaaDoor
