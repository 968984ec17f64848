/-
  Walks of package num and its reference: sums, the least of two, remainders.
-/
import Derived.Test.YtelcmkccfjdmjaaDoorProg
import Derived.Test.YtelcmkccfjdmjaaDoorBits
namespace Go.Proofs.YtelcmkccfjdmjaaDoor
open Go.Proofs Go.RowKit Go.Shelf

def modN (i n : Int) : Int := if n < 1 then 0 else i % n
theorem tmod_emod (i n : Int) (hn : 1 ≤ n) : i.tmod n = i % n ∨ i.tmod n = i % n - n := by
  rw [Int.tmod_eq_emod]
  split
  · exact .inl (by omega)
  · exact .inr (by omega)
theorem tmod_zero_neg (i n : Int) (hn : 1 ≤ n) (h : i.tmod n = i % n - n) : i.tmod n < 0 := by
  have := Int.emod_lt_of_pos i (show 0 < n by omega)
  omega

theorem tmod_bd0 (a b : Int) (hb : 1 ≤ b) : -b < a.tmod b ∧ a.tmod b < b := ⟨Int.lt_tmod_of_pos a (by omega), Int.tmod_lt_of_pos a (by omega)⟩

end Go.Proofs.YtelcmkccfjdmjaaDoor
