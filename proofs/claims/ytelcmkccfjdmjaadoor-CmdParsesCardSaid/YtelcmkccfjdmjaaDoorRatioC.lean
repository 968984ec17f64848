/-
  Walks: what is within a ratio, what is stretched by it, its text, and what a number comes to, where the product has 64 bits.
-/
import Derived.Test.YtelcmkccfjdmjaaDoorProg
import Derived.Test.YtelcmkccfjdmjaaDoorRatioA
namespace Go.Proofs.YtelcmkccfjdmjaaDoor
open Go.Proofs Go.RowKit Go.Shelf

theorem lex_le (x y : Int) : decide (x / 18446744073709551616 < y / 18446744073709551616 ∨ (x / 18446744073709551616 = y / 18446744073709551616 ∧ x % 18446744073709551616 ≤ y % 18446744073709551616)) = decide (x ≤ y) := by
  congr 1
  apply propext
  omega

end Go.Proofs.YtelcmkccfjdmjaaDoor
