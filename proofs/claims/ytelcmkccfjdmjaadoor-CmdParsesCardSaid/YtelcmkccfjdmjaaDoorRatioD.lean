/-
  Walks: the text of a ratio, and what a number comes to, where the product has 64 bits; the example.
-/
import Derived.Test.YtelcmkccfjdmjaaDoorProg
import Derived.Test.YtelcmkccfjdmjaaDoorRatioC
import Derived.Test.YtelcmkccfjdmjaaDoorNumLaw
namespace Go.Proofs.YtelcmkccfjdmjaaDoor
open Go.Proofs Go.RowKit Go.Shelf

/-- the text of a ratio -/
def ratioT (n d : Int) : ByteArray := if rightR n d then (printI n ++ ⟨#[47]⟩) ++ printI d else ByteArray.empty

theorem upQ_split {p d : Int} (hp : 0 ≤ p) (hd : 1 ≤ d) : (p % d = 0 → (p + d - 1) / d = p / d) ∧ (0 < p % d → (p + d - 1) / d = p / d + 1 ∧ 2 ≤ d ∧ 2 * (p / d) ≤ p) := by
  have h1 := Int.mul_ediv_add_emod p d
  have h2 := Int.emod_nonneg p (b := d) (by omega)
  have h3 := Int.emod_lt_of_pos p (b := d) (by omega)
  constructor
  · intro h
    have e : p + d - 1 = (d - 1) + d * (p / d) := by omega
    rw [e, Int.add_mul_ediv_left _ _ (by omega), Int.ediv_eq_zero_of_lt (by omega) (by omega)]
    omega
  · intro h
    have e : p + d - 1 = (p % d - 1) + d * (p / d + 1) := by rw [Int.mul_add]; omega
    refine ⟨?_, by omega, ?_⟩
    · rw [e, Int.add_mul_ediv_left _ _ (by omega), Int.ediv_eq_zero_of_lt (by omega) (by omega)]
      omega
    · have h4 : 0 ≤ p / d := Int.ediv_nonneg hp (by omega)
      have h5 : 2 * (p / d) ≤ d * (p / d) := Int.mul_le_mul_of_nonneg_right (by omega) h4
      omega

theorem const_r1 : withinR 3 3 4 4 = true := by decide
theorem const_r2 : upR 3 3 2 100 = 5 := by decide
theorem const_r3 : ratioT 1 2 = ⟨#[49, 47, 50]⟩ := by
  unfold ratioT
  rw [if_pos (by decide)]
  unfold printI
  rw [show (1 : Int).toNat = 1 from rfl, show (2 : Int).toNat = 2 from rfl, Lib.decDigits_one (by decide), Lib.decDigits_one (by decide)]
  rfl

end Go.Proofs.YtelcmkccfjdmjaaDoor
