/-
  Walks of package ratio and its reference: which may be, products, how products stand.
  Walks: what is within a ratio, what is stretched by it, its text, and what a number comes to, where the product has 64 bits.
-/
import Derived.Test.YtelcmkccfjdmjaaGreatDoorProg
import Derived.Test.YtelcmkccfjdmjaaGreatDoorNumPrint
import Derived.Test.YtelcmkccfjdmjaaGreatDoorRatioSpec
namespace Go.Proofs.YtelcmkccfjdmjaaGreatDoor
open Go.Proofs Go.RowKit Go.Shelf

abbrev ratV (n d : Int) : Value := .agg #[.int .u64 n, .int .u64 d]

theorem inn_any (n l : Int) (w : World) : Calls Tryz.prog 180 #[.int .u64 n, .int .u64 l] w fun e w' => e = .returned (.bool (decide (l ≤ n) && decide (n ≤ 1048576))) ∧ w' = w := by
  by_cases h : l ≤ n
  · go_enter Tryz.func180, Tryz.ntmps180
    go_wp2
    go_ret
    exact ⟨by simp [h], rfl⟩
  · go_enter Tryz.func180, Tryz.ntmps180
    go_wp2
    go_ret
    exact ⟨by simp [h] <;> omega, rfl⟩

theorem ratRight_any (n d : Int) (w : World) (hn : 0 ≤ n) : Calls Tryz.prog 143 #[ratV n d] w fun e w' => e = .returned (.bool (rightR n d)) ∧ Below w.heap.size w w' := by
  have H1 := Lib.hid (fun W => inn_any n 0 W)
  have H2 := Lib.hid (fun W => inn_any d 1 W)
  unfold rightR
  rw [show decide (0 ≤ n) = true by simpa using hn, Bool.true_and] at H1
  generalize (decide (1 ≤ d) && decide (d ≤ 1048576)) = b2 at *
  cases hb : decide (n ≤ 1048576) with
  | true =>
    rw [hb] at H1
    clear hb
    go_enter Tryz.func143, Tryz.ntmps143
    go_wp2_with (first
      | (go_at_call_of 180 (Value.int IntKind.u64 n); go_must (refine (H1.out _).mono ?_); rintro e w1 ⟨rfl, rfl⟩)
      | (go_at_call_of 180 (Value.int IntKind.u64 d); go_must (refine (H2.out _).mono ?_); rintro e w1 ⟨rfl, rfl⟩))
    go_ret
    exact ⟨rfl, by repeat (first | exact Below.refl _ _ | refine Below.al ?_ _ | refine Below.dr ?_ _ | refine Below.drew ?_ | assumption | (refine Below.st ?_ (by assumption)))⟩
  | false =>
    rw [hb] at H1
    clear hb
    go_enter Tryz.func143, Tryz.ntmps143
    go_wp2_with (go_at_call 180; go_must (refine (H1.out _).mono ?_); rintro e w1 ⟨rfl, rfl⟩)
    go_ret
    exact ⟨rfl, by repeat (first | exact Below.refl _ _ | refine Below.al ?_ _ | refine Below.dr ?_ _ | refine Below.drew ?_ | assumption | (refine Below.st ?_ (by assumption)))⟩

theorem refRight_ratio (n d : Int) (w : World) : Calls Tryz.prog 147 #[ratV n d] w fun e w' => e = .returned (.bool (rightR n d)) ∧ Below w.heap.size w w' := by
  unfold rightR
  by_cases h1 : n ≤ 1048576
  · by_cases h2 : 1 ≤ d
    · go_enter Tryz.func147, Tryz.ntmps147
      go_wp2
      go_ret
      exact ⟨by simp [h1, h2], by repeat (first | exact Below.refl _ _ | refine Below.al ?_ _ | refine Below.dr ?_ _ | refine Below.drew ?_ | assumption | (refine Below.st ?_ (by assumption)))⟩
    · go_enter Tryz.func147, Tryz.ntmps147
      go_wp2
      go_ret
      exact ⟨by simp [h1] <;> omega, by repeat (first | exact Below.refl _ _ | refine Below.al ?_ _ | refine Below.dr ?_ _ | refine Below.drew ?_ | assumption | (refine Below.st ?_ (by assumption)))⟩
  · go_enter Tryz.func147, Tryz.ntmps147
    go_wp2
    go_ret
    exact ⟨by simp <;> omega, by repeat (first | exact Below.refl _ _ | refine Below.al ?_ _ | refine Below.dr ?_ _ | refine Below.drew ?_ | assumption | (refine Below.st ?_ (by assumption)))⟩

end Go.Proofs.YtelcmkccfjdmjaaGreatDoor

namespace Go.Proofs.YtelcmkccfjdmjaaGreatDoor
open Go.Proofs Go.RowKit Go.Shelf

theorem lex_le (x y : Int) : decide (x / 18446744073709551616 < y / 18446744073709551616 ∨ (x / 18446744073709551616 = y / 18446744073709551616 ∧ x % 18446744073709551616 ≤ y % 18446744073709551616)) = decide (x ≤ y) := by
  congr 1
  apply propext
  omega

end Go.Proofs.YtelcmkccfjdmjaaGreatDoor
