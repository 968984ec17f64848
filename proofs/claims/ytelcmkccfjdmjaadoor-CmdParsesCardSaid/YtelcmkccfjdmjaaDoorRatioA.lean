/-
  Walks of package ratio and its reference: which may be, products, how products stand.
-/
import Derived.Test.YtelcmkccfjdmjaaDoorProg
import Derived.Test.YtelcmkccfjdmjaaDoorNumPrintR
import Derived.Test.YtelcmkccfjdmjaaDoorRatioSpec
namespace Go.Proofs.YtelcmkccfjdmjaaDoor
open Go.Proofs Go.RowKit Go.Shelf

abbrev ratV (n d : Int) : Value := .agg #[.int .u64 n, .int .u64 d]

theorem inn_any (n l : Int) (w : World) : Calls Tryd.prog 137 #[.int .u64 n, .int .u64 l] w fun e w' => e = .returned (.bool (decide (l ≤ n) && decide (n ≤ 1048576))) ∧ w' = w := by
  by_cases h : l ≤ n
  · go_enter Tryd.func137, Tryd.ntmps137
    go_wp2
    go_ret
    exact ⟨by simp [h], rfl⟩
  · go_enter Tryd.func137, Tryd.ntmps137
    go_wp2
    go_ret
    exact ⟨by simp [h] <;> omega, rfl⟩

theorem ratRight_any (n d : Int) (w : World) (hn : 0 ≤ n) : Calls Tryd.prog 116 #[ratV n d] w fun e w' => e = .returned (.bool (rightR n d)) ∧ Below w.heap.size w w' := by
  have H1 := Lib.hid (fun W => inn_any n 0 W)
  have H2 := Lib.hid (fun W => inn_any d 1 W)
  unfold rightR
  rw [show decide (0 ≤ n) = true by simpa using hn, Bool.true_and] at H1
  generalize (decide (1 ≤ d) && decide (d ≤ 1048576)) = b2 at *
  cases hb : decide (n ≤ 1048576) with
  | true =>
    rw [hb] at H1
    clear hb
    go_enter Tryd.func116, Tryd.ntmps116
    go_wp2_with (first
      | (go_at_call_of 137 (Value.int IntKind.u64 n); go_must (refine (H1.out _).mono ?_); rintro e w1 ⟨rfl, rfl⟩)
      | (go_at_call_of 137 (Value.int IntKind.u64 d); go_must (refine (H2.out _).mono ?_); rintro e w1 ⟨rfl, rfl⟩))
    go_ret
    exact ⟨rfl, by repeat (first | exact Below.refl _ _ | refine Below.al ?_ _ | refine Below.dr ?_ _ | refine Below.drew ?_ | assumption | (refine Below.st ?_ (by assumption)))⟩
  | false =>
    rw [hb] at H1
    clear hb
    go_enter Tryd.func116, Tryd.ntmps116
    go_wp2_with (go_at_call 137; go_must (refine (H1.out _).mono ?_); rintro e w1 ⟨rfl, rfl⟩)
    go_ret
    exact ⟨rfl, by repeat (first | exact Below.refl _ _ | refine Below.al ?_ _ | refine Below.dr ?_ _ | refine Below.drew ?_ | assumption | (refine Below.st ?_ (by assumption)))⟩

theorem refRight_ratio (n d : Int) (w : World) : Calls Tryd.prog 92 #[ratV n d] w fun e w' => e = .returned (.bool (rightR n d)) ∧ Below w.heap.size w w' := by
  unfold rightR
  by_cases h1 : n ≤ 1048576
  · by_cases h2 : 1 ≤ d
    · go_enter Tryd.func92, Tryd.ntmps92
      go_wp2
      go_ret
      exact ⟨by simp [h1, h2], by repeat (first | exact Below.refl _ _ | refine Below.al ?_ _ | refine Below.dr ?_ _ | refine Below.drew ?_ | assumption | (refine Below.st ?_ (by assumption)))⟩
    · go_enter Tryd.func92, Tryd.ntmps92
      go_wp2
      go_ret
      exact ⟨by simp [h1] <;> omega, by repeat (first | exact Below.refl _ _ | refine Below.al ?_ _ | refine Below.dr ?_ _ | refine Below.drew ?_ | assumption | (refine Below.st ?_ (by assumption)))⟩
  · go_enter Tryd.func92, Tryd.ntmps92
    go_wp2
    go_ret
    exact ⟨by simp <;> omega, by repeat (first | exact Below.refl _ _ | refine Below.al ?_ _ | refine Below.dr ?_ _ | refine Below.drew ?_ | assumption | (refine Below.st ?_ (by assumption)))⟩

end Go.Proofs.YtelcmkccfjdmjaaDoor
