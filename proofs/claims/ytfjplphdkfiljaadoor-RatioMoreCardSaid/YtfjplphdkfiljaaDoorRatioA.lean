/-
  Walks of package ratio and its reference: which may be, products, how products stand.
-/
import Derived.Test.YtfjplphdkfiljaaDoorProg
import Derived.Test.YtfjplphdkfiljaaDoorNumPrintR
import Derived.Test.YtfjplphdkfiljaaDoorRatioSpec
namespace Go.Proofs.YtfjplphdkfiljaaDoor
open Go.Proofs Go.RowKit Go.Shelf

abbrev ratV (n d : Int) : Value := .agg #[.int .u64 n, .int .u64 d]

theorem inn_any (n l : Int) (w : World) : Calls Tryd.prog 92 #[.int .u64 n, .int .u64 l] w fun e w' => e = .returned (.bool (decide (l ≤ n) && decide (n ≤ 1048576))) ∧ w' = w := by
  by_cases h : l ≤ n
  · go_enter Tryd.func92, Tryd.ntmps92
    go_wp2
    go_ret
    exact ⟨by simp [h], rfl⟩
  · go_enter Tryd.func92, Tryd.ntmps92
    go_wp2
    go_ret
    exact ⟨by simp [h] <;> omega, rfl⟩

theorem Right_any (n d : Int) (w : World) (hn : 0 ≤ n) : Calls Tryd.prog 46 #[ratV n d] w fun e w' => e = .returned (.bool (rightR n d)) ∧ Below w.heap.size w w' := by
  have H1 := Lib.hid (fun W => inn_any n 0 W)
  have H2 := Lib.hid (fun W => inn_any d 1 W)
  unfold rightR
  rw [show decide (0 ≤ n) = true by simpa using hn, Bool.true_and] at H1
  generalize (decide (1 ≤ d) && decide (d ≤ 1048576)) = b2 at *
  cases hb : decide (n ≤ 1048576) with
  | true =>
    rw [hb] at H1
    clear hb
    go_enter Tryd.func46, Tryd.ntmps46
    go_wp2_with (first
      | (go_at_call_of 92 (Value.int IntKind.u64 n); go_must (refine (H1.out _).mono ?_); rintro e w1 ⟨rfl, rfl⟩)
      | (go_at_call_of 92 (Value.int IntKind.u64 d); go_must (refine (H2.out _).mono ?_); rintro e w1 ⟨rfl, rfl⟩))
    go_ret
    exact ⟨rfl, by repeat (first | exact Below.refl _ _ | refine Below.al ?_ _ | refine Below.dr ?_ _ | refine Below.drew ?_ | assumption | (refine Below.st ?_ (by assumption)))⟩
  | false =>
    rw [hb] at H1
    clear hb
    go_enter Tryd.func46, Tryd.ntmps46
    go_wp2_with (go_at_call 92; go_must (refine (H1.out _).mono ?_); rintro e w1 ⟨rfl, rfl⟩)
    go_ret
    exact ⟨rfl, by repeat (first | exact Below.refl _ _ | refine Below.al ?_ _ | refine Below.dr ?_ _ | refine Below.drew ?_ | assumption | (refine Below.st ?_ (by assumption)))⟩

theorem refRight_ratio (n d : Int) (w : World) : Calls Tryd.prog 60 #[ratV n d] w fun e w' => e = .returned (.bool (rightR n d)) ∧ Below w.heap.size w w' := by
  unfold rightR
  by_cases h1 : n ≤ 1048576
  · by_cases h2 : 1 ≤ d
    · go_enter Tryd.func60, Tryd.ntmps60
      go_wp2
      go_ret
      exact ⟨by simp [h1, h2], by repeat (first | exact Below.refl _ _ | refine Below.al ?_ _ | refine Below.dr ?_ _ | refine Below.drew ?_ | assumption | (refine Below.st ?_ (by assumption)))⟩
    · go_enter Tryd.func60, Tryd.ntmps60
      go_wp2
      go_ret
      exact ⟨by simp [h1] <;> omega, by repeat (first | exact Below.refl _ _ | refine Below.al ?_ _ | refine Below.dr ?_ _ | refine Below.drew ?_ | assumption | (refine Below.st ?_ (by assumption)))⟩
  · go_enter Tryd.func60, Tryd.ntmps60
    go_wp2
    go_ret
    exact ⟨by simp <;> omega, by repeat (first | exact Below.refl _ _ | refine Below.al ?_ _ | refine Below.dr ?_ _ | refine Below.drew ?_ | assumption | (refine Below.st ?_ (by assumption)))⟩

theorem times_any (a b : Int) (ha : W64 a) (hb : W64 b) (w : World) :
    Calls Tryd.prog 86 #[.int .u64 a, .int .u64 b] w fun e w' => e = .returned (ratV (a * b / 18446744073709551616) (a * b % 18446744073709551616)) ∧ Below w.heap.size w w' := by
  have HM := Lib.hid (fun W => mul64 a b ha.1 ha.2 hb.1 hb.2 W)
  clear ha hb
  generalize a * b / 18446744073709551616 = q1 at *
  generalize a * b % 18446744073709551616 = q2 at *
  go_enter Tryd.func86, Tryd.ntmps86
  go_wp2_with (go_at_call 81; refine (HM.out _).mono ?_; rintro e w1 ⟨rfl, rfl⟩)
  refine bodyPost_ret (by simp [results, Tryd.results86, go_sem]; try rfl) rfl ?_
  exact ⟨rfl, by repeat (first | exact Below.refl _ _ | refine Below.al ?_ _ | refine Below.dr ?_ _ | refine Below.drew ?_ | assumption | (refine Below.st ?_ (by assumption)))⟩

theorem wmost_any (a b c d : Int) (w : World) :
    Calls Tryd.prog 87 #[ratV a b, ratV c d] w fun e w' => e = .returned (.bool (decide (a < c ∨ (a = c ∧ b ≤ d)))) ∧ Below w.heap.size w w' := by
  by_cases h1 : a < c
  · have e1 : a ≠ c := by omega
    go_enter Tryd.func87, Tryd.ntmps87
    go_wp2
    all_goals
      go_ret
      exact ⟨by simp [h1], by repeat (first | exact Below.refl _ _ | refine Below.al ?_ _ | refine Below.dr ?_ _ | refine Below.drew ?_ | assumption | (refine Below.st ?_ (by assumption)))⟩
  · by_cases h2 : a = c
    · subst h2
      by_cases h3 : b = d
      · subst h3
        go_enter Tryd.func87, Tryd.ntmps87
        go_wp2
        all_goals
          go_ret
          exact ⟨by simp, by repeat (first | exact Below.refl _ _ | refine Below.al ?_ _ | refine Below.dr ?_ _ | refine Below.drew ?_ | assumption | (refine Below.st ?_ (by assumption)))⟩
      · by_cases h4 : b < d
        · go_enter Tryd.func87, Tryd.ntmps87
          go_wp2
          all_goals
            go_ret
            exact ⟨by simp <;> omega, by repeat (first | exact Below.refl _ _ | refine Below.al ?_ _ | refine Below.dr ?_ _ | refine Below.drew ?_ | assumption | (refine Below.st ?_ (by assumption)))⟩
        · go_enter Tryd.func87, Tryd.ntmps87
          go_wp2
          all_goals
            go_ret
            exact ⟨by simp <;> omega, by repeat (first | exact Below.refl _ _ | refine Below.al ?_ _ | refine Below.dr ?_ _ | refine Below.drew ?_ | assumption | (refine Below.st ?_ (by assumption)))⟩
    · go_enter Tryd.func87, Tryd.ntmps87
      go_wp2
      all_goals
        go_ret
        exact ⟨by simp [h2] <;> omega, by repeat (first | exact Below.refl _ _ | refine Below.al ?_ _ | refine Below.dr ?_ _ | refine Below.drew ?_ | assumption | (refine Below.st ?_ (by assumption)))⟩

end Go.Proofs.YtfjplphdkfiljaaDoor
