/-
  Walks: products in digits of 32 bits, how they stand, and what is within a ratio by them.
-/
import Derived.Test.YtfjplphdkfiljaaDoorProg
import Derived.Test.YtfjplphdkfiljaaDoorRatioC
import Derived.StillTailTactics
namespace Go.Proofs.YtfjplphdkfiljaaDoor
open Go.Proofs Go.RowKit Go.Shelf

abbrev triV (p : Int) : Value := .agg #[.int .u64 (p / 18446744073709551616), .int .u64 (p / 4294967296 % 4294967296), .int .u64 (p % 4294967296)]

theorem split32 {a b : Int} (ha : W64 a) (b0 : 0 ≤ b) (b1 : b ≤ 2097152) : ∃ lo hi, a % 4294967296 * b = lo ∧ a / 4294967296 * b = hi ∧ 0 ≤ lo ∧ lo ≤ 9007199254740992 ∧ 0 ≤ hi ∧ hi ≤ 9007199254740992 ∧ a * b = hi * 4294967296 + lo := by
  obtain ⟨a0, a1⟩ := ha
  refine ⟨_, _, rfl, rfl, ?_, ?_, ?_, ?_, ?_⟩
  · exact Int.mul_nonneg (by omega) b0
  · have := Int.mul_le_mul (show a % 4294967296 ≤ 4294967296 by omega) b1 b0 (by decide)
    omega
  · exact Int.mul_nonneg (by omega) b0
  · have := Int.mul_le_mul (show a / 4294967296 ≤ 4294967296 by omega) b1 b0 (by decide)
    omega
  · have e : a = a / 4294967296 * 4294967296 + a % 4294967296 := by omega
    conv => lhs; rw [e, Int.add_mul, Int.mul_right_comm]

set_option maxHeartbeats 1000000 in
theorem times3_any (a b : Int) (w : World) (ha : W64 a) (hb : 0 ≤ b ∧ b ≤ 2097152) :
    Calls Tryd.prog 89 #[.int .u64 a, .int .u64 b] w fun e w' => e = .returned (triV (a * b)) ∧ Below w.heap.size w w' := by
  obtain ⟨lo, hi, h1, h2, l0, l1, h0, h3, hp⟩ := split32 ha hb.1 hb.2
  rw [hp]
  have e1 : a.tmod 4294967296 = a % 4294967296 := Int.tmod_eq_emod_of_nonneg ha.1
  have e3 : IntKind.u64.wrap (a % 4294967296 * b) = lo := by rw [h1]; exact IntWalk.u64_in _ (by omega)
  have e4 : IntKind.u64.wrap (a / 4294967296 * b) = hi := by rw [h2]; exact IntWalk.u64_in _ (by omega)
  have e5 : hi.tmod 4294967296 = hi % 4294967296 := Int.tmod_eq_emod_of_nonneg h0
  have e6 : IntKind.u64.wrap (hi % 4294967296 + lo / 4294967296) = hi % 4294967296 + lo / 4294967296 := IntWalk.u64_in _ (by omega)
  obtain ⟨mid, hmid⟩ : ∃ mid, hi % 4294967296 + lo / 4294967296 = mid := ⟨_, rfl⟩
  have e7 : mid.tmod 4294967296 = mid % 4294967296 := Int.tmod_eq_emod_of_nonneg (by omega)
  have e8 : lo.tmod 4294967296 = lo % 4294967296 := Int.tmod_eq_emod_of_nonneg l0
  have e9 : IntKind.u64.wrap (hi / 4294967296 + mid / 4294967296) = hi / 4294967296 + mid / 4294967296 := IntWalk.u64_in _ (by omega)
  have HR := Lib.hid (show triV (hi * 4294967296 + lo) = .agg #[.int .u64 (hi / 4294967296 + mid / 4294967296), .int .u64 (mid % 4294967296), .int .u64 (lo % 4294967296)] by
    unfold triV
    have k1 : (hi * 4294967296 + lo) / 18446744073709551616 = hi / 4294967296 + mid / 4294967296 := by omega
    have k2 : (hi * 4294967296 + lo) / 4294967296 % 4294967296 = mid % 4294967296 := by omega
    have k3 : (hi * 4294967296 + lo) % 4294967296 = lo % 4294967296 := by omega
    rw [k1, k2, k3])
  rw [hmid] at e6
  clear h1 h2 hp ha hb
  generalize triV (hi * 4294967296 + lo) = r at *
  generalize a % 4294967296 = x0 at *
  go_enter Tryd.func89, Tryd.ntmps89
  go_wp2
  refine bodyPost_ret (by simp [results, Tryd.results89, go_sem]; try rfl) rfl ?_
  exact ⟨by rw [HR.out], by repeat (first | exact Below.refl _ _ | refine Below.al ?_ _ | refine Below.dr ?_ _ | refine Below.drew ?_ | assumption | (refine Below.st ?_ (by assumption)))⟩

/-- at most, digit by digit -/
def lex3 (a b c x y z : Int) : Bool := if a ≠ x then decide (a < x) else if b ≠ y then decide (b < y) else if c ≠ z then decide (c < z) else true
theorem lex3_le (p q : Int) : lex3 (p / 18446744073709551616) (p / 4294967296 % 4294967296) (p % 4294967296) (q / 18446744073709551616) (q / 4294967296 % 4294967296) (q % 4294967296) = decide (p ≤ q) := by
  unfold lex3
  split
  · congr 1; apply propext; omega
  · split
    · congr 1; apply propext; omega
    · split
      · congr 1; apply propext; omega
      · symm; rw [decide_eq_true_eq]; omega

set_option maxHeartbeats 4000000 in
theorem most3_any (a b c x y z : Int) (w : World) :
    Calls Tryd.prog 88 #[.agg #[.int .u64 a, .int .u64 b, .int .u64 c], .agg #[.int .u64 x, .int .u64 y, .int .u64 z]] w fun e w' => e = .returned (.bool (lex3 a b c x y z)) ∧ Below w.heap.size w w' := by
  unfold lex3
  by_cases h1 : a = x
  · subst h1
    rw [if_neg (by simp)]
    by_cases h2 : b = y
    · subst h2
      rw [if_neg (by simp)]
      by_cases h3 : c = z
      · subst h3
        rw [if_neg (by simp)]
        go_enter Tryd.func88, Tryd.ntmps88
        go_wp2
        refine wp_loop_rounds 4 ?_
        rw [rounds_succ]
        go_wp2
        go_quiet (fail)
        go_wp2
        rw [rounds_succ]
        go_wp2
        go_quiet (fail)
        go_wp2
        rw [rounds_succ]
        go_wp2
        go_quiet (fail)
        go_wp2
        rw [rounds_succ]
        go_wp2
        go_ret
        exact ⟨rfl, by repeat (first | exact Below.refl _ _ | refine Below.al ?_ _ | refine Below.dr ?_ _ | refine Below.drew ?_ | assumption | (refine Below.st ?_ (by assumption)))⟩
      · rw [if_pos h3]
        have h3b : (c != z) = true := by simpa using h3
        go_enter Tryd.func88, Tryd.ntmps88
        go_wp2
        refine wp_loop_rounds 3 ?_
        rw [rounds_succ]
        go_wp2
        go_quiet (fail)
        go_wp2
        rw [rounds_succ]
        go_wp2
        go_quiet (fail)
        go_wp2
        rw [rounds_succ]
        go_wp2
        go_quiet (fail)
        go_wp2
        go_quiet (fail)
        go_wp2
        go_ret
        exact ⟨by first | rfl | simp, by repeat (first | exact Below.refl _ _ | refine Below.al ?_ _ | refine Below.dr ?_ _ | refine Below.drew ?_ | assumption | (refine Below.st ?_ (by assumption)))⟩
    · rw [if_pos h2]
      have h2b : (b != y) = true := by simpa using h2
      go_enter Tryd.func88, Tryd.ntmps88
      go_wp2
      refine wp_loop_rounds 2 ?_
      rw [rounds_succ]
      go_wp2
      go_quiet (fail)
      go_wp2
      rw [rounds_succ]
      go_wp2
      go_quiet (fail)
      go_wp2
      go_quiet (fail)
      go_wp2
      go_ret
      exact ⟨by first | rfl | simp, by repeat (first | exact Below.refl _ _ | refine Below.al ?_ _ | refine Below.dr ?_ _ | refine Below.drew ?_ | assumption | (refine Below.st ?_ (by assumption)))⟩
  · rw [if_pos h1]
    have h1b : (a != x) = true := by simpa using h1
    go_enter Tryd.func88, Tryd.ntmps88
    go_wp2
    refine wp_loop_rounds 1 ?_
    rw [rounds_succ]
    go_wp2
    go_quiet (fail)
    go_wp2
    go_quiet (fail)
    go_wp2
    go_ret
    exact ⟨by first | rfl | simp, by repeat (first | exact Below.refl _ _ | refine Below.al ?_ _ | refine Below.dr ?_ _ | refine Below.drew ?_ | assumption | (refine Below.st ?_ (by assumption)))⟩

end Go.Proofs.YtfjplphdkfiljaaDoor
