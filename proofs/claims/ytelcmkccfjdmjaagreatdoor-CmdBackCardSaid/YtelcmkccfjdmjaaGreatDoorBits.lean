/-
  The contracts of math/bits.Add64, Sub64, Mul64, over integers, at this program.
-/
import Derived.Test.YtelcmkccfjdmjaaGreatDoorProg
import Derived.Test.YtelcmkccfjdmjaaGreatDoorBase
import Derived.Test.YtelcmkccfjdmjaaGreatDoorNumSpec
import Derived.Test.YtelcmkccfjdmjaaGreatDoorShelf
import Derived.Shelf.Spec.BitsCarry
namespace Go.Proofs.YtelcmkccfjdmjaaGreatDoor
open Go.Proofs Go.RowKit Go.Shelf

def ren25 : Go.Shelf.Ren := ⟨fun | 25 => 123 | n => n, fun | 22 => 46 | n => n, fun n => n⟩
theorem lays25 : Go.Proofs.Lays7.n25 Tryz.prog ren25 := {
  mixed := by kernel_rfl
  f25 := Tryz.func123.trans (congrArg some (by kernel_rfl))
  t22 := Tryz.underlying46
  a22 := Tryz.isAgg46
  z22 := Tryz.sizeOf46
  v22 := Tryz.zeroValue46
  i22 := by kernel_rfl }
theorem add64_0 (x y : Int) (hx : 0 ≤ x) (hy : 0 ≤ y) (w : World) : (callFunc 123 #[.int .u64 x, .int .u64 y, .int .u64 0]).run Tryz.prog w =
    .ok (.value (.tuple #[.int .u64 ((x + y) % 18446744073709551616), .int .u64 ((x + y) / 18446744073709551616)])) w := by
  obtain ⟨x, rfl⟩ := Int.eq_ofNat_of_zero_le hx
  obtain ⟨y, rfl⟩ := Int.eq_ofNat_of_zero_le hy
  refine (Any7.bits_Add64 lays25 x y 0 (by omega) w).trans ?_
  congr 5 <;> omega
theorem mul64 (x y : Int) (hx : 0 ≤ x) (hx2 : x < 18446744073709551616) (hy : 0 ≤ y) (hy2 : y < 18446744073709551616) (w : World) :
    Calls Tryz.prog 122 #[.int .u64 x, .int .u64 y] w fun e w' => e = .returned (.tuple #[.int .u64 (x * y / 18446744073709551616), .int .u64 (x * y % 18446744073709551616)]) ∧ w' = w := by
  obtain ⟨x, rfl⟩ := Int.eq_ofNat_of_zero_le hx
  obtain ⟨y, rfl⟩ := Int.eq_ofNat_of_zero_le hy
  refine (Tryz.bits_Mul64 x y (by omega) (by omega) w).mono fun e w' ⟨h1, h2⟩ => ⟨?_, h2⟩
  rw [h1]
  congr 4

/-- a number of 64 bits -/
def W64 (x : Int) : Prop := 0 ≤ x ∧ x < 18446744073709551616

abbrev pairV (p : Int × Int) : Value := .tuple #[.int .u64 p.1, .int .i64 p.2]

theorem refAdd_any (a b : Int) (ha : W64 a) (hb : W64 b) (w : World) :
    Calls Tryz.prog 129 #[.int .u64 a, .int .u64 b] w fun e w' => e = .returned (pairV (addI a b)) ∧ w' = w := by
  obtain ⟨a0, a1⟩ := ha
  obtain ⟨b0, b1⟩ := hb
  by_cases h : a + b < 18446744073709551616
  · rw [show addI a b = (a + b, 0) from if_pos h]
    have h2 : ¬ (18446744073709551615 - b < a) := by omega
    have h3 : IntKind.u64.wrap (a + b) = a + b := IntWalk.u64_in _ (by omega)
    go_enter Tryz.func129, Tryz.ntmps129
    go_wp2
    go_ret2
    exact ⟨rfl, rfl⟩
  · rw [show addI a b = (0, 6) from if_neg h]
    have h2 : 18446744073709551615 - b < a := by omega
    go_enter Tryz.func129, Tryz.ntmps129
    go_wp2
    go_ret2
    exact ⟨rfl, rfl⟩

theorem mul_over {a b : Int} (ha : 0 ≤ a) (hb : 0 < b) : (18446744073709551615 / b < a) ↔ ¬ (a * b < 18446744073709551616) := by
  have h1 := Int.mul_ediv_add_emod 18446744073709551615 b
  have h2 := Int.emod_nonneg 18446744073709551615 (b := b) (by omega)
  have h3 := Int.emod_lt_of_pos 18446744073709551615 hb
  generalize 18446744073709551615 / b = q at *
  generalize (18446744073709551615 : Int) % b = r at *
  constructor
  · intro h
    have : b * (q + 1) ≤ b * a := Int.mul_le_mul_of_nonneg_left (by omega) (by omega)
    rw [Int.mul_add, Int.mul_one] at this
    rw [Int.mul_comm a b]
    omega
  · intro h
    rcases Int.lt_or_le q a with h4 | h4
    · exact h4
    · have : b * a ≤ b * q := Int.mul_le_mul_of_nonneg_left h4 (by omega)
      rw [Int.mul_comm a b] at h
      omega

theorem refMul_any (a b : Int) (ha : W64 a) (hb : W64 b) (w : World) :
    Calls Tryz.prog 128 #[.int .u64 a, .int .u64 b] w fun e w' => e = .returned (pairV (mulI a b)) ∧ w' = w := by
  obtain ⟨a0, a1⟩ := ha
  obtain ⟨b0, b1⟩ := hb
  by_cases hz : b = 0
  · subst hz
    rw [show mulI a 0 = (0, 0) by unfold mulI; simp]
    go_enter Tryz.func128, Tryz.ntmps128
    go_wp2
    go_ret2
    exact ⟨by first | rfl | simp, rfl⟩
  · have hov := mul_over a0 (show 0 < b by omega)
    have hp := Int.mul_nonneg a0 b0
    have hq : Int.tdiv 18446744073709551615 b = 18446744073709551615 / b := Int.tdiv_eq_ediv_of_nonneg (by decide)
    have hq0 : 0 ≤ 18446744073709551615 / b := Int.ediv_nonneg (by decide) b0
    have hq1 : 18446744073709551615 / b ≤ 18446744073709551615 := Int.ediv_le_self _ (by decide)
    unfold mulI
    by_cases h : a * b < 18446744073709551616
    · rw [if_pos h]
      have h2 : ¬ (18446744073709551615 / b < a) := by rw [hov]; exact fun h3 => h3 h
      have h3 : IntKind.u64.wrap (a * b) = a * b := IntWalk.u64_in _ (by omega)
      have h4 : IntKind.u64.wrap (18446744073709551615 / b) = 18446744073709551615 / b := IntWalk.u64_in _ (by omega)
      clear hov
      go_enter Tryz.func128, Tryz.ntmps128
      go_wp2
      go_ret2
      exact ⟨rfl, rfl⟩
    · rw [if_neg h]
      have h2 : 18446744073709551615 / b < a := hov.2 h
      have h4 : IntKind.u64.wrap (18446744073709551615 / b) = 18446744073709551615 / b := IntWalk.u64_in _ (by omega)
      clear hov
      go_enter Tryz.func128, Tryz.ntmps128
      go_wp2
      go_ret2
      exact ⟨rfl, rfl⟩

end Go.Proofs.YtelcmkccfjdmjaaGreatDoor
