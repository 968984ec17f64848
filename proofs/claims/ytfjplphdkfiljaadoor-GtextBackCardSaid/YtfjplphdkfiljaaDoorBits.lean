/-
  The contracts of math/bits.Add64, Sub64, Mul64, over integers, at this program.
-/
import Derived.Test.YtfjplphdkfiljaaDoorProg
import Derived.Test.YtfjplphdkfiljaaDoorBase
import Derived.Test.YtfjplphdkfiljaaDoorNumSpec
import Derived.Test.YtfjplphdkfiljaaDoorShelf
import Derived.Shelf.Spec.BitsCarry
namespace Go.Proofs.YtfjplphdkfiljaaDoor
open Go.Proofs Go.RowKit Go.Shelf

def ren25 : Go.Shelf.Ren := ⟨fun | 25 => 82 | n => n, fun | 22 => 22 | n => n, fun n => n⟩
def ren26 : Go.Shelf.Ren := ⟨fun | 26 => 85 | n => n, fun | 22 => 22 | n => n, fun n => n⟩
theorem lays25 : Go.Proofs.Lays7.n25 Tryd.prog ren25 := {
  mixed := by kernel_rfl
  f25 := Tryd.func82.trans (congrArg some (by kernel_rfl))
  t22 := Tryd.underlying22
  a22 := Tryd.isAgg22
  z22 := Tryd.sizeOf22
  v22 := Tryd.zeroValue22
  i22 := by kernel_rfl }
theorem lays26 : Go.Proofs.Lays7.n26 Tryd.prog ren26 := {
  mixed := by kernel_rfl
  f26 := Tryd.func85.trans (congrArg some (by kernel_rfl))
  t22 := Tryd.underlying22
  a22 := Tryd.isAgg22
  z22 := Tryd.sizeOf22
  v22 := Tryd.zeroValue22
  i22 := by kernel_rfl }

theorem add64_0 (x y : Int) (hx : 0 ≤ x) (hy : 0 ≤ y) (w : World) : (callFunc 82 #[.int .u64 x, .int .u64 y, .int .u64 0]).run Tryd.prog w =
    .ok (.value (.tuple #[.int .u64 ((x + y) % 18446744073709551616), .int .u64 ((x + y) / 18446744073709551616)])) w := by
  obtain ⟨x, rfl⟩ := Int.eq_ofNat_of_zero_le hx
  obtain ⟨y, rfl⟩ := Int.eq_ofNat_of_zero_le hy
  refine (Any7.bits_Add64 lays25 x y 0 (by omega) w).trans ?_
  congr 5 <;> omega
theorem sub64_le (x y : Int) (h : y ≤ x) (hy : 0 ≤ y) (hx : x < 18446744073709551616) (w : World) : (callFunc 85 #[.int .u64 x, .int .u64 y, .int .u64 0]).run Tryd.prog w =
    .ok (.value (.tuple #[.int .u64 (x - y), .int .u64 0])) w := by
  obtain ⟨x, rfl⟩ := Int.eq_ofNat_of_zero_le (Int.le_trans hy h)
  obtain ⟨y, rfl⟩ := Int.eq_ofNat_of_zero_le hy
  have e := Any7.bits_Sub64 lays26 x y 0 (by omega) w
  rw [if_neg (by omega), show (x + 18446744073709551616 - y - 0) % 18446744073709551616 = x - y by omega, show ((x - y : Nat) : Int) = (x : Int) - (y : Int) by omega] at e
  exact e
theorem sub64_gt (x y : Int) (hx : 0 ≤ x) (h : x < y) (hy : y < 18446744073709551616) (w : World) : ∃ d, (callFunc 85 #[.int .u64 x, .int .u64 y, .int .u64 0]).run Tryd.prog w =
    .ok (.value (.tuple #[.int .u64 d, .int .u64 1])) w := by
  obtain ⟨x, rfl⟩ := Int.eq_ofNat_of_zero_le hx
  obtain ⟨y, rfl⟩ := Int.eq_ofNat_of_zero_le (Int.le_trans hx (Int.le_of_lt h))
  have e := Any7.bits_Sub64 lays26 x y 0 (by omega) w
  rw [if_pos (by omega)] at e
  exact ⟨_, e⟩
theorem mul64 (x y : Int) (hx : 0 ≤ x) (hx2 : x < 18446744073709551616) (hy : 0 ≤ y) (hy2 : y < 18446744073709551616) (w : World) :
    Calls Tryd.prog 81 #[.int .u64 x, .int .u64 y] w fun e w' => e = .returned (.tuple #[.int .u64 (x * y / 18446744073709551616), .int .u64 (x * y % 18446744073709551616)]) ∧ w' = w := by
  obtain ⟨x, rfl⟩ := Int.eq_ofNat_of_zero_le hx
  obtain ⟨y, rfl⟩ := Int.eq_ofNat_of_zero_le hy
  refine (Tryd.bits_Mul64 x y (by omega) (by omega) w).mono fun e w' ⟨h1, h2⟩ => ⟨?_, h2⟩
  rw [h1]
  congr 4

/-- a number of 64 bits -/
def W64 (x : Int) : Prop := 0 ≤ x ∧ x < 18446744073709551616

theorem told_zero (n : Int) (w : World) : Calls Tryd.prog 84 #[.int .u64 n, .int .u64 0] w fun e w' => e = .returned (.tuple #[.int .u64 n, .int .i64 0]) ∧ w' = w := by
  go_enter Tryd.func84, Tryd.ntmps84
  go_wp2
  go_ret2
  exact ⟨rfl, rfl⟩
theorem told_more (n c : Int) (h : c ≠ 0) (w : World) : Calls Tryd.prog 84 #[.int .u64 n, .int .u64 c] w fun e w' => e = .returned (.tuple #[.int .u64 0, .int .i64 6]) ∧ w' = w := by
  go_enter Tryd.func84, Tryd.ntmps84
  go_wp2
  go_ret2
  exact ⟨rfl, rfl⟩

abbrev pairV (p : Int × Int) : Value := .tuple #[.int .u64 p.1, .int .i64 p.2]

theorem Add_any (a b : Int) (ha : W64 a) (hb : W64 b) (w : World) :
    Calls Tryd.prog 20 #[.int .u64 a, .int .u64 b] w fun e w' => e = .returned (pairV (addI a b)) ∧ w' = w := by
  obtain ⟨a0, a1⟩ := ha
  obtain ⟨b0, b1⟩ := hb
  have HX := add64_0 a b a0 b0
  by_cases h : a + b < 18446744073709551616
  · rw [show addI a b = (a + b, 0) from if_pos h]
    rw [show (a + b) % 18446744073709551616 = a + b by omega, show (a + b) / 18446744073709551616 = 0 by omega] at HX
    have HT := Lib.hid (told_zero (a + b))
    generalize a + b = s at *
    clear h
    go_enter Tryd.func20, Tryd.ntmps20
    go_wp2_with (first | simp only [HX] | (go_at_call 84; refine (HT.out _).mono ?_; rintro e w' ⟨rfl, rfl⟩))
    go_ret2
    exact ⟨rfl, rfl⟩
  · rw [show addI a b = (0, 6) from if_neg h]
    have hc : (a + b) / 18446744073709551616 ≠ 0 := by omega
    have HT := Lib.hid (told_more ((a + b) % 18446744073709551616) _ hc)
    clear hc h
    generalize (a + b) % 18446744073709551616 = s1 at *
    generalize (a + b) / 18446744073709551616 = s2 at *
    go_enter Tryd.func20, Tryd.ntmps20
    go_wp2_with (first | simp only [HX] | (go_at_call 84; refine (HT.out _).mono ?_; rintro e w' ⟨rfl, rfl⟩))
    go_ret2
    exact ⟨rfl, rfl⟩

theorem Sub_any (a b : Int) (ha : W64 a) (hb : W64 b) (w : World) :
    Calls Tryd.prog 21 #[.int .u64 a, .int .u64 b] w fun e w' => e = .returned (pairV (subI a b)) ∧ w' = w := by
  obtain ⟨a0, a1⟩ := ha
  obtain ⟨b0, b1⟩ := hb
  by_cases h : b ≤ a
  · rw [show subI a b = (a - b, 0) from if_pos h]
    have HX := sub64_le a b h b0 a1
    have HT := Lib.hid (told_zero (a - b))
    generalize a - b = s at *
    clear h
    go_enter Tryd.func21, Tryd.ntmps21
    go_wp2_with (first | simp only [HX] | (go_at_call 84; refine (HT.out _).mono ?_; rintro e w' ⟨rfl, rfl⟩))
    go_ret2
    exact ⟨rfl, rfl⟩
  · rw [show subI a b = (0, 6) from if_neg h]
    obtain ⟨d, HX⟩ := sub64_gt a b a0 (by omega) b1 w
    have HT := Lib.hid (told_more d 1 (by decide))
    clear h
    go_enter Tryd.func21, Tryd.ntmps21
    go_wp2_with (first | simp only [HX] | (go_at_call 84; refine (HT.out _).mono ?_; rintro e w' ⟨rfl, rfl⟩))
    go_ret2
    exact ⟨rfl, rfl⟩

theorem Mul_any (a b : Int) (ha : W64 a) (hb : W64 b) (w : World) :
    Calls Tryd.prog 30 #[.int .u64 a, .int .u64 b] w fun e w' => e = .returned (pairV (mulI a b)) ∧ w' = w := by
  have HX := Lib.hid (mul64 a b ha.1 ha.2 hb.1 hb.2)
  have h0 := Int.mul_nonneg ha.1 hb.1
  unfold mulI
  generalize a * b = p at *
  by_cases h : p < 18446744073709551616
  · rw [if_pos h]
    rw [show p % 18446744073709551616 = p by omega, show p / 18446744073709551616 = 0 by omega] at HX
    have HT := Lib.hid (told_zero p)
    clear h
    go_enter Tryd.func30, Tryd.ntmps30
    go_wp2_with (first | (go_at_call 81; refine (HX.out _).mono ?_; rintro e w' ⟨rfl, rfl⟩) | (go_at_call 84; refine (HT.out _).mono ?_; rintro e w' ⟨rfl, rfl⟩))
    go_ret2
    exact ⟨rfl, rfl⟩
  · rw [if_neg h]
    have hc : p / 18446744073709551616 ≠ 0 := by omega
    have HT := Lib.hid (told_more (p % 18446744073709551616) _ hc)
    clear hc h
    generalize p % 18446744073709551616 = s1 at *
    generalize p / 18446744073709551616 = s2 at *
    go_enter Tryd.func30, Tryd.ntmps30
    go_wp2_with (first | (go_at_call 81; refine (HX.out _).mono ?_; rintro e w' ⟨rfl, rfl⟩) | (go_at_call 84; refine (HT.out _).mono ?_; rintro e w' ⟨rfl, rfl⟩))
    go_ret2
    exact ⟨rfl, rfl⟩

theorem refAdd_any (a b : Int) (ha : W64 a) (hb : W64 b) (w : World) :
    Calls Tryd.prog 28 #[.int .u64 a, .int .u64 b] w fun e w' => e = .returned (pairV (addI a b)) ∧ w' = w := by
  obtain ⟨a0, a1⟩ := ha
  obtain ⟨b0, b1⟩ := hb
  by_cases h : a + b < 18446744073709551616
  · rw [show addI a b = (a + b, 0) from if_pos h]
    have h2 : ¬ (18446744073709551615 - b < a) := by omega
    have h3 : IntKind.u64.wrap (a + b) = a + b := IntWalk.u64_in _ (by omega)
    go_enter Tryd.func28, Tryd.ntmps28
    go_wp2
    go_ret2
    exact ⟨rfl, rfl⟩
  · rw [show addI a b = (0, 6) from if_neg h]
    have h2 : 18446744073709551615 - b < a := by omega
    go_enter Tryd.func28, Tryd.ntmps28
    go_wp2
    go_ret2
    exact ⟨rfl, rfl⟩

theorem refSub_any (a b : Int) (ha : W64 a) (hb : W64 b) (w : World) :
    Calls Tryd.prog 29 #[.int .u64 a, .int .u64 b] w fun e w' => e = .returned (pairV (subI a b)) ∧ w' = w := by
  obtain ⟨a0, a1⟩ := ha
  obtain ⟨b0, b1⟩ := hb
  by_cases h : b ≤ a
  · rw [show subI a b = (a - b, 0) from if_pos h]
    go_enter Tryd.func29, Tryd.ntmps29
    go_wp2
    go_ret2
    exact ⟨rfl, rfl⟩
  · rw [show subI a b = (0, 6) from if_neg h]
    go_enter Tryd.func29, Tryd.ntmps29
    go_wp2
    go_ret2
    exact ⟨rfl, rfl⟩

theorem mul_over {a b : Int} (ha : 0 ≤ a) (hb : 0 < b) : (18446744073709551615 / b < a) ↔ ¬ (a * b < 18446744073709551616) := by
  have h1 := Int.mul_ediv_add_emod 18446744073709551615 b
  have h2 := Int.emod_nonneg 18446744073709551615 (b := b) (by omega)
  have h3 := Int.emod_lt_of_pos 18446744073709551615 hb
  generalize 18446744073709551615 / b = q at *
  generalize (18446744073709551615 : Int) % b = r at *
  constructor
  · intro h
    have : b * (q + 1) ≤ b * a := Int.mul_le_mul_of_nonneg_left (by omega) (by omega)
    rw [Int.mul_add, Int.mul_one] at this
    rw [Int.mul_comm a b]
    omega
  · intro h
    rcases Int.lt_or_le q a with h4 | h4
    · exact h4
    · have : b * a ≤ b * q := Int.mul_le_mul_of_nonneg_left h4 (by omega)
      rw [Int.mul_comm a b] at h
      omega

theorem refMul_any (a b : Int) (ha : W64 a) (hb : W64 b) (w : World) :
    Calls Tryd.prog 31 #[.int .u64 a, .int .u64 b] w fun e w' => e = .returned (pairV (mulI a b)) ∧ w' = w := by
  obtain ⟨a0, a1⟩ := ha
  obtain ⟨b0, b1⟩ := hb
  by_cases hz : b = 0
  · subst hz
    rw [show mulI a 0 = (0, 0) by unfold mulI; simp]
    go_enter Tryd.func31, Tryd.ntmps31
    go_wp2
    go_ret2
    exact ⟨by first | rfl | simp, rfl⟩
  · have hov := mul_over a0 (show 0 < b by omega)
    have hp := Int.mul_nonneg a0 b0
    have hq : Int.tdiv 18446744073709551615 b = 18446744073709551615 / b := Int.tdiv_eq_ediv_of_nonneg (by decide)
    have hq0 : 0 ≤ 18446744073709551615 / b := Int.ediv_nonneg (by decide) b0
    have hq1 : 18446744073709551615 / b ≤ 18446744073709551615 := Int.ediv_le_self _ (by decide)
    unfold mulI
    by_cases h : a * b < 18446744073709551616
    · rw [if_pos h]
      have h2 : ¬ (18446744073709551615 / b < a) := by rw [hov]; exact fun h3 => h3 h
      have h3 : IntKind.u64.wrap (a * b) = a * b := IntWalk.u64_in _ (by omega)
      have h4 : IntKind.u64.wrap (18446744073709551615 / b) = 18446744073709551615 / b := IntWalk.u64_in _ (by omega)
      clear hov
      go_enter Tryd.func31, Tryd.ntmps31
      go_wp2
      go_ret2
      exact ⟨rfl, rfl⟩
    · rw [if_neg h]
      have h2 : 18446744073709551615 / b < a := hov.2 h
      have h4 : IntKind.u64.wrap (18446744073709551615 / b) = 18446744073709551615 / b := IntWalk.u64_in _ (by omega)
      clear hov
      go_enter Tryd.func31, Tryd.ntmps31
      go_wp2
      go_ret2
      exact ⟨rfl, rfl⟩

end Go.Proofs.YtfjplphdkfiljaaDoor
