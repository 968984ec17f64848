/-
  The long division of two words by one, as Go's text has it, where the divisor has at most 21 bits: plain arithmetic; no program in sight.
-/
import Derived.Test.YtfjplphdkfiljaaDoorNumSpec
import Derived.Laws.BitsLemmas
namespace Go.Proofs.YtfjplphdkfiljaaDoor
open Go.Proofs Go.RowKit Go.Shelf

theorem wraps_u64_64 (n : Int) (h0 : 0 ≤ n) (h1 : n < 2 ^ 64) : IntKind.u64.wrap n = n := by rw [IntKind.wrap_u64]; omega

theorem and_low {n : Int} (h0 : 0 ≤ n) (h1 : n < 18446744073709551616) : bits .and .u64 n 4294967295 = n % 4294967296 := by
  have h := bits_mask .u64 64 (by decide) wraps_u64_64 32 (by decide) n h0 (by omega)
  have e : ((2 : Int) ^ 32 - 1) = 4294967295 := by decide
  have e2 : ((2 : Int) ^ 32) = 4294967296 := by decide
  rw [e, e2] at h
  exact h

theorem or_add {a c : Int} {i : Nat} (a0 : 0 ≤ a) (c0 : 0 ≤ c) (c1 : c < 2 ^ i) (h : a * 2 ^ i + c < 18446744073709551616) : bits .or .u64 (a * 2 ^ i) c = a * 2 ^ i + c := by
  obtain ⟨a, rfl⟩ := Int.eq_ofNat_of_zero_le a0
  obtain ⟨c, rfl⟩ := Int.eq_ofNat_of_zero_le c0
  have hc : c < 2 ^ i := by exact_mod_cast c1
  have hsum : a * 2 ^ i + c < 18446744073709551616 := by
    have e : ((a * 2 ^ i + c : Nat) : Int) = (a : Int) * 2 ^ i + (c : Int) := by push_cast; rfl
    omega
  have h2 := (bits_nat .u64 64 (by decide) wraps_u64_64 (a * 2 ^ i) c (by omega) (by omega)).2
  have e := Nat.two_pow_add_eq_or_of_lt hc a
  rw [Nat.mul_comm a, ← e, Nat.mul_comm] at h2
  push_cast at h2
  exact h2

theorem pow_split {lz : Nat} (h0 : 43 ≤ lz) (h1 : lz ≤ 63) : ∃ K2 K' : Int, (2 : Int) ^ lz = 4294967296 * K2 ∧ 1 ≤ K2 ∧ (2 : Int) ^ (64 - lz) = K' ∧ 1 ≤ K' ∧ (2 : Int) ^ lz * K' = 18446744073709551616 := by
  refine ⟨2 ^ (lz - 32), _, ?_, ?_, rfl, ?_, ?_⟩
  · have : (4294967296 : Int) = 2 ^ 32 := by decide
    rw [this, ← Int.pow_add]
    congr 1
    omega
  · have := Int.pow_pos (n := 2) (m := lz - 32) (by decide)
    omega
  · have := Int.pow_pos (n := 2) (m := 64 - lz) (by decide)
    omega
  · rw [← Int.pow_add, show lz + (64 - lz) = 64 by omega]
    decide

structure DivF (hi lo y : Int) (lz : Nat) (Y yn1 A2 C un32 un10 un1 un0 q1 T1 r1 R1 V1 M1 M2 M3 un21 q0 T2 s1 R2 V2 N1 quo M4 M5 M6 rm rem : Int) : Prop where
  a1 : IntKind.u64.wrap (y * 2 ^ lz) = Y
  a2 : bits .and .u64 Y 4294967295 = 0
  a3 : IntKind.u64.wrap (hi * 2 ^ lz) = A2
  a4 : lo / 2 ^ (64 - lz) = C
  a5 : bits .or .u64 A2 C = un32
  a6 : IntKind.u64.wrap (lo * 2 ^ lz) = un10
  a7 : bits .and .u64 un10 4294967295 = un0
  a8 : Y / 4294967296 = yn1
  a9 : un10 / 4294967296 = un1
  b1 : un32.tdiv yn1 = q1
  b2 : IntKind.u64.wrap q1 = q1
  b3 : IntKind.u64.wrap (q1 * yn1) = T1
  b4 : IntKind.u64.wrap (un32 - T1) = r1
  b5 : IntKind.u64.wrap (4294967296 * r1) = R1
  b6 : IntKind.u64.wrap (R1 + un1) = V1
  b7 : IntKind.u64.wrap (un32 * 4294967296) = M1
  b8 : IntKind.u64.wrap (M1 + un1) = M2
  b9 : IntKind.u64.wrap (q1 * Y) = M3
  c1 : IntKind.u64.wrap (M2 - M3) = un21
  c2 : un21.tdiv yn1 = q0
  c3 : IntKind.u64.wrap q0 = q0
  c4 : IntKind.u64.wrap (q0 * yn1) = T2
  c5 : IntKind.u64.wrap (un21 - T2) = s1
  c6 : IntKind.u64.wrap (4294967296 * s1) = R2
  c7 : IntKind.u64.wrap (R2 + un0) = V2
  c8 : IntKind.u64.wrap (q1 * 4294967296) = N1
  c9 : IntKind.u64.wrap (N1 + q0) = quo
  d1 : IntKind.u64.wrap (un21 * 4294967296) = M4
  d2 : IntKind.u64.wrap (M4 + un0) = M5
  d3 : IntKind.u64.wrap (q0 * Y) = M6
  d4 : IntKind.u64.wrap (M5 - M6) = rm
  d5 : rm / 2 ^ lz = rem
  e1 : yn1 ≠ 0
  e2 : 0 ≤ q1 ∧ q1 < 4294967296
  e3 : 0 ≤ q0 ∧ q0 < 4294967296
  e4 : 0 ≤ V1
  e5 : 0 ≤ V2
  f1 : quo = (hi * 18446744073709551616 + lo) / y
  f2 : rem = (hi * 18446744073709551616 + lo) % y

theorem wrap_mod (n : Int) : IntKind.u64.wrap n = n % 18446744073709551616 := IntKind.wrap_u64 n

theorem div_law {hi lo y : Int} {lz : Nat} (h0 : 0 ≤ hi) (h1 : hi < y) (l0 : 0 ≤ lo) (l1 : lo < 18446744073709551616) (hz0 : 43 ≤ lz) (hz1 : lz ≤ 63) (hY0 : 9223372036854775808 ≤ y * 2 ^ lz) (hY1 : y * 2 ^ lz < 18446744073709551616) :
    ∃ Y yn1 A2 C un32 un10 un1 un0 q1 T1 r1 R1 V1 M1 M2 M3 un21 q0 T2 s1 R2 V2 N1 quo M4 M5 M6 rm rem : Int, DivF hi lo y lz Y yn1 A2 C un32 un10 un1 un0 q1 T1 r1 R1 V1 M1 M2 M3 un21 q0 T2 s1 R2 V2 N1 quo M4 M5 M6 rm rem := by
  obtain ⟨K2, K', hK, hK2, hK', hKp, hKK⟩ := pow_split hz0 hz1
  have hKpos : (0 : Int) < 2 ^ lz := Int.pow_pos (by decide)
  -- the divisor
  have hy : y * 2 ^ lz = (y * K2) * 4294967296 := by rw [hK, Int.mul_left_comm, Int.mul_comm]
  obtain ⟨yn1, hyn⟩ : ∃ z, y * K2 = z := ⟨_, rfl⟩
  rw [hyn] at hy
  -- the upper word
  have hC := Int.mul_ediv_add_emod lo K'
  have hC0 : 0 ≤ lo / K' := Int.ediv_nonneg l0 (by omega)
  have hm0 := Int.emod_nonneg lo (b := K') (by omega)
  have hm1 := Int.emod_lt_of_pos lo (show 0 < K' by omega)
  have hCK : lo / K' < 2 ^ lz := Int.ediv_lt_of_lt_mul (by omega) (by rw [hKK]; exact l1)
  have hA : hi * 2 ^ lz + 2 ^ lz ≤ y * 2 ^ lz := by
    have : (hi + 1) * 2 ^ lz ≤ y * 2 ^ lz := Int.mul_le_mul_of_nonneg_right (by omega) (by omega)
    rw [Int.add_mul, Int.one_mul] at this
    exact this
  have hA0 : 0 ≤ hi * 2 ^ lz := Int.mul_nonneg h0 (by omega)
  have hor := or_add (i := lz) h0 hC0 hCK (by omega)
  -- the lower word
  have hlow : lo * 2 ^ lz = lo / K' * 18446744073709551616 + lo % K' * 2 ^ lz := by
    conv => lhs; rw [← hC]
    rw [Int.add_mul, ← hKK, Int.mul_comm K', Int.mul_assoc, Int.mul_comm K']
  have hlow0 : 0 ≤ lo % K' * 2 ^ lz := Int.mul_nonneg hm0 (by omega)
  have hlow1 : lo % K' * 2 ^ lz < 18446744073709551616 := by
    have : (lo % K' + 1) * 2 ^ lz ≤ K' * 2 ^ lz := Int.mul_le_mul_of_nonneg_right (by omega) (by omega)
    rw [Int.add_mul, Int.one_mul, Int.mul_comm K', hKK] at this
    omega
  have hU : (hi * 18446744073709551616 + lo) * 2 ^ lz = (hi * 2 ^ lz + lo / K') * 18446744073709551616 + lo % K' * 2 ^ lz := by
    rw [Int.add_mul, hlow, Int.mul_right_comm hi]
    omega
  generalize hA2 : hi * 2 ^ lz = A2 at *
  generalize hCC : lo / K' = C at *
  generalize hun10 : lo % K' * 2 ^ lz = un10 at *
  obtain ⟨un32, hun32⟩ : ∃ z, A2 + C = z := ⟨_, rfl⟩
  rw [hun32] at hor hU
  have hy31 : 2147483648 ≤ yn1 := by omega
  have hy32 : yn1 < 4294967296 := by omega
  have hu0 : 0 ≤ un32 := by omega
  have hu1 : un32 < yn1 * 4294967296 := by omega
  -- the first digit
  have hq1 := Int.mul_ediv_add_emod un32 yn1
  have hr0 := Int.emod_nonneg un32 (b := yn1) (by omega)
  have hr1 := Int.emod_lt_of_pos un32 (show 0 < yn1 by omega)
  have hq10 : 0 ≤ un32 / yn1 := Int.ediv_nonneg hu0 (by omega)
  have hq11 : un32 / yn1 < 4294967296 := Int.ediv_lt_of_lt_mul (by omega) (by omega)
  have hqd : un32.tdiv yn1 = un32 / yn1 := Int.tdiv_eq_ediv_of_nonneg hu0
  generalize un32 / yn1 = q1 at *
  generalize un32 % yn1 = r1 at *
  have hqY : q1 * (y * 2 ^ lz) = (yn1 * q1) * 4294967296 := by rw [hy, ← Int.mul_assoc, Int.mul_comm q1]
  have hcm1 : q1 * yn1 = yn1 * q1 := Int.mul_comm _ _
  -- the second digit
  obtain ⟨un1, hun1⟩ : ∃ z, un10 / 4294967296 = z := ⟨_, rfl⟩
  obtain ⟨un0, hun0⟩ : ∃ z, un10 % 4294967296 = z := ⟨_, rfl⟩
  have hun1b : 0 ≤ un1 ∧ un1 < 4294967296 := by omega
  have hun0b : 0 ≤ un0 ∧ un0 < 4294967296 := by omega
  obtain ⟨un21, hun21⟩ : ∃ z, r1 * 4294967296 + un1 = z := ⟨_, rfl⟩
  have hv0 : 0 ≤ un21 := by omega
  have hv1 : un21 < yn1 * 4294967296 := by omega
  have hq0 := Int.mul_ediv_add_emod un21 yn1
  have hs0 := Int.emod_nonneg un21 (b := yn1) (by omega)
  have hs1 := Int.emod_lt_of_pos un21 (show 0 < yn1 by omega)
  have hq00 : 0 ≤ un21 / yn1 := Int.ediv_nonneg hv0 (by omega)
  have hq01 : un21 / yn1 < 4294967296 := Int.ediv_lt_of_lt_mul (by omega) (by omega)
  have hqd0 : un21.tdiv yn1 = un21 / yn1 := Int.tdiv_eq_ediv_of_nonneg hv0
  generalize un21 / yn1 = q0 at *
  generalize un21 % yn1 = s1 at *
  have hqY0 : q0 * (y * 2 ^ lz) = (yn1 * q0) * 4294967296 := by rw [hy, ← Int.mul_assoc, Int.mul_comm q0]
  have hcm0 : q0 * yn1 = yn1 * q0 := Int.mul_comm _ _
  -- what is left
  have hrm : (hi * 18446744073709551616 + lo) * 2 ^ lz = (q1 * 4294967296 + q0) * (y * 2 ^ lz) + (s1 * 4294967296 + un0) := by
    rw [hU, Int.add_mul, Int.mul_right_comm q1, hqY, hqY0]
    omega
  have hrem : s1 * 4294967296 + un0 = (hi * 18446744073709551616 + lo - (q1 * 4294967296 + q0) * y) * 2 ^ lz := by
    rw [Int.sub_mul, hrm, ← Int.mul_assoc]
    omega
  have hdiv : (s1 * 4294967296 + un0) / 2 ^ lz = hi * 18446744073709551616 + lo - (q1 * 4294967296 + q0) * y := by
    rw [hrem, Int.mul_ediv_cancel _ (by omega)]
  have hR0 : 0 ≤ hi * 18446744073709551616 + lo - (q1 * 4294967296 + q0) * y := by rw [← hdiv]; exact Int.ediv_nonneg (by omega) (by omega)
  have hR1 : hi * 18446744073709551616 + lo - (q1 * 4294967296 + q0) * y < y := by
    rw [← hdiv]
    exact Int.ediv_lt_of_lt_mul hKpos (by omega)
  have hP : hi * 18446744073709551616 + lo = y * (q1 * 4294967296 + q0) + (hi * 18446744073709551616 + lo - (q1 * 4294967296 + q0) * y) := by
    rw [Int.mul_comm y]; omega
  have hf1 : (hi * 18446744073709551616 + lo) / y = q1 * 4294967296 + q0 := by
    rw [hP, Int.add_comm, Int.add_mul_ediv_left _ _ (by omega), Int.ediv_eq_zero_of_lt hR0 hR1, Int.zero_add]
  have hf2 : (hi * 18446744073709551616 + lo) % y = hi * 18446744073709551616 + lo - (q1 * 4294967296 + q0) * y := by
    conv => lhs; rw [hP]
    rw [Int.add_comm, Int.add_mul_emod_self_left, Int.emod_eq_of_lt hR0 hR1]
  refine ⟨y * 2 ^ lz, yn1, A2, C, un32, un10, un1, un0, q1, q1 * yn1, r1, _, _, _, _, _, un21, q0, q0 * yn1, s1, _, _, q1 * 4294967296, q1 * 4294967296 + q0, _, _, _, s1 * 4294967296 + un0, _,
    ?a1, ?a2, ?a3, ?a4, ?a5, ?a6, ?a7, ?a8, hun1, hqd, ?b2, ?b3, ?b4, rfl, rfl, rfl, rfl, rfl, ?c1, hqd0, ?c3, ?c4, ?c5, rfl, rfl, ?c8, ?c9, rfl, rfl, rfl, ?d4, hdiv, ?e1, ⟨hq10, hq11⟩, ⟨hq00, hq01⟩, ?e4, ?e5, hf1.symm, hf2.symm⟩
  case a1 => rw [wrap_mod]; omega
  case a2 => rw [and_low (by omega) (by omega)]; omega
  case a3 => rw [hA2, wrap_mod]; omega
  case a4 => rw [hK', hCC]
  case a5 => exact hor
  case a6 => rw [wrap_mod, hlow]; omega
  case a7 => rw [and_low hlow0 hlow1]; exact hun0
  case a8 => omega
  case b2 => rw [wrap_mod]; omega
  case b3 => have := Int.mul_nonneg (show 0 ≤ yn1 by omega) hq10; rw [wrap_mod]; omega
  case b4 => rw [wrap_mod]; omega
  case c1 =>
    clear hrm hrem hdiv hR0 hR1 hP hf1 hf2 hU hlow hqY0 hcm0
    rw [hqY]
    simp only [wrap_mod]
    generalize yn1 * q1 = z at *
    omega
  case c3 => rw [wrap_mod]; omega
  case c4 => have := Int.mul_nonneg (show 0 ≤ yn1 by omega) hq00; rw [wrap_mod]; omega
  case c5 => rw [wrap_mod]; omega
  case c8 => rw [wrap_mod]; omega
  case c9 => rw [wrap_mod]; omega
  case d4 =>
    clear hrm hrem hdiv hR0 hR1 hP hf1 hf2 hU hlow hqY hcm1 hq1
    rw [hqY0]
    simp only [wrap_mod]
    generalize yn1 * q0 = z at *
    omega
  case e1 => omega
  case e4 => rw [wrap_mod]; omega
  case e5 => rw [wrap_mod]; omega

end Go.Proofs.YtfjplphdkfiljaaDoor
