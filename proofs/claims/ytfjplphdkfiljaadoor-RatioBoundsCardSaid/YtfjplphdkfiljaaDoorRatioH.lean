/-
  Walks: the reference's answers of what is within a ratio, what is stretched by it, and what a number comes to, rounded up.
-/
import Derived.Test.YtfjplphdkfiljaaDoorProg
import Derived.Test.YtfjplphdkfiljaaDoorRatioG
import Derived.Test.YtfjplphdkfiljaaDoorRatioD
namespace Go.Proofs.YtfjplphdkfiljaaDoor
open Go.Proofs Go.RowKit Go.Shelf

set_option maxHeartbeats 1000000 in
theorem refWithin_any (v n d base : Int) (w : World) (hv : W64 v) (hn : 0 ≤ n) (hb : W64 base) :
    Calls Tryd.prog 36 #[.int .u64 v, ratV n d, .int .u64 base] w fun e w' => e = .returned (.bool (withinR v n d base)) ∧ Below w.heap.size w w' := by
  have HR := Lib.hid (fun W => refRight_ratio n d W)
  unfold withinR
  cases h : rightR n d with
  | false =>
    rw [h] at HR
    clear h
    go_enter Tryd.func36, Tryd.ntmps36
    go_wp2_with fail
    obtain ⟨W, hW, c0, c1, hsW⟩ : ∃ W, W = w.alloc (Obj.cells #[.int .u64 n, .int .u64 d] 41) ∧ W.cell? ⟨w.heap.size, 0, none⟩ = some (.int .u64 n) ∧ W.cell? ⟨w.heap.size, 1, none⟩ = some (.int .u64 d) ∧ w.heap.size < W.heap.size := ⟨_, rfl, by go_simp, by go_simp, by simp⟩
    rw [← hW]
    have HW := Lib.hid (show Below w.heap.size w W by rw [hW]; repeat (first | exact Below.refl _ _ | refine Below.al ?_ _ | refine Below.dr ?_ _ | refine Below.drew ?_ | assumption | (refine Below.st ?_ (by assumption))))
    clear hW
    have e0 := fun p => cell_ext p c0
    have e1 := fun p => cell_ext p c1
    refine wp_region_ext (by kernel_rfl) (by kernel_rfl) ?_
    repeat (go_big_quiet_step ((go_at_call 60; exact Calls.ext_of (HR.out _))))
    refine wpQuiet_nil ?_
    rintro _ ⟨p1, rfl⟩
    have HB1 := Lib.hid (below_ext W p1)
    generalize ext W p1 = w1 at HB1 ⊢
    go_wp2
    go_ret
    exact ⟨rfl, HW.out.st HB1.out⟩
  | true =>
    obtain ⟨r1, r2, r3⟩ := rightR_of h
    rw [h] at HR
    clear h
    have HX := Lib.hid (fun W => times3_any v d W hv ⟨by omega, by omega⟩)
    have HY := Lib.hid (fun W => times3_any base n W hb ⟨by omega, by omega⟩)
    have HM := Lib.hid (fun W => most3_any (v * d / 18446744073709551616) (v * d / 4294967296 % 4294967296) (v * d % 4294967296) (base * n / 18446744073709551616) (base * n / 4294967296 % 4294967296) (base * n % 4294967296) W)
    rw [lex3_le] at HM
    rw [Bool.true_and]
    unfold triV at HX HY
    generalize v * d / 18446744073709551616 = x1 at *
    generalize v * d / 4294967296 % 4294967296 = x2 at *
    generalize v * d % 4294967296 = x3 at *
    generalize base * n / 18446744073709551616 = y1 at *
    generalize base * n / 4294967296 % 4294967296 = y2 at *
    generalize base * n % 4294967296 = y3 at *
    generalize decide (v * d ≤ base * n) = b at *
    clear hv hn hb
    go_enter Tryd.func36, Tryd.ntmps36
    go_wp2_with fail
    obtain ⟨W, hW, c0, c1, hsW⟩ : ∃ W, W = w.alloc (Obj.cells #[.int .u64 n, .int .u64 d] 41) ∧ W.cell? ⟨w.heap.size, 0, none⟩ = some (.int .u64 n) ∧ W.cell? ⟨w.heap.size, 1, none⟩ = some (.int .u64 d) ∧ w.heap.size < W.heap.size := ⟨_, rfl, by go_simp, by go_simp, by simp⟩
    rw [← hW]
    have HW := Lib.hid (show Below w.heap.size w W by rw [hW]; repeat (first | exact Below.refl _ _ | refine Below.al ?_ _ | refine Below.dr ?_ _ | refine Below.drew ?_ | assumption | (refine Below.st ?_ (by assumption))))
    clear hW
    have e0 := fun p => cell_ext p c0
    have e1 := fun p => cell_ext p c1
    refine wp_region_ext (by kernel_rfl) (by kernel_rfl) ?_
    repeat (go_big_quiet_step ((first
      | (go_at_call 60; exact Calls.ext_of (HR.out _))
      | (go_at_call_of 89 (Value.int IntKind.u64 d); exact Calls.ext_of (HX.out _))
      | (go_at_call_of 89 (Value.int IntKind.u64 n); exact Calls.ext_of (HY.out _))
      | (go_at_call 88; exact Calls.ext_of (HM.out _)))))
    refine wpQuiet_nil ?_
    rintro _ ⟨p1, rfl⟩
    have HB1 := Lib.hid (below_ext W p1)
    generalize ext W p1 = w1 at HB1 ⊢
    go_wp2
    go_ret
    exact ⟨by first | rfl | simp, HW.out.st HB1.out⟩

set_option maxHeartbeats 1000000 in
theorem refStretched_any (v n d base : Int) (w : World) (hv : W64 v) (hn : 0 ≤ n) (hb : W64 base) :
    Calls Tryd.prog 38 #[.int .u64 v, ratV n d, .int .u64 base] w fun e w' => e = .returned (.bool (stretchedR v n d base)) ∧ Below w.heap.size w w' := by
  have HR := Lib.hid (fun W => refRight_ratio n d W)
  unfold stretchedR
  cases h : rightR n d with
  | false =>
    rw [h] at HR
    clear h
    go_enter Tryd.func38, Tryd.ntmps38
    go_wp2_with fail
    obtain ⟨W, hW, c0, c1, hsW⟩ : ∃ W, W = w.alloc (Obj.cells #[.int .u64 n, .int .u64 d] 41) ∧ W.cell? ⟨w.heap.size, 0, none⟩ = some (.int .u64 n) ∧ W.cell? ⟨w.heap.size, 1, none⟩ = some (.int .u64 d) ∧ w.heap.size < W.heap.size := ⟨_, rfl, by go_simp, by go_simp, by simp⟩
    rw [← hW]
    have HW := Lib.hid (show Below w.heap.size w W by rw [hW]; repeat (first | exact Below.refl _ _ | refine Below.al ?_ _ | refine Below.dr ?_ _ | refine Below.drew ?_ | assumption | (refine Below.st ?_ (by assumption))))
    clear hW
    have e0 := fun p => cell_ext p c0
    have e1 := fun p => cell_ext p c1
    refine wp_region_ext (by kernel_rfl) (by kernel_rfl) ?_
    repeat (go_big_quiet_step ((go_at_call 60; exact Calls.ext_of (HR.out _))))
    refine wpQuiet_nil ?_
    rintro _ ⟨p1, rfl⟩
    have HB1 := Lib.hid (below_ext W p1)
    generalize ext W p1 = w1 at HB1 ⊢
    go_wp2
    go_ret
    exact ⟨rfl, HW.out.st HB1.out⟩
  | true =>
    obtain ⟨r1, r2, r3⟩ := rightR_of h
    rw [h] at HR
    clear h
    have hs : IntKind.u64.wrap (n + d) = n + d := IntWalk.u64_in _ (by omega)
    have HX := Lib.hid (fun W => times3_any v d W hv ⟨by omega, by omega⟩)
    have HY := Lib.hid (fun W => times3_any base (n + d) W hb ⟨by omega, by omega⟩)
    have HM := Lib.hid (fun W => most3_any (v * d / 18446744073709551616) (v * d / 4294967296 % 4294967296) (v * d % 4294967296) (base * (n + d) / 18446744073709551616) (base * (n + d) / 4294967296 % 4294967296) (base * (n + d) % 4294967296) W)
    rw [lex3_le] at HM
    rw [Bool.true_and]
    unfold triV at HX HY
    generalize v * d / 18446744073709551616 = x1 at *
    generalize v * d / 4294967296 % 4294967296 = x2 at *
    generalize v * d % 4294967296 = x3 at *
    generalize base * (n + d) / 18446744073709551616 = y1 at *
    generalize base * (n + d) / 4294967296 % 4294967296 = y2 at *
    generalize base * (n + d) % 4294967296 = y3 at *
    generalize decide (v * d ≤ base * (n + d)) = b at *
    clear hv hn hb
    go_enter Tryd.func38, Tryd.ntmps38
    go_wp2_with fail
    obtain ⟨W, hW, c0, c1, hsW⟩ : ∃ W, W = w.alloc (Obj.cells #[.int .u64 n, .int .u64 d] 41) ∧ W.cell? ⟨w.heap.size, 0, none⟩ = some (.int .u64 n) ∧ W.cell? ⟨w.heap.size, 1, none⟩ = some (.int .u64 d) ∧ w.heap.size < W.heap.size := ⟨_, rfl, by go_simp, by go_simp, by simp⟩
    rw [← hW]
    have HW := Lib.hid (show Below w.heap.size w W by rw [hW]; repeat (first | exact Below.refl _ _ | refine Below.al ?_ _ | refine Below.dr ?_ _ | refine Below.drew ?_ | assumption | (refine Below.st ?_ (by assumption))))
    clear hW
    have e0 := fun p => cell_ext p c0
    have e1 := fun p => cell_ext p c1
    refine wp_region_ext (by kernel_rfl) (by kernel_rfl) ?_
    repeat (go_big_quiet_step ((first
      | (go_at_call 60; exact Calls.ext_of (HR.out _))
      | (go_at_call_of 89 (Value.int IntKind.u64 d); exact Calls.ext_of (HX.out _))
      | (go_at_call_of 89 (Value.int IntKind.u64 (n + d)); exact Calls.ext_of (HY.out _))
      | (go_at_call 88; exact Calls.ext_of (HM.out _)))))
    refine wpQuiet_nil ?_
    rintro _ ⟨p1, rfl⟩
    have HB1 := Lib.hid (below_ext W p1)
    generalize ext W p1 = w1 at HB1 ⊢
    go_wp2
    go_ret
    exact ⟨by first | rfl | simp, HW.out.st HB1.out⟩

/-- the long division, digit by digit -/
theorem long_div {p d : Int} (hp : 0 ≤ p) (hd : 1 ≤ d) (d2 : d ≤ 1048576) (hq : p / 18446744073709551616 < 4294967296) : ∃ x0 x1 x2 q0 q1 q2 s0 s1 s2 : Int,
    x0 = p / 18446744073709551616 ∧ q0 = x0 / d ∧ s0 = x0 % d ∧ x1 = s0 * 4294967296 + p / 4294967296 % 4294967296 ∧ q1 = x1 / d ∧ s1 = x1 % d ∧ x2 = s1 * 4294967296 + p % 4294967296 ∧ q2 = x2 / d ∧ s2 = x2 % d ∧
    0 ≤ x0 ∧ x0 < 4294967296 ∧ 0 ≤ x1 ∧ x1 < 4503599627370496 ∧ 0 ≤ x2 ∧ x2 < 4503599627370496 ∧ 0 ≤ s0 ∧ s0 < d ∧ 0 ≤ s1 ∧ s1 < d ∧ 0 ≤ s2 ∧ s2 < d ∧ 0 ≤ q0 ∧ q0 < 4294967296 ∧ 0 ≤ q1 ∧ q1 < 4294967296 ∧ 0 ≤ q2 ∧ q2 < 4294967296 ∧
    p / d = q0 * 18446744073709551616 + q1 * 4294967296 + q2 ∧ p % d = s2 := by
  refine ⟨_, _, _, _, _, _, _, _, _, rfl, rfl, rfl, rfl, rfl, rfl, rfl, rfl, rfl, ?_⟩
  generalize hx0 : p / 18446744073709551616 = x0 at *
  generalize hm1 : p / 4294967296 % 4294967296 = m1 at *
  generalize hm0 : p % 4294967296 = m0 at *
  have e0 := Int.mul_ediv_add_emod x0 d
  have a0 := Int.emod_nonneg x0 (b := d) (by omega)
  have b0 := Int.emod_lt_of_pos x0 (show 0 < d by omega)
  have c0 : 0 ≤ x0 / d := Int.ediv_nonneg (by omega) (by omega)
  have g0 : x0 / d ≤ x0 := Int.ediv_le_self _ (by omega)
  generalize x0 / d = q0 at *
  generalize x0 % d = s0 at *
  have z1 : 0 ≤ s0 * 4294967296 + m1 := by omega
  have y1 : s0 * 4294967296 + m1 < 4294967296 * d := by omega
  have e1 := Int.mul_ediv_add_emod (s0 * 4294967296 + m1) d
  have a1 := Int.emod_nonneg (s0 * 4294967296 + m1) (b := d) (by omega)
  have b1 := Int.emod_lt_of_pos (s0 * 4294967296 + m1) (show 0 < d by omega)
  have c1 : 0 ≤ (s0 * 4294967296 + m1) / d := Int.ediv_nonneg z1 (by omega)
  have g1 : (s0 * 4294967296 + m1) / d < 4294967296 := Int.ediv_lt_of_lt_mul (by omega) (by omega)
  generalize (s0 * 4294967296 + m1) / d = q1 at *
  generalize (s0 * 4294967296 + m1) % d = s1 at *
  have z2 : 0 ≤ s1 * 4294967296 + m0 := by omega
  have y2 : s1 * 4294967296 + m0 < 4294967296 * d := by omega
  have e2 := Int.mul_ediv_add_emod (s1 * 4294967296 + m0) d
  have a2 := Int.emod_nonneg (s1 * 4294967296 + m0) (b := d) (by omega)
  have b2 := Int.emod_lt_of_pos (s1 * 4294967296 + m0) (show 0 < d by omega)
  have c2 : 0 ≤ (s1 * 4294967296 + m0) / d := Int.ediv_nonneg z2 (by omega)
  have g2 : (s1 * 4294967296 + m0) / d < 4294967296 := Int.ediv_lt_of_lt_mul (by omega) (by omega)
  generalize (s1 * 4294967296 + m0) / d = q2 at *
  generalize (s1 * 4294967296 + m0) % d = s2 at *
  have hp2 : p = d * (q0 * 18446744073709551616 + q1 * 4294967296 + q2) + s2 := by
    have : d * (q0 * 18446744073709551616 + q1 * 4294967296 + q2) = d * q0 * 18446744073709551616 + d * q1 * 4294967296 + d * q2 := by
      rw [Int.mul_add, Int.mul_add, Int.mul_assoc, Int.mul_assoc]
    omega
  refine ⟨by omega, by omega, z1, by omega, z2, by omega, a0, b0, a1, b1, a2, b2, c0, by omega, c1, g1, c2, g2, ?_, ?_⟩
  · rw [hp2, Int.add_comm, Int.add_mul_ediv_left _ _ (by omega), Int.ediv_eq_zero_of_lt a2 b2, Int.zero_add]
  · rw [hp2, Int.add_comm, Int.add_mul_emod_self_left, Int.emod_eq_of_lt a2 b2]

end Go.Proofs.YtfjplphdkfiljaaDoor
