/-
  The walk of math/bits.Div64 where the divisor has at most 21 bits, and of ratio.Up at every number.
-/
import Derived.Test.YtfjplphdkfiljaaDoorProg
import Derived.Test.YtfjplphdkfiljaaDoorRatioI
import Derived.Test.YtfjplphdkfiljaaDoorDivLaw
namespace Go.Proofs.YtfjplphdkfiljaaDoor
open Go.Proofs Go.RowKit Go.Shelf

theorem zeros_of {y : Int} (y0 : 1 ≤ y) (y1 : y ≤ 1048576) : ∃ lz : Nat, (64 : Int) - (Lib.bitLen y.toNat : Int) = (lz : Int) ∧ 43 ≤ lz ∧ lz ≤ 63 ∧ 9223372036854775808 ≤ y * 2 ^ lz ∧ y * 2 ^ lz < 18446744073709551616 := by
  obtain ⟨u, rfl⟩ := Int.eq_ofNat_of_zero_le (show 0 ≤ y by omega)
  have hb := Lib.bitLenAux_bounds 64 u (by omega) (by omega)
  have e : Lib.bitLen ((u : Int).toNat) = Lib.bitLenAux 64 u := rfl
  rw [e]
  generalize Lib.bitLenAux 64 u = L at *
  obtain ⟨h1, h2, h3⟩ := hb
  have hL : L ≤ 21 := by
    rcases Nat.lt_or_ge 21 L with h | h
    · have : 2 ^ 21 ≤ 2 ^ (L - 1) := Nat.pow_le_pow_right (by decide) (by omega)
      have e2 : (2 : Nat) ^ 21 = 2097152 := by decide
      omega
    · exact h
  refine ⟨64 - L, by omega, by omega, by omega, ?_, ?_⟩
  · have k : 2 ^ (L - 1) * 2 ^ (64 - L) ≤ u * 2 ^ (64 - L) := Nat.mul_le_mul_right _ h2
    rw [← Nat.pow_add, show L - 1 + (64 - L) = 63 by omega] at k
    have k2 : ((2 ^ 63 : Nat) : Int) ≤ ((u * 2 ^ (64 - L) : Nat) : Int) := by omega
    have k3 : ((u * 2 ^ (64 - L) : Nat) : Int) = (u : Int) * 2 ^ (64 - L) := by push_cast; rfl
    rw [k3] at k2
    exact k2
  · have k : u * 2 ^ (64 - L) < 2 ^ L * 2 ^ (64 - L) := Nat.mul_lt_mul_of_pos_right h3 (Nat.two_pow_pos _)
    rw [← Nat.pow_add, show L + (64 - L) = 64 by omega] at k
    have k2 : ((u * 2 ^ (64 - L) : Nat) : Int) < ((2 ^ 64 : Nat) : Int) := by omega
    have k3 : ((u * 2 ^ (64 - L) : Nat) : Int) = (u : Int) * 2 ^ (64 - L) := by push_cast; rfl
    rw [k3] at k2
    exact k2

set_option maxHeartbeats 4000000 in
set_option maxRecDepth 100000 in
theorem Div64_full (hi lo y : Int) (w : World) (h0 : 1 ≤ hi) (h1 : hi < y) (y1 : y ≤ 1048576) (hl : W64 lo) :
    Calls Tryd.prog 90 #[.int .u64 hi, .int .u64 lo, .int .u64 y] w fun e w' => e = .returned (.tuple #[.int .u64 ((hi * 18446744073709551616 + lo) / y), .int .u64 ((hi * 18446744073709551616 + lo) % y)]) ∧ Below w.heap.size w w' := by
  have HL := Lib.hid (fun W => Tryd.bits_LeadingZeros64 y W (by omega) (by omega))
  obtain ⟨lz, hlz, z0, z1, z2, z3⟩ := zeros_of (show 1 ≤ y by omega) y1
  rw [hlz] at HL
  obtain ⟨Y, yn1, A2, C, un32, un10, un1, un0, q1, T1, r1, R1, V1, M1, M2, M3, un21, q0, T2, s1, R2, V2, N1, quo, M4, M5, M6, rm, rem, F⟩ := div_law (by omega) h1 hl.1 hl.2 z0 z1 z2 z3
  obtain ⟨a1, a2, a3, a4, a5, a6, a7, a8, a9, b1, b2, b3, b4, b5, b6, b7, b8, b9, c1, c2, c3, c4, c5, c6, c7, c8, c9, d1, d2, d3, d4, d5, e1, e2, e3, e4, e5, f1, f2⟩ := F
  rw [← f1, ← f2]
  obtain ⟨e2a, e2b⟩ := e2
  obtain ⟨e3a, e3b⟩ := e3
  have hy0 : (y == 0) = false := by rw [beq_eq_false_iff_ne]; omega
  have hh0 : (hi == 0) = false := by rw [beq_eq_false_iff_ne]; omega
  have hyn : (yn1 == 0) = false := by rw [beq_eq_false_iff_ne]; exact e1
  have hy3 : ¬ y = 0 := by omega
  have hle : ¬ y ≤ hi := by omega
  have hV1 : ¬ V1 < 0 := by omega
  have hV2 : ¬ V2 < 0 := by omega
  have hq1 : ¬ 4294967296 ≤ q1 := by omega
  have hq0 : ¬ 4294967296 ≤ q0 := by omega
  have w0 : IntKind.u64.wrap 0 = 0 := by rw [wrap_mod]; rfl
  clear f1 f2 hlz hl z2 z3
  go_enter Tryd.func90, Tryd.ntmps90
  go_wp2_with (go_at_call 117; refine (HL.out _).mono ?_; rintro e w' ⟨rfl, rfl⟩)
  refine wp_loop_rounds 1 ?_
  rw [rounds_succ]
  go_wp2
  refine wp_loop_rounds 1 ?_
  rw [rounds_succ]
  go_wp2
  go_ret2
  exact ⟨rfl, by repeat (first | exact Below.refl _ _ | refine Below.al ?_ _ | refine Below.dr ?_ _ | refine Below.drew ?_ | assumption | (refine Below.st ?_ (by assumption)))⟩

theorem Div64_any (hi lo d : Int) (w : World) (h0 : 0 ≤ hi) (h1 : hi < d) (y1 : d ≤ 1048576) (hl : W64 lo) :
    Calls Tryd.prog 90 #[.int .u64 hi, .int .u64 lo, .int .u64 d] w fun e w' => e = .returned (.tuple #[.int .u64 ((hi * 18446744073709551616 + lo) / d), .int .u64 ((hi * 18446744073709551616 + lo) % d)]) ∧ Below w.heap.size w w' := by
  by_cases h : hi = 0
  · subst h
    have := Div64_small lo d w hl ⟨by omega, y1⟩
    rw [Int.zero_mul, Int.zero_add]
    exact this
  · exact Div64_full hi lo d w (by omega) h1 y1 hl

set_option maxHeartbeats 2000000 in
theorem Up_any (v n d most : Int) (w : World) (hv : W64 v) (hn : 0 ≤ n) :
    Calls Tryd.prog 39 #[.int .u64 v, ratV n d, .int .u64 most] w fun e w' => e = .returned (.int .u64 (upR v n d most)) ∧ Below w.heap.size w w' := by
  have HR := Lib.hid (fun W => Right_any n d W hn)
  cases h : rightR n d with
  | false =>
    have HU := Lib.hid (show upR v n d most = 0 by unfold upR; rw [h]; rfl)
    rw [h] at HR
    clear h
    generalize upR v n d most = r at *
    go_enter Tryd.func39, Tryd.ntmps39
    go_wp2_with (go_at_call 46; refine (HR.out _).mono ?_; rintro e w1 ⟨rfl, hb1⟩)
    go_ret
    exact ⟨by rw [HU.out]; rfl, (Below.of_al _ _).st hb1⟩
  | true =>
    obtain ⟨r1, r2, r3⟩ := rightR_of h
    obtain ⟨hp0, hph⟩ := prod_hi hv hn r1
    obtain ⟨g1, g2⟩ := upQ_split hp0 r2
    have HX := Lib.hid (fun W => times_any v n hv ⟨hn, by omega⟩ W)
    have HU : upR v n d most = (if 18446744073709551616 ≤ (v * n + d - 1) / d then most else min ((v * n + d - 1) / d) most) := by unfold upR upQ; rw [h]; rfl
    rw [h] at HR
    clear h
    have hP : v * n / 18446744073709551616 * 18446744073709551616 + v * n % 18446744073709551616 = v * n := by omega
    have hq1 := Int.mul_ediv_add_emod (v * n) d
    have hq2 := Int.emod_nonneg (v * n) (b := d) (by omega)
    have hq3 := Int.emod_lt_of_pos (v * n) (show 0 < d by omega)
    have hq4 : 0 ≤ v * n / d := Int.ediv_nonneg hp0 (by omega)
    have hh0 : 0 ≤ v * n / 18446744073709551616 := by omega
    have hl0 : W64 (v * n % 18446744073709551616) := ⟨by omega, by omega⟩
    generalize v * n / 18446744073709551616 = hi at *
    generalize v * n % 18446744073709551616 = lo at *
    generalize hpp : v * n = p at *
    generalize upR v n d most = r at *
    by_cases hA : d ≤ hi
    · have HU2 := Lib.hid (show r = most by
        rw [HU, if_pos]
        have k : 18446744073709551616 ≤ p / d := by
          rcases Int.lt_or_le (p / d) 18446744073709551616 with h | h
          · have : d * (p / d) ≤ d * 18446744073709551615 := Int.mul_le_mul_of_nonneg_left (by omega) (by omega)
            have := hl0.1
            omega
          · exact h
        by_cases hz : p % d = 0
        · rw [g1 hz]; exact k
        · rw [(g2 (by omega)).1]; omega)
      clear HU g1 g2 hq1 hq2 hq3 hq4 hpp hP hp0
      go_enter Tryd.func39, Tryd.ntmps39
      go_wp2_with fail
      obtain ⟨W, hW, c0, c1, hsW⟩ : ∃ W, W = w.alloc (Obj.cells #[.int .u64 n, .int .u64 d] 41) ∧ W.cell? ⟨w.heap.size, 0, none⟩ = some (.int .u64 n) ∧ W.cell? ⟨w.heap.size, 1, none⟩ = some (.int .u64 d) ∧ w.heap.size < W.heap.size := ⟨_, rfl, by go_simp, by go_simp, by simp⟩
      rw [← hW]
      have HW := Lib.hid (show Below w.heap.size w W by rw [hW]; repeat (first | exact Below.refl _ _ | refine Below.al ?_ _ | refine Below.dr ?_ _ | refine Below.drew ?_ | assumption | (refine Below.st ?_ (by assumption))))
      clear hW
      have e0 := fun p => cell_ext p c0
      have e1 := fun p => cell_ext p c1
      refine (HR.out _).mono ?_
      rintro e w1 ⟨rfl, hb1⟩
      have d0 := cell_later hb1 c0
      have d1 := cell_later hb1 c1
      have HW1 := Lib.hid (HW.out.st hb1)
      clear c0 c1 e0 e1 hb1 HW
      go_wp2_with fail
      refine (HX.out _).mono ?_
      rintro e w2 ⟨rfl, hb2⟩
      have HW2 := Lib.hid (HW1.out.st hb2)
      have c0 := cell_later hb2 d0
      have c1 := cell_later hb2 d1
      have k0 := fun o => cell_later (Below.of_al w2 o) c0
      have k1 := fun o => cell_later (Below.of_al w2 o) c1
      clear d0 d1 hb2 HW1
      go_wp2
      go_ret
      exact ⟨by rw [HU2.out]; rfl, HW2.out.al _⟩
    · have HD := Lib.hid (fun W => Div64_any hi lo d W hh0 (by omega) r3 hl0)
      rw [hP] at HD
      have hqlt : p / d < 18446744073709551616 := Int.ediv_lt_of_lt_mul (by omega) (by
        have : (hi + 1) * 18446744073709551616 ≤ d * 18446744073709551616 := Int.mul_le_mul_of_nonneg_right (by omega) (by decide)
        have := hl0.2
        omega)
      have hA2 : ¬ d ≤ hi := hA
      by_cases hz : p % d = 0
      · rw [g1 hz, if_neg (by omega)] at HU
        have HU2 := Lib.hid HU
        rw [hz] at HD
        have HC := Lib.hid (fun W => Cap_any (p / d) most W)
        clear HU g1 g2 hz hq1 hq2 hq3 hpp hP hp0
        generalize p / d = q at *
        go_enter Tryd.func39, Tryd.ntmps39
        go_wp2_with fail
        obtain ⟨W, hW, c0, c1, hsW⟩ : ∃ W, W = w.alloc (Obj.cells #[.int .u64 n, .int .u64 d] 41) ∧ W.cell? ⟨w.heap.size, 0, none⟩ = some (.int .u64 n) ∧ W.cell? ⟨w.heap.size, 1, none⟩ = some (.int .u64 d) ∧ w.heap.size < W.heap.size := ⟨_, rfl, by go_simp, by go_simp, by simp⟩
        rw [← hW]
        have HW := Lib.hid (show Below w.heap.size w W by rw [hW]; repeat (first | exact Below.refl _ _ | refine Below.al ?_ _ | refine Below.dr ?_ _ | refine Below.drew ?_ | assumption | (refine Below.st ?_ (by assumption))))
        clear hW
        have e0 := fun p => cell_ext p c0
        have e1 := fun p => cell_ext p c1
        refine (HR.out _).mono ?_
        rintro e w1 ⟨rfl, hb1⟩
        have d0 := cell_later hb1 c0
        have d1 := cell_later hb1 c1
        have HW1 := Lib.hid (HW.out.st hb1)
        have hs1 : w.heap.size < w1.heap.size := by have := hb1.size; omega
        clear c0 c1 e0 e1 hb1 HW hsW
        go_wp2_with fail
        refine (HX.out _).mono ?_
        rintro e w2 ⟨rfl, hb2⟩
        have c0 := cell_later hb2 d0
        have c1 := cell_later hb2 d1
        have HW2 := Lib.hid (HW1.out.st hb2)
        have k0 := fun o => cell_later (Below.of_al w2 o) c0
        have k1 := fun o => cell_later (Below.of_al w2 o) c1
        clear d0 d1 hb2 HW1
        go_wp2_with fail
        refine (HD.out _).mono ?_
        rintro e w3 ⟨rfl, hb3⟩
        have HW3 := Lib.hid ((HW2.out.al _).st hb3)
        clear hb3
        go_wp2_with (first
          | simp only [HA]
          | (go_at_call 32; refine (HC.out _).mono ?_; rintro e w4 ⟨rfl, rfl⟩))
        go_ret
        exact ⟨by rw [HU2.out]; rfl, HW3.out⟩
      · obtain ⟨g3, g4, g5⟩ := g2 (by omega)
        rw [g3] at HU
        have HA := fun W => add64_0 (p / d) 1 hq4 (by decide) W
        have q3 : 0 < p % d := by omega
        by_cases ho : p / d + 1 < 18446744073709551616
        · rw [if_neg (by omega)] at HU
          have HU2 := Lib.hid HU
          have HC := Lib.hid (fun W => Cap_any (p / d + 1) most W)
          rw [show (p / d + 1) % 18446744073709551616 = p / d + 1 by omega, show (p / d + 1) / 18446744073709551616 = 0 by omega] at HA
          clear HU g1 g2 hz g3 g4 hq1 hq2 hq3 hpp hP hp0
          generalize p % d = y at *
          generalize p / d + 1 = q' at *
          generalize p / d = q at *
          go_enter Tryd.func39, Tryd.ntmps39
          go_wp2_with fail
          obtain ⟨W, hW, c0, c1, hsW⟩ : ∃ W, W = w.alloc (Obj.cells #[.int .u64 n, .int .u64 d] 41) ∧ W.cell? ⟨w.heap.size, 0, none⟩ = some (.int .u64 n) ∧ W.cell? ⟨w.heap.size, 1, none⟩ = some (.int .u64 d) ∧ w.heap.size < W.heap.size := ⟨_, rfl, by go_simp, by go_simp, by simp⟩
          rw [← hW]
          have HW := Lib.hid (show Below w.heap.size w W by rw [hW]; repeat (first | exact Below.refl _ _ | refine Below.al ?_ _ | refine Below.dr ?_ _ | refine Below.drew ?_ | assumption | (refine Below.st ?_ (by assumption))))
          clear hW
          have e0 := fun p => cell_ext p c0
          have e1 := fun p => cell_ext p c1
          refine (HR.out _).mono ?_
          rintro e w1 ⟨rfl, hb1⟩
          have d0 := cell_later hb1 c0
          have d1 := cell_later hb1 c1
          have HW1 := Lib.hid (HW.out.st hb1)
          have hs1 : w.heap.size < w1.heap.size := by have := hb1.size; omega
          clear c0 c1 e0 e1 hb1 HW hsW
          go_wp2_with fail
          refine (HX.out _).mono ?_
          rintro e w2 ⟨rfl, hb2⟩
          have c0 := cell_later hb2 d0
          have c1 := cell_later hb2 d1
          have HW2 := Lib.hid (HW1.out.st hb2)
          have k0 := fun o => cell_later (Below.of_al w2 o) c0
          have k1 := fun o => cell_later (Below.of_al w2 o) c1
          clear d0 d1 hb2 HW1
          go_wp2_with fail
          refine (HD.out _).mono ?_
          rintro e w3 ⟨rfl, hb3⟩
          have HW3 := Lib.hid ((HW2.out.al _).st hb3)
          clear hb3
          go_wp2_with (first
            | simp only [HA]
            | (go_at_call 32; refine (HC.out _).mono ?_; rintro e w4 ⟨rfl, rfl⟩))
          go_ret
          exact ⟨by rw [HU2.out]; rfl, HW3.out⟩
        · rw [if_pos (by omega)] at HU
          have HU2 := Lib.hid HU
          have HC := Lib.hid (fun W => Cap_any 0 most W)
          rw [show (p / d + 1) % 18446744073709551616 = 0 by omega, show (p / d + 1) / 18446744073709551616 = 1 by omega] at HA
          clear HU g1 g2 hz g3 g4 hq1 hq2 hq3 hpp hP hp0
          generalize p % d = y at *
          generalize p / d = q at *
          go_enter Tryd.func39, Tryd.ntmps39
          go_wp2_with fail
          obtain ⟨W, hW, c0, c1, hsW⟩ : ∃ W, W = w.alloc (Obj.cells #[.int .u64 n, .int .u64 d] 41) ∧ W.cell? ⟨w.heap.size, 0, none⟩ = some (.int .u64 n) ∧ W.cell? ⟨w.heap.size, 1, none⟩ = some (.int .u64 d) ∧ w.heap.size < W.heap.size := ⟨_, rfl, by go_simp, by go_simp, by simp⟩
          rw [← hW]
          have HW := Lib.hid (show Below w.heap.size w W by rw [hW]; repeat (first | exact Below.refl _ _ | refine Below.al ?_ _ | refine Below.dr ?_ _ | refine Below.drew ?_ | assumption | (refine Below.st ?_ (by assumption))))
          clear hW
          have e0 := fun p => cell_ext p c0
          have e1 := fun p => cell_ext p c1
          refine (HR.out _).mono ?_
          rintro e w1 ⟨rfl, hb1⟩
          have d0 := cell_later hb1 c0
          have d1 := cell_later hb1 c1
          have HW1 := Lib.hid (HW.out.st hb1)
          have hs1 : w.heap.size < w1.heap.size := by have := hb1.size; omega
          clear c0 c1 e0 e1 hb1 HW hsW
          go_wp2_with fail
          refine (HX.out _).mono ?_
          rintro e w2 ⟨rfl, hb2⟩
          have c0 := cell_later hb2 d0
          have c1 := cell_later hb2 d1
          have HW2 := Lib.hid (HW1.out.st hb2)
          have k0 := fun o => cell_later (Below.of_al w2 o) c0
          have k1 := fun o => cell_later (Below.of_al w2 o) c1
          clear d0 d1 hb2 HW1
          go_wp2_with fail
          refine (HD.out _).mono ?_
          rintro e w3 ⟨rfl, hb3⟩
          have HW3 := Lib.hid ((HW2.out.al _).st hb3)
          clear hb3
          go_wp2_with (first
            | simp only [HA]
            | (go_at_call 32; refine (HC.out _).mono ?_; rintro e w4 ⟨rfl, rfl⟩))
          go_ret
          exact ⟨by rw [HU2.out]; rfl, HW3.out⟩

end Go.Proofs.YtfjplphdkfiljaaDoor
