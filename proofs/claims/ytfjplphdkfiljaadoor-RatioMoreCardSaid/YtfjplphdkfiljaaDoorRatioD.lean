/-
  Walks: the text of a ratio, and what a number comes to, where the product has 64 bits; the example.
-/
import Derived.Test.YtfjplphdkfiljaaDoorProg
import Derived.Test.YtfjplphdkfiljaaDoorRatioC
import Derived.Test.YtfjplphdkfiljaaDoorNumLaw
namespace Go.Proofs.YtfjplphdkfiljaaDoor
open Go.Proofs Go.RowKit Go.Shelf

/-- the text of a ratio -/
def ratioT (n d : Int) : ByteArray := if rightR n d then (printI n ++ ⟨#[47]⟩) ++ printI d else ByteArray.empty

set_option maxHeartbeats 1000000 in
theorem RPrint_any (n d : Int) (w : World) (hn : 0 ≤ n) (ht : Pow10 w) :
    Calls Tryd.prog 61 #[ratV n d] w fun e w' => e = .returned (.string (ratioT n d)) ∧ Below w.heap.size w w' := by
  have HR := Lib.hid (fun W => Right_any n d W hn)
  have HT := Lib.hid ht
  unfold ratioT
  cases h : rightR n d with
  | false =>
    rw [h] at HR
    clear h ht
    go_enter Tryd.func61, Tryd.ntmps61
    go_wp2_with (go_at_call 46; refine (HR.out _).mono ?_; rintro e w1 ⟨rfl, hb1⟩)
    go_ret
    exact ⟨rfl, (Below.of_al _ _).st hb1⟩
  | true =>
    obtain ⟨r1, r2, r3⟩ := rightR_of h
    rw [h] at HR
    clear h ht
    have HX := Lib.hid (fun W h => Print_any n hn (by omega) W h)
    have HY := Lib.hid (fun W h => Print_any d (by omega) (by omega) W h)
    have z1 := printI_size_le hn (show n < 18446744073709551616 by omega)
    have z2 := printI_size_le (show 0 ≤ d by omega) (show d < 18446744073709551616 by omega)
    rw [if_pos rfl]
    generalize printI n = p1 at *
    generalize printI d = p2 at *
    go_enter Tryd.func61, Tryd.ntmps61
    go_wp2_with fail
    obtain ⟨W, hW, c0, c1, hsW⟩ : ∃ W, W = w.alloc (Obj.cells #[.int .u64 n, .int .u64 d] 41) ∧ W.cell? ⟨w.heap.size, 0, none⟩ = some (.int .u64 n) ∧ W.cell? ⟨w.heap.size, 1, none⟩ = some (.int .u64 d) ∧ w.heap.size < W.heap.size := ⟨_, rfl, by go_simp, by go_simp, by simp⟩
    rw [← hW]
    have HW := Lib.hid (show Below w.heap.size w W by rw [hW]; repeat (first | exact Below.refl _ _ | refine Below.al ?_ _ | refine Below.dr ?_ _ | refine Below.drew ?_ | assumption | (refine Below.st ?_ (by assumption))))
    clear hW
    have e0 := fun p => cell_ext p c0
    have e1 := fun p => cell_ext p c1
    refine (HR.out _).mono ?_
    rintro e w1 ⟨rfl, hb1⟩
    have d0 := cell_later hb1 c0
    have d1 := cell_later hb1 c1
    have HW1 := Lib.hid (HW.out.st hb1)
    clear c0 c1 e0 e1 hb1
    have e0 := fun p => cell_ext p d0
    have e1 := fun p => cell_ext p d1
    have XT := Lib.hid (fun p => tabIs_go HT.out (HW1.out.st (below_ext w1 p)))
    go_wp2_with fail
    refine wp_region_ext (by kernel_rfl) (by kernel_rfl) ?_
    repeat (go_big_quiet_step ((first
      | (go_at_call_of 19 (Value.int IntKind.u64 n); exact Calls.ext_of (HX.out _ (XT.out _)))
      | (go_at_call_of 19 (Value.int IntKind.u64 d); exact Calls.ext_of (HY.out _ (XT.out _))))))
    refine wpQuiet_nil ?_
    rintro _ ⟨p2, rfl⟩
    have HB2 := Lib.hid (below_ext w1 p2)
    generalize ext w1 p2 = w2 at HB2 ⊢
    go_wp2
    go_ret
    exact ⟨by first | rfl | simp, HW1.out.st HB2.out⟩

set_option maxHeartbeats 1000000 in
theorem refRPrint_any (n d : Int) (w : World) (hn : 0 ≤ n) :
    Calls Tryd.prog 62 #[ratV n d] w fun e w' => e = .returned (.string (ratioT n d)) ∧ Below w.heap.size w w' := by
  have HR := Lib.hid (fun W => refRight_ratio n d W)
  unfold ratioT
  cases h : rightR n d with
  | false =>
    rw [h] at HR
    clear h
    go_enter Tryd.func62, Tryd.ntmps62
    go_wp2_with (go_at_call 60; refine (HR.out _).mono ?_; rintro e w1 ⟨rfl, hb1⟩)
    go_ret
    exact ⟨rfl, (Below.of_al _ _).st hb1⟩
  | true =>
    obtain ⟨r1, r2, r3⟩ := rightR_of h
    rw [h] at HR
    clear h
    have HX := Lib.hid (fun W => refPrint_any n hn (by omega) W)
    have HY := Lib.hid (fun W => refPrint_any d (by omega) (by omega) W)
    have z1 := printI_size_le hn (show n < 18446744073709551616 by omega)
    have z2 := printI_size_le (show 0 ≤ d by omega) (show d < 18446744073709551616 by omega)
    rw [if_pos rfl]
    generalize printI n = p1 at *
    generalize printI d = p2 at *
    go_enter Tryd.func62, Tryd.ntmps62
    go_wp2_with fail
    obtain ⟨W, hW, c0, c1, hsW⟩ : ∃ W, W = w.alloc (Obj.cells #[.int .u64 n, .int .u64 d] 41) ∧ W.cell? ⟨w.heap.size, 0, none⟩ = some (.int .u64 n) ∧ W.cell? ⟨w.heap.size, 1, none⟩ = some (.int .u64 d) ∧ w.heap.size < W.heap.size := ⟨_, rfl, by go_simp, by go_simp, by simp⟩
    rw [← hW]
    have HW := Lib.hid (show Below w.heap.size w W by rw [hW]; repeat (first | exact Below.refl _ _ | refine Below.al ?_ _ | refine Below.dr ?_ _ | refine Below.drew ?_ | assumption | (refine Below.st ?_ (by assumption))))
    clear hW
    have e0 := fun p => cell_ext p c0
    have e1 := fun p => cell_ext p c1
    refine (HR.out _).mono ?_
    rintro e w1 ⟨rfl, hb1⟩
    have d0 := cell_later hb1 c0
    have d1 := cell_later hb1 c1
    have HW1 := Lib.hid (HW.out.st hb1)
    clear c0 c1 e0 e1 hb1
    have e0 := fun p => cell_ext p d0
    have e1 := fun p => cell_ext p d1
    go_wp2_with fail
    refine wp_region_ext (by kernel_rfl) (by kernel_rfl) ?_
    repeat (go_big_quiet_step ((first
      | (go_at_call_of 27 (Value.int IntKind.u64 n); exact Calls.ext_of (HX.out _))
      | (go_at_call_of 27 (Value.int IntKind.u64 d); exact Calls.ext_of (HY.out _)))))
    refine wpQuiet_nil ?_
    rintro _ ⟨p2, rfl⟩
    have HB2 := Lib.hid (below_ext w1 p2)
    generalize ext w1 p2 = w2 at HB2 ⊢
    go_wp2
    go_ret
    exact ⟨by first | rfl | simp, HW1.out.st HB2.out⟩

theorem Div64_small (p d : Int) (w : World) (hp : W64 p) (hd : 1 ≤ d ∧ d ≤ 1048576) :
    Calls Tryd.prog 90 #[.int .u64 0, .int .u64 p, .int .u64 d] w fun e w' => e = .returned (.tuple #[.int .u64 (p / d), .int .u64 (p % d)]) ∧ Below w.heap.size w w' := by
  obtain ⟨p0, p1⟩ := hp
  obtain ⟨d0, d1⟩ := hd
  have hq : Int.tdiv p d = p / d := Int.tdiv_eq_ediv_of_nonneg p0
  have hr : Int.tmod p d = p % d := Int.tmod_eq_emod_of_nonneg p0
  have q0 : 0 ≤ p / d := Int.ediv_nonneg p0 (by omega)
  have q1 : p / d ≤ p := Int.ediv_le_self _ p0
  have q2 : 0 ≤ p % d := Int.emod_nonneg p (by omega)
  have q3 : p % d < d := Int.emod_lt_of_pos p (by omega)
  have v1 : IntKind.u64.wrap (p / d) = p / d := IntWalk.u64_in _ (by omega)
  have v2 : IntKind.u64.wrap (p % d) = p % d := IntWalk.u64_in _ (by omega)
  have hb0 : (d == 0) = false := by rw [beq_eq_false_iff_ne]; omega
  have hb3 : ¬ d = 0 := by omega
  have hb4 : ¬ d ≤ 0 := by omega
  generalize p / d = x at *
  generalize p % d = y at *
  go_enter Tryd.func90, Tryd.ntmps90
  go_wp2
  go_quiet (fail)
  go_wp2
  go_ret2
  exact ⟨by first | rfl | simp, Below.of_dr _ _⟩

theorem upQ_split {p d : Int} (hp : 0 ≤ p) (hd : 1 ≤ d) : (p % d = 0 → (p + d - 1) / d = p / d) ∧ (0 < p % d → (p + d - 1) / d = p / d + 1 ∧ 2 ≤ d ∧ 2 * (p / d) ≤ p) := by
  have h1 := Int.mul_ediv_add_emod p d
  have h2 := Int.emod_nonneg p (b := d) (by omega)
  have h3 := Int.emod_lt_of_pos p (b := d) (by omega)
  constructor
  · intro h
    have e : p + d - 1 = (d - 1) + d * (p / d) := by omega
    rw [e, Int.add_mul_ediv_left _ _ (by omega), Int.ediv_eq_zero_of_lt (by omega) (by omega)]
    omega
  · intro h
    have e : p + d - 1 = (p % d - 1) + d * (p / d + 1) := by rw [Int.mul_add]; omega
    refine ⟨?_, by omega, ?_⟩
    · rw [e, Int.add_mul_ediv_left _ _ (by omega), Int.ediv_eq_zero_of_lt (by omega) (by omega)]
      omega
    · have h4 : 0 ≤ p / d := Int.ediv_nonneg hp (by omega)
      have h5 : 2 * (p / d) ≤ d * (p / d) := Int.mul_le_mul_of_nonneg_right (by omega) h4
      omega

set_option maxHeartbeats 1000000 in
theorem Up_small (v n d most : Int) (w : World) (hv : W64 v) (hn : 0 ≤ n) (hp : v * n < 18446744073709551616) :
    Calls Tryd.prog 39 #[.int .u64 v, ratV n d, .int .u64 most] w fun e w' => e = .returned (.int .u64 (upR v n d most)) ∧ Below w.heap.size w w' := by
  have HR := Lib.hid (fun W => Right_any n d W hn)
  cases h : rightR n d with
  | false =>
    have HU := Lib.hid (show upR v n d most = 0 by unfold upR; rw [h]; rfl)
    rw [h] at HR
    clear h
    generalize upR v n d most = r at *
    go_enter Tryd.func39, Tryd.ntmps39
    go_wp2_with (go_at_call 46; refine (HR.out _).mono ?_; rintro e w1 ⟨rfl, hb1⟩)
    go_ret
    exact ⟨by rw [HU.out]; rfl, (Below.of_al _ _).st hb1⟩
  | true =>
    obtain ⟨r1, r2, r3⟩ := rightR_of h
    have hp0 := Int.mul_nonneg hv.1 hn
    obtain ⟨g1, g2⟩ := upQ_split hp0 r2
    have HX := Lib.hid (fun W => times_any v n hv ⟨hn, by omega⟩ W)
    rw [show v * n / 18446744073709551616 = 0 by omega, show v * n % 18446744073709551616 = v * n by omega] at HX
    have HD := Lib.hid (fun W => Div64_small (v * n) d W ⟨hp0, hp⟩ ⟨r2, r3⟩)
    have q0 : 0 ≤ v * n / d := Int.ediv_nonneg hp0 (by omega)
    have q1 : v * n / d ≤ v * n := Int.ediv_le_self _ hp0
    have q2 : 0 ≤ v * n % d := Int.emod_nonneg _ (by omega)
    have HU : upR v n d most = (if 18446744073709551616 ≤ (v * n + d - 1) / d then most else min ((v * n + d - 1) / d) most) := by unfold upR upQ; rw [h]; rfl
    rw [h] at HR
    clear h
    by_cases hz : v * n % d = 0
    · rw [g1 hz, if_neg (by omega)] at HU
      have HU2 := Lib.hid HU
      rw [hz] at HD
      have HC := Lib.hid (fun W => Cap_any (v * n / d) most W)
      clear HU g1 g2 hz q2
      generalize v * n / d = q at *
      generalize v * n = p at *
      generalize upR v n d most = r at *
      go_enter Tryd.func39, Tryd.ntmps39
      go_wp2_with fail
      obtain ⟨W, hW, c0, c1, hsW⟩ : ∃ W, W = w.alloc (Obj.cells #[.int .u64 n, .int .u64 d] 41) ∧ W.cell? ⟨w.heap.size, 0, none⟩ = some (.int .u64 n) ∧ W.cell? ⟨w.heap.size, 1, none⟩ = some (.int .u64 d) ∧ w.heap.size < W.heap.size := ⟨_, rfl, by go_simp, by go_simp, by simp⟩
      rw [← hW]
      have HW := Lib.hid (show Below w.heap.size w W by rw [hW]; repeat (first | exact Below.refl _ _ | refine Below.al ?_ _ | refine Below.dr ?_ _ | refine Below.drew ?_ | assumption | (refine Below.st ?_ (by assumption))))
      clear hW
      have e0 := fun p => cell_ext p c0
      have e1 := fun p => cell_ext p c1
      refine (HR.out _).mono ?_
      rintro e w1 ⟨rfl, hb1⟩
      have d0 := cell_later hb1 c0
      have d1 := cell_later hb1 c1
      have HW1 := Lib.hid (HW.out.st hb1)
      have hs1 : w.heap.size < w1.heap.size := by have := hb1.size; omega
      clear c0 c1 e0 e1 hb1 HW hsW
      go_wp2_with fail
      refine (HX.out _).mono ?_
      rintro e w2 ⟨rfl, hb2⟩
      have c0 := cell_later hb2 d0
      have c1 := cell_later hb2 d1
      have HW2 := Lib.hid (HW1.out.st hb2)
      have k0 := fun o => cell_later (Below.of_al w2 o) c0
      have k1 := fun o => cell_later (Below.of_al w2 o) c1
      clear d0 d1 hb2 HW1
      go_wp2_with fail
      refine (HD.out _).mono ?_
      rintro e w3 ⟨rfl, hb3⟩
      have HW3 := Lib.hid ((HW2.out.al _).st hb3)
      clear hb3
      go_wp2_with (first
        | simp only [HA]
        | (go_at_call 32; refine (HC.out _).mono ?_; rintro e w4 ⟨rfl, rfl⟩))
      go_ret
      exact ⟨by rw [HU2.out]; rfl, HW3.out⟩
    · obtain ⟨g3, g4, g5⟩ := g2 (by omega)
      rw [g3, if_neg (by omega)] at HU
      have HU2 := Lib.hid HU
      have HC := Lib.hid (fun W => Cap_any (v * n / d + 1) most W)
      have HA := fun W => add64_0 (v * n / d) 1 q0 (by decide) W
      rw [show (v * n / d + 1) % 18446744073709551616 = v * n / d + 1 by omega, show (v * n / d + 1) / 18446744073709551616 = 0 by omega] at HA
      have q3 : 0 < v * n % d := by omega
      clear HU g1 g2 hz g3 g4
      generalize v * n % d = y at *
      generalize v * n / d + 1 = q' at *
      generalize v * n / d = q at *
      generalize v * n = p at *
      generalize upR v n d most = r at *
      go_enter Tryd.func39, Tryd.ntmps39
      go_wp2_with fail
      obtain ⟨W, hW, c0, c1, hsW⟩ : ∃ W, W = w.alloc (Obj.cells #[.int .u64 n, .int .u64 d] 41) ∧ W.cell? ⟨w.heap.size, 0, none⟩ = some (.int .u64 n) ∧ W.cell? ⟨w.heap.size, 1, none⟩ = some (.int .u64 d) ∧ w.heap.size < W.heap.size := ⟨_, rfl, by go_simp, by go_simp, by simp⟩
      rw [← hW]
      have HW := Lib.hid (show Below w.heap.size w W by rw [hW]; repeat (first | exact Below.refl _ _ | refine Below.al ?_ _ | refine Below.dr ?_ _ | refine Below.drew ?_ | assumption | (refine Below.st ?_ (by assumption))))
      clear hW
      have e0 := fun p => cell_ext p c0
      have e1 := fun p => cell_ext p c1
      refine (HR.out _).mono ?_
      rintro e w1 ⟨rfl, hb1⟩
      have d0 := cell_later hb1 c0
      have d1 := cell_later hb1 c1
      have HW1 := Lib.hid (HW.out.st hb1)
      have hs1 : w.heap.size < w1.heap.size := by have := hb1.size; omega
      clear c0 c1 e0 e1 hb1 HW hsW
      go_wp2_with fail
      refine (HX.out _).mono ?_
      rintro e w2 ⟨rfl, hb2⟩
      have c0 := cell_later hb2 d0
      have c1 := cell_later hb2 d1
      have HW2 := Lib.hid (HW1.out.st hb2)
      have k0 := fun o => cell_later (Below.of_al w2 o) c0
      have k1 := fun o => cell_later (Below.of_al w2 o) c1
      clear d0 d1 hb2 HW1
      go_wp2_with fail
      refine (HD.out _).mono ?_
      rintro e w3 ⟨rfl, hb3⟩
      have HW3 := Lib.hid ((HW2.out.al _).st hb3)
      clear hb3
      go_wp2_with (first
        | simp only [HA]
        | (go_at_call 32; refine (HC.out _).mono ?_; rintro e w4 ⟨rfl, rfl⟩))
      go_ret
      exact ⟨by rw [HU2.out]; rfl, HW3.out⟩

theorem const_r1 : withinR 3 3 4 4 = true := by decide
theorem const_r2 : upR 3 3 2 100 = 5 := by decide
theorem const_r3 : ratioT 1 2 = ⟨#[49, 47, 50]⟩ := by
  unfold ratioT
  rw [if_pos (by decide)]
  unfold printI
  rw [show (1 : Int).toNat = 1 from rfl, show (2 : Int).toNat = 2 from rfl, Lib.decDigits_one (by decide), Lib.decDigits_one (by decide)]
  rfl

set_option maxHeartbeats 1000000 in
theorem alive02_any (w : World) (ht : Pow10 w) : Calls Tryd.prog 41 #[] w fun e w' => e = .returned (.bool true) ∧ Below w.heap.size w w' := by
  have H1 := Lib.hid (fun W => Within_any 3 3 4 4 W ⟨by decide, by decide⟩ (by decide) ⟨by decide, by decide⟩)
  rw [const_r1] at H1
  have H2 := Lib.hid (fun W => Up_small 3 3 2 100 W ⟨by decide, by decide⟩ (by decide) (by decide))
  rw [const_r2] at H2
  have H3 := Lib.hid (fun W h => RPrint_any 1 2 W (by decide) h)
  rw [const_r3] at H3
  have HT := Lib.hid ht
  clear ht
  go_enter Tryd.func41, Tryd.ntmps41
  go_wp2_with (first
    | (go_at_call 35; refine (H1.out _).mono ?_; rintro e w1 ⟨rfl, hb1⟩; (have HB1 := Lib.hid hb1; clear hb1))
    | (go_at_call 39; refine (H2.out _).mono ?_; rintro e w2 ⟨rfl, hb2⟩; (have HB2 := Lib.hid (HB1.out.st hb2); clear hb2))
    | (go_at_call 61; refine (H3.out _ (tabIs_go HT.out HB2.out)).mono ?_; rintro e w3 ⟨rfl, hb3⟩))
  go_ret
  exact ⟨rfl, HB2.out.st hb3⟩

end Go.Proofs.YtfjplphdkfiljaaDoor
