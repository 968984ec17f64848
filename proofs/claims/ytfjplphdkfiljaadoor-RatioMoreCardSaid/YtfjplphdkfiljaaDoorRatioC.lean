/-
  Walks: what is within a ratio, what is stretched by it, its text, and what a number comes to, where the product has 64 bits.
-/
import Derived.Test.YtfjplphdkfiljaaDoorProg
import Derived.Test.YtfjplphdkfiljaaDoorRatioA
namespace Go.Proofs.YtfjplphdkfiljaaDoor
open Go.Proofs Go.RowKit Go.Shelf

theorem lex_le (x y : Int) : decide (x / 18446744073709551616 < y / 18446744073709551616 ∨ (x / 18446744073709551616 = y / 18446744073709551616 ∧ x % 18446744073709551616 ≤ y % 18446744073709551616)) = decide (x ≤ y) := by
  congr 1
  apply propext
  omega

set_option maxHeartbeats 1000000 in
theorem Within_any (v n d base : Int) (w : World) (hv : W64 v) (hn : 0 ≤ n) (hb : W64 base) :
    Calls Tryd.prog 35 #[.int .u64 v, ratV n d, .int .u64 base] w fun e w' => e = .returned (.bool (withinR v n d base)) ∧ Below w.heap.size w w' := by
  have HR := Lib.hid (fun W => Right_any n d W hn)
  unfold withinR
  cases h : rightR n d with
  | false =>
    rw [h] at HR
    clear h
    go_enter Tryd.func35, Tryd.ntmps35
    go_wp2_with fail
    obtain ⟨W, hW, c0, c1, hsW⟩ : ∃ W, W = w.alloc (Obj.cells #[.int .u64 n, .int .u64 d] 41) ∧ W.cell? ⟨w.heap.size, 0, none⟩ = some (.int .u64 n) ∧ W.cell? ⟨w.heap.size, 1, none⟩ = some (.int .u64 d) ∧ w.heap.size < W.heap.size := ⟨_, rfl, by go_simp, by go_simp, by simp⟩
    rw [← hW]
    have HW := Lib.hid (show Below w.heap.size w W by rw [hW]; repeat (first | exact Below.refl _ _ | refine Below.al ?_ _ | refine Below.dr ?_ _ | refine Below.drew ?_ | assumption | (refine Below.st ?_ (by assumption))))
    clear hW
    have e0 := fun p => cell_ext p c0
    have e1 := fun p => cell_ext p c1
    refine wp_region_ext (by kernel_rfl) (by kernel_rfl) ?_
    repeat (go_big_quiet_step ((go_at_call 46; exact Calls.ext_of (HR.out _))))
    refine wpQuiet_nil ?_
    rintro _ ⟨p1, rfl⟩
    have HB1 := Lib.hid (below_ext W p1)
    generalize ext W p1 = w1 at HB1 ⊢
    go_wp2
    go_ret
    exact ⟨rfl, HW.out.st HB1.out⟩
  | true =>
    obtain ⟨r1, r2, r3⟩ := rightR_of h
    rw [h] at HR
    clear h
    have HX := Lib.hid (fun W => times_any v d hv ⟨by omega, by omega⟩ W)
    have HY := Lib.hid (fun W => times_any base n hb ⟨by omega, by omega⟩ W)
    have HM := Lib.hid (fun W => wmost_any (v * d / 18446744073709551616) (v * d % 18446744073709551616) (base * n / 18446744073709551616) (base * n % 18446744073709551616) W)
    rw [lex_le] at HM
    rw [Bool.true_and]
    generalize v * d / 18446744073709551616 = x1 at *
    generalize v * d % 18446744073709551616 = x2 at *
    generalize base * n / 18446744073709551616 = y1 at *
    generalize base * n % 18446744073709551616 = y2 at *
    generalize decide (v * d ≤ base * n) = b at *
    clear hv hn hb
    go_enter Tryd.func35, Tryd.ntmps35
    go_wp2_with fail
    obtain ⟨W, hW, c0, c1, hsW⟩ : ∃ W, W = w.alloc (Obj.cells #[.int .u64 n, .int .u64 d] 41) ∧ W.cell? ⟨w.heap.size, 0, none⟩ = some (.int .u64 n) ∧ W.cell? ⟨w.heap.size, 1, none⟩ = some (.int .u64 d) ∧ w.heap.size < W.heap.size := ⟨_, rfl, by go_simp, by go_simp, by simp⟩
    rw [← hW]
    have HW := Lib.hid (show Below w.heap.size w W by rw [hW]; repeat (first | exact Below.refl _ _ | refine Below.al ?_ _ | refine Below.dr ?_ _ | refine Below.drew ?_ | assumption | (refine Below.st ?_ (by assumption))))
    clear hW
    have e0 := fun p => cell_ext p c0
    have e1 := fun p => cell_ext p c1
    refine wp_region_ext (by kernel_rfl) (by kernel_rfl) ?_
    repeat (go_big_quiet_step ((first
      | (go_at_call 46; exact Calls.ext_of (HR.out _))
      | (go_at_call_of 86 (Value.int IntKind.u64 d); exact Calls.ext_of (HX.out _))
      | (go_at_call_of 86 (Value.int IntKind.u64 n); exact Calls.ext_of (HY.out _))
      | (go_at_call 87; exact Calls.ext_of (HM.out _)))))
    refine wpQuiet_nil ?_
    rintro _ ⟨p1, rfl⟩
    have HB1 := Lib.hid (below_ext W p1)
    generalize ext W p1 = w1 at HB1 ⊢
    go_wp2
    go_ret
    exact ⟨by first | rfl | simp, HW.out.st HB1.out⟩

set_option maxHeartbeats 1000000 in
theorem Stretched_any (v n d base : Int) (w : World) (hv : W64 v) (hn : 0 ≤ n) (hb : W64 base) :
    Calls Tryd.prog 37 #[.int .u64 v, ratV n d, .int .u64 base] w fun e w' => e = .returned (.bool (stretchedR v n d base)) ∧ Below w.heap.size w w' := by
  have HR := Lib.hid (fun W => Right_any n d W hn)
  unfold stretchedR
  cases h : rightR n d with
  | false =>
    rw [h] at HR
    clear h
    go_enter Tryd.func37, Tryd.ntmps37
    go_wp2_with fail
    obtain ⟨W, hW, c0, c1, hsW⟩ : ∃ W, W = w.alloc (Obj.cells #[.int .u64 n, .int .u64 d] 41) ∧ W.cell? ⟨w.heap.size, 0, none⟩ = some (.int .u64 n) ∧ W.cell? ⟨w.heap.size, 1, none⟩ = some (.int .u64 d) ∧ w.heap.size < W.heap.size := ⟨_, rfl, by go_simp, by go_simp, by simp⟩
    rw [← hW]
    have HW := Lib.hid (show Below w.heap.size w W by rw [hW]; repeat (first | exact Below.refl _ _ | refine Below.al ?_ _ | refine Below.dr ?_ _ | refine Below.drew ?_ | assumption | (refine Below.st ?_ (by assumption))))
    clear hW
    have e0 := fun p => cell_ext p c0
    have e1 := fun p => cell_ext p c1
    refine wp_region_ext (by kernel_rfl) (by kernel_rfl) ?_
    repeat (go_big_quiet_step ((go_at_call 46; exact Calls.ext_of (HR.out _))))
    refine wpQuiet_nil ?_
    rintro _ ⟨p1, rfl⟩
    have HB1 := Lib.hid (below_ext W p1)
    generalize ext W p1 = w1 at HB1 ⊢
    go_wp2
    go_ret
    exact ⟨rfl, HW.out.st HB1.out⟩
  | true =>
    obtain ⟨r1, r2, r3⟩ := rightR_of h
    rw [h] at HR
    clear h
    have hs : IntKind.u64.wrap (n + d) = n + d := IntWalk.u64_in _ (by omega)
    have HX := Lib.hid (fun W => times_any v d hv ⟨by omega, by omega⟩ W)
    have HY := Lib.hid (fun W => times_any base (n + d) hb ⟨by omega, by omega⟩ W)
    have HM := Lib.hid (fun W => wmost_any (v * d / 18446744073709551616) (v * d % 18446744073709551616) (base * (n + d) / 18446744073709551616) (base * (n + d) % 18446744073709551616) W)
    rw [lex_le] at HM
    rw [Bool.true_and]
    generalize v * d / 18446744073709551616 = x1 at *
    generalize v * d % 18446744073709551616 = x2 at *
    generalize base * (n + d) / 18446744073709551616 = y1 at *
    generalize base * (n + d) % 18446744073709551616 = y2 at *
    generalize decide (v * d ≤ base * (n + d)) = b at *
    clear hv hn hb
    go_enter Tryd.func37, Tryd.ntmps37
    go_wp2_with fail
    obtain ⟨W, hW, c0, c1, hsW⟩ : ∃ W, W = w.alloc (Obj.cells #[.int .u64 n, .int .u64 d] 41) ∧ W.cell? ⟨w.heap.size, 0, none⟩ = some (.int .u64 n) ∧ W.cell? ⟨w.heap.size, 1, none⟩ = some (.int .u64 d) ∧ w.heap.size < W.heap.size := ⟨_, rfl, by go_simp, by go_simp, by simp⟩
    rw [← hW]
    have HW := Lib.hid (show Below w.heap.size w W by rw [hW]; repeat (first | exact Below.refl _ _ | refine Below.al ?_ _ | refine Below.dr ?_ _ | refine Below.drew ?_ | assumption | (refine Below.st ?_ (by assumption))))
    clear hW
    have e0 := fun p => cell_ext p c0
    have e1 := fun p => cell_ext p c1
    refine wp_region_ext (by kernel_rfl) (by kernel_rfl) ?_
    repeat (go_big_quiet_step ((first
      | (go_at_call 46; exact Calls.ext_of (HR.out _))
      | (go_at_call_of 86 (Value.int IntKind.u64 d); exact Calls.ext_of (HX.out _))
      | (go_at_call_of 86 (Value.int IntKind.u64 (n + d)); exact Calls.ext_of (HY.out _))
      | (go_at_call 87; exact Calls.ext_of (HM.out _)))))
    refine wpQuiet_nil ?_
    rintro _ ⟨p1, rfl⟩
    have HB1 := Lib.hid (below_ext W p1)
    generalize ext W p1 = w1 at HB1 ⊢
    go_wp2
    go_ret
    exact ⟨by first | rfl | simp, HW.out.st HB1.out⟩

end Go.Proofs.YtfjplphdkfiljaaDoor
