/-
  The walk of the reference's number that is rounded up.
-/
import Derived.Test.YtfjplphdkfiljaaDoorProg
import Derived.Test.YtfjplphdkfiljaaDoorRatioH
namespace Go.Proofs.YtfjplphdkfiljaaDoor
open Go.Proofs Go.RowKit Go.Shelf

theorem prod_hi {v n : Int} (hv : W64 v) (h0 : 0 ≤ n) (h1 : n ≤ 1048576) : 0 ≤ v * n ∧ v * n / 18446744073709551616 < 1048576 := by
  refine ⟨Int.mul_nonneg hv.1 h0, ?_⟩
  have h2 := Int.mul_le_mul (show v ≤ 18446744073709551615 by have := hv.2; omega) h1 h0 (by decide)
  omega

set_option maxHeartbeats 4000000 in
theorem refUp_any (v n d most : Int) (w : World) (hv : W64 v) (hn : 0 ≤ n) :
    Calls Tryd.prog 40 #[.int .u64 v, ratV n d, .int .u64 most] w fun e w' => e = .returned (.int .u64 (upR v n d most)) ∧ Below w.heap.size w w' := by
  have HR := Lib.hid (fun W => refRight_ratio n d W)
  cases h : rightR n d with
  | false =>
    have HU := Lib.hid (show upR v n d most = 0 by unfold upR; rw [h]; rfl)
    rw [h] at HR
    clear h
    generalize upR v n d most = r at *
    go_enter Tryd.func40, Tryd.ntmps40
    go_wp2_with (go_at_call 60; refine (HR.out _).mono ?_; rintro e w1 ⟨rfl, hb1⟩)
    go_ret
    exact ⟨by rw [HU.out]; rfl, (Below.of_al _ _).st hb1⟩
  | true =>
    obtain ⟨r1, r2, r3⟩ := rightR_of h
    obtain ⟨hp0, hph⟩ := prod_hi hv hn r1
    obtain ⟨g1, g2⟩ := upQ_split hp0 r2
    have HX := Lib.hid (fun W => times3_any v n W hv ⟨hn, by omega⟩)
    have HU : upR v n d most = (if 18446744073709551616 ≤ (v * n + d - 1) / d then most else min ((v * n + d - 1) / d) most) := by unfold upR upQ; rw [h]; rfl
    obtain ⟨x0, x1, x2, q0, q1, q2, s0, s1, s2, hx0, hq0, hs0, hx1, hq1, hs1, hx2, hq2, hs2, b0, b1, b2, b3, b4, b5, b6, b7, b8, b9, b10, b11, b12, b13, b14, b15, b16, b17, hdiv, hmod⟩ := long_div hp0 r2 r3 (by omega)
    rw [h] at HR
    clear h
    unfold triV at HX
    rw [← hx0] at HX
    have d0 : 0 ≤ v * n / 4294967296 % 4294967296 ∧ v * n / 4294967296 % 4294967296 < 4294967296 := by omega
    have d1 : 0 ≤ v * n % 4294967296 ∧ v * n % 4294967296 < 4294967296 := by omega
    rw [hmod] at g1 g2
    rw [hdiv] at g1 g2
    generalize v * n / 4294967296 % 4294967296 = m1 at *
    generalize v * n % 4294967296 = m0 at *
    generalize (v * n + d - 1) / d = uq at *
    generalize upR v n d most = r at *
    clear hx0 hdiv hmod hph hp0
    generalize v * n = p at *
    have t0 : x0.tdiv d = q0 := by rw [Int.tdiv_eq_ediv_of_nonneg b0, hq0]
    have t1 : x0.tmod d = s0 := by rw [Int.tmod_eq_emod_of_nonneg b0, hs0]
    have t2 : x1.tdiv d = q1 := by rw [Int.tdiv_eq_ediv_of_nonneg b2, hq1]
    have t3 : x1.tmod d = s1 := by rw [Int.tmod_eq_emod_of_nonneg b2, hs1]
    have t4 : x2.tdiv d = q2 := by rw [Int.tdiv_eq_ediv_of_nonneg b4, hq2]
    have t5 : x2.tmod d = s2 := by rw [Int.tmod_eq_emod_of_nonneg b4, hs2]
    have v0 : IntKind.u64.wrap (s0 * 4294967296) = s0 * 4294967296 := IntWalk.u64_in _ (by omega)
    have v1 : IntKind.u64.wrap (s1 * 4294967296) = s1 * 4294967296 := IntWalk.u64_in _ (by omega)
    have v2 : IntKind.u64.wrap (s0 * 4294967296 + m1) = x1 := by rw [hx1]; exact IntWalk.u64_in _ (by omega)
    have v3 : IntKind.u64.wrap (s1 * 4294967296 + m0) = x2 := by rw [hx2]; exact IntWalk.u64_in _ (by omega)
    have v4 : IntKind.u64.wrap x0 = x0 := IntWalk.u64_in _ (by omega)
    have v5 : IntKind.u64.wrap q0 = q0 := IntWalk.u64_in _ (by omega)
    have v6 : IntKind.u64.wrap q1 = q1 := IntWalk.u64_in _ (by omega)
    have v7 : IntKind.u64.wrap q2 = q2 := IntWalk.u64_in _ (by omega)
    have v8 : IntKind.u64.wrap (q1 * 4294967296) = q1 * 4294967296 := IntWalk.u64_in _ (by omega)
    have v9 : IntKind.u64.wrap (q1 * 4294967296 + q2) = q1 * 4294967296 + q2 := IntWalk.u64_in _ (by omega)
    have vd : (d == 0) = false := by rw [beq_eq_false_iff_ne]; omega
    have ve : ¬ d = 0 := by omega
    have vz : s0 * 4294967296 + m1 = x1 := hx1.symm
    have vy : s1 * 4294967296 + m0 = x2 := hx2.symm
    clear hx1 hx2 hq0 hq1 hq2 hs0 hs1 hs2
    by_cases h0 : 0 < q0
    · have HU2 := Lib.hid (show r = most by
        rw [HU, if_pos]
        by_cases hz : s2 = 0
        · rw [g1 hz]; omega
        · rw [(g2 (by omega)).1]; omega)
      clear HU g1 g2
      go_enter Tryd.func40, Tryd.ntmps40
      go_wp2_with fail
      obtain ⟨W, hW, c0, c1, hsW⟩ : ∃ W, W = w.alloc (Obj.cells #[.int .u64 n, .int .u64 d] 41) ∧ W.cell? ⟨w.heap.size, 0, none⟩ = some (.int .u64 n) ∧ W.cell? ⟨w.heap.size, 1, none⟩ = some (.int .u64 d) ∧ w.heap.size < W.heap.size := ⟨_, rfl, by go_simp, by go_simp, by simp⟩
      rw [← hW]
      have HW := Lib.hid (show Below w.heap.size w W by rw [hW]; repeat (first | exact Below.refl _ _ | refine Below.al ?_ _ | refine Below.dr ?_ _ | refine Below.drew ?_ | assumption | (refine Below.st ?_ (by assumption))))
      clear hW
      have e0 := fun p => cell_ext p c0
      have e1 := fun p => cell_ext p c1
      clear e0 e1
      refine (HR.out _).mono ?_
      rintro e w1 ⟨rfl, hb1⟩
      have k0 := cell_later hb1 c0
      have k1 := cell_later hb1 c1
      have HW1 := Lib.hid (HW.out.st hb1)
      have hs1' : w.heap.size < w1.heap.size := by have := hb1.size; omega
      clear c0 c1 hb1 HW hsW
      go_wp2_with fail
      refine (HX.out _).mono ?_
      rintro e w2 ⟨rfl, hb2⟩
      have HW2 := Lib.hid (HW1.out.st hb2)
      have c0 := cell_later hb2 k0
      have c1 := cell_later hb2 k1
      have j1 := fun o o' => cell_later ((Below.of_al w2 o).al o') c1
      clear k0 k1 hb2 HW1
      go_wp2
      refine wp_loop_rounds 4 ?_
      rw [rounds_succ]
      go_wp2
      rw [rounds_succ]
      go_wp2
      rw [rounds_succ]
      go_wp2
      rw [rounds_succ]
      go_wp2
      go_ret
      exact ⟨by rw [HU2.out]; first | done | rfl, (HW2.out.al _).al _⟩
    · have hq00 : q0 = 0 := by omega
      by_cases hz : s2 = 0
      · have HU2 := Lib.hid (show r = min (q1 * 4294967296 + q2) most by rw [HU, g1 hz, if_neg (by omega), hq00]; congr 1; omega)
        clear HU g1 g2
        go_enter Tryd.func40, Tryd.ntmps40
        go_wp2_with fail
        obtain ⟨W, hW, c0, c1, hsW⟩ : ∃ W, W = w.alloc (Obj.cells #[.int .u64 n, .int .u64 d] 41) ∧ W.cell? ⟨w.heap.size, 0, none⟩ = some (.int .u64 n) ∧ W.cell? ⟨w.heap.size, 1, none⟩ = some (.int .u64 d) ∧ w.heap.size < W.heap.size := ⟨_, rfl, by go_simp, by go_simp, by simp⟩
        rw [← hW]
        have HW := Lib.hid (show Below w.heap.size w W by rw [hW]; repeat (first | exact Below.refl _ _ | refine Below.al ?_ _ | refine Below.dr ?_ _ | refine Below.drew ?_ | assumption | (refine Below.st ?_ (by assumption))))
        clear hW
        have e0 := fun p => cell_ext p c0
        have e1 := fun p => cell_ext p c1
        clear e0 e1
        refine (HR.out _).mono ?_
        rintro e w1 ⟨rfl, hb1⟩
        have k0 := cell_later hb1 c0
        have k1 := cell_later hb1 c1
        have HW1 := Lib.hid (HW.out.st hb1)
        have hs1' : w.heap.size < w1.heap.size := by have := hb1.size; omega
        clear c0 c1 hb1 HW hsW
        go_wp2_with fail
        refine (HX.out _).mono ?_
        rintro e w2 ⟨rfl, hb2⟩
        have HW2 := Lib.hid (HW1.out.st hb2)
        have c0 := cell_later hb2 k0
        have c1 := cell_later hb2 k1
        have j1 := fun o o' => cell_later ((Below.of_al w2 o).al o') c1
        clear k0 k1 hb2 HW1
        go_wp2
        refine wp_loop_rounds 4 ?_
        rw [rounds_succ]
        go_wp2
        rw [rounds_succ]
        go_wp2
        rw [rounds_succ]
        go_wp2
        rw [rounds_succ]
        go_wp2
        go_ret
        exact ⟨by rw [HU2.out]; first | done | rfl, (HW2.out.al _).al _⟩
      · have hs2 : 0 < s2 := by omega
        by_cases hf : q1 * 4294967296 + q2 = 18446744073709551615
        · have HU2 := Lib.hid (show r = most by rw [HU, (g2 hs2).1, if_pos (by omega)])
          clear HU g1 g2
          go_enter Tryd.func40, Tryd.ntmps40
          go_wp2_with fail
          obtain ⟨W, hW, c0, c1, hsW⟩ : ∃ W, W = w.alloc (Obj.cells #[.int .u64 n, .int .u64 d] 41) ∧ W.cell? ⟨w.heap.size, 0, none⟩ = some (.int .u64 n) ∧ W.cell? ⟨w.heap.size, 1, none⟩ = some (.int .u64 d) ∧ w.heap.size < W.heap.size := ⟨_, rfl, by go_simp, by go_simp, by simp⟩
          rw [← hW]
          have HW := Lib.hid (show Below w.heap.size w W by rw [hW]; repeat (first | exact Below.refl _ _ | refine Below.al ?_ _ | refine Below.dr ?_ _ | refine Below.drew ?_ | assumption | (refine Below.st ?_ (by assumption))))
          clear hW
          have e0 := fun p => cell_ext p c0
          have e1 := fun p => cell_ext p c1
          clear e0 e1
          refine (HR.out _).mono ?_
          rintro e w1 ⟨rfl, hb1⟩
          have k0 := cell_later hb1 c0
          have k1 := cell_later hb1 c1
          have HW1 := Lib.hid (HW.out.st hb1)
          have hs1' : w.heap.size < w1.heap.size := by have := hb1.size; omega
          clear c0 c1 hb1 HW hsW
          go_wp2_with fail
          refine (HX.out _).mono ?_
          rintro e w2 ⟨rfl, hb2⟩
          have HW2 := Lib.hid (HW1.out.st hb2)
          have c0 := cell_later hb2 k0
          have c1 := cell_later hb2 k1
          have j1 := fun o o' => cell_later ((Below.of_al w2 o).al o') c1
          clear k0 k1 hb2 HW1
          go_wp2
          refine wp_loop_rounds 4 ?_
          rw [rounds_succ]
          go_wp2
          rw [rounds_succ]
          go_wp2
          rw [rounds_succ]
          go_wp2
          rw [rounds_succ]
          go_wp2
          go_ret
          exact ⟨by rw [HU2.out]; first | done | rfl, (HW2.out.al _).al _⟩
        · have va : IntKind.u64.wrap (q1 * 4294967296 + q2 + 1) = q1 * 4294967296 + q2 + 1 := IntWalk.u64_in _ (by omega)
          have HU2 := Lib.hid (show r = min (q1 * 4294967296 + q2 + 1) most by rw [HU, (g2 hs2).1, if_neg (by omega), hq00]; congr 1; omega)
          have hff : (q1 * 4294967296 + q2 == 18446744073709551615) = false := by rw [beq_eq_false_iff_ne]; exact hf
          clear HU g1 g2
          go_enter Tryd.func40, Tryd.ntmps40
          go_wp2_with fail
          obtain ⟨W, hW, c0, c1, hsW⟩ : ∃ W, W = w.alloc (Obj.cells #[.int .u64 n, .int .u64 d] 41) ∧ W.cell? ⟨w.heap.size, 0, none⟩ = some (.int .u64 n) ∧ W.cell? ⟨w.heap.size, 1, none⟩ = some (.int .u64 d) ∧ w.heap.size < W.heap.size := ⟨_, rfl, by go_simp, by go_simp, by simp⟩
          rw [← hW]
          have HW := Lib.hid (show Below w.heap.size w W by rw [hW]; repeat (first | exact Below.refl _ _ | refine Below.al ?_ _ | refine Below.dr ?_ _ | refine Below.drew ?_ | assumption | (refine Below.st ?_ (by assumption))))
          clear hW
          have e0 := fun p => cell_ext p c0
          have e1 := fun p => cell_ext p c1
          clear e0 e1
          refine (HR.out _).mono ?_
          rintro e w1 ⟨rfl, hb1⟩
          have k0 := cell_later hb1 c0
          have k1 := cell_later hb1 c1
          have HW1 := Lib.hid (HW.out.st hb1)
          have hs1' : w.heap.size < w1.heap.size := by have := hb1.size; omega
          clear c0 c1 hb1 HW hsW
          go_wp2_with fail
          refine (HX.out _).mono ?_
          rintro e w2 ⟨rfl, hb2⟩
          have HW2 := Lib.hid (HW1.out.st hb2)
          have c0 := cell_later hb2 k0
          have c1 := cell_later hb2 k1
          have j1 := fun o o' => cell_later ((Below.of_al w2 o).al o') c1
          clear k0 k1 hb2 HW1
          go_wp2
          refine wp_loop_rounds 4 ?_
          rw [rounds_succ]
          go_wp2
          rw [rounds_succ]
          go_wp2
          rw [rounds_succ]
          go_wp2
          rw [rounds_succ]
          go_wp2
          go_ret
          exact ⟨by rw [HU2.out]; first | done | rfl, (HW2.out.al _).al _⟩

end Go.Proofs.YtfjplphdkfiljaaDoor
