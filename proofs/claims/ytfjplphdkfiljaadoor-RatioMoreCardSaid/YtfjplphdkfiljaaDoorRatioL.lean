/-
  The walk of ratio.Reduce.
-/
import Derived.Test.YtfjplphdkfiljaaDoorProg
import Derived.Test.YtfjplphdkfiljaaDoorRatioK
namespace Go.Proofs.YtfjplphdkfiljaaDoor
open Go.Proofs Go.RowKit Go.Shelf

def RJ (n d : Int) (w0 : World) (m l : Nat) (a : Act) (wr : World) : Prop :=
  l = 0 ∧ ∃ u, a = lit 28 u ∧ u 1 = .pointer (some ⟨w0.heap.size, 0, none⟩) ∧ u 2 = .pointer (some ⟨w0.heap.size + 1, 0, none⟩) ∧ ∃ x y : Int, u 3 = .int .u64 x ∧ u 4 = .int .u64 y ∧ 0 ≤ x ∧ x < 18446744073709551616 ∧ 0 ≤ y ∧ y < 18446744073709551616 ∧ y.toNat ≤ m ∧
    Aside (gI x y = gI n d) ∧ Aside (wr.cell? ⟨w0.heap.size, 0, none⟩ = some (.int .u64 n) ∧ wr.cell? ⟨w0.heap.size, 1, none⟩ = some (.int .u64 d) ∧ Z2 wr (w0.heap.size + 1) ∧ Below w0.heap.size w0 wr)

set_option maxHeartbeats 4000000 in
theorem Reduce_any (n d : Int) (w : World) (hn : 0 ≤ n) :
    Calls Tryd.prog 44 #[ratV n d] w fun e w' => e = .returned (ratV (redN n d) (redD n d)) ∧ Below w.heap.size w w' := by
  have HA := Lib.hid (fun W => Right_any n d W hn)
  cases h1 : rightR n d with
  | false =>
    have HR := Lib.hid (show redN n d = 0 ∧ redD n d = 0 by unfold redN redD; rw [h1]; exact ⟨rfl, rfl⟩)
    rw [h1] at HA
    clear h1
    generalize redN n d = x at *
    generalize redD n d = y at *
    go_enter Tryd.func44, Tryd.ntmps44
    repeat go_step
    refine wp_scope_labels 0 (fun _ _ _ _ => False) ?_ (fun _ _ _ _ h => h.elim)
    go_wp2_with fail
    obtain ⟨W, hW, c0, c1, hz, hB⟩ : ∃ W, W = (w.alloc (Obj.cells #[.int .u64 n, .int .u64 d] 41)).alloc (Obj.cells #[.int .u64 0, .int .u64 0] 41) ∧ W.cell? ⟨w.heap.size, 0, none⟩ = some (.int .u64 n) ∧ W.cell? ⟨w.heap.size, 1, none⟩ = some (.int .u64 d) ∧ Z2 W (w.heap.size + 1) ∧ Below w.heap.size w W := ⟨_, rfl, by go_simp, by go_simp, (by have := z2_new (w.alloc (Obj.cells #[.int .u64 n, .int .u64 d] 41)) 41; simpa using this), by repeat (first | exact Below.refl _ _ | refine Below.al ?_ _ | refine Below.dr ?_ _ | refine Below.drew ?_ | assumption | (refine Below.st ?_ (by assumption)))⟩
    rw [← hW]
    clear hW
    refine (HA.out _).mono ?_
    rintro e w1 ⟨rfl, hb1⟩
    have k0 := cell_later hb1 c0
    have k1 := cell_later hb1 c1
    have HZ1 := Lib.hid (z2_go hz hb1)
    have HW1 := Lib.hid (hB.st hb1)
    clear c0 c1 hz hB hb1
    obtain ⟨m0, m1, f0, f1⟩ := HZ1.out
    have r0 := z2_r0 HZ1.out
    have r1 := z2_r1 HZ1.out
    go_wp2
    simp only [jumps_ret]
    refine bodyPost_ret (by simp [results, Tryd.results44, go_sem, r0, r1]; try rfl) rfl ?_
    exact ⟨by rw [HR.out.1, HR.out.2], (HW1.out.setCell (by simp) _).setCell (by simp) _⟩
  | true =>
    obtain ⟨a1, a2, a3⟩ := rightR_of h1
    obtain ⟨g, hg, e1, e2, q0, q1, hr⟩ := red_fact hn h1
    have hg1 := gI_pos (a := n) a2
    have hN : redN n d = n / gI n d := by unfold redN; rw [h1]; rfl
    have hD : redD n d = d / gI n d := by unfold redD; rw [h1]; rfl
    rw [h1] at HA
    have b1 := (rightR_of hr).1
    have b2 := (rightR_of hr).2.2
    clear h1 hr e1 e2 hg
    have t1 : n.tdiv (gI n d) = redN n d := by rw [Int.tdiv_eq_ediv_of_nonneg hn, hN]
    have t2 : d.tdiv (gI n d) = redD n d := by rw [Int.tdiv_eq_ediv_of_nonneg (by omega), hD]
    have v1 : IntKind.u64.wrap (redN n d) = redN n d := IntWalk.u64_in _ (by omega)
    have v2 : IntKind.u64.wrap (redD n d) = redD n d := IntWalk.u64_in _ (by omega)
    clear hN hD
    generalize redN n d = X at *
    generalize redD n d = Y at *
    go_enter Tryd.func44, Tryd.ntmps44
    repeat go_step
    refine wp_scope_into 0 d.toNat (RJ n d w) rfl ?_ ?_ ?_ ?_
    · rintro m m' l a w' h ⟨h1, u, h2, h3, h4, x, y, h5, h6, k0, k1, k2, k3, h7, h8, h9⟩
      exact ⟨h1, u, h2, h3, h4, x, y, h5, h6, k0, k1, k2, k3, by omega, h8, h9⟩
    · intro hcont
      have HCONT := Lib.hid hcont
      clear hcont
      go_wp2_with fail
      obtain ⟨W, hW, c0, c1, hz, hB⟩ : ∃ W, W = (w.alloc (Obj.cells #[.int .u64 n, .int .u64 d] 41)).alloc (Obj.cells #[.int .u64 0, .int .u64 0] 41) ∧ W.cell? ⟨w.heap.size, 0, none⟩ = some (.int .u64 n) ∧ W.cell? ⟨w.heap.size, 1, none⟩ = some (.int .u64 d) ∧ Z2 W (w.heap.size + 1) ∧ Below w.heap.size w W := ⟨_, rfl, by go_simp, by go_simp, (by have := z2_new (w.alloc (Obj.cells #[.int .u64 n, .int .u64 d] 41)) 41; simpa using this), by repeat (first | exact Below.refl _ _ | refine Below.al ?_ _ | refine Below.dr ?_ _ | refine Below.drew ?_ | assumption | (refine Below.st ?_ (by assumption)))⟩
      rw [← hW]
      clear hW
      refine (HA.out _).mono ?_
      rintro e w1 ⟨rfl, hb1⟩
      have k0 := cell_later hb1 c0
      have k1 := cell_later hb1 c1
      have HZ1 := Lib.hid (z2_go hz hb1)
      have HW1 := Lib.hid (hB.st hb1)
      clear c0 c1 hz hB hb1
      obtain ⟨m0, m1, f0, f1⟩ := HZ1.out
      have r0 := z2_r0 HZ1.out
      have r1 := z2_r1 HZ1.out
      go_wp2
      go_quiet (fail)
      go_wp2
      go_step3
      first
        | refine HCONT.out _ _ ?_
        | (go_step; refine HCONT.out _ _ ?_)
        | (go_step; go_step; refine HCONT.out _ _ ?_)
        | (go_step; go_step; go_step; refine HCONT.out _ _ ?_)
      exact ⟨rfl, _, lit_of 28 _ rfl rfl, rfl, rfl, n, d, rfl, rfl, hn, by omega, by omega, by omega, Nat.le_refl _, rfl, k0, k1, HZ1.out, by have := HW1.out; repeat (first | exact Below.refl _ _ | refine Below.al ?_ _ | refine Below.dr ?_ _ | refine Below.drew ?_ | assumption | (refine Below.st ?_ (by assumption)))⟩
    · rintro m a wr ⟨-, u, rfl, h1, h2, x, y, h3, h4, x0, x1, y0, y1, hm, HG, HC⟩
      simp only [lit, List.range, List.range.loop, List.map_cons, List.map_nil, h1, h2, h3, h4]
      clear h1 h2 h3 h4
      obtain ⟨k0, k1, hz, hB⟩ := HC.out
      have HZ1 := Lib.hid hz
      have HB := Lib.hid hB
      clear hz hB HC
      by_cases hz : y = 0
      · subst hz
        have hx := HG.out
        rw [gI_zero x0] at hx
        rw [← hx] at t1 t2 hg1
        have hG0 : (x == 0) = false := by rw [beq_eq_false_iff_ne]; omega
        have hG1 : ¬ x = 0 := by omega
        obtain ⟨m0, m1, f0, f1⟩ := HZ1.out
        have r0 := z2_r0 HZ1.out
        have r1 := z2_r1 HZ1.out
        clear hx HG
        go_wp2
        go_region
        go_wp2
        simp only [jumps_ret]
        refine bodyPost_ret (by simp [results, Tryd.results44, go_sem, r0, r1]; try rfl) rfl ?_
        exact ⟨rfl, ((HB.out.drew).setCell (by simp) _).setCell (by simp) _⟩
      · have hmod : x.tmod y = x % y := Int.tmod_eq_emod_of_nonneg x0
        have m0 := Int.emod_nonneg x (b := y) hz
        have m1 := Int.emod_lt_of_pos x (show 0 < y by omega)
        have HS := Lib.hid ((gI_step x0 (show 0 < y by omega)).trans HG.out)
        have hb0 : (y == 0) = false := by rw [beq_eq_false_iff_ne]; exact hz
        have hb1 : (y != 0) = true := by simpa using hz
        have hw : IntKind.u64.wrap (x % y) = x % y := IntWalk.u64_in _ (by omega)
        generalize x % y = z at *
        clear t1 t2
        go_wp2
        go_quiet (fail)
        go_wp2
        go_step3
        repeat go_step
        rw [jumps_goto]
        exact ⟨z.toNat, by omega, rfl, _, lit_of 28 _ rfl rfl, rfl, rfl, y, z, rfl, rfl, y0, y1, m0, by omega, Nat.le_refl _, HS.out, k0, k1, HZ1.out, HB.out.dr _⟩
    · rintro m l a wr hl ⟨h, _⟩
      exact absurd h hl

end Go.Proofs.YtfjplphdkfiljaaDoor
