/-
  Walks: the reference's order of ratios, and their least form.
-/
import Derived.Test.YtfjplphdkfiljaaDoorProg
import Derived.Test.YtfjplphdkfiljaaDoorRatioB
import Derived.Test.YtfjplphdkfiljaaDoorRatioE
namespace Go.Proofs.YtfjplphdkfiljaaDoor
open Go.Proofs Go.RowKit Go.Shelf

set_option maxHeartbeats 2000000 in
theorem refCmp_ratio (an ad bn bd : Int) (w : World) (ha : 0 ≤ an) (hb : 0 ≤ bn) :
    Calls Tryd.prog 43 #[ratV an ad, ratV bn bd] w fun e w' => e = .returned (.int .i64 (cmpR an ad bn bd)) ∧ Below w.heap.size w w' := by
  have HA := Lib.hid (fun W => refRight_ratio an ad W)
  have HB := Lib.hid (fun W => refRight_ratio bn bd W)
  cases h1 : rightR an ad with
  | false =>
    have HR := Lib.hid (show cmpR an ad bn bd = 0 by unfold cmpR; rw [h1]; rfl)
    rw [h1] at HA
    clear h1 ha hb
    generalize cmpR an ad bn bd = r at *
    go_enter Tryd.func43, Tryd.ntmps43
    go_wp2_with fail
    obtain ⟨W, hW, c0, c1, c2, c3, hsW⟩ : ∃ W, W = (w.alloc (Obj.cells #[.int .u64 an, .int .u64 ad] 41)).alloc (Obj.cells #[.int .u64 bn, .int .u64 bd] 41) ∧ W.cell? ⟨w.heap.size, 0, none⟩ = some (.int .u64 an) ∧ W.cell? ⟨w.heap.size, 1, none⟩ = some (.int .u64 ad) ∧ W.cell? ⟨w.heap.size + 1, 0, none⟩ = some (.int .u64 bn) ∧ W.cell? ⟨w.heap.size + 1, 1, none⟩ = some (.int .u64 bd) ∧ w.heap.size + 1 < W.heap.size := ⟨_, rfl, by go_simp, by go_simp, by go_simp, by go_simp, by simp⟩
    rw [← hW]
    have HW := Lib.hid (show Below w.heap.size w W by rw [hW]; repeat (first | exact Below.refl _ _ | refine Below.al ?_ _ | refine Below.dr ?_ _ | refine Below.drew ?_ | assumption | (refine Below.st ?_ (by assumption))))
    clear hW
    refine (HA.out _).mono ?_
    rintro e w1 ⟨rfl, hb1⟩
    go_wp2
    go_ret
    exact ⟨by rw [HR.out]; rfl, HW.out.st hb1⟩
  | true =>
    cases h2 : rightR bn bd with
    | false =>
      have HR := Lib.hid (show cmpR an ad bn bd = 0 by unfold cmpR; rw [h1, h2]; rfl)
      rw [h1] at HA
      rw [h2] at HB
      clear h1 h2 ha hb
      generalize cmpR an ad bn bd = r at *
      go_enter Tryd.func43, Tryd.ntmps43
      go_wp2_with fail
      obtain ⟨W, hW, c0, c1, c2, c3, hsW⟩ : ∃ W, W = (w.alloc (Obj.cells #[.int .u64 an, .int .u64 ad] 41)).alloc (Obj.cells #[.int .u64 bn, .int .u64 bd] 41) ∧ W.cell? ⟨w.heap.size, 0, none⟩ = some (.int .u64 an) ∧ W.cell? ⟨w.heap.size, 1, none⟩ = some (.int .u64 ad) ∧ W.cell? ⟨w.heap.size + 1, 0, none⟩ = some (.int .u64 bn) ∧ W.cell? ⟨w.heap.size + 1, 1, none⟩ = some (.int .u64 bd) ∧ w.heap.size + 1 < W.heap.size := ⟨_, rfl, by go_simp, by go_simp, by go_simp, by go_simp, by simp⟩
      rw [← hW]
      have HW := Lib.hid (show Below w.heap.size w W by rw [hW]; repeat (first | exact Below.refl _ _ | refine Below.al ?_ _ | refine Below.dr ?_ _ | refine Below.drew ?_ | assumption | (refine Below.st ?_ (by assumption))))
      clear hW
      refine (HA.out _).mono ?_
      rintro e w1 ⟨rfl, hb1⟩
      have d2 := cell_later hb1 c2
      have d3 := cell_later hb1 c3
      go_wp2_with fail
      refine (HB.out _).mono ?_
      rintro e w2 ⟨rfl, hb2⟩
      go_wp2
      go_ret
      exact ⟨by rw [HR.out]; rfl, (HW.out.st hb1).st hb2⟩
    | true =>
      have HR := Lib.hid (show cmpR an ad bn bd = cmpX (an * bd) (bn * ad) by unfold cmpR; rw [h1, h2]; rfl)
      obtain ⟨a1, a2, a3⟩ := rightR_of h1
      obtain ⟨b1, b2, b3⟩ := rightR_of h2
      rw [h1] at HA
      rw [h2] at HB
      clear h1 h2
      obtain ⟨x0, x1⟩ := prod_bd ha a1 (show 0 ≤ bd by omega) b3
      obtain ⟨y0, y1⟩ := prod_bd hb b1 (show 0 ≤ ad by omega) a3
      have hwx : IntKind.u64.wrap (an * bd) = an * bd := IntWalk.u64_in _ (by omega)
      have hwy : IntKind.u64.wrap (bn * ad) = bn * ad := IntWalk.u64_in _ (by omega)
      generalize hx : an * bd = x at *
      generalize hy : bn * ad = y at *
      generalize cmpR an ad bn bd = r at *
      have hcase : (x < y ∧ cmpX x y = -1) ∨ (¬ x < y ∧ y < x ∧ cmpX x y = 1) ∨ (¬ x < y ∧ ¬ y < x ∧ cmpX x y = 0) := by
        unfold cmpX
        split
        · exact .inr (.inr ⟨by omega, by omega, rfl⟩)
        · split
          · exact .inl ⟨by omega, rfl⟩
          · exact .inr (.inl ⟨by omega, by omega, rfl⟩)
      generalize cmpX x y = z at *
      clear a1 a2 a3 b1 b2 b3 ha hb
      go_enter Tryd.func43, Tryd.ntmps43
      go_wp2_with fail
      obtain ⟨W, hW, c0, c1, c2, c3, hsW⟩ : ∃ W, W = (w.alloc (Obj.cells #[.int .u64 an, .int .u64 ad] 41)).alloc (Obj.cells #[.int .u64 bn, .int .u64 bd] 41) ∧ W.cell? ⟨w.heap.size, 0, none⟩ = some (.int .u64 an) ∧ W.cell? ⟨w.heap.size, 1, none⟩ = some (.int .u64 ad) ∧ W.cell? ⟨w.heap.size + 1, 0, none⟩ = some (.int .u64 bn) ∧ W.cell? ⟨w.heap.size + 1, 1, none⟩ = some (.int .u64 bd) ∧ w.heap.size + 1 < W.heap.size := ⟨_, rfl, by go_simp, by go_simp, by go_simp, by go_simp, by simp⟩
      rw [← hW]
      have HW := Lib.hid (show Below w.heap.size w W by rw [hW]; repeat (first | exact Below.refl _ _ | refine Below.al ?_ _ | refine Below.dr ?_ _ | refine Below.drew ?_ | assumption | (refine Below.st ?_ (by assumption))))
      clear hW
      refine (HA.out _).mono ?_
      rintro e w1 ⟨rfl, hb1⟩
      have d0 := cell_later hb1 c0
      have d1 := cell_later hb1 c1
      have d2 := cell_later hb1 c2
      have d3 := cell_later hb1 c3
      have HW1 := Lib.hid (HW.out.st hb1)
      clear c0 c1 c2 c3 hb1 HW
      go_wp2_with fail
      refine (HB.out _).mono ?_
      rintro e w2 ⟨rfl, hb2⟩
      have c0 := cell_later hb2 d0
      have c1 := cell_later hb2 d1
      have c2 := cell_later hb2 d2
      have c3 := cell_later hb2 d3
      have HW2 := Lib.hid (HW1.out.st hb2)
      clear d0 d1 d2 d3 hb2 HW1
      go_wp2
      go_quiet (fail)
      rcases hcase with ⟨e1, e2⟩ | ⟨e1, e2, e3⟩ | ⟨e1, e2, e3⟩
      · go_wp2
        go_ret
        exact ⟨by rw [HR.out, e2]; rfl, by have := HW2.out; repeat (first | exact Below.refl _ _ | refine Below.al ?_ _ | refine Below.dr ?_ _ | refine Below.drew ?_ | assumption | (refine Below.st ?_ (by assumption)))⟩
      · go_wp2
        go_ret
        exact ⟨by rw [HR.out, e3]; rfl, by have := HW2.out; repeat (first | exact Below.refl _ _ | refine Below.al ?_ _ | refine Below.dr ?_ _ | refine Below.drew ?_ | assumption | (refine Below.st ?_ (by assumption)))⟩
      · go_wp2
        go_ret
        exact ⟨by rw [HR.out, e3]; rfl, by have := HW2.out; repeat (first | exact Below.refl _ _ | refine Below.al ?_ _ | refine Below.dr ?_ _ | refine Below.drew ?_ | assumption | (refine Below.st ?_ (by assumption)))⟩

theorem gcd_any : ∀ (k : Nat) (a b : Int), 0 ≤ a → a < 18446744073709551616 → 0 ≤ b → b < 18446744073709551616 → b.toNat ≤ k → ∀ w : World,
    Calls Tryd.prog 91 #[.int .u64 a, .int .u64 b] w fun e w' => e = .returned (.int .u64 (gI a b)) ∧ w' = w := by
  intro k
  induction k with
  | zero =>
    intro a b a0 a1 b0 b1 hk w
    obtain rfl : b = 0 := by omega
    rw [gI_zero a0]
    go_enter Tryd.func91, Tryd.ntmps91
    go_wp2
    go_ret
    exact ⟨rfl, rfl⟩
  | succ k ih =>
    intro a b a0 a1 b0 b1 hk w
    by_cases hz : b = 0
    · subst hz
      rw [gI_zero a0]
      go_enter Tryd.func91, Tryd.ntmps91
      go_wp2
      go_ret
      exact ⟨rfl, rfl⟩
    · have hm : a.tmod b = a % b := Int.tmod_eq_emod_of_nonneg a0
      have m0 := Int.emod_nonneg a (b := b) hz
      have m1 := Int.emod_lt_of_pos a (show 0 < b by omega)
      have HI := Lib.hid (fun W => ih b (a % b) b0 b1 m0 (by omega) (by omega) W)
      rw [gI_step a0 (by omega)] at HI
      have hb0 : (b == 0) = false := by rw [beq_eq_false_iff_ne]; exact hz
      have hw : IntKind.u64.wrap (a % b) = a % b := IntWalk.u64_in _ (by omega)
      generalize a % b = m at *
      generalize gI a b = g at *
      clear ih
      go_enter Tryd.func91, Tryd.ntmps91
      go_wp2_with (go_at_call 91; refine (HI.out _).mono ?_; rintro e w1 ⟨rfl, rfl⟩)
      go_ret
      exact ⟨rfl, rfl⟩

set_option maxHeartbeats 2000000 in
theorem refReduce_any (n d : Int) (w : World) (hn : 0 ≤ n) :
    Calls Tryd.prog 45 #[ratV n d] w fun e w' => e = .returned (ratV (redN n d) (redD n d)) ∧ Below w.heap.size w w' := by
  have HA := Lib.hid (fun W => refRight_ratio n d W)
  cases h1 : rightR n d with
  | false =>
    have HR := Lib.hid (show redN n d = 0 ∧ redD n d = 0 by unfold redN redD; rw [h1]; exact ⟨rfl, rfl⟩)
    rw [h1] at HA
    clear h1
    generalize redN n d = x at *
    generalize redD n d = y at *
    go_enter Tryd.func45, Tryd.ntmps45
    go_wp2_with fail
    obtain ⟨W, hW, c0, c1, hz, hB⟩ : ∃ W, W = (w.alloc (Obj.cells #[.int .u64 n, .int .u64 d] 41)).alloc (Obj.cells #[.int .u64 0, .int .u64 0] 41) ∧ W.cell? ⟨w.heap.size, 0, none⟩ = some (.int .u64 n) ∧ W.cell? ⟨w.heap.size, 1, none⟩ = some (.int .u64 d) ∧ Z2 W (w.heap.size + 1) ∧ Below w.heap.size w W := ⟨_, rfl, by go_simp, by go_simp, (by have := z2_new (w.alloc (Obj.cells #[.int .u64 n, .int .u64 d] 41)) 41; simpa using this), by repeat (first | exact Below.refl _ _ | refine Below.al ?_ _ | refine Below.dr ?_ _ | refine Below.drew ?_ | assumption | (refine Below.st ?_ (by assumption)))⟩
    rw [← hW]
    clear hW
    refine (HA.out _).mono ?_
    rintro e w1 ⟨rfl, hb1⟩
    have k0 := cell_later hb1 c0
    have k1 := cell_later hb1 c1
    have HZ1 := Lib.hid (z2_go hz hb1)
    have HW1 := Lib.hid (hB.st hb1)
    clear c0 c1 hz hB hb1
    obtain ⟨m0, m1, f0, f1⟩ := HZ1.out
    have r0 := z2_r0 HZ1.out
    have r1 := z2_r1 HZ1.out
    go_wp2
    refine bodyPost_ret (by simp [results, Tryd.results45, go_sem, r0, r1]; try rfl) rfl ?_
    exact ⟨by rw [HR.out.1, HR.out.2], (HW1.out.setCell (by simp) _).setCell (by simp) _⟩
  | true =>
    obtain ⟨a1, a2, a3⟩ := rightR_of h1
    obtain ⟨g, hg, e1, e2, q0, q1, hr⟩ := red_fact hn h1
    have HG := Lib.hid (fun W => gcd_any d.toNat n d hn (by omega) (by omega) (by omega) (Nat.le_refl _) W)
    have hg1 := gI_pos (a := n) a2
    have hN : redN n d = n / gI n d := by unfold redN; rw [h1]; rfl
    have hD : redD n d = d / gI n d := by unfold redD; rw [h1]; rfl
    rw [h1] at HA
    have b1 := (rightR_of hr).1
    have b2 := (rightR_of hr).2.2
    clear h1 hr e1 e2 hg
    generalize gI n d = G at *
    have t1 : n.tdiv G = redN n d := by rw [Int.tdiv_eq_ediv_of_nonneg hn, hN]
    have t2 : d.tdiv G = redD n d := by rw [Int.tdiv_eq_ediv_of_nonneg (by omega), hD]
    have v1 : IntKind.u64.wrap (redN n d) = redN n d := IntWalk.u64_in _ (by omega)
    have v2 : IntKind.u64.wrap (redD n d) = redD n d := IntWalk.u64_in _ (by omega)
    have hG0 : (G == 0) = false := by rw [beq_eq_false_iff_ne]; omega
    have hG1 : ¬ G = 0 := by omega
    clear hN hD
    generalize redN n d = x at *
    generalize redD n d = y at *
    go_enter Tryd.func45, Tryd.ntmps45
    go_wp2_with fail
    obtain ⟨W, hW, c0, c1, hz, hB⟩ : ∃ W, W = (w.alloc (Obj.cells #[.int .u64 n, .int .u64 d] 41)).alloc (Obj.cells #[.int .u64 0, .int .u64 0] 41) ∧ W.cell? ⟨w.heap.size, 0, none⟩ = some (.int .u64 n) ∧ W.cell? ⟨w.heap.size, 1, none⟩ = some (.int .u64 d) ∧ Z2 W (w.heap.size + 1) ∧ Below w.heap.size w W := ⟨_, rfl, by go_simp, by go_simp, (by have := z2_new (w.alloc (Obj.cells #[.int .u64 n, .int .u64 d] 41)) 41; simpa using this), by repeat (first | exact Below.refl _ _ | refine Below.al ?_ _ | refine Below.dr ?_ _ | refine Below.drew ?_ | assumption | (refine Below.st ?_ (by assumption)))⟩
    rw [← hW]
    clear hW
    refine (HA.out _).mono ?_
    rintro e w1 ⟨rfl, hb1⟩
    have k0 := cell_later hb1 c0
    have k1 := cell_later hb1 c1
    have HZ1 := Lib.hid (z2_go hz hb1)
    have HW1 := Lib.hid (hB.st hb1)
    clear c0 c1 hz hB hb1
    obtain ⟨m0, m1, f0, f1⟩ := HZ1.out
    have r0 := z2_r0 HZ1.out
    have r1 := z2_r1 HZ1.out
    go_wp2_with (go_at_call 91; refine (HG.out _).mono ?_; rintro e w2 ⟨rfl, hw2⟩; have hq2 := hw2.symm; subst hq2)
    go_region
    go_wp2
    refine bodyPost_ret (by simp [results, Tryd.results45, go_sem, r0, r1]; try rfl) rfl ?_
    exact ⟨rfl, by have := HW1.out; exact ((HW1.out.drew).setCell (by simp) _).setCell (by simp) _⟩

end Go.Proofs.YtfjplphdkfiljaaDoor
