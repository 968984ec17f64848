/-
  Walks: how two ratios stand.
-/
import Derived.Test.YtfjplphdkfiljaaDoorProg
import Derived.Test.YtfjplphdkfiljaaDoorRatioA
namespace Go.Proofs.YtfjplphdkfiljaaDoor
open Go.Proofs Go.RowKit Go.Shelf

theorem times_exact (a b : Int) (ha : W64 a) (hb : W64 b) (w : World) :
    Calls Tryd.prog 86 #[.int .u64 a, .int .u64 b] w fun e w' => e = .returned (ratV (a * b / 18446744073709551616) (a * b % 18446744073709551616)) ∧ w' = w.alloc (.cells #[.int .u64 (a * b / 18446744073709551616), .int .u64 (a * b % 18446744073709551616)] 90) := by
  have HM := Lib.hid (fun W => mul64 a b ha.1 ha.2 hb.1 hb.2 W)
  clear ha hb
  generalize a * b / 18446744073709551616 = q1 at *
  generalize a * b % 18446744073709551616 = q2 at *
  go_enter Tryd.func86, Tryd.ntmps86
  go_wp2_with (go_at_call 81; refine (HM.out _).mono ?_; rintro e w1 ⟨rfl, rfl⟩)
  refine bodyPost_ret (by simp [results, Tryd.results86, go_sem]; try rfl) rfl ?_
  exact ⟨rfl, rfl⟩

theorem s4k {W W' : World} {a0 a1 a2 a3 : Addr} {v0 v1 v2 v3 : Value} (hb : Below W.heap.size W W') (h0 : W.cell? a0 = some v0) (h1 : W.cell? a1 = some v1) (h2 : W.cell? a2 = some v2) (h3 : W.cell? a3 = some v3) : W'.cell? a0 = some v0 ∧ W'.cell? a1 = some v1 ∧ W'.cell? a2 = some v2 ∧ W'.cell? a3 = some v3 :=
  ⟨cell_later hb h0, cell_later hb h1, cell_later hb h2, cell_later hb h3⟩

theorem prod_bd {a b : Int} (a0 : 0 ≤ a) (a1 : a ≤ 1048576) (b0 : 0 ≤ b) (b1 : b ≤ 1048576) : 0 ≤ a * b ∧ a * b ≤ 1099511627776 := by
  refine ⟨Int.mul_nonneg a0 b0, ?_⟩
  have := Int.mul_le_mul a1 b1 b0 (by decide)
  omega

set_option maxHeartbeats 8000000 in
theorem Cmp_ratio (an ad bn bd : Int) (w : World) (ha : 0 ≤ an) (hb : 0 ≤ bn) :
    Calls Tryd.prog 42 #[ratV an ad, ratV bn bd] w fun e w' => e = .returned (.int .i64 (cmpR an ad bn bd)) ∧ Below w.heap.size w w' := by
  have HA := Lib.hid (fun W => Right_any an ad W ha)
  have HB := Lib.hid (fun W => Right_any bn bd W hb)
  cases h1 : rightR an ad with
  | false =>
    have HR := Lib.hid (show cmpR an ad bn bd = 0 by unfold cmpR; rw [h1]; rfl)
    rw [h1] at HA
    clear h1 ha hb
    generalize cmpR an ad bn bd = r at *
    go_enter Tryd.func42, Tryd.ntmps42
    go_wp2_with fail
    obtain ⟨W, hW, c0, c1, c2, c3, hsW⟩ : ∃ W, W = (w.alloc (Obj.cells #[.int .u64 an, .int .u64 ad] 41)).alloc (Obj.cells #[.int .u64 bn, .int .u64 bd] 41) ∧ W.cell? ⟨w.heap.size, 0, none⟩ = some (.int .u64 an) ∧ W.cell? ⟨w.heap.size, 1, none⟩ = some (.int .u64 ad) ∧ W.cell? ⟨w.heap.size + 1, 0, none⟩ = some (.int .u64 bn) ∧ W.cell? ⟨w.heap.size + 1, 1, none⟩ = some (.int .u64 bd) ∧ w.heap.size + 1 < W.heap.size := ⟨_, rfl, by go_simp, by go_simp, by go_simp, by go_simp, by simp⟩
    rw [← hW]
    have HW := Lib.hid (show Below w.heap.size w W by rw [hW]; repeat (first | exact Below.refl _ _ | refine Below.al ?_ _ | refine Below.dr ?_ _ | refine Below.drew ?_ | assumption | (refine Below.st ?_ (by assumption))))
    clear hW
    refine (HA.out _).mono ?_
    rintro e w1 ⟨rfl, hb1⟩
    go_wp2
    go_ret
    exact ⟨by rw [HR.out]; rfl, HW.out.st hb1⟩
  | true =>
    cases h2 : rightR bn bd with
    | false =>
      have HR := Lib.hid (show cmpR an ad bn bd = 0 by unfold cmpR; rw [h1, h2]; rfl)
      rw [h1] at HA
      rw [h2] at HB
      clear h1 h2 ha hb
      generalize cmpR an ad bn bd = r at *
      go_enter Tryd.func42, Tryd.ntmps42
      go_wp2_with fail
      obtain ⟨W, hW, c0, c1, c2, c3, hsW⟩ : ∃ W, W = (w.alloc (Obj.cells #[.int .u64 an, .int .u64 ad] 41)).alloc (Obj.cells #[.int .u64 bn, .int .u64 bd] 41) ∧ W.cell? ⟨w.heap.size, 0, none⟩ = some (.int .u64 an) ∧ W.cell? ⟨w.heap.size, 1, none⟩ = some (.int .u64 ad) ∧ W.cell? ⟨w.heap.size + 1, 0, none⟩ = some (.int .u64 bn) ∧ W.cell? ⟨w.heap.size + 1, 1, none⟩ = some (.int .u64 bd) ∧ w.heap.size + 1 < W.heap.size := ⟨_, rfl, by go_simp, by go_simp, by go_simp, by go_simp, by simp⟩
      rw [← hW]
      have HW := Lib.hid (show Below w.heap.size w W by rw [hW]; repeat (first | exact Below.refl _ _ | refine Below.al ?_ _ | refine Below.dr ?_ _ | refine Below.drew ?_ | assumption | (refine Below.st ?_ (by assumption))))
      clear hW
      refine (HA.out _).mono ?_
      rintro e w1 ⟨rfl, hb1⟩
      have d2 := cell_later hb1 c2
      have d3 := cell_later hb1 c3
      go_wp2_with fail
      refine (HB.out _).mono ?_
      rintro e w2 ⟨rfl, hb2⟩
      go_wp2
      go_ret
      exact ⟨by rw [HR.out]; rfl, (HW.out.st hb1).st hb2⟩
    | true =>
      have HR := Lib.hid (show cmpR an ad bn bd = cmpX (an * bd) (bn * ad) by unfold cmpR; rw [h1, h2]; rfl)
      obtain ⟨a1, a2, a3⟩ := rightR_of h1
      obtain ⟨b1, b2, b3⟩ := rightR_of h2
      rw [h1] at HA
      rw [h2] at HB
      clear h1 h2
      obtain ⟨x0, x1⟩ := prod_bd ha a1 (show 0 ≤ bd by omega) b3
      obtain ⟨y0, y1⟩ := prod_bd hb b1 (show 0 ≤ ad by omega) a3
      have HX := Lib.hid (fun W => times_exact an bd ⟨ha, by omega⟩ ⟨by omega, by omega⟩ W)
      have HY := Lib.hid (fun W => times_exact bn ad ⟨hb, by omega⟩ ⟨by omega, by omega⟩ W)
      rw [show an * bd / 18446744073709551616 = 0 by omega, show an * bd % 18446744073709551616 = an * bd by omega] at HX
      rw [show bn * ad / 18446744073709551616 = 0 by omega, show bn * ad % 18446744073709551616 = bn * ad by omega] at HY
      generalize an * bd = x at *
      generalize bn * ad = y at *
      have HM := Lib.hid (fun W => wmost_any 0 x 0 y W)
      rw [show decide ((0 : Int) < 0 ∨ (0 : Int) = 0 ∧ x ≤ y) = decide (x ≤ y) by congr 1; apply propext; omega] at HM
      generalize cmpR an ad bn bd = r at *
      clear ha hb a1 a2 a3 b1 b2 b3
      have hcase : (x = y ∧ cmpX x y = 0) ∨ (x ≠ y ∧ x ≤ y ∧ cmpX x y = -1) ∨ (x ≠ y ∧ ¬ x ≤ y ∧ cmpX x y = 1) := by
        unfold cmpX
        split
        · exact .inl ⟨by assumption, rfl⟩
        · split
          · exact .inr (.inl ⟨by assumption, by assumption, rfl⟩)
          · exact .inr (.inr ⟨by assumption, by assumption, rfl⟩)
      generalize cmpX x y = z at *
      go_enter Tryd.func42, Tryd.ntmps42
      go_wp2_with fail
      obtain ⟨W, hW, c0, c1, c2, c3, hsW⟩ : ∃ W, W = (w.alloc (Obj.cells #[.int .u64 an, .int .u64 ad] 41)).alloc (Obj.cells #[.int .u64 bn, .int .u64 bd] 41) ∧ W.cell? ⟨w.heap.size, 0, none⟩ = some (.int .u64 an) ∧ W.cell? ⟨w.heap.size, 1, none⟩ = some (.int .u64 ad) ∧ W.cell? ⟨w.heap.size + 1, 0, none⟩ = some (.int .u64 bn) ∧ W.cell? ⟨w.heap.size + 1, 1, none⟩ = some (.int .u64 bd) ∧ w.heap.size + 1 < W.heap.size := ⟨_, rfl, by go_simp, by go_simp, by go_simp, by go_simp, by simp⟩
      rw [← hW]
      have HW := Lib.hid (show Below w.heap.size w W by rw [hW]; repeat (first | exact Below.refl _ _ | refine Below.al ?_ _ | refine Below.dr ?_ _ | refine Below.drew ?_ | assumption | (refine Below.st ?_ (by assumption))))
      clear hW
      refine (HA.out _).mono ?_
      rintro e w1 ⟨rfl, hb1⟩
      have d0 := cell_later hb1 c0
      have d1 := cell_later hb1 c1
      have d2 := cell_later hb1 c2
      have d3 := cell_later hb1 c3
      have HW1 := Lib.hid (HW.out.st hb1)
      have hb1s := hb1.size
      clear c0 c1 c2 c3 hb1 HW
      go_wp2_with fail
      refine (HB.out _).mono ?_
      rintro e w2 ⟨rfl, hb2⟩
      have c0 := cell_later hb2 d0
      have c1 := cell_later hb2 d1
      have c2 := cell_later hb2 d2
      have c3 := cell_later hb2 d3
      have hb12 := hb2
      have hW1 := hb1s
      have HW2 := Lib.hid (HW1.out.st hb2)
      clear d0 d1 d2 d3 hb2 HW1
      have hw2 : w.heap.size + 1 < w2.heap.size := by have := HW2.out; have := hb12.size; omega
      have hw3 : w.heap.size < w2.heap.size := by omega
      clear hb12 hW1
      go_wp2_with fail
      go_region_held3 (fun w' => w'.cell? ⟨w.heap.size, 0, none⟩ = some (.int .u64 an) ∧ w'.cell? ⟨w.heap.size, 1, none⟩ = some (.int .u64 ad) ∧ w'.cell? ⟨w.heap.size + 1, 0, none⟩ = some (.int .u64 bn) ∧ w'.cell? ⟨w.heap.size + 1, 1, none⟩ = some (.int .u64 bd)) (exact s4k (by repeat (first | exact Below.refl _ _ | refine Below.al ?_ _ | refine Below.dr ?_ _ | refine Below.drew ?_ | assumption | (refine Below.st ?_ (by assumption)))) c0 c1 c2 c3) (first
        | (go_at_call_of 86 (Value.int IntKind.u64 an); refine (HX.out _).mono ?_; rintro e w3 ⟨rfl, rfl⟩)
        | (go_at_call_of 86 (Value.int IntKind.u64 bn); refine (HY.out _).mono ?_; rintro e w4 ⟨rfl, rfl⟩))
      all_goals
        have HB5 := Lib.hid HW2.out
        rcases hcase with ⟨e1, e2⟩ | ⟨e1, e2, e3⟩ | ⟨e1, e2, e3⟩
        · subst e1
          go_wp2
          go_ret
          exact ⟨by rw [HR.out, e2]; rfl, by have := HB5.out; repeat (first | exact Below.refl _ _ | refine Below.al ?_ _ | refine Below.dr ?_ _ | refine Below.drew ?_ | assumption | (refine Below.st ?_ (by assumption)))⟩
        · have e4 : decide (x ≤ y) = true := by simpa using e2
          go_wp2_with (go_at_call 87; refine (HM.out _).mono ?_; rintro e w5 ⟨rfl, hb5⟩)
          go_ret
          exact ⟨by rw [HR.out, e3]; rfl, by refine Below.st ?_ hb5; have := HB5.out; repeat (first | exact Below.refl _ _ | refine Below.al ?_ _ | refine Below.dr ?_ _ | refine Below.drew ?_ | assumption | (refine Below.st ?_ (by assumption)))⟩
        · have e4 : decide (x ≤ y) = false := by simpa using e2
          go_wp2_with (go_at_call 87; refine (HM.out _).mono ?_; rintro e w5 ⟨rfl, hb5⟩)
          go_ret
          exact ⟨by rw [HR.out, e3]; rfl, by refine Below.st ?_ hb5; have := HB5.out; repeat (first | exact Below.refl _ _ | refine Below.al ?_ _ | refine Below.dr ?_ _ | refine Below.drew ?_ | assumption | (refine Below.st ?_ (by assumption)))⟩

end Go.Proofs.YtfjplphdkfiljaaDoor
