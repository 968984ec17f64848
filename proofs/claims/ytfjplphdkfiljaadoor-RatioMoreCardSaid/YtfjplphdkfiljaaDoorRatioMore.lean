/-
  The walk of the statement RatioMore: whatever the ratios and the numbers, the law answers true.
-/
import Derived.Test.YtfjplphdkfiljaaDoorProg
import Derived.Test.YtfjplphdkfiljaaDoorRatioL
namespace Go.Proofs.YtfjplphdkfiljaaDoor
open Go.Proofs Go.RowKit Go.Shelf

theorem cmpX_bd (x y : Int) : cmpX x y = 0 ∨ cmpX x y = -1 ∨ cmpX x y = 1 := by
  unfold cmpX
  split
  · exact .inl rfl
  · split
    · exact .inr (.inl rfl)
    · exact .inr (.inr rfl)
theorem cmpR_bd (a b c d : Int) : cmpR a b c d = 0 ∨ cmpR a b c d = -1 ∨ cmpR a b c d = 1 := by
  unfold cmpR
  split
  · exact cmpX_bd _ _
  · exact .inl rfl

theorem up_all {an ad base : Int} (ha : 0 ≤ an) (h : rightR an ad = true) (hb0 : 0 ≤ base) (hb1 : base ≤ 4294967296) :
    ∃ q, (∀ W, Calls Tryd.prog 39 #[.int .u64 base, ratV an ad, .int .u64 9223372036854775808] W fun e w' => e = .returned (.int .u64 q) ∧ Below W.heap.size W w') ∧ 0 ≤ q ∧ base * an ≤ q * ad ∧
      (q = 0 ∨ (q ≠ 0 ∧ (q - 1) * ad < base * an ∧ IntKind.u64.wrap (q - 1) = q - 1 ∧ IntKind.u64.wrap ((q - 1) * ad) = (q - 1) * ad)) ∧ IntKind.u64.wrap (q * ad) = q * ad ∧ IntKind.u64.wrap (base * an) = base * an := by
  obtain ⟨a1, a2, a3⟩ := rightR_of h
  have hp0 := Int.mul_nonneg hb0 ha
  have hp1 : base * an ≤ 4503599627370496 := by
    have := Int.mul_le_mul hb1 a1 ha (by decide)
    omega
  obtain ⟨l0, l1, l2⟩ := upQ_least hb0 ha a2
  have hU : upR base an ad 9223372036854775808 = upQ base an ad := by
    have hle : upQ base an ad ≤ base * an + 1048576 := by
      rcases l2 with h0 | h0
      · rw [h0]; omega
      · rcases Int.lt_or_le (upQ base an ad) 1 with h5 | h5
        · omega
        · have : (upQ base an ad - 1) * 1 ≤ (upQ base an ad - 1) * ad := Int.mul_le_mul_of_nonneg_left a2 (by omega)
          omega
    unfold upR
    rw [if_pos h, if_neg (by omega)]
    omega
  have hle3 : upQ base an ad * 1 ≤ upQ base an ad * ad := Int.mul_le_mul_of_nonneg_left a2 l0
  have hle2 : upQ base an ad * ad ≤ base * an + 1048576 := by
    rcases l2 with h0 | h0
    · rw [h0]; omega
    · rw [Int.sub_mul, Int.one_mul] at h0; omega
  have hw1 : IntKind.u64.wrap (upQ base an ad * ad) = upQ base an ad * ad := IntWalk.u64_in _ (by omega)
  have hw2 : IntKind.u64.wrap (base * an) = base * an := IntWalk.u64_in _ (by omega)
  refine ⟨upQ base an ad, fun W => ?_, l0, l1, ?_, hw1, hw2⟩
  · rw [← hU]
    exact Up_small base an ad 9223372036854775808 W ⟨hb0, by omega⟩ ha (by omega)
  · by_cases hz : upQ base an ad = 0
    · exact .inl hz
    · have hm : 0 ≤ (upQ base an ad - 1) * ad := Int.mul_nonneg (by omega) (by omega)
      have hl : (upQ base an ad - 1) * ad < base * an := by
        rcases l2 with h0 | h0
        · exact absurd h0 hz
        · exact h0
      exact .inr ⟨hz, hl, IntWalk.u64_in _ (by omega), IntWalk.u64_in _ (by omega)⟩

set_option maxHeartbeats 8000000 in
theorem RatioMore_any (v an ad bn bd base : Int) (w : World) (hv : W64 v) (ha : 0 ≤ an) (hb : 0 ≤ bn) (hbs : W64 base) (ht : Pow10 w) :
    Calls Tryd.prog 9 #[.int .u64 v, ratV an ad, ratV bn bd, .int .u64 base] w fun e w' => e = .returned (.bool true) ∧ Below w.heap.size w w' := by
  have HAL := Lib.hid (fun W h => alive02_any W h)
  have HT := Lib.hid ht
  have HRA := Lib.hid (fun W => Right_any an ad W ha)
  have HRB := Lib.hid (fun W => Right_any bn bd W hb)
  have HC2 := Lib.hid (fun W => Cmp_ratio an ad bn bd W ha hb)
  cases h1 : rightR an ad with
  | false =>
    rw [h1] at HRA
    rw [show cmpR an ad bn bd = 0 by unfold cmpR; rw [h1]; rfl] at HC2
    clear ht hv hbs h1
    go_enter Tryd.func9, Tryd.ntmps9
    go_wp2_with fail
    obtain ⟨W, hW, c0, c1, c2, c3, hsW⟩ : ∃ W, W = (w.alloc (Obj.cells #[.int .u64 an, .int .u64 ad] 41)).alloc (Obj.cells #[.int .u64 bn, .int .u64 bd] 41) ∧ W.cell? ⟨w.heap.size, 0, none⟩ = some (.int .u64 an) ∧ W.cell? ⟨w.heap.size, 1, none⟩ = some (.int .u64 ad) ∧ W.cell? ⟨w.heap.size + 1, 0, none⟩ = some (.int .u64 bn) ∧ W.cell? ⟨w.heap.size + 1, 1, none⟩ = some (.int .u64 bd) ∧ w.heap.size + 1 < W.heap.size := ⟨_, rfl, by go_simp, by go_simp, by go_simp, by go_simp, by simp⟩
    rw [← hW]
    have HW := Lib.hid (show Below w.heap.size w W by rw [hW]; repeat (first | exact Below.refl _ _ | refine Below.al ?_ _ | refine Below.dr ?_ _ | refine Below.drew ?_ | assumption | (refine Below.st ?_ (by assumption))))
    clear hW
    refine (HRA.out _).mono ?_
    rintro e w1 ⟨rfl, hb1⟩
    have d0 := cell_later hb1 c0
    have d1 := cell_later hb1 c1
    have d2 := cell_later hb1 c2
    have d3 := cell_later hb1 c3
    have HB1 := Lib.hid (HW.out.st hb1)
    clear c0 c1 c2 c3 hb1
    go_wp2_with fail
    refine (HC2.out _).mono ?_
    rintro e w2 ⟨rfl, hb2⟩
    have HB2 := Lib.hid (HB1.out.st hb2)
    clear hb2
    go_wp2_with (go_at_call 41; refine (HAL.out _ (tabIs_go HT.out HB2.out)).mono ?_; rintro e w9 ⟨rfl, hb9⟩)
    go_ret
    exact ⟨rfl, HB2.out.st hb9⟩
  | true =>
    cases h2 : rightR bn bd with
    | false =>
      rw [h1] at HRA
      rw [h2] at HRB
      rw [show cmpR an ad bn bd = 0 by unfold cmpR; rw [h1, h2]; rfl] at HC2
      clear ht hv hbs h1 h2
      go_enter Tryd.func9, Tryd.ntmps9
      go_wp2_with fail
      obtain ⟨W, hW, c0, c1, c2, c3, hsW⟩ : ∃ W, W = (w.alloc (Obj.cells #[.int .u64 an, .int .u64 ad] 41)).alloc (Obj.cells #[.int .u64 bn, .int .u64 bd] 41) ∧ W.cell? ⟨w.heap.size, 0, none⟩ = some (.int .u64 an) ∧ W.cell? ⟨w.heap.size, 1, none⟩ = some (.int .u64 ad) ∧ W.cell? ⟨w.heap.size + 1, 0, none⟩ = some (.int .u64 bn) ∧ W.cell? ⟨w.heap.size + 1, 1, none⟩ = some (.int .u64 bd) ∧ w.heap.size + 1 < W.heap.size := ⟨_, rfl, by go_simp, by go_simp, by go_simp, by go_simp, by simp⟩
      rw [← hW]
      have HW := Lib.hid (show Below w.heap.size w W by rw [hW]; repeat (first | exact Below.refl _ _ | refine Below.al ?_ _ | refine Below.dr ?_ _ | refine Below.drew ?_ | assumption | (refine Below.st ?_ (by assumption))))
      clear hW
      refine (HRA.out _).mono ?_
      rintro e w0 ⟨rfl, hb⟩
      have d0 := cell_later hb c0
      have d1 := cell_later hb c1
      have d2 := cell_later hb c2
      have d3 := cell_later hb c3
      have HBw0 := Lib.hid (HW.out.st hb)
      clear c0 c1 c2 c3 hb
      have c0 := d0
      have c1 := d1
      have c2 := d2
      have c3 := d3
      clear d0 d1 d2 d3
      go_wp2_with fail
      refine (HRB.out _).mono ?_
      rintro e w1 ⟨rfl, hb1⟩
      have d0 := cell_later hb1 c0
      have d1 := cell_later hb1 c1
      have d2 := cell_later hb1 c2
      have d3 := cell_later hb1 c3
      have HB1 := Lib.hid (HBw0.out.st hb1)
      clear c0 c1 c2 c3 hb1
      go_wp2_with fail
      refine (HC2.out _).mono ?_
      rintro e w2 ⟨rfl, hb2⟩
      have HB2 := Lib.hid (HB1.out.st hb2)
      clear hb2
      go_wp2_with (go_at_call 41; refine (HAL.out _ (tabIs_go HT.out HB2.out)).mono ?_; rintro e w9 ⟨rfl, hb9⟩)
      go_ret
      exact ⟨rfl, HB2.out.st hb9⟩
    | true =>
      have HRD := Lib.hid (fun W => Reduce_any an ad W ha)
      obtain ⟨g, hg, kx, ky, k0, k1, kr⟩ := red_fact ha h1
      clear kx ky
      have HC1 := Lib.hid (fun W => Cmp_ratio an ad (redN an ad) (redD an ad) W ha k0)
      rw [cmp_red ha h1] at HC1
      have HC3 := Lib.hid (fun W => Cmp_ratio bn bd an ad W hb ha)
      have HI1 := Lib.hid (fun W => Within_any v an ad base W hv ha hbs)
      have HI2 := Lib.hid (fun W => Within_any v (redN an ad) (redD an ad) base W hv k0 hbs)
      rw [within_red ha h1] at HI2
      have HI3 := Lib.hid (fun W => Within_any v bn bd base W hv hb hbs)
      have hmore := @within_more v an ad bn bd base hbs.1 h1 h2
      have hturn := cmp_turn an ad bn bd
      have HUP := Lib.hid (fun (h : ¬ 4294967296 < base) => up_all ha h1 hbs.1 (by omega))
      have hbd := cmpR_bd an ad bn bd
      have hbs0 := hbs.1
      have hbs1 := hbs.2
      rw [h1] at HRA
      rw [h2] at HRB
      clear ht hv hbs h1 h2 hg kr k0 k1
      generalize redN an ad = cn at *
      generalize redD an ad = cd at *
      generalize withinR v an ad base = wa at *
      generalize withinR v bn bd base = wb at *
      generalize cmpR bn bd an ad = y at *
      generalize cmpR an ad bn bd = x at *
      rcases hbd with rfl | rfl | rfl
      · obtain rfl : y = 0 := by omega
        cases wa with
        | false =>
          clear hmore hturn
          go_enter Tryd.func9, Tryd.ntmps9
          go_wp2_with fail
          obtain ⟨W, hW, c0, c1, c2, c3, hsW⟩ : ∃ W, W = (w.alloc (Obj.cells #[.int .u64 an, .int .u64 ad] 41)).alloc (Obj.cells #[.int .u64 bn, .int .u64 bd] 41) ∧ W.cell? ⟨w.heap.size, 0, none⟩ = some (.int .u64 an) ∧ W.cell? ⟨w.heap.size, 1, none⟩ = some (.int .u64 ad) ∧ W.cell? ⟨w.heap.size + 1, 0, none⟩ = some (.int .u64 bn) ∧ W.cell? ⟨w.heap.size + 1, 1, none⟩ = some (.int .u64 bd) ∧ w.heap.size + 1 < W.heap.size := ⟨_, rfl, by go_simp, by go_simp, by go_simp, by go_simp, by simp⟩
          rw [← hW]
          have HW := Lib.hid (show Below w.heap.size w W by rw [hW]; repeat (first | exact Below.refl _ _ | refine Below.al ?_ _ | refine Below.dr ?_ _ | refine Below.drew ?_ | assumption | (refine Below.st ?_ (by assumption))))
          clear hW
          refine (HRA.out _).mono ?_
          rintro e w1 ⟨rfl, hb⟩
          have d0 := cell_later hb c0
          have d1 := cell_later hb c1
          have d2 := cell_later hb c2
          have d3 := cell_later hb c3
          have HBw1 := Lib.hid (HW.out.st hb)
          clear c0 c1 c2 c3 hb
          have c0 := d0
          have c1 := d1
          have c2 := d2
          have c3 := d3
          clear d0 d1 d2 d3
          go_wp2_with fail
          refine (HRB.out _).mono ?_
          rintro e w2 ⟨rfl, hb⟩
          have d0 := cell_later hb c0
          have d1 := cell_later hb c1
          have d2 := cell_later hb c2
          have d3 := cell_later hb c3
          have HBw2 := Lib.hid (HBw1.out.st hb)
          clear c0 c1 c2 c3 hb
          have c0 := d0
          have c1 := d1
          have c2 := d2
          have c3 := d3
          clear d0 d1 d2 d3
          go_wp2_with fail
          refine (HRD.out _).mono ?_
          rintro e w3 ⟨rfl, hb⟩
          have d0 := cell_later hb c0
          have d1 := cell_later hb c1
          have d2 := cell_later hb c2
          have d3 := cell_later hb c3
          have HBw3 := Lib.hid (HBw2.out.st hb)
          clear c0 c1 c2 c3 hb
          have c0 := d0
          have c1 := d1
          have c2 := d2
          have c3 := d3
          clear d0 d1 d2 d3
          go_wp2_with fail
          obtain ⟨V, hV, d0, d1, d2, d3, d4, d5, hBV⟩ : ∃ V, V = w3.alloc (Obj.cells #[.int .u64 cn, .int .u64 cd] 41) ∧ V.cell? ⟨w.heap.size, 0, none⟩ = some (.int .u64 an) ∧ V.cell? ⟨w.heap.size, 1, none⟩ = some (.int .u64 ad) ∧ V.cell? ⟨w.heap.size + 1, 0, none⟩ = some (.int .u64 bn) ∧ V.cell? ⟨w.heap.size + 1, 1, none⟩ = some (.int .u64 bd) ∧ V.cell? ⟨w3.heap.size, 0, none⟩ = some (.int .u64 cn) ∧ V.cell? ⟨w3.heap.size, 1, none⟩ = some (.int .u64 cd) ∧ Below w.heap.size w V :=
            ⟨_, rfl, cell_later (Below.of_al _ _) c0, cell_later (Below.of_al _ _) c1, cell_later (Below.of_al _ _) c2, cell_later (Below.of_al _ _) c3, by go_simp, by go_simp, HBw3.out.al _⟩
          rw [← hV]
          have HBV := Lib.hid hBV
          clear hV hBV c0 c1 c2 c3
          have e0 := fun p => cell_ext p d0
          have e1 := fun p => cell_ext p d1
          have e2 := fun p => cell_ext p d2
          have e3 := fun p => cell_ext p d3
          have e4 := fun p => cell_ext p d4
          have e5 := fun p => cell_ext p d5
          refine wp_region_ext (by kernel_rfl) (by kernel_rfl) ?_
          repeat (go_big_quiet_step ((first
            | (go_at_call 42; first | with_reducible exact Calls.ext_of (HC1.out _) | with_reducible exact Calls.ext_of (HC2.out _) | with_reducible exact Calls.ext_of (HC3.out _))
            | (go_at_call 35; first | with_reducible exact Calls.ext_of (HI1.out _) | with_reducible exact Calls.ext_of (HI2.out _)))))
          refine wpQuiet_nil ?_
          rintro _ ⟨p4, rfl⟩
          have HB4 := Lib.hid (below_ext V p4)
          generalize ext V p4 = w4 at HB4 ⊢
          have c0 := cell_later HB4.out d0
          have c1 := cell_later HB4.out d1
          have c2 := cell_later HB4.out d2
          have c3 := cell_later HB4.out d3
          have HBw4 := Lib.hid (HBV.out.st HB4.out)
          clear d0 d1 d2 d3 d4 d5 e0 e1 e2 e3 e4 e5
          go_wp2_with fail
          refine (HC2.out _).mono ?_
          rintro e w5 ⟨rfl, hb⟩
          have d0 := cell_later hb c0
          have d1 := cell_later hb c1
          have d2 := cell_later hb c2
          have d3 := cell_later hb c3
          have HBw5 := Lib.hid (HBw4.out.st hb)
          clear c0 c1 c2 c3 hb
          have c0 := d0
          have c1 := d1
          have c2 := d2
          have c3 := d3
          clear d0 d1 d2 d3
          go_wp2_with fail
          refine (HI1.out _).mono ?_
          rintro e w6 ⟨rfl, hb⟩
          have d0 := cell_later hb c0
          have d1 := cell_later hb c1
          have d2 := cell_later hb c2
          have d3 := cell_later hb c3
          have HBw6 := Lib.hid (HBw5.out.st hb)
          clear c0 c1 c2 c3 hb
          have c0 := d0
          have c1 := d1
          have c2 := d2
          have c3 := d3
          clear d0 d1 d2 d3
          by_cases hbig : 4294967296 < base
          · go_wp2_with (go_at_call 41; refine (HAL.out _ (tabIs_go HT.out HBw6.out)).mono ?_; rintro e w9 ⟨rfl, hb9⟩)
            go_ret
            exact ⟨rfl, HBw6.out.st hb9⟩
          · obtain ⟨q, hu, hq0, hqa, hqb, v1, v2⟩ := HUP.out (by omega)
            rcases hqb with hq | ⟨hq, hqc, hqd, hqe⟩
            · subst hq
              have hqa2 : base * an ≤ 0 := by simpa using hqa
              clear hqa v1
              have hzz : IntKind.u64.wrap 0 = 0 := by rw [IntKind.wrap_u64]; rfl
              go_wp2_with fail
              refine (hu _).mono ?_
              rintro e w8 ⟨rfl, hb⟩
              have d0 := cell_later hb c0
              have d1 := cell_later hb c1
              have d2 := cell_later hb c2
              have d3 := cell_later hb c3
              have HBw8 := Lib.hid (HBw6.out.st hb)
              clear c0 c1 c2 c3 hb
              have c0 := d0
              have c1 := d1
              have c2 := d2
              have c3 := d3
              clear d0 d1 d2 d3
              go_wp2_with (go_at_call 41; refine (HAL.out _ (tabIs_go HT.out HBw8.out)).mono ?_; rintro e w9 ⟨rfl, hb9⟩)
              go_ret
              exact ⟨rfl, HBw8.out.st hb9⟩
            · have hqz : (q == 0) = false := by rw [beq_eq_false_iff_ne]; exact hq
              go_wp2_with fail
              refine (hu _).mono ?_
              rintro e w8 ⟨rfl, hb⟩
              have d0 := cell_later hb c0
              have d1 := cell_later hb c1
              have d2 := cell_later hb c2
              have d3 := cell_later hb c3
              have HBw8 := Lib.hid (HBw6.out.st hb)
              clear c0 c1 c2 c3 hb
              have c0 := d0
              have c1 := d1
              have c2 := d2
              have c3 := d3
              clear d0 d1 d2 d3
              go_wp2_with (go_at_call 41; refine (HAL.out _ (tabIs_go HT.out HBw8.out)).mono ?_; rintro e w9 ⟨rfl, hb9⟩)
              go_ret
              exact ⟨rfl, HBw8.out.st hb9⟩
        | true =>
          obtain rfl : wb = true := hmore (by decide) rfl
          clear hmore hturn
          go_enter Tryd.func9, Tryd.ntmps9
          go_wp2_with fail
          obtain ⟨W, hW, c0, c1, c2, c3, hsW⟩ : ∃ W, W = (w.alloc (Obj.cells #[.int .u64 an, .int .u64 ad] 41)).alloc (Obj.cells #[.int .u64 bn, .int .u64 bd] 41) ∧ W.cell? ⟨w.heap.size, 0, none⟩ = some (.int .u64 an) ∧ W.cell? ⟨w.heap.size, 1, none⟩ = some (.int .u64 ad) ∧ W.cell? ⟨w.heap.size + 1, 0, none⟩ = some (.int .u64 bn) ∧ W.cell? ⟨w.heap.size + 1, 1, none⟩ = some (.int .u64 bd) ∧ w.heap.size + 1 < W.heap.size := ⟨_, rfl, by go_simp, by go_simp, by go_simp, by go_simp, by simp⟩
          rw [← hW]
          have HW := Lib.hid (show Below w.heap.size w W by rw [hW]; repeat (first | exact Below.refl _ _ | refine Below.al ?_ _ | refine Below.dr ?_ _ | refine Below.drew ?_ | assumption | (refine Below.st ?_ (by assumption))))
          clear hW
          refine (HRA.out _).mono ?_
          rintro e w1 ⟨rfl, hb⟩
          have d0 := cell_later hb c0
          have d1 := cell_later hb c1
          have d2 := cell_later hb c2
          have d3 := cell_later hb c3
          have HBw1 := Lib.hid (HW.out.st hb)
          clear c0 c1 c2 c3 hb
          have c0 := d0
          have c1 := d1
          have c2 := d2
          have c3 := d3
          clear d0 d1 d2 d3
          go_wp2_with fail
          refine (HRB.out _).mono ?_
          rintro e w2 ⟨rfl, hb⟩
          have d0 := cell_later hb c0
          have d1 := cell_later hb c1
          have d2 := cell_later hb c2
          have d3 := cell_later hb c3
          have HBw2 := Lib.hid (HBw1.out.st hb)
          clear c0 c1 c2 c3 hb
          have c0 := d0
          have c1 := d1
          have c2 := d2
          have c3 := d3
          clear d0 d1 d2 d3
          go_wp2_with fail
          refine (HRD.out _).mono ?_
          rintro e w3 ⟨rfl, hb⟩
          have d0 := cell_later hb c0
          have d1 := cell_later hb c1
          have d2 := cell_later hb c2
          have d3 := cell_later hb c3
          have HBw3 := Lib.hid (HBw2.out.st hb)
          clear c0 c1 c2 c3 hb
          have c0 := d0
          have c1 := d1
          have c2 := d2
          have c3 := d3
          clear d0 d1 d2 d3
          go_wp2_with fail
          obtain ⟨V, hV, d0, d1, d2, d3, d4, d5, hBV⟩ : ∃ V, V = w3.alloc (Obj.cells #[.int .u64 cn, .int .u64 cd] 41) ∧ V.cell? ⟨w.heap.size, 0, none⟩ = some (.int .u64 an) ∧ V.cell? ⟨w.heap.size, 1, none⟩ = some (.int .u64 ad) ∧ V.cell? ⟨w.heap.size + 1, 0, none⟩ = some (.int .u64 bn) ∧ V.cell? ⟨w.heap.size + 1, 1, none⟩ = some (.int .u64 bd) ∧ V.cell? ⟨w3.heap.size, 0, none⟩ = some (.int .u64 cn) ∧ V.cell? ⟨w3.heap.size, 1, none⟩ = some (.int .u64 cd) ∧ Below w.heap.size w V :=
            ⟨_, rfl, cell_later (Below.of_al _ _) c0, cell_later (Below.of_al _ _) c1, cell_later (Below.of_al _ _) c2, cell_later (Below.of_al _ _) c3, by go_simp, by go_simp, HBw3.out.al _⟩
          rw [← hV]
          have HBV := Lib.hid hBV
          clear hV hBV c0 c1 c2 c3
          have e0 := fun p => cell_ext p d0
          have e1 := fun p => cell_ext p d1
          have e2 := fun p => cell_ext p d2
          have e3 := fun p => cell_ext p d3
          have e4 := fun p => cell_ext p d4
          have e5 := fun p => cell_ext p d5
          refine wp_region_ext (by kernel_rfl) (by kernel_rfl) ?_
          repeat (go_big_quiet_step ((first
            | (go_at_call 42; first | with_reducible exact Calls.ext_of (HC1.out _) | with_reducible exact Calls.ext_of (HC2.out _) | with_reducible exact Calls.ext_of (HC3.out _))
            | (go_at_call 35; first | with_reducible exact Calls.ext_of (HI1.out _) | with_reducible exact Calls.ext_of (HI2.out _)))))
          refine wpQuiet_nil ?_
          rintro _ ⟨p4, rfl⟩
          have HB4 := Lib.hid (below_ext V p4)
          generalize ext V p4 = w4 at HB4 ⊢
          have c0 := cell_later HB4.out d0
          have c1 := cell_later HB4.out d1
          have c2 := cell_later HB4.out d2
          have c3 := cell_later HB4.out d3
          have HBw4 := Lib.hid (HBV.out.st HB4.out)
          clear d0 d1 d2 d3 d4 d5 e0 e1 e2 e3 e4 e5
          go_wp2_with fail
          refine (HC2.out _).mono ?_
          rintro e w5 ⟨rfl, hb⟩
          have d0 := cell_later hb c0
          have d1 := cell_later hb c1
          have d2 := cell_later hb c2
          have d3 := cell_later hb c3
          have HBw5 := Lib.hid (HBw4.out.st hb)
          clear c0 c1 c2 c3 hb
          have c0 := d0
          have c1 := d1
          have c2 := d2
          have c3 := d3
          clear d0 d1 d2 d3
          go_wp2_with fail
          refine (HI1.out _).mono ?_
          rintro e w6 ⟨rfl, hb⟩
          have d0 := cell_later hb c0
          have d1 := cell_later hb c1
          have d2 := cell_later hb c2
          have d3 := cell_later hb c3
          have HBw6 := Lib.hid (HBw5.out.st hb)
          clear c0 c1 c2 c3 hb
          have c0 := d0
          have c1 := d1
          have c2 := d2
          have c3 := d3
          clear d0 d1 d2 d3
          go_wp2_with fail
          refine (HI3.out _).mono ?_
          rintro e w7 ⟨rfl, hb⟩
          have d0 := cell_later hb c0
          have d1 := cell_later hb c1
          have d2 := cell_later hb c2
          have d3 := cell_later hb c3
          have HBw7 := Lib.hid (HBw6.out.st hb)
          clear c0 c1 c2 c3 hb
          have c0 := d0
          have c1 := d1
          have c2 := d2
          have c3 := d3
          clear d0 d1 d2 d3
          by_cases hbig : 4294967296 < base
          · go_wp2_with (go_at_call 41; refine (HAL.out _ (tabIs_go HT.out HBw7.out)).mono ?_; rintro e w9 ⟨rfl, hb9⟩)
            go_ret
            exact ⟨rfl, HBw7.out.st hb9⟩
          · obtain ⟨q, hu, hq0, hqa, hqb, v1, v2⟩ := HUP.out (by omega)
            rcases hqb with hq | ⟨hq, hqc, hqd, hqe⟩
            · subst hq
              have hqa2 : base * an ≤ 0 := by simpa using hqa
              clear hqa v1
              have hzz : IntKind.u64.wrap 0 = 0 := by rw [IntKind.wrap_u64]; rfl
              go_wp2_with fail
              refine (hu _).mono ?_
              rintro e w8 ⟨rfl, hb⟩
              have d0 := cell_later hb c0
              have d1 := cell_later hb c1
              have d2 := cell_later hb c2
              have d3 := cell_later hb c3
              have HBw8 := Lib.hid (HBw7.out.st hb)
              clear c0 c1 c2 c3 hb
              have c0 := d0
              have c1 := d1
              have c2 := d2
              have c3 := d3
              clear d0 d1 d2 d3
              go_wp2_with (go_at_call 41; refine (HAL.out _ (tabIs_go HT.out HBw8.out)).mono ?_; rintro e w9 ⟨rfl, hb9⟩)
              go_ret
              exact ⟨rfl, HBw8.out.st hb9⟩
            · have hqz : (q == 0) = false := by rw [beq_eq_false_iff_ne]; exact hq
              go_wp2_with fail
              refine (hu _).mono ?_
              rintro e w8 ⟨rfl, hb⟩
              have d0 := cell_later hb c0
              have d1 := cell_later hb c1
              have d2 := cell_later hb c2
              have d3 := cell_later hb c3
              have HBw8 := Lib.hid (HBw7.out.st hb)
              clear c0 c1 c2 c3 hb
              have c0 := d0
              have c1 := d1
              have c2 := d2
              have c3 := d3
              clear d0 d1 d2 d3
              go_wp2_with (go_at_call 41; refine (HAL.out _ (tabIs_go HT.out HBw8.out)).mono ?_; rintro e w9 ⟨rfl, hb9⟩)
              go_ret
              exact ⟨rfl, HBw8.out.st hb9⟩
      · obtain rfl : y = 1 := by omega
        cases wa with
        | false =>
          clear hmore hturn
          go_enter Tryd.func9, Tryd.ntmps9
          go_wp2_with fail
          obtain ⟨W, hW, c0, c1, c2, c3, hsW⟩ : ∃ W, W = (w.alloc (Obj.cells #[.int .u64 an, .int .u64 ad] 41)).alloc (Obj.cells #[.int .u64 bn, .int .u64 bd] 41) ∧ W.cell? ⟨w.heap.size, 0, none⟩ = some (.int .u64 an) ∧ W.cell? ⟨w.heap.size, 1, none⟩ = some (.int .u64 ad) ∧ W.cell? ⟨w.heap.size + 1, 0, none⟩ = some (.int .u64 bn) ∧ W.cell? ⟨w.heap.size + 1, 1, none⟩ = some (.int .u64 bd) ∧ w.heap.size + 1 < W.heap.size := ⟨_, rfl, by go_simp, by go_simp, by go_simp, by go_simp, by simp⟩
          rw [← hW]
          have HW := Lib.hid (show Below w.heap.size w W by rw [hW]; repeat (first | exact Below.refl _ _ | refine Below.al ?_ _ | refine Below.dr ?_ _ | refine Below.drew ?_ | assumption | (refine Below.st ?_ (by assumption))))
          clear hW
          refine (HRA.out _).mono ?_
          rintro e w1 ⟨rfl, hb⟩
          have d0 := cell_later hb c0
          have d1 := cell_later hb c1
          have d2 := cell_later hb c2
          have d3 := cell_later hb c3
          have HBw1 := Lib.hid (HW.out.st hb)
          clear c0 c1 c2 c3 hb
          have c0 := d0
          have c1 := d1
          have c2 := d2
          have c3 := d3
          clear d0 d1 d2 d3
          go_wp2_with fail
          refine (HRB.out _).mono ?_
          rintro e w2 ⟨rfl, hb⟩
          have d0 := cell_later hb c0
          have d1 := cell_later hb c1
          have d2 := cell_later hb c2
          have d3 := cell_later hb c3
          have HBw2 := Lib.hid (HBw1.out.st hb)
          clear c0 c1 c2 c3 hb
          have c0 := d0
          have c1 := d1
          have c2 := d2
          have c3 := d3
          clear d0 d1 d2 d3
          go_wp2_with fail
          refine (HRD.out _).mono ?_
          rintro e w3 ⟨rfl, hb⟩
          have d0 := cell_later hb c0
          have d1 := cell_later hb c1
          have d2 := cell_later hb c2
          have d3 := cell_later hb c3
          have HBw3 := Lib.hid (HBw2.out.st hb)
          clear c0 c1 c2 c3 hb
          have c0 := d0
          have c1 := d1
          have c2 := d2
          have c3 := d3
          clear d0 d1 d2 d3
          go_wp2_with fail
          obtain ⟨V, hV, d0, d1, d2, d3, d4, d5, hBV⟩ : ∃ V, V = w3.alloc (Obj.cells #[.int .u64 cn, .int .u64 cd] 41) ∧ V.cell? ⟨w.heap.size, 0, none⟩ = some (.int .u64 an) ∧ V.cell? ⟨w.heap.size, 1, none⟩ = some (.int .u64 ad) ∧ V.cell? ⟨w.heap.size + 1, 0, none⟩ = some (.int .u64 bn) ∧ V.cell? ⟨w.heap.size + 1, 1, none⟩ = some (.int .u64 bd) ∧ V.cell? ⟨w3.heap.size, 0, none⟩ = some (.int .u64 cn) ∧ V.cell? ⟨w3.heap.size, 1, none⟩ = some (.int .u64 cd) ∧ Below w.heap.size w V :=
            ⟨_, rfl, cell_later (Below.of_al _ _) c0, cell_later (Below.of_al _ _) c1, cell_later (Below.of_al _ _) c2, cell_later (Below.of_al _ _) c3, by go_simp, by go_simp, HBw3.out.al _⟩
          rw [← hV]
          have HBV := Lib.hid hBV
          clear hV hBV c0 c1 c2 c3
          have e0 := fun p => cell_ext p d0
          have e1 := fun p => cell_ext p d1
          have e2 := fun p => cell_ext p d2
          have e3 := fun p => cell_ext p d3
          have e4 := fun p => cell_ext p d4
          have e5 := fun p => cell_ext p d5
          refine wp_region_ext (by kernel_rfl) (by kernel_rfl) ?_
          repeat (go_big_quiet_step ((first
            | (go_at_call 42; first | with_reducible exact Calls.ext_of (HC1.out _) | with_reducible exact Calls.ext_of (HC2.out _) | with_reducible exact Calls.ext_of (HC3.out _))
            | (go_at_call 35; first | with_reducible exact Calls.ext_of (HI1.out _) | with_reducible exact Calls.ext_of (HI2.out _)))))
          refine wpQuiet_nil ?_
          rintro _ ⟨p4, rfl⟩
          have HB4 := Lib.hid (below_ext V p4)
          generalize ext V p4 = w4 at HB4 ⊢
          have c0 := cell_later HB4.out d0
          have c1 := cell_later HB4.out d1
          have c2 := cell_later HB4.out d2
          have c3 := cell_later HB4.out d3
          have HBw4 := Lib.hid (HBV.out.st HB4.out)
          clear d0 d1 d2 d3 d4 d5 e0 e1 e2 e3 e4 e5
          go_wp2_with fail
          refine (HC2.out _).mono ?_
          rintro e w5 ⟨rfl, hb⟩
          have d0 := cell_later hb c0
          have d1 := cell_later hb c1
          have d2 := cell_later hb c2
          have d3 := cell_later hb c3
          have HBw5 := Lib.hid (HBw4.out.st hb)
          clear c0 c1 c2 c3 hb
          have c0 := d0
          have c1 := d1
          have c2 := d2
          have c3 := d3
          clear d0 d1 d2 d3
          go_wp2_with fail
          refine (HI1.out _).mono ?_
          rintro e w6 ⟨rfl, hb⟩
          have d0 := cell_later hb c0
          have d1 := cell_later hb c1
          have d2 := cell_later hb c2
          have d3 := cell_later hb c3
          have HBw6 := Lib.hid (HBw5.out.st hb)
          clear c0 c1 c2 c3 hb
          have c0 := d0
          have c1 := d1
          have c2 := d2
          have c3 := d3
          clear d0 d1 d2 d3
          by_cases hbig : 4294967296 < base
          · go_wp2_with (go_at_call 41; refine (HAL.out _ (tabIs_go HT.out HBw6.out)).mono ?_; rintro e w9 ⟨rfl, hb9⟩)
            go_ret
            exact ⟨rfl, HBw6.out.st hb9⟩
          · obtain ⟨q, hu, hq0, hqa, hqb, v1, v2⟩ := HUP.out (by omega)
            rcases hqb with hq | ⟨hq, hqc, hqd, hqe⟩
            · subst hq
              have hqa2 : base * an ≤ 0 := by simpa using hqa
              clear hqa v1
              have hzz : IntKind.u64.wrap 0 = 0 := by rw [IntKind.wrap_u64]; rfl
              go_wp2_with fail
              refine (hu _).mono ?_
              rintro e w8 ⟨rfl, hb⟩
              have d0 := cell_later hb c0
              have d1 := cell_later hb c1
              have d2 := cell_later hb c2
              have d3 := cell_later hb c3
              have HBw8 := Lib.hid (HBw6.out.st hb)
              clear c0 c1 c2 c3 hb
              have c0 := d0
              have c1 := d1
              have c2 := d2
              have c3 := d3
              clear d0 d1 d2 d3
              go_wp2_with (go_at_call 41; refine (HAL.out _ (tabIs_go HT.out HBw8.out)).mono ?_; rintro e w9 ⟨rfl, hb9⟩)
              go_ret
              exact ⟨rfl, HBw8.out.st hb9⟩
            · have hqz : (q == 0) = false := by rw [beq_eq_false_iff_ne]; exact hq
              go_wp2_with fail
              refine (hu _).mono ?_
              rintro e w8 ⟨rfl, hb⟩
              have d0 := cell_later hb c0
              have d1 := cell_later hb c1
              have d2 := cell_later hb c2
              have d3 := cell_later hb c3
              have HBw8 := Lib.hid (HBw6.out.st hb)
              clear c0 c1 c2 c3 hb
              have c0 := d0
              have c1 := d1
              have c2 := d2
              have c3 := d3
              clear d0 d1 d2 d3
              go_wp2_with (go_at_call 41; refine (HAL.out _ (tabIs_go HT.out HBw8.out)).mono ?_; rintro e w9 ⟨rfl, hb9⟩)
              go_ret
              exact ⟨rfl, HBw8.out.st hb9⟩
        | true =>
          obtain rfl : wb = true := hmore (by decide) rfl
          clear hmore hturn
          go_enter Tryd.func9, Tryd.ntmps9
          go_wp2_with fail
          obtain ⟨W, hW, c0, c1, c2, c3, hsW⟩ : ∃ W, W = (w.alloc (Obj.cells #[.int .u64 an, .int .u64 ad] 41)).alloc (Obj.cells #[.int .u64 bn, .int .u64 bd] 41) ∧ W.cell? ⟨w.heap.size, 0, none⟩ = some (.int .u64 an) ∧ W.cell? ⟨w.heap.size, 1, none⟩ = some (.int .u64 ad) ∧ W.cell? ⟨w.heap.size + 1, 0, none⟩ = some (.int .u64 bn) ∧ W.cell? ⟨w.heap.size + 1, 1, none⟩ = some (.int .u64 bd) ∧ w.heap.size + 1 < W.heap.size := ⟨_, rfl, by go_simp, by go_simp, by go_simp, by go_simp, by simp⟩
          rw [← hW]
          have HW := Lib.hid (show Below w.heap.size w W by rw [hW]; repeat (first | exact Below.refl _ _ | refine Below.al ?_ _ | refine Below.dr ?_ _ | refine Below.drew ?_ | assumption | (refine Below.st ?_ (by assumption))))
          clear hW
          refine (HRA.out _).mono ?_
          rintro e w1 ⟨rfl, hb⟩
          have d0 := cell_later hb c0
          have d1 := cell_later hb c1
          have d2 := cell_later hb c2
          have d3 := cell_later hb c3
          have HBw1 := Lib.hid (HW.out.st hb)
          clear c0 c1 c2 c3 hb
          have c0 := d0
          have c1 := d1
          have c2 := d2
          have c3 := d3
          clear d0 d1 d2 d3
          go_wp2_with fail
          refine (HRB.out _).mono ?_
          rintro e w2 ⟨rfl, hb⟩
          have d0 := cell_later hb c0
          have d1 := cell_later hb c1
          have d2 := cell_later hb c2
          have d3 := cell_later hb c3
          have HBw2 := Lib.hid (HBw1.out.st hb)
          clear c0 c1 c2 c3 hb
          have c0 := d0
          have c1 := d1
          have c2 := d2
          have c3 := d3
          clear d0 d1 d2 d3
          go_wp2_with fail
          refine (HRD.out _).mono ?_
          rintro e w3 ⟨rfl, hb⟩
          have d0 := cell_later hb c0
          have d1 := cell_later hb c1
          have d2 := cell_later hb c2
          have d3 := cell_later hb c3
          have HBw3 := Lib.hid (HBw2.out.st hb)
          clear c0 c1 c2 c3 hb
          have c0 := d0
          have c1 := d1
          have c2 := d2
          have c3 := d3
          clear d0 d1 d2 d3
          go_wp2_with fail
          obtain ⟨V, hV, d0, d1, d2, d3, d4, d5, hBV⟩ : ∃ V, V = w3.alloc (Obj.cells #[.int .u64 cn, .int .u64 cd] 41) ∧ V.cell? ⟨w.heap.size, 0, none⟩ = some (.int .u64 an) ∧ V.cell? ⟨w.heap.size, 1, none⟩ = some (.int .u64 ad) ∧ V.cell? ⟨w.heap.size + 1, 0, none⟩ = some (.int .u64 bn) ∧ V.cell? ⟨w.heap.size + 1, 1, none⟩ = some (.int .u64 bd) ∧ V.cell? ⟨w3.heap.size, 0, none⟩ = some (.int .u64 cn) ∧ V.cell? ⟨w3.heap.size, 1, none⟩ = some (.int .u64 cd) ∧ Below w.heap.size w V :=
            ⟨_, rfl, cell_later (Below.of_al _ _) c0, cell_later (Below.of_al _ _) c1, cell_later (Below.of_al _ _) c2, cell_later (Below.of_al _ _) c3, by go_simp, by go_simp, HBw3.out.al _⟩
          rw [← hV]
          have HBV := Lib.hid hBV
          clear hV hBV c0 c1 c2 c3
          have e0 := fun p => cell_ext p d0
          have e1 := fun p => cell_ext p d1
          have e2 := fun p => cell_ext p d2
          have e3 := fun p => cell_ext p d3
          have e4 := fun p => cell_ext p d4
          have e5 := fun p => cell_ext p d5
          refine wp_region_ext (by kernel_rfl) (by kernel_rfl) ?_
          repeat (go_big_quiet_step ((first
            | (go_at_call 42; first | with_reducible exact Calls.ext_of (HC1.out _) | with_reducible exact Calls.ext_of (HC2.out _) | with_reducible exact Calls.ext_of (HC3.out _))
            | (go_at_call 35; first | with_reducible exact Calls.ext_of (HI1.out _) | with_reducible exact Calls.ext_of (HI2.out _)))))
          refine wpQuiet_nil ?_
          rintro _ ⟨p4, rfl⟩
          have HB4 := Lib.hid (below_ext V p4)
          generalize ext V p4 = w4 at HB4 ⊢
          have c0 := cell_later HB4.out d0
          have c1 := cell_later HB4.out d1
          have c2 := cell_later HB4.out d2
          have c3 := cell_later HB4.out d3
          have HBw4 := Lib.hid (HBV.out.st HB4.out)
          clear d0 d1 d2 d3 d4 d5 e0 e1 e2 e3 e4 e5
          go_wp2_with fail
          refine (HC2.out _).mono ?_
          rintro e w5 ⟨rfl, hb⟩
          have d0 := cell_later hb c0
          have d1 := cell_later hb c1
          have d2 := cell_later hb c2
          have d3 := cell_later hb c3
          have HBw5 := Lib.hid (HBw4.out.st hb)
          clear c0 c1 c2 c3 hb
          have c0 := d0
          have c1 := d1
          have c2 := d2
          have c3 := d3
          clear d0 d1 d2 d3
          go_wp2_with fail
          refine (HI1.out _).mono ?_
          rintro e w6 ⟨rfl, hb⟩
          have d0 := cell_later hb c0
          have d1 := cell_later hb c1
          have d2 := cell_later hb c2
          have d3 := cell_later hb c3
          have HBw6 := Lib.hid (HBw5.out.st hb)
          clear c0 c1 c2 c3 hb
          have c0 := d0
          have c1 := d1
          have c2 := d2
          have c3 := d3
          clear d0 d1 d2 d3
          go_wp2_with fail
          refine (HI3.out _).mono ?_
          rintro e w7 ⟨rfl, hb⟩
          have d0 := cell_later hb c0
          have d1 := cell_later hb c1
          have d2 := cell_later hb c2
          have d3 := cell_later hb c3
          have HBw7 := Lib.hid (HBw6.out.st hb)
          clear c0 c1 c2 c3 hb
          have c0 := d0
          have c1 := d1
          have c2 := d2
          have c3 := d3
          clear d0 d1 d2 d3
          by_cases hbig : 4294967296 < base
          · go_wp2_with (go_at_call 41; refine (HAL.out _ (tabIs_go HT.out HBw7.out)).mono ?_; rintro e w9 ⟨rfl, hb9⟩)
            go_ret
            exact ⟨rfl, HBw7.out.st hb9⟩
          · obtain ⟨q, hu, hq0, hqa, hqb, v1, v2⟩ := HUP.out (by omega)
            rcases hqb with hq | ⟨hq, hqc, hqd, hqe⟩
            · subst hq
              have hqa2 : base * an ≤ 0 := by simpa using hqa
              clear hqa v1
              have hzz : IntKind.u64.wrap 0 = 0 := by rw [IntKind.wrap_u64]; rfl
              go_wp2_with fail
              refine (hu _).mono ?_
              rintro e w8 ⟨rfl, hb⟩
              have d0 := cell_later hb c0
              have d1 := cell_later hb c1
              have d2 := cell_later hb c2
              have d3 := cell_later hb c3
              have HBw8 := Lib.hid (HBw7.out.st hb)
              clear c0 c1 c2 c3 hb
              have c0 := d0
              have c1 := d1
              have c2 := d2
              have c3 := d3
              clear d0 d1 d2 d3
              go_wp2_with (go_at_call 41; refine (HAL.out _ (tabIs_go HT.out HBw8.out)).mono ?_; rintro e w9 ⟨rfl, hb9⟩)
              go_ret
              exact ⟨rfl, HBw8.out.st hb9⟩
            · have hqz : (q == 0) = false := by rw [beq_eq_false_iff_ne]; exact hq
              go_wp2_with fail
              refine (hu _).mono ?_
              rintro e w8 ⟨rfl, hb⟩
              have d0 := cell_later hb c0
              have d1 := cell_later hb c1
              have d2 := cell_later hb c2
              have d3 := cell_later hb c3
              have HBw8 := Lib.hid (HBw7.out.st hb)
              clear c0 c1 c2 c3 hb
              have c0 := d0
              have c1 := d1
              have c2 := d2
              have c3 := d3
              clear d0 d1 d2 d3
              go_wp2_with (go_at_call 41; refine (HAL.out _ (tabIs_go HT.out HBw8.out)).mono ?_; rintro e w9 ⟨rfl, hb9⟩)
              go_ret
              exact ⟨rfl, HBw8.out.st hb9⟩
      · obtain rfl : y = -1 := by omega
        clear hmore hturn
        go_enter Tryd.func9, Tryd.ntmps9
        go_wp2_with fail
        obtain ⟨W, hW, c0, c1, c2, c3, hsW⟩ : ∃ W, W = (w.alloc (Obj.cells #[.int .u64 an, .int .u64 ad] 41)).alloc (Obj.cells #[.int .u64 bn, .int .u64 bd] 41) ∧ W.cell? ⟨w.heap.size, 0, none⟩ = some (.int .u64 an) ∧ W.cell? ⟨w.heap.size, 1, none⟩ = some (.int .u64 ad) ∧ W.cell? ⟨w.heap.size + 1, 0, none⟩ = some (.int .u64 bn) ∧ W.cell? ⟨w.heap.size + 1, 1, none⟩ = some (.int .u64 bd) ∧ w.heap.size + 1 < W.heap.size := ⟨_, rfl, by go_simp, by go_simp, by go_simp, by go_simp, by simp⟩
        rw [← hW]
        have HW := Lib.hid (show Below w.heap.size w W by rw [hW]; repeat (first | exact Below.refl _ _ | refine Below.al ?_ _ | refine Below.dr ?_ _ | refine Below.drew ?_ | assumption | (refine Below.st ?_ (by assumption))))
        clear hW
        refine (HRA.out _).mono ?_
        rintro e w1 ⟨rfl, hb⟩
        have d0 := cell_later hb c0
        have d1 := cell_later hb c1
        have d2 := cell_later hb c2
        have d3 := cell_later hb c3
        have HBw1 := Lib.hid (HW.out.st hb)
        clear c0 c1 c2 c3 hb
        have c0 := d0
        have c1 := d1
        have c2 := d2
        have c3 := d3
        clear d0 d1 d2 d3
        go_wp2_with fail
        refine (HRB.out _).mono ?_
        rintro e w2 ⟨rfl, hb⟩
        have d0 := cell_later hb c0
        have d1 := cell_later hb c1
        have d2 := cell_later hb c2
        have d3 := cell_later hb c3
        have HBw2 := Lib.hid (HBw1.out.st hb)
        clear c0 c1 c2 c3 hb
        have c0 := d0
        have c1 := d1
        have c2 := d2
        have c3 := d3
        clear d0 d1 d2 d3
        go_wp2_with fail
        refine (HRD.out _).mono ?_
        rintro e w3 ⟨rfl, hb⟩
        have d0 := cell_later hb c0
        have d1 := cell_later hb c1
        have d2 := cell_later hb c2
        have d3 := cell_later hb c3
        have HBw3 := Lib.hid (HBw2.out.st hb)
        clear c0 c1 c2 c3 hb
        have c0 := d0
        have c1 := d1
        have c2 := d2
        have c3 := d3
        clear d0 d1 d2 d3
        go_wp2_with fail
        obtain ⟨V, hV, d0, d1, d2, d3, d4, d5, hBV⟩ : ∃ V, V = w3.alloc (Obj.cells #[.int .u64 cn, .int .u64 cd] 41) ∧ V.cell? ⟨w.heap.size, 0, none⟩ = some (.int .u64 an) ∧ V.cell? ⟨w.heap.size, 1, none⟩ = some (.int .u64 ad) ∧ V.cell? ⟨w.heap.size + 1, 0, none⟩ = some (.int .u64 bn) ∧ V.cell? ⟨w.heap.size + 1, 1, none⟩ = some (.int .u64 bd) ∧ V.cell? ⟨w3.heap.size, 0, none⟩ = some (.int .u64 cn) ∧ V.cell? ⟨w3.heap.size, 1, none⟩ = some (.int .u64 cd) ∧ Below w.heap.size w V :=
          ⟨_, rfl, cell_later (Below.of_al _ _) c0, cell_later (Below.of_al _ _) c1, cell_later (Below.of_al _ _) c2, cell_later (Below.of_al _ _) c3, by go_simp, by go_simp, HBw3.out.al _⟩
        rw [← hV]
        have HBV := Lib.hid hBV
        clear hV hBV c0 c1 c2 c3
        have e0 := fun p => cell_ext p d0
        have e1 := fun p => cell_ext p d1
        have e2 := fun p => cell_ext p d2
        have e3 := fun p => cell_ext p d3
        have e4 := fun p => cell_ext p d4
        have e5 := fun p => cell_ext p d5
        refine wp_region_ext (by kernel_rfl) (by kernel_rfl) ?_
        repeat (go_big_quiet_step ((first
          | (go_at_call 42; first | with_reducible exact Calls.ext_of (HC1.out _) | with_reducible exact Calls.ext_of (HC2.out _) | with_reducible exact Calls.ext_of (HC3.out _))
          | (go_at_call 35; first | with_reducible exact Calls.ext_of (HI1.out _) | with_reducible exact Calls.ext_of (HI2.out _)))))
        refine wpQuiet_nil ?_
        rintro _ ⟨p4, rfl⟩
        have HB4 := Lib.hid (below_ext V p4)
        generalize ext V p4 = w4 at HB4 ⊢
        have c0 := cell_later HB4.out d0
        have c1 := cell_later HB4.out d1
        have c2 := cell_later HB4.out d2
        have c3 := cell_later HB4.out d3
        have HBw4 := Lib.hid (HBV.out.st HB4.out)
        clear d0 d1 d2 d3 d4 d5 e0 e1 e2 e3 e4 e5
        go_wp2_with fail
        refine (HC2.out _).mono ?_
        rintro e w5 ⟨rfl, hb⟩
        have d0 := cell_later hb c0
        have d1 := cell_later hb c1
        have d2 := cell_later hb c2
        have d3 := cell_later hb c3
        have HBw5 := Lib.hid (HBw4.out.st hb)
        clear c0 c1 c2 c3 hb
        have c0 := d0
        have c1 := d1
        have c2 := d2
        have c3 := d3
        clear d0 d1 d2 d3
        by_cases hbig : 4294967296 < base
        · go_wp2_with (go_at_call 41; refine (HAL.out _ (tabIs_go HT.out HBw5.out)).mono ?_; rintro e w9 ⟨rfl, hb9⟩)
          go_ret
          exact ⟨rfl, HBw5.out.st hb9⟩
        · obtain ⟨q, hu, hq0, hqa, hqb, v1, v2⟩ := HUP.out (by omega)
          rcases hqb with hq | ⟨hq, hqc, hqd, hqe⟩
          · subst hq
            have hqa2 : base * an ≤ 0 := by simpa using hqa
            clear hqa v1
            have hzz : IntKind.u64.wrap 0 = 0 := by rw [IntKind.wrap_u64]; rfl
            go_wp2_with fail
            refine (hu _).mono ?_
            rintro e w8 ⟨rfl, hb⟩
            have d0 := cell_later hb c0
            have d1 := cell_later hb c1
            have d2 := cell_later hb c2
            have d3 := cell_later hb c3
            have HBw8 := Lib.hid (HBw5.out.st hb)
            clear c0 c1 c2 c3 hb
            have c0 := d0
            have c1 := d1
            have c2 := d2
            have c3 := d3
            clear d0 d1 d2 d3
            go_wp2_with (go_at_call 41; refine (HAL.out _ (tabIs_go HT.out HBw8.out)).mono ?_; rintro e w9 ⟨rfl, hb9⟩)
            go_ret
            exact ⟨rfl, HBw8.out.st hb9⟩
          · have hqz : (q == 0) = false := by rw [beq_eq_false_iff_ne]; exact hq
            go_wp2_with fail
            refine (hu _).mono ?_
            rintro e w8 ⟨rfl, hb⟩
            have d0 := cell_later hb c0
            have d1 := cell_later hb c1
            have d2 := cell_later hb c2
            have d3 := cell_later hb c3
            have HBw8 := Lib.hid (HBw5.out.st hb)
            clear c0 c1 c2 c3 hb
            have c0 := d0
            have c1 := d1
            have c2 := d2
            have c3 := d3
            clear d0 d1 d2 d3
            go_wp2_with (go_at_call 41; refine (HAL.out _ (tabIs_go HT.out HBw8.out)).mono ?_; rintro e w9 ⟨rfl, hb9⟩)
            go_ret
            exact ⟨rfl, HBw8.out.st hb9⟩

end Go.Proofs.YtfjplphdkfiljaaDoor
