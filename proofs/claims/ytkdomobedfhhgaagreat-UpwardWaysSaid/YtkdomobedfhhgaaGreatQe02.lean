/-
  What must come at any rate, for the laws of upward; what the law asks of labels.
-/
import Derived.Test.YtkdomobedfhhgaaGreatProg
import Derived.Test.YtkdomobedfhhgaaGreatQe01
import Derived.Test.YtkdomobedfhhgaaGreatQb36
set_option linter.unusedVariables false
set_option linter.unusedSimpArgs false
set_option linter.unnecessarySimpa false
namespace Go.Proofs.YtkdomobedfhhgaaGreat
open Go Go.Proofs Go.RowKit Go.Shelf Go.Proofs.YtkdomobedfhhgaaGreat.Hp Go.Proofs.YtkdomobedfhhgaaGreat.Ch

/-- of a graph of one node -/
theorem exact_one {hb : Nat} {R : List Int} {S : List SC} {ro : List Int} {w w' : World} {e : Ending} (hbh : BH w hb 1 [] R S ro) (h : ExactPost [] 1 R S ro false 0 w e w') :
    ∃ (b o cap : Nat), e = .returned (.tuple #[.slice (some ⟨b, o, none⟩) 1 cap, .int .i64 0]) ∧ w'.cell? ⟨b, o, none⟩ = some (.int .i64 0) ∧ w'.cell? ⟨b, o + 1, none⟩ = some (.int .u64 0) ∧ w'.cell? ⟨b, o + 2, none⟩ = some (.int .i64 (-1)) ∧ Below w.heap.size w w' := by
  obtain ⟨ao, cap, l, rfl, h1, h2, h3, h4, h5, h6⟩ := h
  obtain ⟨b, rfl⟩ := h3.one (fun u v w k => by obtain ⟨x, hx, _⟩ := (show arcG [] u v w from k); cases hx)
  have hb := h4 _ (List.mem_singleton.2 rfl)
  simp only at hb
  rw [first_zero (fun x hx => (hbh.ok.ends x hx).2.2.2) (fun u e he => by
    obtain ⟨x, hx, _, rfl⟩ := (labF_spec (List.pairwise_singleton _ _) u e).1 he
    exact (h6 x hx).2.1)] at hb
  subst hb
  obtain ⟨bb, o, rfl, y0, y1, y2⟩ := h1.lab (i := 0) (by simp)
  exact ⟨bb, o, cap, rfl, by simpa using y0, by simpa using y1, by simpa using y2, h2⟩
set_option maxRecDepth 100000 in
set_option maxHeartbeats 2000000 in
theorem alive22_any (w : World) : Calls Tryz.prog 28 #[] w fun e w' => e = .returned (.bool true) ∧ Below w.heap.size w w' := by
  have HBU := Lib.hid (fun W => built_any ⟨1, []⟩ none none 0 0 1 1 [] W (Cel.nil _ _) (Cel.nil _ _) (fun _ => by decide) (by decide) (by decide))
  have HEX := Lib.hid (fun W hb R S ro (h : BH W hb 1 [] R S ro) => exact_any hb 1 [] R S ro false 0 W h.mem h.ok h.le (by decide))
  go_enter Tryz.func28, Tryz.ntmps28
  go_upto_region 2 with (go_at_call 16; refine (HBU.out _).mono ?_; rintro e w1 hp; obtain ⟨hb, R, S, ro, rfl, hbh, hb1⟩ := hp.good (by decide) (by decide) (by decide); (have HBH := Lib.hid hbh); (have HB1 := Lib.hid hb1); clear hp hbh hb1)
  go_wp2_with (go_at_call 33; refine (HEX.out _ _ _ _ _ HBH.out).mono ?_; rintro e w2 hx; obtain ⟨b, o, cap, rfl, y0, y1, y2, hb2⟩ := exact_one HBH.out hx; (have HB2 := Lib.hid hb2); clear hb2 hx)
  go_ret
  exact ⟨rfl, HB1.out.st HB2.out⟩

theorem ends_any (x : SC) (back : Bool) (w : World) : Calls Tryz.prog 81 #[scV x, .bool back] w fun e w' => e = .returned (.tuple #[.int .i64 (frS back x), .int .i64 (toS back x)]) ∧ Below w.heap.size w w' := by
  obtain ⟨xf, xt, xw, xe, xa, xb⟩ := x
  obtain ⟨W, hW⟩ : ∃ W, W = w.alloc (Obj.cells #[.int .i64 xf, .int .i64 xt, .int .u64 xw, .int .i64 xe, .int .i64 xa, .int .i64 xb] 79) := ⟨_, rfl⟩
  have hbw : Below w.heap.size w W := by rw [hW]; exact Below.of_al _ _
  have c0 : W.cell? ⟨w.heap.size, 0, none⟩ = some (.int .i64 xf) := by rw [hW]; go_simp
  have c1 : W.cell? ⟨w.heap.size, 1, none⟩ = some (.int .i64 xt) := by rw [hW]; go_simp
  have e0 := fun p => cell_ext p c0
  have e1 := fun p => cell_ext p c1
  have HW := Lib.hid hW
  have HB := Lib.hid hbw
  clear hW hbw
  cases back with
  | true =>
    go_enter Tryz.func81, Tryz.ntmps81
    go_upto_region 2 with (fail)
    rw [← HW.out]
    refine wp_region_ext (by kernel_rfl) (by kernel_rfl) ?_
    repeat (go_big_quiet_step (fail))
    refine wpQuiet_nil ?_
    rintro _ ⟨pq, rfl⟩
    have HBq := Lib.hid (below_ext W pq)
    generalize ext W pq = wq at HBq ⊢
    go_wp2
    refine bodyPost_ret (v := .tuple #[.int .i64 xt, .int .i64 xf]) (by simp [results, Tryz.results81, go_sem]; try rfl) rfl ?_
    exact ⟨rfl, HB.out.st HBq.out⟩
  | false =>
    go_enter Tryz.func81, Tryz.ntmps81
    go_upto_region 3 with (fail)
    rw [← HW.out]
    refine wp_region_ext (by kernel_rfl) (by kernel_rfl) ?_
    repeat (go_big_quiet_step (fail))
    refine wpQuiet_nil ?_
    rintro _ ⟨pq, rfl⟩
    have HBq := Lib.hid (below_ext W pq)
    generalize ext W pq = wq at HBq ⊢
    go_wp2
    refine bodyPost_ret (v := .tuple #[.int .i64 xf, .int .i64 xt]) (by simp [results, Tryz.results81, go_sem]; try rfl) rfl ?_
    exact ⟨rfl, HB.out.st HBq.out⟩

set_option maxRecDepth 100000 in
set_option maxHeartbeats 4000000 in
theorem right_any (n : Nat) (R : List Int) (S : List SC) (l : List LB) (s : Int) (back : Bool) (ra sa ao : Option Addr) (rc sc cap : Nat) (w : World) (hR : Cel w ra (R.map encI)) (hS : Cel w sa (flatS S)) (hc : Cel w ao (flatB l)) (hRn : R.length = n) (hn : n ≤ 60000) (hSl : S.length ≤ 1000000) (hl : l.length ≤ 1000000)
    (hSx : ∀ x ∈ S, nodeN n x.f ∧ nodeN n x.t ∧ 0 ≤ x.w ∧ x.w ≤ 1152921504606846976) (hd : ∀ x ∈ l, 0 ≤ x.d ∧ x.d ≤ 1152921504606846976) (hok : ∀ i (hi : i < l.length), LabOK n R S l s back i hi) :
    Calls Tryz.prog 30 #[.agg #[.slice ra R.length rc, .slice sa S.length sc], .slice ao l.length cap, .int .i64 s, .bool back] w fun e w' => e = .returned (.bool true) ∧ Below w.heap.size w w' := by
  obtain ⟨W, hW⟩ : ∃ W, W = w.alloc (Obj.cells #[.slice ra R.length rc, .slice sa S.length sc] 45) := ⟨_, rfl⟩
  have hbw : Below w.heap.size w W := by rw [hW]; exact Below.of_al _ _
  have c0 : W.cell? ⟨w.heap.size, 0, none⟩ = some (.slice ra R.length rc) := by rw [hW]; go_simp
  have c1 : W.cell? ⟨w.heap.size, 1, none⟩ = some (.slice sa S.length sc) := by rw [hW]; go_simp
  have HR := Lib.hid (hR.go hbw)
  have HS := Lib.hid (hS.go hbw)
  have HC := Lib.hid (hc.go hbw)
  have HSX := Lib.hid hSx
  have HD := Lib.hid hd
  have HOK := Lib.hid hok
  have HRN := Lib.hid hRn
  have HW := Lib.hid hW
  have HB0 := Lib.hid hbw
  have HFI := Lib.hid (fun u W' (hz : Below W.heap.size W W') => find_any l ao cap u W' ((hc.go hbw).go hz) hl)
  have hl2 : (l.length : Int) ≤ 1000000 := by omega
  clear hR hS hc hSx hd hok hRn hW hbw
  go_enter Tryz.func30, Tryz.ntmps30
  go_upto_region 1 with (fail)
  rw [← HW.out]
  go_wp2
  go_loopg [9] l.length (fun gg v9 wr => ∃ k : Nat, k ≤ l.length ∧ l.length - k ≤ gg ∧ v9 = .int .i64 k ∧ Aside (Below W.heap.size W wr))
  case atStart => exact ⟨0, Nat.zero_le _, by omega, rfl, Below.refl _ _⟩
  case round =>
    obtain ⟨k, hk, hgg, rfl, HB⟩ := hrel
    by_cases hlt : k < l.length
    · have hlt3 : (k : Int) < (l.length : Int) := by omega
      have hk0 : (0 : Int) ≤ (k : Int) := by omega
      obtain ⟨lb, lo, rfl, y0, y1, y2⟩ := (HC.out.go HB.out).lab hlt
      obtain ⟨⟨n0, n1⟩, hup, hbig, hway⟩ := HOK.out k hlt
      have HWY := Lib.hid hway
      have b0 := cell_later HB.out c0
      have b1 := cell_later HB.out c1
      have hprev : k = 0 ∨ ∃ j, k = j + 1 := by cases k with
        | zero => exact .inl rfl
        | succ j => exact .inr ⟨j, rfl⟩
      have hpc : ∀ j, k = j + 1 → ∃ u, wr.cell? ⟨lb, lo + j * 3, none⟩ = some (.int .i64 u) ∧ u < l[k].v := by
        intro j hj
        obtain ⟨lb', lo', e, z0, -, -⟩ := (HC.out.go HB.out).lab (show j < l.length by omega)
        cases e
        exact ⟨_, z0, hup j (by omega)⟩
      have HPC := Lib.hid hpc
      clear hway hup hpc
      generalize hx : l[k] = a at *
      clear hx
      obtain ⟨av, ad, ab⟩ := a
      simp only at y0 y1 y2 n0 n1 hbig HWY HPC
      go_upto_region 5 with (fail)
      obtain ⟨W5, hW5⟩ : ∃ W5, W5 = wr.alloc (Obj.cells #[.int .i64 av, .int .u64 ad, .int .i64 ab] 64) := ⟨_, rfl⟩
      rw [← hW5]
      have hb5 : Below wr.heap.size wr W5 := by rw [hW5]; exact Below.of_al _ _
      have a0 : W5.cell? ⟨wr.heap.size, 0, none⟩ = some (.int .i64 av) := by rw [hW5]; go_simp
      have a1 : W5.cell? ⟨wr.heap.size, 1, none⟩ = some (.int .u64 ad) := by rw [hW5]; go_simp
      have a2 : W5.cell? ⟨wr.heap.size, 2, none⟩ = some (.int .i64 ab) := by rw [hW5]; go_simp
      have d0 := cell_later hb5 b0
      have d1 := cell_later hb5 b1
      have f0 := fun p => cell_ext p a0
      have f1 := fun p => cell_ext p d0
      have hv1 : ¬ (R.length : Int) ≤ av := by have := HRN.out; omega
      have hv0 : ¬ av < 0 := by omega
      have HB5 := Lib.hid (HB.out.st hb5)
      have HBB := Lib.hid hb5
      clear y0 y1 y2 b0 b1 hW5 hb5
      rcases hprev with rfl | ⟨j, rfl⟩
      · have hz0 : ¬ (0 : Int) < ((0 : Nat) : Int) := by omega
        refine wp_region_ext (by kernel_rfl) (by kernel_rfl) ?_
        repeat (go_big_quiet_step (fail))
        refine wpQuiet_nil ?_
        rintro _ ⟨pa, rfl⟩
        have HBa := Lib.hid (below_ext W5 pa)
        generalize ext W5 pa = wa at HBa ⊢
        have j0 := cell_later HBa.out a0
        have j1 := cell_later HBa.out a1
        have j2 := cell_later HBa.out a2
        have i0 := cell_later HBa.out d0
        have i1 := cell_later HBa.out d1
        have HBx := Lib.hid (HB5.out.st HBa.out)
        clear f0 f1 a0 a1 a2 d0 d1 HB5 HBB
        rcases HWY.out with ⟨rfl, rfl, rfl⟩ | ⟨jj, hjj, rfl, hto, hlab, hrk, hsum⟩
        · have hss : (av != av) = false := by simp
          go_wp2
          go_roundg (l.length - (0 + 1))
          case measure => omega
          case rel => exact ⟨0 + 1, by omega, Nat.le_refl _, by go_num, HBx.out⟩
        · have hjm : ((jj : Int) == -1) = false := by rw [beq_eq_false_iff_ne]; omega
          have hj0 : ¬ (jj : Int) < 0 := by omega
          have hj1 : ¬ (S.length : Int) ≤ (jj : Int) := by omega
          have hj2 : (0 : Int) ≤ (jj : Int) := by omega
          have hj3 : (jj : Int) < (S.length : Int) := by omega
          obtain ⟨sb, so, rfl, s0, s1, s2, s3, s4, s5⟩ := cel_sc6 (HS.out.go HBx.out) hjj
          obtain ⟨⟨p0, p1⟩, ⟨q0, q1⟩, w0, w1⟩ := HSX.out _ (List.getElem_mem hjj)
          have hF : nodeN n (frS back S[jj]) ∧ nodeN n (toS back S[jj]) := by
            unfold frS toS
            cases back
            · exact ⟨⟨p0, p1⟩, ⟨q0, q1⟩⟩
            · exact ⟨⟨q0, q1⟩, ⟨p0, p1⟩⟩
          have HEN := Lib.hid (fun W' => ends_any S[jj] back W')
          obtain ⟨⟨F0, F1⟩, ⟨T0, T1⟩⟩ := hF
          obtain ⟨fn, hfn⟩ : ∃ fn : Nat, frS back S[jj] = fn := ⟨(frS back S[jj]).toNat, by omega⟩
          rw [hto] at HEN hrk
          rw [hfn] at HEN hlab hrk hsum
          have HFJ := Lib.hid (HFI.out (fn : Int))
          rw [hlab] at HFJ
          obtain ⟨-, hm, -⟩ := labIs_some hlab
          obtain ⟨e0, e1⟩ := HD.out _ hm
          rw [hto] at T0 T1
          obtain ⟨tn, rfl⟩ : ∃ tn : Nat, av = tn := ⟨av.toNat, by omega⟩
          have hfl : fn < R.length := by have := HRN.out; omega
          have htl : tn < R.length := by have := HRN.out; omega
          have hrf : rAt R (fn : Int) = R[fn] := by unfold rAt; rw [Int.toNat_natCast, List.getD_eq_getElem?_getD, List.getElem?_eq_getElem hfl]; rfl
          have hrt : rAt R (tn : Int) = R[tn] := by unfold rAt; rw [Int.toNat_natCast, List.getD_eq_getElem?_getD, List.getElem?_eq_getElem htl]; rfl
          obtain ⟨rb, ro, rfl, u0⟩ := (HR.out.go HBx.out).at hfl
          obtain ⟨rb', ro', e, u1⟩ := (HR.out.go HBx.out).at htl
          cases e
          rw [hrf, hrt] at hrk
          generalize R[fn] = rf at *
          generalize R[tn] = rt at *
          generalize labAt l (fn : Int) = y at *
          obtain ⟨yv, yd, yb⟩ := y
          simp only [encL] at HFJ
          simp only at e0 e1 hsum
          clear hto hfn hlab hm HWY F0 F1 T0 T1 p0 p1 q0 q1 hrf hrt
          generalize S[jj] = x at *
          obtain ⟨xf, xt, xw, xe, xa, xb⟩ := x
          simp only [scV] at s0 s1 s2 s3 s4 s5 HEN w0 w1 hsum
          have HRK := Lib.hid (show ¬ rt ≤ rf by omega)
          have htt : ((tn : Int) != (tn : Int)) = false := by simp
          have hff : (fn : Int) < (R.length : Int) := by omega
          have htt2 : (tn : Int) < (R.length : Int) := by omega
          have hf0 : (0 : Int) ≤ (fn : Int) := by omega
          have ht0 : (0 : Int) ≤ (tn : Int) := by omega
          have hsb : (yd + xw != ad) = false := by rw [hsum]; simp
          clear hsum hrk
          go_upto_region 14 with (first
            | (go_at_call 81; refine (HEN.out _).mono ?_; rintro e w7 ⟨rfl, hb7⟩; (have HB7 := Lib.hid hb7); clear hb7)
            | (go_at_call 31; refine (HFJ.out _ (HBx.out.st HB7.out)).mono ?_; rintro e w8 ⟨rfl, hb8⟩; (have HB8 := Lib.hid (HB7.out.st hb8)); clear hb8))
          obtain ⟨W9, hW9⟩ : ∃ W9, W9 = w8.alloc (Obj.cells #[.int .i64 yv, .int .u64 yd, .int .i64 yb] 64) := ⟨_, rfl⟩
          rw [← hW9]
          have hb9 : Below wa.heap.size wa W9 := by rw [hW9]; exact HB8.out.st (Below.of_al _ _)
          have o1 : W9.cell? ⟨w8.heap.size, 1, none⟩ = some (.int .u64 yd) := by rw [hW9]; go_simp
          have z0 := cell_later hb9 j0
          have z1 := cell_later hb9 j1
          have z2 := cell_later hb9 j2
          have z3 := cell_later hb9 i0
          have z4 := cell_later hb9 i1
          have z5 := cell_later hb9 u0
          have z6 := cell_later hb9 u1
          have z7 := cell_later hb9 s2
          have g0 := fun p => cell_ext p z0
          have g1 := fun p => cell_ext p z1
          have g2 := fun p => cell_ext p z2
          have g3 := fun p => cell_ext p z3
          have g4 := fun p => cell_ext p z4
          have g5 := fun p => cell_ext p z5
          have g6 := fun p => cell_ext p z6
          have g7 := fun p => cell_ext p z7
          have g8 := fun p => cell_ext p o1
          have HB9 := Lib.hid (HBx.out.st hb9)
          have hrk2 : decide (rt ≤ rf) = false := decide_eq_false (by have := HRK.out; omega)
          clear hW9 hb9 j0 j1 j2 i0 i1 u0 u1 s0 s1 s2 s3 s4 s5
          refine wp_region_ext (by kernel_rfl) (by kernel_rfl) ?_
          repeat (go_big_quiet_step (fail))
          refine wpQuiet_nil ?_
          rintro _ ⟨pc, rfl⟩
          have HBc := Lib.hid (below_ext W9 pc)
          generalize ext W9 pc = wc at HBc ⊢
          go_wp2
          go_roundg (l.length - (0 + 1))
          case measure => omega
          case rel => exact ⟨0 + 1, by omega, Nat.le_refl _, by go_num, HB9.out.st HBc.out⟩
      · obtain ⟨u, z0, zu⟩ := HPC.out j rfl
        have z5 := cell_later HBB.out z0
        have f2 := fun p => cell_ext p z5
        have hv2 : ¬ av ≤ u := by omega
        have hz1 : (0 : Int) < ((j + 1 : Nat) : Int) := by omega
        have hz2 : ((j + 1 : Nat) : Int) - 1 = (j : Int) := by omega
        have hz3 : (j : Int) < (l.length : Int) := by omega
        refine wp_region_ext (by kernel_rfl) (by kernel_rfl) ?_
        repeat (go_big_quiet_step (fail))
        refine wpQuiet_nil ?_
        rintro _ ⟨pa, rfl⟩
        have HBa := Lib.hid (below_ext W5 pa)
        generalize ext W5 pa = wa at HBa ⊢
        clear f2 z0 z5
        have j0 := cell_later HBa.out a0
        have j1 := cell_later HBa.out a1
        have j2 := cell_later HBa.out a2
        have i0 := cell_later HBa.out d0
        have i1 := cell_later HBa.out d1
        have HBx := Lib.hid (HB5.out.st HBa.out)
        clear f0 f1 a0 a1 a2 d0 d1 HB5 HBB
        rcases HWY.out with ⟨rfl, rfl, rfl⟩ | ⟨jj, hjj, rfl, hto, hlab, hrk, hsum⟩
        · have hss : (av != av) = false := by simp
          go_wp2
          go_roundg (l.length - ((j + 1) + 1))
          case measure => omega
          case rel => exact ⟨(j + 1) + 1, by omega, Nat.le_refl _, by go_num, HBx.out⟩
        · have hjm : ((jj : Int) == -1) = false := by rw [beq_eq_false_iff_ne]; omega
          have hj0 : ¬ (jj : Int) < 0 := by omega
          have hj1 : ¬ (S.length : Int) ≤ (jj : Int) := by omega
          have hj2 : (0 : Int) ≤ (jj : Int) := by omega
          have hj3 : (jj : Int) < (S.length : Int) := by omega
          obtain ⟨sb, so, rfl, s0, s1, s2, s3, s4, s5⟩ := cel_sc6 (HS.out.go HBx.out) hjj
          obtain ⟨⟨p0, p1⟩, ⟨q0, q1⟩, w0, w1⟩ := HSX.out _ (List.getElem_mem hjj)
          have hF : nodeN n (frS back S[jj]) ∧ nodeN n (toS back S[jj]) := by
            unfold frS toS
            cases back
            · exact ⟨⟨p0, p1⟩, ⟨q0, q1⟩⟩
            · exact ⟨⟨q0, q1⟩, ⟨p0, p1⟩⟩
          have HEN := Lib.hid (fun W' => ends_any S[jj] back W')
          obtain ⟨⟨F0, F1⟩, ⟨T0, T1⟩⟩ := hF
          obtain ⟨fn, hfn⟩ : ∃ fn : Nat, frS back S[jj] = fn := ⟨(frS back S[jj]).toNat, by omega⟩
          rw [hto] at HEN hrk
          rw [hfn] at HEN hlab hrk hsum
          have HFJ := Lib.hid (HFI.out (fn : Int))
          rw [hlab] at HFJ
          obtain ⟨-, hm, -⟩ := labIs_some hlab
          obtain ⟨e0, e1⟩ := HD.out _ hm
          rw [hto] at T0 T1
          obtain ⟨tn, rfl⟩ : ∃ tn : Nat, av = tn := ⟨av.toNat, by omega⟩
          have hfl : fn < R.length := by have := HRN.out; omega
          have htl : tn < R.length := by have := HRN.out; omega
          have hrf : rAt R (fn : Int) = R[fn] := by unfold rAt; rw [Int.toNat_natCast, List.getD_eq_getElem?_getD, List.getElem?_eq_getElem hfl]; rfl
          have hrt : rAt R (tn : Int) = R[tn] := by unfold rAt; rw [Int.toNat_natCast, List.getD_eq_getElem?_getD, List.getElem?_eq_getElem htl]; rfl
          obtain ⟨rb, ro, rfl, u0⟩ := (HR.out.go HBx.out).at hfl
          obtain ⟨rb', ro', e, u1⟩ := (HR.out.go HBx.out).at htl
          cases e
          rw [hrf, hrt] at hrk
          generalize R[fn] = rf at *
          generalize R[tn] = rt at *
          generalize labAt l (fn : Int) = y at *
          obtain ⟨yv, yd, yb⟩ := y
          simp only [encL] at HFJ
          simp only at e0 e1 hsum
          clear hto hfn hlab hm HWY F0 F1 T0 T1 p0 p1 q0 q1 hrf hrt
          generalize S[jj] = x at *
          obtain ⟨xf, xt, xw, xe, xa, xb⟩ := x
          simp only [scV] at s0 s1 s2 s3 s4 s5 HEN w0 w1 hsum
          have HRK := Lib.hid (show ¬ rt ≤ rf by omega)
          have htt : ((tn : Int) != (tn : Int)) = false := by simp
          have hff : (fn : Int) < (R.length : Int) := by omega
          have htt2 : (tn : Int) < (R.length : Int) := by omega
          have hf0 : (0 : Int) ≤ (fn : Int) := by omega
          have ht0 : (0 : Int) ≤ (tn : Int) := by omega
          have hsb : (yd + xw != ad) = false := by rw [hsum]; simp
          clear hsum hrk
          go_upto_region 14 with (first
            | (go_at_call 81; refine (HEN.out _).mono ?_; rintro e w7 ⟨rfl, hb7⟩; (have HB7 := Lib.hid hb7); clear hb7)
            | (go_at_call 31; refine (HFJ.out _ (HBx.out.st HB7.out)).mono ?_; rintro e w8 ⟨rfl, hb8⟩; (have HB8 := Lib.hid (HB7.out.st hb8)); clear hb8))
          obtain ⟨W9, hW9⟩ : ∃ W9, W9 = w8.alloc (Obj.cells #[.int .i64 yv, .int .u64 yd, .int .i64 yb] 64) := ⟨_, rfl⟩
          rw [← hW9]
          have hb9 : Below wa.heap.size wa W9 := by rw [hW9]; exact HB8.out.st (Below.of_al _ _)
          have o1 : W9.cell? ⟨w8.heap.size, 1, none⟩ = some (.int .u64 yd) := by rw [hW9]; go_simp
          have z0 := cell_later hb9 j0
          have z1 := cell_later hb9 j1
          have z2 := cell_later hb9 j2
          have z3 := cell_later hb9 i0
          have z4 := cell_later hb9 i1
          have z5 := cell_later hb9 u0
          have z6 := cell_later hb9 u1
          have z7 := cell_later hb9 s2
          have g0 := fun p => cell_ext p z0
          have g1 := fun p => cell_ext p z1
          have g2 := fun p => cell_ext p z2
          have g3 := fun p => cell_ext p z3
          have g4 := fun p => cell_ext p z4
          have g5 := fun p => cell_ext p z5
          have g6 := fun p => cell_ext p z6
          have g7 := fun p => cell_ext p z7
          have g8 := fun p => cell_ext p o1
          have HB9 := Lib.hid (HBx.out.st hb9)
          have hrk2 : decide (rt ≤ rf) = false := decide_eq_false (by have := HRK.out; omega)
          clear hW9 hb9 j0 j1 j2 i0 i1 u0 u1 s0 s1 s2 s3 s4 s5
          refine wp_region_ext (by kernel_rfl) (by kernel_rfl) ?_
          repeat (go_big_quiet_step (fail))
          refine wpQuiet_nil ?_
          rintro _ ⟨pc, rfl⟩
          have HBc := Lib.hid (below_ext W9 pc)
          generalize ext W9 pc = wc at HBc ⊢
          go_wp2
          go_roundg (l.length - ((j + 1) + 1))
          case measure => omega
          case rel => exact ⟨(j + 1) + 1, by omega, Nat.le_refl _, by go_num, HB9.out.st HBc.out⟩
    · obtain rfl : k = l.length := by omega
      go_wp2
      go_ret
      exact ⟨rfl, HB0.out.st HB.out⟩
end Go.Proofs.YtkdomobedfhhgaaGreat
