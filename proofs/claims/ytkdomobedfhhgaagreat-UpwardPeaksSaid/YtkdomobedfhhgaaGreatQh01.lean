/-
  Walk over the reference of upward: By; Exact of nodes that are not there.
-/
import Derived.Test.YtkdomobedfhhgaaGreatProg
import Derived.Test.YtkdomobedfhhgaaGreatQe02
import Derived.Test.YtkdomobedfhhgaaGreatQf01
set_option linter.unusedVariables false
set_option linter.unusedSimpArgs false
set_option linter.unnecessarySimpa false
namespace Go.Proofs.YtkdomobedfhhgaaGreat
open Go Go.Proofs Go.RowKit Go.Shelf Go.Proofs.YtkdomobedfhhgaaGreat.Hp Go.Proofs.YtkdomobedfhhgaaGreat.Ch

theorem exact_off (hb n : Nat) (es : List EdgeD) (R : List Int) (S : List SC) (O I : List (List Int)) (s : Int) (back : Bool) (w : World) (hh : HierM w hb n es R S O I) (hn : 0 < n) (hs : s < 0 ∨ (n : Int) ≤ s) :
    Calls Tryz.prog 33 #[.pointer (some ⟨hb, 0, none⟩), .int .i64 s, .bool back] w fun e w' => e = .returned (.tuple #[.slice none 0 0, .int .i64 7]) ∧ Below w.heap.size w w' := by
  have HSO := Lib.hid (space_off hb n es R S O I s back w hh hn hs)
  clear hh hs
  go_enter Tryz.func33, Tryz.ntmps33
  go_wp2_with (go_at_call 29; refine HSO.out.mono ?_; rintro e w1 ⟨rfl, hb1⟩; (have HB1 := Lib.hid hb1); clear hb1)
  refine bodyPost_ret (v := .tuple #[.slice none 0 0, .int .i64 7]) (by simp [results, Tryz.results33, go_sem]; try rfl) rfl ?_
  exact ⟨rfl, HB1.out⟩

set_option maxRecDepth 100000 in
set_option maxHeartbeats 4000000 in
theorem refBy_any (n : Nat) (R : List Int) (S : List SC) (own : List Int) (v : Nat) (back : Bool) (ra sa : Option Addr) (rc sc fb : Nat) (w : World) (hR : Cel w ra (R.map encI)) (hS : Cel w sa (flatS S)) (ho : Cel w (some ⟨fb, 0, none⟩) (own.map encW)) (hRn : R.length = n) (hon : own.length = n) (hn : n ≤ 60000) (hv : v < n) (hSl : S.length ≤ 1000000)
    (hSx : ∀ x ∈ S, nodeN n x.f ∧ nodeN n x.t ∧ 0 ≤ x.w ∧ x.w ≤ 1152921504606846976) (hob : ∀ u, nodeN n u → 0 ≤ gD own u ∧ gD own u ≤ 4611686018427387904) :
    Calls Tryz.prog 34 #[.agg #[.slice ra R.length rc, .slice sa S.length sc], .slice (some ⟨fb, 0, none⟩) n n, .int .i64 (v : Int), .bool back] w fun e w' => e = .returned (.int .i64 (firstS R S (ownF own) back (v : Int) (gD own (v : Int)))) ∧ Below w.heap.size w w' := by
  obtain ⟨W, hW⟩ : ∃ W, W = w.alloc (Obj.cells #[.slice ra R.length rc, .slice sa S.length sc] 45) := ⟨_, rfl⟩
  have hbw : Below w.heap.size w W := by rw [hW]; exact Below.of_al _ _
  have c0 : W.cell? ⟨w.heap.size, 0, none⟩ = some (.slice ra R.length rc) := by rw [hW]; go_simp
  have c1 : W.cell? ⟨w.heap.size, 1, none⟩ = some (.slice sa S.length sc) := by rw [hW]; go_simp
  have HR := Lib.hid (hR.go hbw)
  have HS := Lib.hid (hS.go hbw)
  have HOW := Lib.hid (fun (u : Nat) (hu : u < n) => row_at (ho.go hbw) hon hu)
  have HOB := Lib.hid (fun (u : Nat) (hu : u < n) => hob (u : Int) ⟨by omega, by omega⟩)
  have HSX := Lib.hid hSx
  have HW := Lib.hid hW
  have HB0 := Lib.hid hbw
  obtain ⟨res, hres⟩ : ∃ res, res = firstS R S (ownF own) back (v : Int) (gD own (v : Int)) := ⟨_, rfl⟩
  have HRE := Lib.hid hres
  rw [← hres]
  have cv := HOW.out v hv
  obtain ⟨dv0, dv1⟩ := HOB.out v hv
  have hdeq : ∃ d, d = gD own (v : Int) := ⟨_, rfl⟩
  obtain ⟨d, hd⟩ := hdeq
  rw [← hd] at cv dv0 dv1 HRE
  have hsl2 : (S.length : Int) ≤ 1000000 := by omega
  have hv2 : (v : Int) < (n : Int) := by omega
  have HRN := Lib.hid hRn
  have hv0 : (0 : Int) ≤ (v : Int) := by omega
  clear hR hS ho hob hSx hW hbw hres hd hRn hon
  go_enter Tryz.func34, Tryz.ntmps34
  go_upto_region 1 with (fail)
  rw [← HW.out]
  go_wp2
  go_loopg [9] S.length (fun gg v9 wr => ∃ k : Nat, k ≤ S.length ∧ S.length - k ≤ gg ∧ v9 = .int .i64 k ∧ Aside (Below W.heap.size W wr) ∧ Aside (∀ j (h : j < S.length), j < k → hitS R (ownF own) back (v : Int) d S[j] = false))
  case atStart => exact ⟨0, Nat.zero_le _, by omega, rfl, Below.refl _ _, fun j _ h => absurd h (Nat.not_lt_zero _)⟩
  case round =>
    obtain ⟨k, hk, hgg, rfl, HB, HN⟩ := hrel
    have b1 := cell_later HB.out c1
    by_cases hlt : k < S.length
    · have hlt3 : (k : Int) < (S.length : Int) := by omega
      have hk0 : (0 : Int) ≤ (k : Int) := by omega
      obtain ⟨sb, so, rfl, s0, s1, s2, s3, s4, s5⟩ := cel_sc6 (HS.out.go HB.out) hlt
      obtain ⟨⟨p0, p1⟩, ⟨q0, q1⟩, w0, w1⟩ := HSX.out _ (List.getElem_mem hlt)
      have HHT := Lib.hid (fun h : hitS R (ownF own) back (v : Int) d S[k] = true => firstS_at hlt h (fun j hj => HN.out j (by omega) hj))
      have HHF := Lib.hid (fun h : hitS R (ownF own) back (v : Int) d S[k] = false => (fun j (h1 : j < S.length) (h2 : j < k + 1) => (by
        by_cases e : j = k
        · subst e; exact h
        · exact HN.out j h1 (by omega) : hitS R (ownF own) back (v : Int) d S[j] = false)))
      generalize S[k] = x at *
      obtain ⟨xf, xt, xw, xe, xa, xb⟩ := x
      simp only [scV] at p0 p1 q0 q1 w0 w1 s0 s1 s2 s3 s4 s5
      obtain ⟨fn, rfl⟩ : ∃ fn : Nat, xf = fn := ⟨xf.toNat, by omega⟩
      obtain ⟨tn, rfl⟩ : ∃ tn : Nat, xt = tn := ⟨xt.toNat, by omega⟩
      have hfn : fn < n := by omega
      have htn : tn < n := by omega
      have b0 := cell_later HB.out c0
      have bv := cell_later HB.out cv
      go_upto_region 5 with (fail)
      obtain ⟨W5, hW5⟩ : ∃ W5, W5 = wr.alloc (Obj.cells #[.int .i64 (fn : Int), .int .i64 (tn : Int), .int .u64 xw, .int .i64 xe, .int .i64 xa, .int .i64 xb] 79) := ⟨_, rfl⟩
      rw [← hW5]
      have hb5 : Below wr.heap.size wr W5 := by rw [hW5]; exact Below.of_al _ _
      have t0 : W5.cell? ⟨wr.heap.size, 0, none⟩ = some (.int .i64 (fn : Int)) := by rw [hW5]; go_simp
      have t1 : W5.cell? ⟨wr.heap.size, 1, none⟩ = some (.int .i64 (tn : Int)) := by rw [hW5]; go_simp
      have t2 : W5.cell? ⟨wr.heap.size, 2, none⟩ = some (.int .u64 xw) := by rw [hW5]; go_simp
      have g0 := cell_later hb5 b0
      have g5 := cell_later hb5 bv
      have HB5 := Lib.hid (HB.out.st hb5)
      have x0 := fun p => cell_ext p t0
      have x1 := fun p => cell_ext p t1
      clear hb5 hW5 b0 b1 bv s0 s1 s2 s3 s4 s5 HN
      refine wp_region_ext (by kernel_rfl) (by kernel_rfl) ?_
      repeat (go_big_quiet_step (fail))
      refine wpQuiet_nil ?_
      rintro _ ⟨pa, rfl⟩
      have HBa := Lib.hid (below_ext W5 pa)
      generalize ext W5 pa = wa at HBa ⊢
      have r0 := cell_later HBa.out g0
      have r2 := cell_later HBa.out t0
      have r3 := cell_later HBa.out t1
      have r4 := cell_later HBa.out t2
      have r5 := cell_later HBa.out g5
      have HB6 := Lib.hid (HB5.out.st HBa.out)
      clear x0 x1 g0 g5 t0 t1 t2 HB5
      cases back with
      | false =>
        have HE := Lib.hid (show hitS R (ownF own) false (v : Int) d ⟨(fn : Int), (tn : Int), xw, xe, xa, xb⟩ = (decide ((tn : Int) = (v : Int)) && decide (rAt R (fn : Int) < rAt R (tn : Int)) && (match ownF own (fn : Int) with | some e => decide (e + xw = d) | none => false)) from rfl)
        have hfl : fn < R.length := by have := HRN.out; omega
        have htl : tn < R.length := by have := HRN.out; omega
        have hrf : rAt R (fn : Int) = R[fn] := by unfold rAt; rw [Int.toNat_natCast, List.getD_eq_getElem?_getD, List.getElem?_eq_getElem hfl]; rfl
        have hrt : rAt R (tn : Int) = R[tn] := by unfold rAt; rw [Int.toNat_natCast, List.getD_eq_getElem?_getD, List.getElem?_eq_getElem htl]; rfl
        obtain ⟨rb, ro, e1, u0⟩ := (HR.out.go HB6.out).at hfl
        obtain ⟨rb', ro', e2, u1⟩ := (HR.out.go HB6.out).at htl
        subst e1
        cases e2
        rw [hrf, hrt] at HE
        generalize R[fn] = rf at *
        generalize R[tn] = rt at *
        have ob := HOB.out fn hfn
        have u2 := cell_later HB6.out (HOW.out fn hfn)
        have hff : (fn : Int) < (R.length : Int) := by have := HRN.out; omega
        have htt9 : (tn : Int) < (R.length : Int) := by have := HRN.out; omega
        have hff2 : (fn : Int) < (n : Int) := by omega
        have hf0 : (0 : Int) ≤ (fn : Int) := by omega
        have ht0 : (0 : Int) ≤ (tn : Int) := by omega
        rw [show ownF own (fn : Int) = (if gD own (fn : Int) < FAR then some (gD own (fn : Int)) else none) from rfl] at HE
        generalize gD own (fn : Int) = of at *
        clear hrf hrt htl hfl
        go_upto_region 9 with (fail)
        have z0 := fun p => cell_ext p r0
        have z2 := fun p => cell_ext p r4
        have z3 := fun p => cell_ext p u0
        have z4 := fun p => cell_ext p u1
        have z5 := fun p => cell_ext p u2
        have z6 := fun p => cell_ext p r5
        by_cases he : tn = v
        · subst he
          have htt : (((tn : Nat) : Int) == ((tn : Nat) : Int)) = true := by simp
          have hd0 : decide ((((tn : Nat) : Int)) = (((tn : Nat) : Int))) = true := by simp
          rw [hd0, Bool.true_and] at HE
          clear hd0
          by_cases hrk : rf < rt
          · rw [decide_eq_true hrk, Bool.true_and] at HE
            have hr1 : decide (rf < rt) = true := decide_eq_true hrk
            by_cases hF : of < 4611686018427387904
            · have hF1 : decide (of < 4611686018427387904) = true := decide_eq_true hF
              have HE2 := Lib.hid (HE.out.trans (show (match (if of < FAR then some of else none) with | some e => decide (e + xw = d) | none => false) = decide (of + xw = d) by rw [if_pos (show of < FAR from hF)]))
              have hw1 : IntKind.u64.wrap (of + xw) = of + xw := by rw [IntKind.wrap_u64]; omega
              clear HE
              by_cases hs : of + xw = d
              · have HT2 := Lib.hid (HHT.out (by rw [HE2.out]; exact decide_eq_true hs))
                have hsb : (of + xw == d) = true := by simp [hs]
                clear hs HHT HHF HE2 hrk hF
                refine wp_region_ext (by kernel_rfl) (by kernel_rfl) ?_
                repeat (go_big_quiet_step (fail))
                refine wpQuiet_nil ?_
                rintro _ ⟨pc, rfl⟩
                have HBc := Lib.hid (below_ext wa pc)
                generalize ext wa pc = wc at HBc ⊢
                go_wp2
                go_ret
                exact ⟨by rw [HRE.out, HT2.out]; rfl, HB0.out.st (HB6.out.st HBc.out)⟩
              · have HF2 := Lib.hid (HHF.out (by rw [HE2.out]; exact decide_eq_false hs))
                have hsb : (of + xw == d) = false := by simp [hs]
                clear hs HHT HHF HE2 hrk hF
                refine wp_region_ext (by kernel_rfl) (by kernel_rfl) ?_
                repeat (go_big_quiet_step (fail))
                refine wpQuiet_nil ?_
                rintro _ ⟨pc, rfl⟩
                have HBc := Lib.hid (below_ext wa pc)
                generalize ext wa pc = wc at HBc ⊢
                go_wp2
                go_roundg (S.length - (k + 1))
                case measure => omega
                case rel => exact ⟨k + 1, by omega, Nat.le_refl _, by go_num, HB6.out.st HBc.out, HF2.out⟩
            · have hF1 : decide (of < 4611686018427387904) = false := decide_eq_false hF
              have HF2 := Lib.hid (HHF.out (HE.out.trans (show (match (if of < FAR then some of else none) with | some e => decide (e + xw = d) | none => false) = false by rw [if_neg (show ¬ of < FAR from hF)])))
              clear HHT HHF HE hrk hF
              refine wp_region_ext (by kernel_rfl) (by kernel_rfl) ?_
              repeat (go_big_quiet_step (fail))
              refine wpQuiet_nil ?_
              rintro _ ⟨pc, rfl⟩
              have HBc := Lib.hid (below_ext wa pc)
              generalize ext wa pc = wc at HBc ⊢
              go_wp2
              go_roundg (S.length - (k + 1))
              case measure => omega
              case rel => exact ⟨k + 1, by omega, Nat.le_refl _, by go_num, HB6.out.st HBc.out, HF2.out⟩
          · have hr1 : decide (rf < rt) = false := decide_eq_false hrk
            have HF2 := Lib.hid (HHF.out (by rw [HE.out, hr1, Bool.false_and]))
            clear HHT HHF HE hrk
            refine wp_region_ext (by kernel_rfl) (by kernel_rfl) ?_
            repeat (go_big_quiet_step (fail))
            refine wpQuiet_nil ?_
            rintro _ ⟨pc, rfl⟩
            have HBc := Lib.hid (below_ext wa pc)
            generalize ext wa pc = wc at HBc ⊢
            go_wp2
            go_roundg (S.length - (k + 1))
            case measure => omega
            case rel => exact ⟨k + 1, by omega, Nat.le_refl _, by go_num, HB6.out.st HBc.out, HF2.out⟩
        · have htt : (((tn : Nat) : Int) == (v : Int)) = false := by rw [beq_eq_false_iff_ne]; omega
          have HF2 := Lib.hid (HHF.out (by rw [HE.out, decide_eq_false (show ¬ ((tn : Nat) : Int) = (v : Int) by omega), Bool.false_and, Bool.false_and]))
          clear HHT HHF HE he
          refine wp_region_ext (by kernel_rfl) (by kernel_rfl) ?_
          repeat (go_big_quiet_step (fail))
          refine wpQuiet_nil ?_
          rintro _ ⟨pc, rfl⟩
          have HBc := Lib.hid (below_ext wa pc)
          generalize ext wa pc = wc at HBc ⊢
          go_wp2
          go_roundg (S.length - (k + 1))
          case measure => omega
          case rel => exact ⟨k + 1, by omega, Nat.le_refl _, by go_num, HB6.out.st HBc.out, HF2.out⟩
      | true =>
        have HE := Lib.hid (show hitS R (ownF own) true (v : Int) d ⟨(fn : Int), (tn : Int), xw, xe, xa, xb⟩ = (decide ((fn : Int) = (v : Int)) && decide (rAt R (tn : Int) < rAt R (fn : Int)) && (match ownF own (tn : Int) with | some e => decide (e + xw = d) | none => false)) from rfl)
        have hfl : tn < R.length := by have := HRN.out; omega
        have htl : fn < R.length := by have := HRN.out; omega
        have hrf : rAt R (tn : Int) = R[tn] := by unfold rAt; rw [Int.toNat_natCast, List.getD_eq_getElem?_getD, List.getElem?_eq_getElem hfl]; rfl
        have hrt : rAt R (fn : Int) = R[fn] := by unfold rAt; rw [Int.toNat_natCast, List.getD_eq_getElem?_getD, List.getElem?_eq_getElem htl]; rfl
        obtain ⟨rb, ro, e1, u0⟩ := (HR.out.go HB6.out).at hfl
        obtain ⟨rb', ro', e2, u1⟩ := (HR.out.go HB6.out).at htl
        subst e1
        cases e2
        rw [hrf, hrt] at HE
        generalize R[tn] = rf at *
        generalize R[fn] = rt at *
        have ob := HOB.out tn htn
        have u2 := cell_later HB6.out (HOW.out tn htn)
        have hff : (tn : Int) < (R.length : Int) := by have := HRN.out; omega
        have htt9 : (fn : Int) < (R.length : Int) := by have := HRN.out; omega
        have hff2 : (tn : Int) < (n : Int) := by omega
        have hf0 : (0 : Int) ≤ (tn : Int) := by omega
        have ht0 : (0 : Int) ≤ (fn : Int) := by omega
        rw [show ownF own (tn : Int) = (if gD own (tn : Int) < FAR then some (gD own (tn : Int)) else none) from rfl] at HE
        generalize gD own (tn : Int) = of at *
        clear hrf hrt htl hfl
        go_upto_region 9 with (fail)
        have z0 := fun p => cell_ext p r0
        have z2 := fun p => cell_ext p r4
        have z3 := fun p => cell_ext p u0
        have z4 := fun p => cell_ext p u1
        have z5 := fun p => cell_ext p u2
        have z6 := fun p => cell_ext p r5
        by_cases he : fn = v
        · subst he
          have htt : (((fn : Nat) : Int) == ((fn : Nat) : Int)) = true := by simp
          have hd0 : decide ((((fn : Nat) : Int)) = (((fn : Nat) : Int))) = true := by simp
          rw [hd0, Bool.true_and] at HE
          clear hd0
          by_cases hrk : rf < rt
          · rw [decide_eq_true hrk, Bool.true_and] at HE
            have hr1 : decide (rf < rt) = true := decide_eq_true hrk
            by_cases hF : of < 4611686018427387904
            · have hF1 : decide (of < 4611686018427387904) = true := decide_eq_true hF
              have HE2 := Lib.hid (HE.out.trans (show (match (if of < FAR then some of else none) with | some e => decide (e + xw = d) | none => false) = decide (of + xw = d) by rw [if_pos (show of < FAR from hF)]))
              have hw1 : IntKind.u64.wrap (of + xw) = of + xw := by rw [IntKind.wrap_u64]; omega
              clear HE
              by_cases hs : of + xw = d
              · have HT2 := Lib.hid (HHT.out (by rw [HE2.out]; exact decide_eq_true hs))
                have hsb : (of + xw == d) = true := by simp [hs]
                clear hs HHT HHF HE2 hrk hF
                refine wp_region_ext (by kernel_rfl) (by kernel_rfl) ?_
                repeat (go_big_quiet_step (fail))
                refine wpQuiet_nil ?_
                rintro _ ⟨pc, rfl⟩
                have HBc := Lib.hid (below_ext wa pc)
                generalize ext wa pc = wc at HBc ⊢
                go_wp2
                go_ret
                exact ⟨by rw [HRE.out, HT2.out]; rfl, HB0.out.st (HB6.out.st HBc.out)⟩
              · have HF2 := Lib.hid (HHF.out (by rw [HE2.out]; exact decide_eq_false hs))
                have hsb : (of + xw == d) = false := by simp [hs]
                clear hs HHT HHF HE2 hrk hF
                refine wp_region_ext (by kernel_rfl) (by kernel_rfl) ?_
                repeat (go_big_quiet_step (fail))
                refine wpQuiet_nil ?_
                rintro _ ⟨pc, rfl⟩
                have HBc := Lib.hid (below_ext wa pc)
                generalize ext wa pc = wc at HBc ⊢
                go_wp2
                go_roundg (S.length - (k + 1))
                case measure => omega
                case rel => exact ⟨k + 1, by omega, Nat.le_refl _, by go_num, HB6.out.st HBc.out, HF2.out⟩
            · have hF1 : decide (of < 4611686018427387904) = false := decide_eq_false hF
              have HF2 := Lib.hid (HHF.out (HE.out.trans (show (match (if of < FAR then some of else none) with | some e => decide (e + xw = d) | none => false) = false by rw [if_neg (show ¬ of < FAR from hF)])))
              clear HHT HHF HE hrk hF
              refine wp_region_ext (by kernel_rfl) (by kernel_rfl) ?_
              repeat (go_big_quiet_step (fail))
              refine wpQuiet_nil ?_
              rintro _ ⟨pc, rfl⟩
              have HBc := Lib.hid (below_ext wa pc)
              generalize ext wa pc = wc at HBc ⊢
              go_wp2
              go_roundg (S.length - (k + 1))
              case measure => omega
              case rel => exact ⟨k + 1, by omega, Nat.le_refl _, by go_num, HB6.out.st HBc.out, HF2.out⟩
          · have hr1 : decide (rf < rt) = false := decide_eq_false hrk
            have HF2 := Lib.hid (HHF.out (by rw [HE.out, hr1, Bool.false_and]))
            clear HHT HHF HE hrk
            refine wp_region_ext (by kernel_rfl) (by kernel_rfl) ?_
            repeat (go_big_quiet_step (fail))
            refine wpQuiet_nil ?_
            rintro _ ⟨pc, rfl⟩
            have HBc := Lib.hid (below_ext wa pc)
            generalize ext wa pc = wc at HBc ⊢
            go_wp2
            go_roundg (S.length - (k + 1))
            case measure => omega
            case rel => exact ⟨k + 1, by omega, Nat.le_refl _, by go_num, HB6.out.st HBc.out, HF2.out⟩
        · have htt : (((fn : Nat) : Int) == (v : Int)) = false := by rw [beq_eq_false_iff_ne]; omega
          have HF2 := Lib.hid (HHF.out (by rw [HE.out, decide_eq_false (show ¬ ((fn : Nat) : Int) = (v : Int) by omega), Bool.false_and, Bool.false_and]))
          clear HHT HHF HE he
          refine wp_region_ext (by kernel_rfl) (by kernel_rfl) ?_
          repeat (go_big_quiet_step (fail))
          refine wpQuiet_nil ?_
          rintro _ ⟨pc, rfl⟩
          have HBc := Lib.hid (below_ext wa pc)
          generalize ext wa pc = wc at HBc ⊢
          go_wp2
          go_roundg (S.length - (k + 1))
          case measure => omega
          case rel => exact ⟨k + 1, by omega, Nat.le_refl _, by go_num, HB6.out.st HBc.out, HF2.out⟩
    · obtain rfl : k = S.length := by omega
      have HE := Lib.hid (firstS_no (fun j h => HN.out j h h))
      go_wp2
      go_ret
      exact ⟨by rw [HRE.out, HE.out]; rfl, HB0.out.st HB.out⟩
end Go.Proofs.YtkdomobedfhhgaaGreat
