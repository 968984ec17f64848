/-
  Walk of the law of printed replies.
-/
import Derived.Test.YtelcmkccfjdmjaaGreatDoorProg
import Derived.Test.YtelcmkccfjdmjaaGreatDoorRpZ
namespace Go.Proofs.YtelcmkccfjdmjaaGreatDoor
open Go Go.Proofs Go.RowKit Go.Shelf Go.Sort

/-- the value of a reply of a fault -/
abbrev faultV (f : Int) : Value := .agg #[.int .i64 f, .string ⟨#[]⟩, .slice none 0 0, .slice none 0 0, .slice none 0 0]
theorem faultV_rep (W : World) (f : Int) : RepV W { rep0 with f := f } (faultV f) := rep0_V W f
theorem SmR.fault (f : Int) : SmR { rep0 with f := f } := (Sm0.zero f).sm (Nat.zero_le _)

set_option maxRecDepth 100000 in
set_option maxHeartbeats 2000000 in
theorem ReplyErrorV_any (f : Int) (w : World) : Calls Tryz.prog 20 #[.int .i64 f] w fun e w' => e = .returned (faultV (if f ≠ 0 ∧ isF f then f else 1)) ∧ Below w.heap.size w w' := by
  have HI := Lib.hid (fun W => codesIs_any f W)
  obtain ⟨x, hx⟩ : ∃ x, x = if f ≠ 0 ∧ isF f then f else 1 := ⟨_, rfl⟩
  rw [← hx]
  by_cases hf : f = 0
  · have e : x = 1 := by rw [hx, if_neg (fun h => h.1 hf)]
    subst e
    subst hf
    clear hx
    go_enter Tryz.func20, Tryz.ntmps20
    go_wp2
    obtain ⟨W1, hW1⟩ : ∃ W1, W1 = w.alloc (Obj.cells #[.int .i64 1, .string ⟨#[]⟩, .slice none 0 0, .slice none 0 0, .slice none 0 0] 28) := ⟨_, rfl⟩
    obtain ⟨r0, r1, r2, r3, r4, -⟩ : P5 W1 w.heap.size (.int .i64 1) (.string ⟨#[]⟩) (.slice none 0 0) (.slice none 0 0) (.slice none 0 0) := by rw [hW1]; exact P5.new _ _ _ _ _ _ _
    have hb1 : Below w.heap.size w W1 := by rw [hW1]; exact Below.of_al _ _
    rw [← hW1]
    clear hW1
    refine bodyPost_ret (v := faultV 1) (by simp [results, Tryz.results20, go_sem, r0, r1, r2, r3, r4]; try rfl) rfl ?_
    exact ⟨rfl, hb1⟩
  · have hf0 : (f == 0) = false := by simpa using hf
    cases hi : isF f with
    | true =>
      have e : x = f := by rw [hx, if_pos ⟨hf, hi⟩]
      subst e
      rw [hi] at HI
      clear hx hi hf
      go_enter Tryz.func20, Tryz.ntmps20
      go_wp2_with (go_at_call 48; refine (HI.out _).mono ?_; rintro e w1 ⟨rfl, hb1⟩; (have HP1 := Lib.hid ((P5.new w 28 _ _ _ _ _).go hb1)); obtain ⟨p0, p1, p2, p3, p4, f0, f1, f2, f3, f4⟩ := HP1.out)
      obtain ⟨r0, r1, r2, r3, r4, -⟩ := (HP1.out).set5 (.int .i64 x) (.string ⟨#[]⟩) (.slice none 0 0) (.slice none 0 0) (.slice none 0 0)
      refine bodyPost_ret (v := faultV x) (by simp [results, Tryz.results20, go_sem, r0, r1, r2, r3, r4]; try rfl) rfl ?_
      exact ⟨rfl, bel_set5 ((Below.of_al _ _).st hb1) (Nat.le_refl _) _ _ _ _ _⟩
    | false =>
      have e : x = 1 := by rw [hx, if_neg (fun h => by rw [hi] at h; simp at h)]
      subst e
      rw [hi] at HI
      clear hx hi hf
      go_enter Tryz.func20, Tryz.ntmps20
      go_wp2_with (go_at_call 48; refine (HI.out _).mono ?_; rintro e w1 ⟨rfl, hb1⟩; (have HP1 := Lib.hid ((P5.new w 28 _ _ _ _ _).go hb1)); obtain ⟨p0, p1, p2, p3, p4, f0, f1, f2, f3, f4⟩ := HP1.out)
      obtain ⟨r0, r1, r2, r3, r4, -⟩ := (HP1.out).set5 (.int .i64 1) (.string ⟨#[]⟩) (.slice none 0 0) (.slice none 0 0) (.slice none 0 0)
      refine bodyPost_ret (v := faultV 1) (by simp [results, Tryz.results20, go_sem, r0, r1, r2, r3, r4]; try rfl) rfl ?_
      exact ⟨rfl, bel_set5 ((Below.of_al _ _).st hb1) (Nat.le_refl _) _ _ _ _ _⟩

/-- a reply as its types have it -/
structure TyR (r : RepD) : Prop where
  l0 : r.name.size ≤ 9223372036854775807
  l1 : r.nums.length ≤ 9223372036854775807
  l2 : r.rts.length ≤ 9223372036854775807
  l3 : r.words.length ≤ 9223372036854775807
  ws : ∀ x ∈ r.words, x.size ≤ 9223372036854775807
  nu : ∀ n ∈ r.nums, 0 ≤ n ∧ n < 18446744073709551616
  rt : ∀ x ∈ r.rts, x.es.length ≤ 9223372036854775807 ∧ (0 ≤ x.w ∧ x.w < 18446744073709551616) ∧ ∀ e ∈ x.es, -9223372036854775808 ≤ e ∧ e ≤ 9223372036854775807
theorem light_sm {r : RepD} (h : TyR r) (hl : lightB r = true) : SmR r := by
  unfold lightB lightH at hl
  simp only [Bool.and_eq_true, decide_eq_true_eq, List.all_eq_true] at hl
  obtain ⟨⟨⟨⟨⟨h1, h2⟩, h3⟩, h4⟩, h5⟩, h6⟩ := hl
  exact ⟨by omega, by omega, by omega, by omega, fun x hx => by have := h6 x hx; omega, h.nu, fun x hx => by
    have h7 := h5 x hx
    have h8 := h.rt x hx
    exact ⟨⟨h8.2.1.1, h8.2.1.2, h8.2.2, by omega⟩, by omega⟩⟩
theorem light_ty {r : RepD} (h : TyR r) (v : Value) (w : World) (hv : RepV w r v) : Calls Tryz.prog 13 #[v] w fun e w' => e = .returned (.bool (lightB r)) ∧ Below w.heap.size w w' :=
  light_any r v w hv ⟨by have := h.l0; omega, h.l1, h.l2, h.l3⟩ (fun x hx => (h.rt x hx).1) (fun x hx => by have := h.ws x hx; omega)

set_option maxRecDepth 100000 in
set_option maxHeartbeats 8000000 in
theorem ReplyPrints_any (a b : RepD) (va vb : Value) (f : Int) (w : World) (ha : RepV w a va) (hb : RepV w b vb) (ta : TyR a) (tb : TyR b) (hp : Pow10 w) :
    Calls Tryz.prog 4 #[va, vb, .int .i64 f] w fun e w' => e = .returned (.bool true) ∧ Below w.heap.size w w' := by
  have HAL := Lib.hid (fun W => alive41_any W)
  have HLA := Lib.hid (fun W h => light_ty ta va W h)
  have HLB := Lib.hid (fun W h => light_ty tb vb W h)
  have HRA := Lib.hid ha
  have HRB := Lib.hid hb
  have HT := Lib.hid hp
  obtain ⟨an, cn, ar, cr, aw, cw, ts, rfl, -⟩ := ha
  obtain ⟨bn, dn, br, dr, bw, dw, us, rfl, -⟩ := hb
  obtain ⟨B1, hB1⟩ : ∃ B1, B1 = (w.alloc (Obj.cells #[.int .i64 a.f, .string a.name, .slice an a.nums.length cn, .slice ar a.rts.length cr, .slice aw a.words.length cw] 28)).alloc (Obj.cells #[.int .i64 b.f, .string b.name, .slice bn b.nums.length dn, .slice br b.rts.length dr, .slice bw b.words.length dw] 28) := ⟨_, rfl⟩
  have HK1 := Lib.hid (show P5 B1 w.heap.size (.int .i64 a.f) (.string a.name) (.slice an a.nums.length cn) (.slice ar a.rts.length cr) (.slice aw a.words.length cw) by rw [hB1]; exact (P5.new _ _ _ _ _ _ _).go (Below.of_al _ _))
  have HK2 := Lib.hid (show P5 B1 (w.heap.size + 1) (.int .i64 b.f) (.string b.name) (.slice bn b.nums.length dn) (.slice br b.rts.length dr) (.slice bw b.words.length dw) by
    rw [hB1]
    have h := P5.new (w.alloc (Obj.cells #[.int .i64 a.f, .string a.name, .slice an a.nums.length cn, .slice ar a.rts.length cr, .slice aw a.words.length cw] 28)) 28 (.int .i64 b.f) (.string b.name) (.slice bn b.nums.length dn) (.slice br b.rts.length dr) (.slice bw b.words.length dw)
    simpa using h)
  have HKB := Lib.hid (show Below w.heap.size w B1 by rw [hB1]; exact (Below.of_al _ _).al _)
  have HBE := Lib.hid hB1.symm
  clear hB1 hp
  cases hla : lightB a with
  | false =>
    rw [hla] at HLA
    clear hla
    go_enter Tryz.func4, Tryz.ntmps4
    go_wp2_with (first
      | (go_at_call 13; rw [HBE.out]; refine (HLA.out _ (HRA.out.go HKB.out)).mono ?_; rintro e w1 ⟨rfl, hb1⟩)
      | (go_at_call 8; refine (HAL.out _).mono ?_; rintro e w2 ⟨rfl, hb2⟩))
    go_ret
    exact ⟨rfl, (HKB.out.st hb1).st hb2⟩
  | true =>
    rw [hla] at HLA
    cases hlb : lightB b with
    | false =>
      rw [hlb] at HLB
      clear hla hlb
      go_enter Tryz.func4, Tryz.ntmps4
      go_wp2_with fail
      rw [HBE.out]
      refine (HLA.out _ (HRA.out.go HKB.out)).mono ?_
      rintro e w1 ⟨rfl, hb1⟩
      obtain ⟨y0, y1, y2, y3, y4, -⟩ := HK2.out.go hb1
      go_wp2_with (first
        | (go_at_call 13; refine (HLB.out _ (HRB.out.go (HKB.out.st hb1))).mono ?_; rintro e w3 ⟨rfl, hb3⟩)
        | (go_at_call 8; refine (HAL.out _).mono ?_; rintro e w2 ⟨rfl, hb2⟩))
      go_ret
      exact ⟨rfl, ((HKB.out.st hb1).st hb3).st hb2⟩
    | true =>
      rw [hlb] at HLB
      have sa := light_sm ta hla
      have sb := light_sm tb hlb
      clear hla hlb
      have H1 := Lib.hid (fun W h h' => ReplyPrint_any a (.agg #[.int .i64 a.f, .string a.name, .slice an a.nums.length cn, .slice ar a.rts.length cr, .slice aw a.words.length cw]) W h sa h')
      have H2 := Lib.hid (fun r v W h => ReplyOf_any r v W h)
      have H3 := Lib.hid (fun W h => refReplyPrint_any a (.agg #[.int .i64 a.f, .string a.name, .slice an a.nums.length cn, .slice ar a.rts.length cr, .slice aw a.words.length cw]) W h sa)
      have H4 := Lib.hid (fun W h h' => ReplyRight_any a (.agg #[.int .i64 a.f, .string a.name, .slice an a.nums.length cn, .slice ar a.rts.length cr, .slice aw a.words.length cw]) W h sa h')
      have H5 := Lib.hid (fun W h => refReplyRight_any a (.agg #[.int .i64 a.f, .string a.name, .slice an a.nums.length cn, .slice ar a.rts.length cr, .slice aw a.words.length cw]) W h sa.lowR sa.lowE sa.lowW)
      have H6 := Lib.hid (fun va vb W h h' => ReplySame_any a b va vb W h h' sa.lowR sb.lowR sa.lowE sb.lowE (by have := sa.n2; omega) (by have := sb.n2; omega))
      have H7 := Lib.hid (fun va vb W h h' => refReplySame_any a b va vb W h h' sa.lowR sb.lowR sa.lowE sb.lowE (by have := sa.n2; omega) (by have := sb.n2; omega))
      have H8 := Lib.hid (fun W => ReplyErrorV_any f W)
      have HFE := Lib.hid (fun x W => (by
        have h := refReplySame_any { rep0 with f := x } { rep0 with f := x } (faultV x) (faultV x) W (faultV_rep W x) (faultV_rep W x) (SmR.fault x).lowR (SmR.fault x).lowR (SmR.fault x).lowE (SmR.fault x).lowE (Nat.zero_le _) (Nat.zero_le _)
        rw [decide_eq_true rfl] at h
        exact h : Calls Tryz.prog 11 #[faultV x, faultV x] W fun e w' => e = .returned (.bool true) ∧ Below W.heap.size W w'))
      have HFO := Lib.hid (fun x W => ReplyOf_any { rep0 with f := x } (faultV x) W (faultV_rep W x))
      have HIS := Lib.hid (fun W => ref04Is_any f W)
      generalize printR a = pa at *
      generalize rightR a = rra at *
      generalize decide (a = b) = dab at *
      clear sa sb ta tb
      by_cases hf : f = 0
      · rw [if_neg (fun h => h.1 hf)] at H8
        have hf2 : (f == 0) = true := by simpa using hf
        clear hf
        go_enter Tryz.func4, Tryz.ntmps4
        go_wp2_with fail
        rw [HBE.out]
        refine (HLA.out _ (HRA.out.go HKB.out)).mono ?_
        rintro e w1 ⟨rfl, hb1⟩
        obtain ⟨y0, y1, y2, y3, y4, -⟩ := HK2.out.go hb1
        go_wp2_with fail
        refine (HLB.out _ (HRB.out.go (HKB.out.st hb1))).mono ?_
        rintro e w2 ⟨rfl, hb2⟩
        have HW2 := Lib.hid (hb1.st hb2)
        clear hb1 hb2
        obtain ⟨w3, hw3⟩ : ∃ w3, w3 = w2 := ⟨_, rfl⟩
        have HW3 := Lib.hid (show Below B1.heap.size B1 w3 by rw [hw3]; exact HW2.out)
        rw [← hw3]
        clear hw3
        go_wp2_with (go_at_call 14; refine (HIS.out _).mono ?_; rintro e w3 ⟨rfl, hb3⟩; have HW3 := Lib.hid (HW3.out.st hb3))
        have HWA := Lib.hid (HKB.out.st HW3.out)
        obtain ⟨x0, x1, x2, x3, x4, -⟩ := HK1.out.go HW3.out
        obtain ⟨y0, y1, y2, y3, y4, -⟩ := HK2.out.go HW3.out
        have X0 := fun p => cell_ext p x0
        have X1 := fun p => cell_ext p x1
        have X2 := fun p => cell_ext p x2
        have X3 := fun p => cell_ext p x3
        have X4 := fun p => cell_ext p x4
        have Y0 := fun p => cell_ext p y0
        have Y1 := fun p => cell_ext p y1
        have Y2 := fun p => cell_ext p y2
        have Y3 := fun p => cell_ext p y3
        have Y4 := fun p => cell_ext p y4
        have XA := Lib.hid (fun p => HRA.out.go (HWA.out.st (below_ext w3 p)))
        have XB := Lib.hid (fun p => HRB.out.go (HWA.out.st (below_ext w3 p)))
        have XT := Lib.hid (fun p => tabIs_go HT.out (HWA.out.st (below_ext w3 p)))
        refine wp_region_ext (by kernel_rfl) (by kernel_rfl) ?_
        repeat (go_big_quiet_step ((first
          | (go_at_call 15; exact Calls.ext_of (H1.out _ (XA.out _) (XT.out _)))
          | (go_at_call 16; exact Calls.ext_of (H3.out _ (XA.out _)))
          | (go_at_call 17; exact Calls.ext_of (H4.out _ (XA.out _) (XT.out _)))
          | (go_at_call 18; exact Calls.ext_of (H5.out _ (XA.out _)))
          | (go_at_call 19; exact Calls.ext_of (H6.out _ _ _ (XA.out _) (XB.out _)))
          | (go_at_call 20; exact Calls.ext_of (H8.out _))
          | (go_at_call 11; first | exact Calls.ext_of (H7.out _ _ _ (XA.out _) (XB.out _)) | exact Calls.ext_of (HFE.out 1 _))
          | (go_at_call 12; first | exact Calls.ext_of (H2.out _ _ _ (XA.out _)) | exact Calls.ext_of (H2.out _ _ _ (XB.out _)) | exact Calls.ext_of (HFO.out 1 _))
          | (go_at_call 8; exact Calls.ext_of (HAL.out _)))))
        refine wpQuiet_nil ?_
        rintro _ ⟨p7, rfl⟩
        have HB7 := Lib.hid (below_ext w3 p7)
        generalize ext w3 p7 = w7 at HB7 ⊢
        go_wp2
        go_ret
        exact ⟨by first | rfl | simp, HWA.out.st HB7.out⟩
      · have hf2 : (f == 0) = false := by simpa using hf
        cases hi : isF f with
        | true =>
          rw [if_pos ⟨hf, hi⟩] at H8
          rw [hi] at HIS
          clear hf hi
          go_enter Tryz.func4, Tryz.ntmps4
          go_wp2_with fail
          rw [HBE.out]
          refine (HLA.out _ (HRA.out.go HKB.out)).mono ?_
          rintro e w1 ⟨rfl, hb1⟩
          obtain ⟨y0, y1, y2, y3, y4, -⟩ := HK2.out.go hb1
          go_wp2_with fail
          refine (HLB.out _ (HRB.out.go (HKB.out.st hb1))).mono ?_
          rintro e w2 ⟨rfl, hb2⟩
          have HW2 := Lib.hid (hb1.st hb2)
          clear hb1 hb2
          obtain ⟨w3, hw3⟩ : ∃ w3, w3 = w2 := ⟨_, rfl⟩
          have HW3 := Lib.hid (show Below B1.heap.size B1 w3 by rw [hw3]; exact HW2.out)
          rw [← hw3]
          clear hw3
          go_wp2_with (go_at_call 14; refine (HIS.out _).mono ?_; rintro e w3 ⟨rfl, hb3⟩; have HW3 := Lib.hid (HW3.out.st hb3))
          have HWA := Lib.hid (HKB.out.st HW3.out)
          obtain ⟨x0, x1, x2, x3, x4, -⟩ := HK1.out.go HW3.out
          obtain ⟨y0, y1, y2, y3, y4, -⟩ := HK2.out.go HW3.out
          have X0 := fun p => cell_ext p x0
          have X1 := fun p => cell_ext p x1
          have X2 := fun p => cell_ext p x2
          have X3 := fun p => cell_ext p x3
          have X4 := fun p => cell_ext p x4
          have Y0 := fun p => cell_ext p y0
          have Y1 := fun p => cell_ext p y1
          have Y2 := fun p => cell_ext p y2
          have Y3 := fun p => cell_ext p y3
          have Y4 := fun p => cell_ext p y4
          have XA := Lib.hid (fun p => HRA.out.go (HWA.out.st (below_ext w3 p)))
          have XB := Lib.hid (fun p => HRB.out.go (HWA.out.st (below_ext w3 p)))
          have XT := Lib.hid (fun p => tabIs_go HT.out (HWA.out.st (below_ext w3 p)))
          refine wp_region_ext (by kernel_rfl) (by kernel_rfl) ?_
          repeat (go_big_quiet_step ((first
            | (go_at_call 15; exact Calls.ext_of (H1.out _ (XA.out _) (XT.out _)))
            | (go_at_call 16; exact Calls.ext_of (H3.out _ (XA.out _)))
            | (go_at_call 17; exact Calls.ext_of (H4.out _ (XA.out _) (XT.out _)))
            | (go_at_call 18; exact Calls.ext_of (H5.out _ (XA.out _)))
            | (go_at_call 19; exact Calls.ext_of (H6.out _ _ _ (XA.out _) (XB.out _)))
            | (go_at_call 20; exact Calls.ext_of (H8.out _))
            | (go_at_call 11; first | exact Calls.ext_of (H7.out _ _ _ (XA.out _) (XB.out _)) | exact Calls.ext_of (HFE.out f _))
            | (go_at_call 12; first | exact Calls.ext_of (H2.out _ _ _ (XA.out _)) | exact Calls.ext_of (H2.out _ _ _ (XB.out _)) | exact Calls.ext_of (HFO.out f _))
            | (go_at_call 8; exact Calls.ext_of (HAL.out _)))))
          refine wpQuiet_nil ?_
          rintro _ ⟨p7, rfl⟩
          have HB7 := Lib.hid (below_ext w3 p7)
          generalize ext w3 p7 = w7 at HB7 ⊢
          go_wp2
          go_ret
          exact ⟨by first | rfl | simp, HWA.out.st HB7.out⟩
        | false =>
          rw [if_neg (fun h => by rw [hi] at h; simp at h)] at H8
          rw [hi] at HIS
          clear hf hi
          go_enter Tryz.func4, Tryz.ntmps4
          go_wp2_with fail
          rw [HBE.out]
          refine (HLA.out _ (HRA.out.go HKB.out)).mono ?_
          rintro e w1 ⟨rfl, hb1⟩
          obtain ⟨y0, y1, y2, y3, y4, -⟩ := HK2.out.go hb1
          go_wp2_with fail
          refine (HLB.out _ (HRB.out.go (HKB.out.st hb1))).mono ?_
          rintro e w2 ⟨rfl, hb2⟩
          have HW2 := Lib.hid (hb1.st hb2)
          clear hb1 hb2
          obtain ⟨w3, hw3⟩ : ∃ w3, w3 = w2 := ⟨_, rfl⟩
          have HW3 := Lib.hid (show Below B1.heap.size B1 w3 by rw [hw3]; exact HW2.out)
          rw [← hw3]
          clear hw3
          go_wp2_with (go_at_call 14; refine (HIS.out _).mono ?_; rintro e w3 ⟨rfl, hb3⟩; have HW3 := Lib.hid (HW3.out.st hb3))
          have HWA := Lib.hid (HKB.out.st HW3.out)
          obtain ⟨x0, x1, x2, x3, x4, -⟩ := HK1.out.go HW3.out
          obtain ⟨y0, y1, y2, y3, y4, -⟩ := HK2.out.go HW3.out
          have X0 := fun p => cell_ext p x0
          have X1 := fun p => cell_ext p x1
          have X2 := fun p => cell_ext p x2
          have X3 := fun p => cell_ext p x3
          have X4 := fun p => cell_ext p x4
          have Y0 := fun p => cell_ext p y0
          have Y1 := fun p => cell_ext p y1
          have Y2 := fun p => cell_ext p y2
          have Y3 := fun p => cell_ext p y3
          have Y4 := fun p => cell_ext p y4
          have XA := Lib.hid (fun p => HRA.out.go (HWA.out.st (below_ext w3 p)))
          have XB := Lib.hid (fun p => HRB.out.go (HWA.out.st (below_ext w3 p)))
          have XT := Lib.hid (fun p => tabIs_go HT.out (HWA.out.st (below_ext w3 p)))
          refine wp_region_ext (by kernel_rfl) (by kernel_rfl) ?_
          repeat (go_big_quiet_step ((first
            | (go_at_call 15; exact Calls.ext_of (H1.out _ (XA.out _) (XT.out _)))
            | (go_at_call 16; exact Calls.ext_of (H3.out _ (XA.out _)))
            | (go_at_call 17; exact Calls.ext_of (H4.out _ (XA.out _) (XT.out _)))
            | (go_at_call 18; exact Calls.ext_of (H5.out _ (XA.out _)))
            | (go_at_call 19; exact Calls.ext_of (H6.out _ _ _ (XA.out _) (XB.out _)))
            | (go_at_call 20; exact Calls.ext_of (H8.out _))
            | (go_at_call 11; first | exact Calls.ext_of (H7.out _ _ _ (XA.out _) (XB.out _)) | exact Calls.ext_of (HFE.out 1 _))
            | (go_at_call 12; first | exact Calls.ext_of (H2.out _ _ _ (XA.out _)) | exact Calls.ext_of (H2.out _ _ _ (XB.out _)) | exact Calls.ext_of (HFO.out 1 _))
            | (go_at_call 8; exact Calls.ext_of (HAL.out _)))))
          refine wpQuiet_nil ?_
          rintro _ ⟨p7, rfl⟩
          have HB7 := Lib.hid (below_ext w3 p7)
          generalize ext w3 p7 = w7 at HB7 ⊢
          go_wp2
          go_ret
          exact ⟨by first | rfl | simp, HWA.out.st HB7.out⟩

end Go.Proofs.YtelcmkccfjdmjaaGreatDoor
