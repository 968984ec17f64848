/-
  Walk of the law of parsed replies.
-/
import Derived.Test.YtelcmkccfjdmjaaGreatDoorProg
import Derived.Test.YtelcmkccfjdmjaaGreatDoorRpW
namespace Go.Proofs.YtelcmkccfjdmjaaGreatDoor
open Go Go.Proofs Go.RowKit Go.Shelf Go.Sort

theorem SmR.zero : SmR rep0 := (Sm0.zero 0).sm (Nat.zero_le _)
theorem parseR_sm {s : ByteArray} (hs : s.size ≤ 1000) : SmR (parseR s).1 := by
  rw [← parseRef_eq]
  unfold parseRef
  split
  · exact SmR.zero
  · exact readR_smR hs

set_option maxRecDepth 100000 in
set_option maxHeartbeats 4000000 in
theorem ReplyParses_any (s : ByteArray) (w : World) (hs : s.size ≤ 140737488355328) : Calls Tryz.prog 3 #[.string s] w fun e w' => e = .returned (.bool true) ∧ Below w.heap.size w w' := by
  have HA := Lib.hid (fun W => alive41_any W)
  by_cases hbig : s.size > 1000
  · have hb2 : (1000 : Int) < (s.size : Int) := by omega
    clear hbig
    go_enter Tryz.func3, Tryz.ntmps3
    go_wp2_with (go_at_call 8; refine (HA.out _).mono ?_; rintro e w1 ⟨rfl, hb1⟩)
    go_ret
    exact ⟨rfl, hb1⟩
  · have hb2 : ¬ (1000 : Int) < (s.size : Int) := by omega
    have H1 := Lib.hid (fun W => ReplyParse_any s W (by omega))
    have H2 := Lib.hid (fun W => refReplyParse_any s W (by omega))
    have hsm := parseR_sm (s := s) (by omega)
    generalize parseR s = p at *
    obtain ⟨r, f⟩ := p
    unfold ParsePost at H1 H2
    simp only at H1 H2 hsm
    have HOF := Lib.hid (fun v W h => ReplyOf_any r v W h)
    have HSM := Lib.hid (fun va vb W h1 h2 => refReplySame_any r r va vb W h1 h2 hsm.lowR hsm.lowR hsm.lowE hsm.lowE (by have := hsm.n2; omega) (by have := hsm.n2; omega))
    rw [decide_eq_true (rfl : r = r)] at HSM
    clear hbig hsm
    go_enter Tryz.func3, Tryz.ntmps3
    go_wp2_with fail
    refine (H1.out _).mono ?_
    rintro e w1 ⟨va, rfl, hva, hb1⟩
    have HVA := Lib.hid hva
    obtain ⟨an, cn, ar, cr, aw, cw, ts, rfl, -⟩ := hva
    go_wp2_with fail
    obtain ⟨W1, hW1⟩ : ∃ W1, W1 = w1.alloc (Obj.cells #[.int .i64 r.f, .string r.name, .slice an r.nums.length cn, .slice ar r.rts.length cr, .slice aw r.words.length cw] 28) := ⟨_, rfl⟩
    have HX1 := Lib.hid (show P5 W1 w1.heap.size (.int .i64 r.f) (.string r.name) (.slice an r.nums.length cn) (.slice ar r.rts.length cr) (.slice aw r.words.length cw) by rw [hW1]; exact P5.new _ _ _ _ _ _ _)
    have HVB := Lib.hid (show RepV W1 r (.agg #[.int .i64 r.f, .string r.name, .slice an r.nums.length cn, .slice ar r.rts.length cr, .slice aw r.words.length cw]) by rw [hW1]; exact HVA.out.go (Below.of_al _ _))
    have HB1 := Lib.hid (show Below w.heap.size w W1 by rw [hW1]; exact hb1.al _)
    rw [← hW1]
    generalize w1.heap.size = B1 at *
    clear hW1 HVA hb1
    refine (H2.out _).mono ?_
    rintro e w2 ⟨vb, rfl, hvb, hb2⟩
    have HVC := Lib.hid hvb
    have HVD := Lib.hid (HVB.out.go hb2)
    have HX2 := Lib.hid (HX1.out.go hb2)
    have HB2 := Lib.hid (HB1.out.st hb2)
    obtain ⟨bn, dn, br, dr, bw, dw, us, rfl, -⟩ := hvb
    clear hb2 HVB HX1 HB1
    go_wp2_with fail
    obtain ⟨W, hW⟩ : ∃ W, W = w2.alloc (Obj.cells #[.int .i64 r.f, .string r.name, .slice bn r.nums.length dn, .slice br r.rts.length dr, .slice bw r.words.length dw] 31) := ⟨_, rfl⟩
    obtain ⟨y0, y1, y2, y3, y4, -⟩ : P5 W w2.heap.size (.int .i64 r.f) (.string r.name) (.slice bn r.nums.length dn) (.slice br r.rts.length dr) (.slice bw r.words.length dw) := by rw [hW]; exact P5.new _ _ _ _ _ _ _
    obtain ⟨x0, x1, x2, x3, x4, -⟩ : P5 W B1 (.int .i64 r.f) (.string r.name) (.slice an r.nums.length cn) (.slice ar r.rts.length cr) (.slice aw r.words.length cw) := by rw [hW]; exact HX2.out.go (Below.of_al _ _)
    have HVE := Lib.hid (show RepV W r (.agg #[.int .i64 r.f, .string r.name, .slice an r.nums.length cn, .slice ar r.rts.length cr, .slice aw r.words.length cw]) by rw [hW]; exact HVD.out.go (Below.of_al _ _))
    have HVF := Lib.hid (show RepV W r (.agg #[.int .i64 r.f, .string r.name, .slice bn r.nums.length dn, .slice br r.rts.length dr, .slice bw r.words.length dw]) by rw [hW]; exact HVC.out.go (Below.of_al _ _))
    have HB3 := Lib.hid (show Below w.heap.size w W by rw [hW]; exact HB2.out.al _)
    rw [← hW]
    generalize w2.heap.size = B2 at *
    clear hW HVC HVD HX2 HB2 H1 H2
    have X0 := fun p => cell_ext p x0
    have X1 := fun p => cell_ext p x1
    have X2 := fun p => cell_ext p x2
    have X3 := fun p => cell_ext p x3
    have X4 := fun p => cell_ext p x4
    have Y0 := fun p => cell_ext p y0
    have Y1 := fun p => cell_ext p y1
    have Y2 := fun p => cell_ext p y2
    have Y3 := fun p => cell_ext p y3
    have Y4 := fun p => cell_ext p y4
    have XV := Lib.hid (fun p => HVE.out.go (below_ext W p))
    have XW := Lib.hid (fun p => HVF.out.go (below_ext W p))
    refine wp_region_ext (by kernel_rfl) (by kernel_rfl) ?_
    repeat (go_big_quiet_step ((first
      | (go_at_call 12; exact Calls.ext_of (HOF.out _ _ (XV.out _)))
      | (go_at_call 11; exact Calls.ext_of (HSM.out _ _ _ (XV.out _) (XW.out _)))
      | (go_at_call 8; exact Calls.ext_of (HA.out _)))))
    refine wpQuiet_nil ?_
    rintro _ ⟨p5, rfl⟩
    have HB5 := Lib.hid (below_ext W p5)
    generalize ext W p5 = w5 at HB5 ⊢
    go_wp2
    go_ret
    exact ⟨by first | rfl | simp, HB3.out.st HB5.out⟩

end Go.Proofs.YtelcmkccfjdmjaaGreatDoor
