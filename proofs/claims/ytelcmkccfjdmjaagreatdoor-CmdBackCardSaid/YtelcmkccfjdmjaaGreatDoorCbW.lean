/-
  The walk of the statement CmdBack: whatever the line and the command, the law answers true.
-/
import Derived.Test.YtelcmkccfjdmjaaGreatDoorProg
import Derived.Test.YtelcmkccfjdmjaaGreatDoorCnD
import Derived.Test.YtelcmkccfjdmjaaGreatDoorCbLaw
namespace Go.Proofs.YtelcmkccfjdmjaaGreatDoor
open Go Go.Proofs Go.RowKit Go.Shelf Go.Sort

theorem printBy_none {t : Int → ByteArray} {c : CmD} (h : (printBy t c).2 ≠ 0) : (printBy t c).1 = ByteArray.empty := by
  unfold printBy at h ⊢
  split
  · rfl
  · rename_i h1
    rw [if_neg h1] at h
    split
    · rename_i h2
      rw [if_pos h2] at h
      exact absurd rfl h
    · rfl
theorem printBy_some {t : Int → ByteArray} {c : CmD} (h : (printBy t c).2 = 0) : parseC (printBy t c).1 = (c, 0) ∧ (printBy t c).1.size ≤ 65536 := by
  unfold printBy at h ⊢
  split
  · rename_i h1
    rw [if_pos h1] at h
    cases h
  · rename_i h1
    rw [if_neg h1] at h
    split
    · rename_i h2
      exact ⟨h2, joinF_size _⟩
    · rename_i h2
      rw [if_neg h2] at h
      cases h

set_option maxRecDepth 100000 in
set_option maxHeartbeats 8000000 in
theorem CmdBack_any (line : ByteArray) (c : CmD) (v : List Value) (w : World) (hc : CmV w c v) (tc : TyC c) (ht : Pow10 w) :
    Calls Tryz.prog 7 #[.string line, .agg v.toArray] w fun e w' => e = .returned (.bool true) ∧ Below w.heap.size w w' := by
  have HAL := Lib.hid (fun W => alive40_any W)
  have HLC := Lib.hid (fun W h => light40_any c v W h)
  have HC := Lib.hid hc
  have HT := Lib.hid ht
  have HQ := Lib.hid (fun (h : lightC c = true) W h1 h2 => cmdPrint_any c v W h1 (tc.ok h) tc.sm (fun x hx => Nat.le_trans ((tc.words h).1 x hx) (by omega)) h2)
  have HQN := Lib.hid (printBy_none (t := itoaT) (c := c))
  have HQC := Lib.hid (fun h W => (show Calls Tryz.prog 28 #[.string (printBy itoaT c).1] W (CParsePost W (c, 0)) from (printBy_some (t := itoaT) (c := c) h).1 ▸ cmdParse_any _ W (printBy_some (t := itoaT) (c := c) h).2))
  have HSA := Lib.hid (fun (u : List Value) W h1 h2 => (show Calls Tryz.prog 26 #[.agg v.toArray, .agg u.toArray] W fun e w' => e = .returned (.bool true) ∧ Below W.heap.size W w' by have := cmdSame_any c c v u W h1 h2 tc.sm tc.sm; rwa [decide_eq_true rfl] at this))
  unfold CParsePost at HQC
  generalize printBy itoaT c = q at *
  obtain ⟨s2, f2⟩ := q
  simp only at HQ HQN HQC
  obtain ⟨ai, ci, aq, cq, ag, cg, ak, ck, rfl, -⟩ := hc
  clear tc ht
  by_cases hlen : 2000 < line.size
  · have g1 : decide ((line.size : Int) > 2000) = true := decide_eq_true (by omega)
    clear hlen
    go_enter Tryz.func7, Tryz.ntmps7
    go_upto_region 1 with (fail)
    obtain ⟨W, hW⟩ : ∃ W, W = w.alloc (Obj.cells #[.string c.name, .slice ai c.ints.length ci, .int .u64 c.w, .slice aq c.rats.length cq, .int .i64 c.gn, .slice ag c.ge.length cg, .slice ak c.rank.length ck] 55) := ⟨_, rfl⟩
    have HP := Lib.hid (show PB W w.heap.size _ by rw [hW]; exact PB.new7 _ _ _ _ _ _ _ _ _)
    have HB := Lib.hid (show Below w.heap.size w W by rw [hW]; exact Below.of_al _ _)
    rw [← hW]
    clear hW
    (obtain ⟨p0, -⟩ := (HP).out 0 _ rfl); (obtain ⟨p1, -⟩ := (HP).out 1 _ rfl); (obtain ⟨p2, -⟩ := (HP).out 2 _ rfl); (obtain ⟨p3, -⟩ := (HP).out 3 _ rfl); (obtain ⟨p4, -⟩ := (HP).out 4 _ rfl); (obtain ⟨p5, -⟩ := (HP).out 5 _ rfl); (obtain ⟨p6, -⟩ := (HP).out 6 _ rfl)
    go_wp2_with (go_at_call 22; refine (HAL.out _).mono ?_; rintro e w2 ⟨rfl, hb2⟩)
    go_ret
    exact ⟨rfl, HB.out.st hb2⟩
  have g1 : decide ((line.size : Int) > 2000) = false := decide_eq_false (by omega)
  cases hl : lightC c with
  | false =>
    rw [hl] at HLC
    clear hl hlen
    go_enter Tryz.func7, Tryz.ntmps7
    go_upto_region 1 with (fail)
    obtain ⟨W, hW⟩ : ∃ W, W = w.alloc (Obj.cells #[.string c.name, .slice ai c.ints.length ci, .int .u64 c.w, .slice aq c.rats.length cq, .int .i64 c.gn, .slice ag c.ge.length cg, .slice ak c.rank.length ck] 55) := ⟨_, rfl⟩
    have HP := Lib.hid (show PB W w.heap.size _ by rw [hW]; exact PB.new7 _ _ _ _ _ _ _ _ _)
    have HB := Lib.hid (show Below w.heap.size w W by rw [hW]; exact Below.of_al _ _)
    rw [← hW]
    clear hW
    (obtain ⟨p0, -⟩ := (HP).out 0 _ rfl); (obtain ⟨p1, -⟩ := (HP).out 1 _ rfl); (obtain ⟨p2, -⟩ := (HP).out 2 _ rfl); (obtain ⟨p3, -⟩ := (HP).out 3 _ rfl); (obtain ⟨p4, -⟩ := (HP).out 4 _ rfl); (obtain ⟨p5, -⟩ := (HP).out 5 _ rfl); (obtain ⟨p6, -⟩ := (HP).out 6 _ rfl)
    go_wp2_with (first
      | (go_at_call 21; refine (HLC.out _ (HC.out.go HB.out)).mono ?_; rintro e w1 ⟨rfl, hb1⟩)
      | (go_at_call 22; refine (HAL.out _).mono ?_; rintro e w2 ⟨rfl, hb2⟩))
    go_ret
    exact ⟨rfl, (HB.out.st hb1).st hb2⟩
  | true =>
    rw [hl] at HLC
    have HQ1 := Lib.hid (HQ.out hl)
    clear HQ hl
    have HPA := Lib.hid (fun W => cmdParse_any line W (by omega))
    have HBK := Lib.hid (fun c => cmd_back (line := line) (c := c))
    have HOK := Lib.hid (parseC_okC (s := line) (by omega))
    have HSM := Lib.hid (parseC_small (s := line) (by omega))
    unfold CParsePost at HPA
    clear hlen
    generalize parseC line = r at *
    obtain ⟨d, f⟩ := r
    simp only at HPA HOK HSM
    by_cases hf : f = 0
    · subst hf
      obtain ⟨s, b1, b2, b3, b4⟩ := HBK.out d rfl
      have HP1 := Lib.hid (fun (u : List Value) W h1 h2 => (show Calls Tryz.prog 23 #[.agg u.toArray] W fun e w' => e = .returned (.tuple #[.string s, .int .i64 0]) ∧ Below W.heap.size W w' by have := cmdPrint_any d u W h1 HOK.out HSM.out b4 h2; rwa [b1] at this))
      have HPB := Lib.hid (fun W => (show Calls Tryz.prog 28 #[.string s] W (CParsePost W (d, 0)) from b2 ▸ cmdParse_any s W b3))
      have HSB := Lib.hid (fun (u v : List Value) W h1 h2 => (show Calls Tryz.prog 26 #[.agg u.toArray, .agg v.toArray] W fun e w' => e = .returned (.bool true) ∧ Below W.heap.size W w' by have := cmdSame_any d d u v W h1 h2 HSM.out HSM.out; rwa [decide_eq_true rfl] at this))
      unfold CParsePost at HPB
      have hss : (s.toList == s.toList) = true := by simp
      clear b1 b2 b3 b4 HBK HOK HSM
      go_enter Tryz.func7, Tryz.ntmps7
      go_upto_region 1 with (fail)
      obtain ⟨W, hW⟩ : ∃ W, W = w.alloc (Obj.cells #[.string c.name, .slice ai c.ints.length ci, .int .u64 c.w, .slice aq c.rats.length cq, .int .i64 c.gn, .slice ag c.ge.length cg, .slice ak c.rank.length ck] 55) := ⟨_, rfl⟩
      have HP := Lib.hid (show PB W w.heap.size _ by rw [hW]; exact PB.new7 _ _ _ _ _ _ _ _ _)
      have HB := Lib.hid (show Below w.heap.size w W by rw [hW]; exact Below.of_al _ _)
      rw [← hW]
      clear hW
      (obtain ⟨p0, -⟩ := (HP).out 0 _ rfl); (obtain ⟨p1, -⟩ := (HP).out 1 _ rfl); (obtain ⟨p2, -⟩ := (HP).out 2 _ rfl); (obtain ⟨p3, -⟩ := (HP).out 3 _ rfl); (obtain ⟨p4, -⟩ := (HP).out 4 _ rfl); (obtain ⟨p5, -⟩ := (HP).out 5 _ rfl); (obtain ⟨p6, -⟩ := (HP).out 6 _ rfl)
      go_wp2_with fail
      refine (HLC.out _ (HC.out.go HB.out)).mono ?_
      rintro e w1 ⟨rfl, hb1⟩
      have HB1 := Lib.hid (HB.out.st hb1)
      have HP1 := Lib.hid (HP.out.go hb1)
      clear hb1 HB HP p0 p1 p2 p3 p4 p5 p6
      (obtain ⟨p0, -⟩ := (HP1).out 0 _ rfl); (obtain ⟨p1, -⟩ := (HP1).out 1 _ rfl); (obtain ⟨p2, -⟩ := (HP1).out 2 _ rfl); (obtain ⟨p3, -⟩ := (HP1).out 3 _ rfl); (obtain ⟨p4, -⟩ := (HP1).out 4 _ rfl); (obtain ⟨p5, -⟩ := (HP1).out 5 _ rfl); (obtain ⟨p6, -⟩ := (HP1).out 6 _ rfl)
      go_wp2_with fail
      refine (HPA.out _).mono ?_
      rintro e w2 ⟨u, hu, rfl, hb2⟩
      have HB2 := Lib.hid (HB1.out.st hb2)
      have HP2 := Lib.hid (HP1.out.go hb2)
      clear hb2 HB1 HP1 p0 p1 p2 p3 p4 p5 p6
      (obtain ⟨p0, -⟩ := (HP2).out 0 _ rfl); (obtain ⟨p1, -⟩ := (HP2).out 1 _ rfl); (obtain ⟨p2, -⟩ := (HP2).out 2 _ rfl); (obtain ⟨p3, -⟩ := (HP2).out 3 _ rfl); (obtain ⟨p4, -⟩ := (HP2).out 4 _ rfl); (obtain ⟨p5, -⟩ := (HP2).out 5 _ rfl); (obtain ⟨p6, -⟩ := (HP2).out 6 _ rfl)
      have HU := Lib.hid hu
      obtain ⟨ui, uj, uq, ur, ug, uh, uk, ul, rfl, -⟩ := hu
      have HX3 := Lib.hid (PB.new7 w2 55 (.string d.name) (.slice ui d.ints.length uj) (.int .u64 d.w) (.slice uq d.rats.length ur) (.int .i64 d.gn) (.slice ug d.ge.length uh) (.slice uk d.rank.length ul))
      go_upto_region 4 with (fail)
      obtain ⟨W3, hW3⟩ : ∃ W3, W3 = w2.alloc (Obj.cells #[.string d.name, .slice ui d.ints.length uj, .int .u64 d.w, .slice uq d.rats.length ur, .int .i64 d.gn, .slice ug d.ge.length uh, .slice uk d.rank.length ul] 55) := ⟨_, rfl⟩
      have hb3 : Below w2.heap.size w2 W3 := by rw [hW3]; exact Below.of_al _ _
      rw [← hW3] at HX3 ⊢
      clear hW3
      have HU3 := Lib.hid (HU.out.go hb3)
      clear HU
      have HB3 := Lib.hid (HB2.out.st hb3)
      have HP3 := Lib.hid (HP2.out.go hb3)
      clear hb3 HB2 HP2 p0 p1 p2 p3 p4 p5 p6
      (obtain ⟨p0, -⟩ := (HP3).out 0 _ rfl); (obtain ⟨p1, -⟩ := (HP3).out 1 _ rfl); (obtain ⟨p2, -⟩ := (HP3).out 2 _ rfl); (obtain ⟨p3, -⟩ := (HP3).out 3 _ rfl); (obtain ⟨p4, -⟩ := (HP3).out 4 _ rfl); (obtain ⟨p5, -⟩ := (HP3).out 5 _ rfl); (obtain ⟨p6, -⟩ := (HP3).out 6 _ rfl)
      (obtain ⟨x0, -⟩ := (HX3).out 0 _ rfl); (obtain ⟨x1, -⟩ := (HX3).out 1 _ rfl); (obtain ⟨x2, -⟩ := (HX3).out 2 _ rfl); (obtain ⟨x3, -⟩ := (HX3).out 3 _ rfl); (obtain ⟨x4, -⟩ := (HX3).out 4 _ rfl); (obtain ⟨x5, -⟩ := (HX3).out 5 _ rfl); (obtain ⟨x6, -⟩ := (HX3).out 6 _ rfl)
      go_wp2_with fail
      refine (HP1.out _ _ HU3.out (tabIs_go HT.out HB3.out)).mono ?_
      rintro e w4 ⟨rfl, hb4⟩
      have HX4 := Lib.hid (HX3.out.go hb4)
      have HU4 := Lib.hid (HU3.out.go hb4)
      clear HX3 HU3 x0 x1 x2 x3 x4 x5 x6
      have HB4 := Lib.hid (HB3.out.st hb4)
      have HP4 := Lib.hid (HP3.out.go hb4)
      clear hb4 HB3 HP3 p0 p1 p2 p3 p4 p5 p6
      (obtain ⟨p0, -⟩ := (HP4).out 0 _ rfl); (obtain ⟨p1, -⟩ := (HP4).out 1 _ rfl); (obtain ⟨p2, -⟩ := (HP4).out 2 _ rfl); (obtain ⟨p3, -⟩ := (HP4).out 3 _ rfl); (obtain ⟨p4, -⟩ := (HP4).out 4 _ rfl); (obtain ⟨p5, -⟩ := (HP4).out 5 _ rfl); (obtain ⟨p6, -⟩ := (HP4).out 6 _ rfl)
      (obtain ⟨x0, -⟩ := (HX4).out 0 _ rfl); (obtain ⟨x1, -⟩ := (HX4).out 1 _ rfl); (obtain ⟨x2, -⟩ := (HX4).out 2 _ rfl); (obtain ⟨x3, -⟩ := (HX4).out 3 _ rfl); (obtain ⟨x4, -⟩ := (HX4).out 4 _ rfl); (obtain ⟨x5, -⟩ := (HX4).out 5 _ rfl); (obtain ⟨x6, -⟩ := (HX4).out 6 _ rfl)
      go_wp2_with fail
      refine (HPB.out _).mono ?_
      rintro e w5 ⟨v5, hv5, rfl, hb5⟩
      have HX5 := Lib.hid (HX4.out.go hb5)
      have HU5 := Lib.hid (HU4.out.go hb5)
      clear HX4 HU4 x0 x1 x2 x3 x4 x5 x6
      have HB5 := Lib.hid (HB4.out.st hb5)
      have HP5 := Lib.hid (HP4.out.go hb5)
      clear hb5 HB4 HP4 p0 p1 p2 p3 p4 p5 p6
      (obtain ⟨p0, -⟩ := (HP5).out 0 _ rfl); (obtain ⟨p1, -⟩ := (HP5).out 1 _ rfl); (obtain ⟨p2, -⟩ := (HP5).out 2 _ rfl); (obtain ⟨p3, -⟩ := (HP5).out 3 _ rfl); (obtain ⟨p4, -⟩ := (HP5).out 4 _ rfl); (obtain ⟨p5, -⟩ := (HP5).out 5 _ rfl); (obtain ⟨p6, -⟩ := (HP5).out 6 _ rfl)
      have HV := Lib.hid hv5
      obtain ⟨vi, vj, vq, vr, vg, vh, vk, vl, rfl, -⟩ := hv5
      have HXY := Lib.hid (PB.new7 w5 55 (.string d.name) (.slice vi d.ints.length vj) (.int .u64 d.w) (.slice vq d.rats.length vr) (.int .i64 d.gn) (.slice vg d.ge.length vh) (.slice vk d.rank.length vl))
      go_upto_region 7 with (fail)
      obtain ⟨W6, hW6⟩ : ∃ W6, W6 = w5.alloc (Obj.cells #[.string d.name, .slice vi d.ints.length vj, .int .u64 d.w, .slice vq d.rats.length vr, .int .i64 d.gn, .slice vg d.ge.length vh, .slice vk d.rank.length vl] 55) := ⟨_, rfl⟩
      have hb6 : Below w5.heap.size w5 W6 := by rw [hW6]; exact Below.of_al _ _
      rw [← hW6] at HXY ⊢
      clear hW6
      have HV6 := Lib.hid (HV.out.go hb6)
      have HU6 := Lib.hid (HU5.out.go hb6)
      have HX6 := Lib.hid (HX5.out.go hb6)
      clear HV HU5 HX5
      have HB6 := Lib.hid (HB5.out.st hb6)
      have HP6 := Lib.hid (HP5.out.go hb6)
      clear hb6 HB5 HP5 p0 p1 p2 p3 p4 p5 p6
      (obtain ⟨p0, -⟩ := (HP6).out 0 _ rfl); (obtain ⟨p1, -⟩ := (HP6).out 1 _ rfl); (obtain ⟨p2, -⟩ := (HP6).out 2 _ rfl); (obtain ⟨p3, -⟩ := (HP6).out 3 _ rfl); (obtain ⟨p4, -⟩ := (HP6).out 4 _ rfl); (obtain ⟨p5, -⟩ := (HP6).out 5 _ rfl); (obtain ⟨p6, -⟩ := (HP6).out 6 _ rfl)
      (obtain ⟨x0, -⟩ := (HX6).out 0 _ rfl); (obtain ⟨x1, -⟩ := (HX6).out 1 _ rfl); (obtain ⟨x2, -⟩ := (HX6).out 2 _ rfl); (obtain ⟨x3, -⟩ := (HX6).out 3 _ rfl); (obtain ⟨x4, -⟩ := (HX6).out 4 _ rfl); (obtain ⟨x5, -⟩ := (HX6).out 5 _ rfl); (obtain ⟨x6, -⟩ := (HX6).out 6 _ rfl)
      (obtain ⟨y0, -⟩ := (HXY).out 0 _ rfl); (obtain ⟨y1, -⟩ := (HXY).out 1 _ rfl); (obtain ⟨y2, -⟩ := (HXY).out 2 _ rfl); (obtain ⟨y3, -⟩ := (HXY).out 3 _ rfl); (obtain ⟨y4, -⟩ := (HXY).out 4 _ rfl); (obtain ⟨y5, -⟩ := (HXY).out 5 _ rfl); (obtain ⟨y6, -⟩ := (HXY).out 6 _ rfl)
      go_wp2_with fail
      refine (HP1.out _ _ HV6.out (tabIs_go HT.out HB6.out)).mono ?_
      rintro e w7 ⟨rfl, hb7⟩
      have HX7 := Lib.hid (HX6.out.go hb7)
      have HY7 := Lib.hid (HXY.out.go hb7)
      have HU7 := Lib.hid (HU6.out.go hb7)
      have HV7 := Lib.hid (HV6.out.go hb7)
      clear HX6 HXY HU6 HV6 x0 x1 x2 x3 x4 x5 x6 y0 y1 y2 y3 y4 y5 y6
      have HB7 := Lib.hid (HB6.out.st hb7)
      have HP7 := Lib.hid (HP6.out.go hb7)
      clear hb7 HB6 HP6 p0 p1 p2 p3 p4 p5 p6
      (obtain ⟨p0, -⟩ := (HP7).out 0 _ rfl); (obtain ⟨p1, -⟩ := (HP7).out 1 _ rfl); (obtain ⟨p2, -⟩ := (HP7).out 2 _ rfl); (obtain ⟨p3, -⟩ := (HP7).out 3 _ rfl); (obtain ⟨p4, -⟩ := (HP7).out 4 _ rfl); (obtain ⟨p5, -⟩ := (HP7).out 5 _ rfl); (obtain ⟨p6, -⟩ := (HP7).out 6 _ rfl)
      (obtain ⟨x0, -⟩ := (HX7).out 0 _ rfl); (obtain ⟨x1, -⟩ := (HX7).out 1 _ rfl); (obtain ⟨x2, -⟩ := (HX7).out 2 _ rfl); (obtain ⟨x3, -⟩ := (HX7).out 3 _ rfl); (obtain ⟨x4, -⟩ := (HX7).out 4 _ rfl); (obtain ⟨x5, -⟩ := (HX7).out 5 _ rfl); (obtain ⟨x6, -⟩ := (HX7).out 6 _ rfl)
      (obtain ⟨y0, -⟩ := (HY7).out 0 _ rfl); (obtain ⟨y1, -⟩ := (HY7).out 1 _ rfl); (obtain ⟨y2, -⟩ := (HY7).out 2 _ rfl); (obtain ⟨y3, -⟩ := (HY7).out 3 _ rfl); (obtain ⟨y4, -⟩ := (HY7).out 4 _ rfl); (obtain ⟨y5, -⟩ := (HY7).out 5 _ rfl); (obtain ⟨y6, -⟩ := (HY7).out 6 _ rfl)
      go_wp2_with fail
      refine (HSB.out _ _ _ HU7.out HV7.out).mono ?_
      rintro e w8 ⟨rfl, hb8⟩
      clear HX7 HY7 HU7 HV7 x0 x1 x2 x3 x4 x5 x6 y0 y1 y2 y3 y4 y5 y6
      have HB8 := Lib.hid (HB7.out.st hb8)
      have HP8 := Lib.hid (HP7.out.go hb8)
      clear hb8 HB7 HP7 p0 p1 p2 p3 p4 p5 p6
      (obtain ⟨p0, -⟩ := (HP8).out 0 _ rfl); (obtain ⟨p1, -⟩ := (HP8).out 1 _ rfl); (obtain ⟨p2, -⟩ := (HP8).out 2 _ rfl); (obtain ⟨p3, -⟩ := (HP8).out 3 _ rfl); (obtain ⟨p4, -⟩ := (HP8).out 4 _ rfl); (obtain ⟨p5, -⟩ := (HP8).out 5 _ rfl); (obtain ⟨p6, -⟩ := (HP8).out 6 _ rfl)
      go_wp2_with fail
      refine (HQ1.out _ (HC.out.go HB8.out) (tabIs_go HT.out HB8.out)).mono ?_
      rintro e wA ⟨rfl, hbA⟩
      have HBA := Lib.hid (HB8.out.st hbA)
      have HPA := Lib.hid (HP8.out.go hbA)
      clear hbA HB8 HP8 p0 p1 p2 p3 p4 p5 p6
      (obtain ⟨p0, -⟩ := (HPA).out 0 _ rfl); (obtain ⟨p1, -⟩ := (HPA).out 1 _ rfl); (obtain ⟨p2, -⟩ := (HPA).out 2 _ rfl); (obtain ⟨p3, -⟩ := (HPA).out 3 _ rfl); (obtain ⟨p4, -⟩ := (HPA).out 4 _ rfl); (obtain ⟨p5, -⟩ := (HPA).out 5 _ rfl); (obtain ⟨p6, -⟩ := (HPA).out 6 _ rfl)
      by_cases hg : f2 = 0
      · have HPC := Lib.hid (HQC.out hg)
        subst hg
        go_wp2_with fail
        refine (HPC.out _).mono ?_
        rintro e wB ⟨v9, hv9, rfl, hbB⟩
        have HBB := Lib.hid (HBA.out.st hbB)
        have HPB := Lib.hid (HPA.out.go hbB)
        clear hbB HBA HPA p0 p1 p2 p3 p4 p5 p6
        (obtain ⟨p0, -⟩ := (HPB).out 0 _ rfl); (obtain ⟨p1, -⟩ := (HPB).out 1 _ rfl); (obtain ⟨p2, -⟩ := (HPB).out 2 _ rfl); (obtain ⟨p3, -⟩ := (HPB).out 3 _ rfl); (obtain ⟨p4, -⟩ := (HPB).out 4 _ rfl); (obtain ⟨p5, -⟩ := (HPB).out 5 _ rfl); (obtain ⟨p6, -⟩ := (HPB).out 6 _ rfl)
        have HW := Lib.hid hv9
        obtain ⟨zi, zj, zq, zr, zg, zh, zk, zl, rfl, -⟩ := hv9
        have HXZ := Lib.hid (PB.new7 wB 55 (.string c.name) (.slice zi c.ints.length zj) (.int .u64 c.w) (.slice zq c.rats.length zr) (.int .i64 c.gn) (.slice zg c.ge.length zh) (.slice zk c.rank.length zl))
        go_upto_region 14 with (fail)
        obtain ⟨WC, hWC⟩ : ∃ WC, WC = wB.alloc (Obj.cells #[.string c.name, .slice zi c.ints.length zj, .int .u64 c.w, .slice zq c.rats.length zr, .int .i64 c.gn, .slice zg c.ge.length zh, .slice zk c.rank.length zl] 55) := ⟨_, rfl⟩
        have hbC : Below wB.heap.size wB WC := by rw [hWC]; exact Below.of_al _ _
        rw [← hWC] at HXZ ⊢
        clear hWC
        have HWC := Lib.hid (HW.out.go hbC)
        clear HW
        have HBC := Lib.hid (HBB.out.st hbC)
        have HPC := Lib.hid (HPB.out.go hbC)
        clear hbC HBB HPB p0 p1 p2 p3 p4 p5 p6
        (obtain ⟨p0, -⟩ := (HPC).out 0 _ rfl); (obtain ⟨p1, -⟩ := (HPC).out 1 _ rfl); (obtain ⟨p2, -⟩ := (HPC).out 2 _ rfl); (obtain ⟨p3, -⟩ := (HPC).out 3 _ rfl); (obtain ⟨p4, -⟩ := (HPC).out 4 _ rfl); (obtain ⟨p5, -⟩ := (HPC).out 5 _ rfl); (obtain ⟨p6, -⟩ := (HPC).out 6 _ rfl)
        (obtain ⟨z0, -⟩ := (HXZ).out 0 _ rfl); (obtain ⟨z1, -⟩ := (HXZ).out 1 _ rfl); (obtain ⟨z2, -⟩ := (HXZ).out 2 _ rfl); (obtain ⟨z3, -⟩ := (HXZ).out 3 _ rfl); (obtain ⟨z4, -⟩ := (HXZ).out 4 _ rfl); (obtain ⟨z5, -⟩ := (HXZ).out 5 _ rfl); (obtain ⟨z6, -⟩ := (HXZ).out 6 _ rfl)
        go_wp2_with (first
          | (go_at_call 26; refine (HSA.out _ _ (HC.out.go HBC.out) HWC.out).mono ?_; rintro e wE ⟨rfl, hbE⟩)
          | (go_at_call 22; refine (HAL.out _).mono ?_; rintro e wF ⟨rfl, hbF⟩))
        go_ret
        exact ⟨rfl, (HBC.out.st hbE).st hbF⟩
      · have hg2 : (f2 != 0) = true := by simpa using hg
        obtain rfl := HQN.out hg
        clear hg
        go_wp2_with (go_at_call 22; refine (HAL.out _).mono ?_; rintro e wF ⟨rfl, hbF⟩)
        go_ret
        exact ⟨rfl, HBA.out.st hbF⟩
    · have hf2 : (f == 0) = false := by simpa using hf
      clear HBK HOK HSM hf
      go_enter Tryz.func7, Tryz.ntmps7
      go_upto_region 1 with (fail)
      obtain ⟨W, hW⟩ : ∃ W, W = w.alloc (Obj.cells #[.string c.name, .slice ai c.ints.length ci, .int .u64 c.w, .slice aq c.rats.length cq, .int .i64 c.gn, .slice ag c.ge.length cg, .slice ak c.rank.length ck] 55) := ⟨_, rfl⟩
      have HP := Lib.hid (show PB W w.heap.size _ by rw [hW]; exact PB.new7 _ _ _ _ _ _ _ _ _)
      have HB := Lib.hid (show Below w.heap.size w W by rw [hW]; exact Below.of_al _ _)
      rw [← hW]
      clear hW
      (obtain ⟨p0, -⟩ := (HP).out 0 _ rfl); (obtain ⟨p1, -⟩ := (HP).out 1 _ rfl); (obtain ⟨p2, -⟩ := (HP).out 2 _ rfl); (obtain ⟨p3, -⟩ := (HP).out 3 _ rfl); (obtain ⟨p4, -⟩ := (HP).out 4 _ rfl); (obtain ⟨p5, -⟩ := (HP).out 5 _ rfl); (obtain ⟨p6, -⟩ := (HP).out 6 _ rfl)
      go_wp2_with fail
      refine (HLC.out _ (HC.out.go HB.out)).mono ?_
      rintro e w1 ⟨rfl, hb1⟩
      have HB1 := Lib.hid (HB.out.st hb1)
      have HP1 := Lib.hid (HP.out.go hb1)
      clear hb1 HB HP p0 p1 p2 p3 p4 p5 p6
      (obtain ⟨p0, -⟩ := (HP1).out 0 _ rfl); (obtain ⟨p1, -⟩ := (HP1).out 1 _ rfl); (obtain ⟨p2, -⟩ := (HP1).out 2 _ rfl); (obtain ⟨p3, -⟩ := (HP1).out 3 _ rfl); (obtain ⟨p4, -⟩ := (HP1).out 4 _ rfl); (obtain ⟨p5, -⟩ := (HP1).out 5 _ rfl); (obtain ⟨p6, -⟩ := (HP1).out 6 _ rfl)
      go_wp2_with fail
      refine (HPA.out _).mono ?_
      rintro e w2 ⟨u, hu, rfl, hb2⟩
      have HB2 := Lib.hid (HB1.out.st hb2)
      have HP2 := Lib.hid (HP1.out.go hb2)
      clear hb2 HB1 HP1 p0 p1 p2 p3 p4 p5 p6
      (obtain ⟨p0, -⟩ := (HP2).out 0 _ rfl); (obtain ⟨p1, -⟩ := (HP2).out 1 _ rfl); (obtain ⟨p2, -⟩ := (HP2).out 2 _ rfl); (obtain ⟨p3, -⟩ := (HP2).out 3 _ rfl); (obtain ⟨p4, -⟩ := (HP2).out 4 _ rfl); (obtain ⟨p5, -⟩ := (HP2).out 5 _ rfl); (obtain ⟨p6, -⟩ := (HP2).out 6 _ rfl)
      obtain ⟨ui, uj, uq, ur, ug, uh, uk, ul, rfl, -⟩ := hu
      have HX3 := Lib.hid (PB.new7 w2 55 (.string d.name) (.slice ui d.ints.length uj) (.int .u64 d.w) (.slice uq d.rats.length ur) (.int .i64 d.gn) (.slice ug d.ge.length uh) (.slice uk d.rank.length ul))
      go_upto_region 4 with (fail)
      obtain ⟨W3, hW3⟩ : ∃ W3, W3 = w2.alloc (Obj.cells #[.string d.name, .slice ui d.ints.length uj, .int .u64 d.w, .slice uq d.rats.length ur, .int .i64 d.gn, .slice ug d.ge.length uh, .slice uk d.rank.length ul] 55) := ⟨_, rfl⟩
      have hb3 : Below w2.heap.size w2 W3 := by rw [hW3]; exact Below.of_al _ _
      rw [← hW3] at HX3 ⊢
      clear hW3
      clear HX3
      have HB3 := Lib.hid (HB2.out.st hb3)
      have HP3 := Lib.hid (HP2.out.go hb3)
      clear hb3 HB2 HP2 p0 p1 p2 p3 p4 p5 p6
      (obtain ⟨p0, -⟩ := (HP3).out 0 _ rfl); (obtain ⟨p1, -⟩ := (HP3).out 1 _ rfl); (obtain ⟨p2, -⟩ := (HP3).out 2 _ rfl); (obtain ⟨p3, -⟩ := (HP3).out 3 _ rfl); (obtain ⟨p4, -⟩ := (HP3).out 4 _ rfl); (obtain ⟨p5, -⟩ := (HP3).out 5 _ rfl); (obtain ⟨p6, -⟩ := (HP3).out 6 _ rfl)
      go_wp2_with fail
      refine (HQ1.out _ (HC.out.go HB3.out) (tabIs_go HT.out HB3.out)).mono ?_
      rintro e wA ⟨rfl, hbA⟩
      have HBA := Lib.hid (HB3.out.st hbA)
      have HPA := Lib.hid (HP3.out.go hbA)
      clear hbA HB3 HP3 p0 p1 p2 p3 p4 p5 p6
      (obtain ⟨p0, -⟩ := (HPA).out 0 _ rfl); (obtain ⟨p1, -⟩ := (HPA).out 1 _ rfl); (obtain ⟨p2, -⟩ := (HPA).out 2 _ rfl); (obtain ⟨p3, -⟩ := (HPA).out 3 _ rfl); (obtain ⟨p4, -⟩ := (HPA).out 4 _ rfl); (obtain ⟨p5, -⟩ := (HPA).out 5 _ rfl); (obtain ⟨p6, -⟩ := (HPA).out 6 _ rfl)
      by_cases hg : f2 = 0
      · have HPC := Lib.hid (HQC.out hg)
        subst hg
        go_wp2_with fail
        refine (HPC.out _).mono ?_
        rintro e wB ⟨v9, hv9, rfl, hbB⟩
        have HBB := Lib.hid (HBA.out.st hbB)
        have HPB := Lib.hid (HPA.out.go hbB)
        clear hbB HBA HPA p0 p1 p2 p3 p4 p5 p6
        (obtain ⟨p0, -⟩ := (HPB).out 0 _ rfl); (obtain ⟨p1, -⟩ := (HPB).out 1 _ rfl); (obtain ⟨p2, -⟩ := (HPB).out 2 _ rfl); (obtain ⟨p3, -⟩ := (HPB).out 3 _ rfl); (obtain ⟨p4, -⟩ := (HPB).out 4 _ rfl); (obtain ⟨p5, -⟩ := (HPB).out 5 _ rfl); (obtain ⟨p6, -⟩ := (HPB).out 6 _ rfl)
        have HW := Lib.hid hv9
        obtain ⟨zi, zj, zq, zr, zg, zh, zk, zl, rfl, -⟩ := hv9
        have HXZ := Lib.hid (PB.new7 wB 55 (.string c.name) (.slice zi c.ints.length zj) (.int .u64 c.w) (.slice zq c.rats.length zr) (.int .i64 c.gn) (.slice zg c.ge.length zh) (.slice zk c.rank.length zl))
        go_upto_region 14 with (fail)
        obtain ⟨WC, hWC⟩ : ∃ WC, WC = wB.alloc (Obj.cells #[.string c.name, .slice zi c.ints.length zj, .int .u64 c.w, .slice zq c.rats.length zr, .int .i64 c.gn, .slice zg c.ge.length zh, .slice zk c.rank.length zl] 55) := ⟨_, rfl⟩
        have hbC : Below wB.heap.size wB WC := by rw [hWC]; exact Below.of_al _ _
        rw [← hWC] at HXZ ⊢
        clear hWC
        have HWC := Lib.hid (HW.out.go hbC)
        clear HW
        have HBC := Lib.hid (HBB.out.st hbC)
        have HPC := Lib.hid (HPB.out.go hbC)
        clear hbC HBB HPB p0 p1 p2 p3 p4 p5 p6
        (obtain ⟨p0, -⟩ := (HPC).out 0 _ rfl); (obtain ⟨p1, -⟩ := (HPC).out 1 _ rfl); (obtain ⟨p2, -⟩ := (HPC).out 2 _ rfl); (obtain ⟨p3, -⟩ := (HPC).out 3 _ rfl); (obtain ⟨p4, -⟩ := (HPC).out 4 _ rfl); (obtain ⟨p5, -⟩ := (HPC).out 5 _ rfl); (obtain ⟨p6, -⟩ := (HPC).out 6 _ rfl)
        (obtain ⟨z0, -⟩ := (HXZ).out 0 _ rfl); (obtain ⟨z1, -⟩ := (HXZ).out 1 _ rfl); (obtain ⟨z2, -⟩ := (HXZ).out 2 _ rfl); (obtain ⟨z3, -⟩ := (HXZ).out 3 _ rfl); (obtain ⟨z4, -⟩ := (HXZ).out 4 _ rfl); (obtain ⟨z5, -⟩ := (HXZ).out 5 _ rfl); (obtain ⟨z6, -⟩ := (HXZ).out 6 _ rfl)
        go_wp2_with (first
          | (go_at_call 26; refine (HSA.out _ _ (HC.out.go HBC.out) HWC.out).mono ?_; rintro e wE ⟨rfl, hbE⟩)
          | (go_at_call 22; refine (HAL.out _).mono ?_; rintro e wF ⟨rfl, hbF⟩))
        go_ret
        exact ⟨rfl, (HBC.out.st hbE).st hbF⟩
      · have hg2 : (f2 != 0) = true := by simpa using hg
        obtain rfl := HQN.out hg
        clear hg
        go_wp2_with (go_at_call 22; refine (HAL.out _).mono ?_; rintro e wF ⟨rfl, hbF⟩)
        go_ret
        exact ⟨rfl, HBA.out.st hbF⟩

end Go.Proofs.YtelcmkccfjdmjaaGreatDoor
