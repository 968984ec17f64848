/-
  Walks of the document's package of replies: which replies may be.
-/
import Derived.Test.YtelcmkccfjdmjaaGreatDoorProg
import Derived.Test.YtelcmkccfjdmjaaGreatDoorRpQ
import Derived.Test.YtelcmkccfjdmjaaGreatDoorRpR
import Derived.Test.YtelcmkccfjdmjaaGreatDoorRpB
import Derived.Test.YtelcmkccfjdmjaaGreatDoorTokC
namespace Go.Proofs.YtelcmkccfjdmjaaGreatDoor
open Go Go.Proofs Go.RowKit Go.Shelf Go.Sort

/-- the texts of a reply are not too long -/
def lowW (r : RepD) : Prop := r.name.size ≤ 100000000 ∧ ∀ x ∈ r.words, x.size ≤ 100000000

set_option maxRecDepth 100000 in
set_option maxHeartbeats 4000000 in
theorem refReplyRight_any (r : RepD) (v : Value) (w : World) (hv : RepV w r v) (hl : lowR r) (he : lowE r) (hw : lowW r) :
    Calls Tryz.prog 18 #[v] w fun e w' => e = .returned (.bool (rightR r)) ∧ Below w.heap.size w w' := by
  obtain ⟨an, cn, ar, cr, aw, cw, ts, rfl, -, har, haw, hat, hac⟩ := hv
  obtain ⟨l1, l2, l3⟩ := hl
  by_cases hf : r.f = 0
  · have e1 : ts.length = r.rts.length := by rw [← hat]; simp
    have HAR := Lib.hid har
    have HAW := Lib.hid haw
    have HLI := Lib.hid (lie_of hac hat he)
    have HN := Lib.hid e1
    have HNM := Lib.hid (fun W => refRight_any r.name W (by have := hw.1; omega))
    have HWS := Lib.hid (fun k (hk : k < r.words.length) W => refRight_any r.words[k] W (by have := hw.2 _ (List.getElem_mem hk); omega))
    have HV := Lib.hid (show rightR r = (wordB r.name && r.words.all wordB && ts.all (fun t => !negR t.r)) by
      unfold rightR
      rw [if_neg (by simpa using hf), ← hat, List.all_map]
      rfl)
    have hf2 : (r.f != 0) = false := by simpa using hf
    generalize rightR r = q at *
    generalize wordB r.name = nb at *
    clear hf har haw hat hac e1 he hw
    go_enter Tryz.func18, Tryz.ntmps18
    go_wp2
    obtain ⟨B1, hB1⟩ : ∃ B1, B1 = w.alloc (Obj.cells #[.int .i64 r.f, .string r.name, .slice an r.nums.length cn, .slice ar r.rts.length cr, .slice aw r.words.length cw] 31) := ⟨_, rfl⟩
    obtain ⟨x0, x1, x2, x3, x4, -⟩ : P5 B1 w.heap.size (.int .i64 r.f) (.string r.name) (.slice an r.nums.length cn) (.slice ar r.rts.length cr) (.slice aw r.words.length cw) := by rw [hB1]; exact P5.new _ _ _ _ _ _ _
    have HB := Lib.hid (show Below w.heap.size w B1 by rw [hB1]; exact Below.of_al _ _)
    rw [← hB1]
    clear hB1
    go_loopg [3] r.rts.length (fun g i wr => ∃ k : Nat, k ≤ r.rts.length ∧ r.rts.length - k ≤ g ∧ i = .int .i64 k ∧ wr = B1 ∧ Aside (∀ j (h : j < ts.length), j < k → negR ts[j].r = false))
    case atStart => exact ⟨0, Nat.zero_le _, by omega, rfl, rfl, fun j _ h => absurd h (Nat.not_lt_zero _)⟩
    case round =>
      obtain ⟨k, hk, hg, rfl, rfl, HF⟩ := hrel
      have hk0 : (0 : Int) ≤ (k : Int) := by omega
      by_cases hlt : k < r.rts.length
      · have hlt3 : (k : Int) < (r.rts.length : Int) := by omega
        have hltt : k < ts.length := by have := HN.out; omega
        obtain ⟨b1, o1, hao, y0, y1⟩ := (HAR.out.go HB.out).rt hltt
        subst hao
        obtain ⟨hc, hz⟩ := (HLI.out.go HB.out) ts[k] (List.getElem_mem hltt)
        have HED := Lib.hid (show ∀ W, Cel W ts[k].ao (ts[k].r.es.map encI) → Calls Tryz.prog 53 #[.slice ts[k].ao ts[k].r.es.length ts[k].cap] W fun e w' => e = .returned (.bool (!negR ts[k].r)) ∧ w' = W from fun W h => refedges_any _ _ _ W (by omega) h)
        have HC := Lib.hid hc
        clear hc hz
        cases hq : negR ts[k].r with
        | false =>
          have HM := Lib.hid (fun j (h1 : j < ts.length) (h2 : j < k + 1) => (by
            by_cases e : j = k
            · subst e; exact hq
            · exact HF.out j h1 (by omega) : negR ts[j].r = false))
          rw [hq] at HED
          generalize ts[k] = x at *
          clear hq
          go_wp2_with (go_at_call 53; refine (HED.out _ HC.out).mono ?_; rintro e w1 ⟨rfl, rfl⟩)
          go_roundg (r.rts.length - (k + 1))
          case measure => omega
          case rel => exact ⟨k + 1, by omega, by omega, by go_num, rfl, HM.out⟩
        | true =>
          have HV2 := Lib.hid (show q = false by
            rw [HV.out, Bool.and_eq_false_iff]
            refine .inr ?_
            rw [List.all_eq_false]
            exact ⟨ts[k], List.getElem_mem hltt, by simpa using hq⟩)
          rw [hq] at HED
          generalize ts[k] = x at *
          clear hq
          go_wp2_with (go_at_call 53; refine (HED.out _ HC.out).mono ?_; rintro e w1 ⟨rfl, rfl⟩)
          go_ret
          exact ⟨by rw [HV2.out]; rfl, HB.out⟩
      · obtain rfl : k = r.rts.length := by omega
        have HV2 := Lib.hid (show q = (nb && r.words.all wordB) by
          have hts : ts.all (fun t => !negR t.r) = true := List.all_eq_true.2 (fun t ht => by
            obtain ⟨j, hj, rfl⟩ := List.mem_iff_getElem.1 ht
            simpa using HF.out j hj (by have := HN.out; omega))
          rw [HV.out, hts, Bool.and_true])
        clear HV
        obtain ⟨B2, hB2⟩ : ∃ B2, B2 = wr := ⟨_, rfl⟩
        subst hB2
        go_wp2
        go_loopg [4] r.words.length (fun g i wr => ∃ k : Nat, k ≤ r.words.length ∧ r.words.length - k ≤ g ∧ i = .int .i64 k ∧ wr = B2 ∧ Aside (∀ j (h : j < r.words.length), j < k → wordB r.words[j] = true))
        case atStart => exact ⟨0, Nat.zero_le _, by omega, rfl, rfl, fun j _ h => absurd h (Nat.not_lt_zero _)⟩
        case round =>
          obtain ⟨k, hk, hg, rfl, rfl, HF2⟩ := hrel
          have hk0 : (0 : Int) ≤ (k : Int) := by omega
          by_cases hlt : k < r.words.length
          · have hlt3 : (k : Int) < (r.words.length : Int) := by omega
            obtain ⟨b1, o1, hao, y0⟩ := (HAW.out.go HB.out).at hlt
            subst hao
            have HQ := Lib.hid (HWS.out k hlt)
            cases hq : wordB r.words[k] with
            | true =>
              have HM := Lib.hid (fun j (h1 : j < r.words.length) (h2 : j < k + 1) => (by
                by_cases e : j = k
                · subst e; exact hq
                · exact HF2.out j h1 (by omega) : wordB r.words[j] = true))
              rw [hq] at HQ
              generalize r.words[k] = x at *
              clear hq
              go_wp2_with (go_at_call 54; refine (HQ.out _).mono ?_; rintro e w1 ⟨rfl, rfl⟩)
              go_roundg (r.words.length - (k + 1))
              case measure => omega
              case rel => exact ⟨k + 1, by omega, by omega, by go_num, rfl, HM.out⟩
            | false =>
              have HV3 := Lib.hid (show q = false by
                rw [HV2.out, Bool.and_eq_false_iff]
                refine .inr ?_
                rw [List.all_eq_false]
                exact ⟨r.words[k], List.getElem_mem hlt, by simpa using hq⟩)
              rw [hq] at HQ
              generalize r.words[k] = x at *
              clear hq
              go_wp2_with (go_at_call 54; refine (HQ.out _).mono ?_; rintro e w1 ⟨rfl, rfl⟩)
              go_ret
              exact ⟨by rw [HV3.out]; rfl, HB.out⟩
          · obtain rfl : k = r.words.length := by omega
            have HV3 := Lib.hid (show q = nb by
              rw [HV2.out, List.all_eq_true.2 (fun x hx => by
                obtain ⟨j, hj, rfl⟩ := List.mem_iff_getElem.1 hx
                exact HF2.out j hj hj), Bool.and_true])
            go_wp2_with (go_at_call 54; refine (HNM.out _).mono ?_; rintro e w1 ⟨rfl, rfl⟩)
            go_ret
            exact ⟨by rw [HV3.out]; rfl, HB.out⟩
  · have HV := Lib.hid (show rightR r = (isF r.f && decide (r.name.size = 0) && decide (r.nums.length + r.rts.length + r.words.length = 0)) by unfold rightR; rw [if_pos hf])
    have HI := Lib.hid (fun W => ref04Is_any r.f W)
    have hf2 : (r.f != 0) = true := by simpa using hf
    have hn0 := name0_eq r.name
    have hs : (((r.nums.length : Int) + (r.rts.length : Int) + (r.words.length : Int)) == 0) = decide (r.nums.length + r.rts.length + r.words.length = 0) := by
      by_cases h : r.nums.length + r.rts.length + r.words.length = 0
      · rw [decide_eq_true h, beq_iff_eq]; omega
      · rw [decide_eq_false h, beq_eq_false_iff_ne]; omega
    generalize rightR r = b at *
    generalize isF r.f = b1 at *
    generalize decide (r.name.size = 0) = b2 at *
    generalize decide (r.nums.length + r.rts.length + r.words.length = 0) = b3 at *
    clear hf har haw hat hac he hw
    cases b1 with
    | false => (go_enter Tryz.func18, Tryz.ntmps18; go_wp2_with (go_at_call 14; refine (HI.out _).mono ?_; rintro e w1 ⟨rfl, hb1⟩; (have HP1 := Lib.hid ((P5.new w 31 _ _ _ _ _).go hb1)); obtain ⟨p0, p1, p2, p3, p4, f0, f1, f2, f3, f4⟩ := HP1.out); go_ret; exact ⟨by rw [HV.out]; rfl, (Below.of_al _ _).st hb1⟩)
    | true =>
      cases b2 with
      | false => (go_enter Tryz.func18, Tryz.ntmps18; go_wp2_with (go_at_call 14; refine (HI.out _).mono ?_; rintro e w1 ⟨rfl, hb1⟩; (have HP1 := Lib.hid ((P5.new w 31 _ _ _ _ _).go hb1)); obtain ⟨p0, p1, p2, p3, p4, f0, f1, f2, f3, f4⟩ := HP1.out); go_ret; exact ⟨by rw [HV.out]; rfl, (Below.of_al _ _).st hb1⟩)
      | true =>
        cases b3 with
        | false => (go_enter Tryz.func18, Tryz.ntmps18; go_wp2_with (go_at_call 14; refine (HI.out _).mono ?_; rintro e w1 ⟨rfl, hb1⟩; (have HP1 := Lib.hid ((P5.new w 31 _ _ _ _ _).go hb1)); obtain ⟨p0, p1, p2, p3, p4, f0, f1, f2, f3, f4⟩ := HP1.out); go_ret; exact ⟨by rw [HV.out]; rfl, (Below.of_al _ _).st hb1⟩)
        | true => (go_enter Tryz.func18, Tryz.ntmps18; go_wp2_with (go_at_call 14; refine (HI.out _).mono ?_; rintro e w1 ⟨rfl, hb1⟩; (have HP1 := Lib.hid ((P5.new w 31 _ _ _ _ _).go hb1)); obtain ⟨p0, p1, p2, p3, p4, f0, f1, f2, f3, f4⟩ := HP1.out); go_ret; exact ⟨by rw [HV.out]; rfl, (Below.of_al _ _).st hb1⟩)

end Go.Proofs.YtelcmkccfjdmjaaGreatDoor
