/-
  Walk of package reply: which replies may be.
-/
import Derived.Test.YtelcmkccfjdmjaaGreatDoorProg
import Derived.Test.YtelcmkccfjdmjaaGreatDoorRpX
namespace Go.Proofs.YtelcmkccfjdmjaaGreatDoor
open Go Go.Proofs Go.RowKit Go.Shelf Go.Sort


theorem ReplyRight1_any (s : ByteArray) (w : World) (hs : s.size ≤ 140737488355328) : Calls Tryz.prog 49 #[.string s] w fun e w' => e = .returned (.bool (!wordB s)) ∧ Below w.heap.size w w' := by
  have H := Lib.hid (fun W => Right_any s W hs)
  generalize wordB s = b at *
  go_enter Tryz.func49, Tryz.ntmps49
  go_wp2_with (go_at_call 32; refine (H.out _).mono ?_; rintro e w1 ⟨rfl, hb1⟩)
  go_ret
  exact ⟨rfl, hb1⟩
theorem routeT_none (x : RtD) : ((routeT x).toList == ([] : List UInt8)) = negR x := by
  rw [name0_eq]
  cases hn : negR x with
  | true =>
    have : routeT x = ByteArray.empty := by unfold routeT; rw [if_pos hn]
    rw [this]
    rfl
  | false =>
    have : routeT x = (printI x.w ++ ⟨#[58]⟩) ++ joinB 46 (x.es.map printI) := by unfold routeT; rw [hn]; rfl
    rw [this, decide_eq_false]
    rw [ByteArray.size_append, ByteArray.size_append]
    have h3 : (⟨#[58]⟩ : ByteArray).size = 1 := rfl
    omega
theorem ReplyRight2_any (t : RtC) (w : World) (hty : tyRt t.r) (hc : Cel w t.ao (t.r.es.map encI)) (hp : Pow10 w) : Calls Tryz.prog 52 #[encRt t] w fun e w' => e = .returned (.bool (negR t.r)) ∧ Below w.heap.size w w' := by
  have H := Lib.hid (fun W h h' => Route_any t.r t.ao t.cap W hty h h')
  have hv := routeT_none t.r
  have HC := Lib.hid (hc.go (Below.of_al w (Obj.cells #[.slice t.ao t.r.es.length t.cap, .int .u64 t.r.w] 48)))
  have HT := Lib.hid (tabIs_go hp (Below.of_al w (Obj.cells #[.slice t.ao t.r.es.length t.cap, .int .u64 t.r.w] 48)))
  generalize routeT t.r = x at *
  generalize negR t.r = b at *
  clear hc hp
  go_enter Tryz.func52, Tryz.ntmps52
  go_wp2_with (go_at_call 43; refine (H.out _ HC.out HT.out).mono ?_; rintro e w1 ⟨rfl, hb1⟩)
  go_ret
  exact ⟨by first | rfl | simp [hv], (Below.of_al _ _).st hb1⟩

set_option maxRecDepth 100000 in
set_option maxHeartbeats 4000000 in
theorem ReplyRight_any (r : RepD) (v : Value) (w : World) (hv : RepV w r v) (hs : SmR r) (hp : Pow10 w) : Calls Tryz.prog 17 #[v] w fun e w' => e = .returned (.bool (rightR r)) ∧ Below w.heap.size w w' := by
  by_cases hf : r.f = 0
  · obtain ⟨an, cn, ar, cr, aw, cw, ts, rfl, han, har, haw, hat, hac⟩ := hv
    have e1 : ts.length = r.rts.length := by rw [← hat]; simp
    have HV := Lib.hid (show rightR r = (wordB r.name && !(r.words.any fun x => !wordB x) && !(ts.any fun t => negR t.r)) by
      unfold rightR
      rw [if_neg (by simpa using hf), ← hat, List.all_map, List.not_any_eq_all_not, List.not_any_eq_all_not]
      simp only [Bool.not_not]
      rfl)
    have HN := Lib.hid (fun W => ReplyRight1_any r.name W (by have := hs.nm; omega))
    have HAW := Lib.hid haw
    have HAR := Lib.hid har
    have HT := Lib.hid hp
    have HLI := Lib.hid (lie_of hac hat hs.lowE)
    have HTY := Lib.hid (fun t (ht : t ∈ ts) => (hs.rt t.r (by rw [← hat]; exact List.mem_map_of_mem ht)).1)
    have HQ2 := Lib.hid (fun W (h : Cel W aw (r.words.map encS)) => ContainsFunc_str 49 #[] (fun x => !wordB x) aw cw r.words W (enters_of Tryz.func49 (by kernel_rfl) rfl) (fun W' x _ hx => ReplyRight1_any x W' (by have := hs.ws x hx; omega)) (by have := hs.n3; omega) h)
    have HQ3 := Lib.hid (fun W (hb : Below w.heap.size w W) => (by
      have h := ContainsFunc_r 52 #[] (fun t => negR t.r) ar cr ts W (enters_of Tryz.func52 (by kernel_rfl) rfl) (fun W' x hb' hx => ReplyRight2_any x W' (HTY.out x hx) ((HLI.out x hx).1.go (hb.st hb')) (tabIs_go HT.out (hb.st hb'))) (by have := hs.n2; omega) (HAR.out.go hb)
      rw [e1] at h
      exact h : Calls Tryz.prog 51 #[.slice ar r.rts.length cr, .func (.func 52) #[] #[]] W fun e w' => e = .returned (.bool (ts.any fun t => negR t.r)) ∧ Below W.heap.size W w'))
    obtain ⟨B1, hB1⟩ : ∃ B1, B1 = w.alloc (Obj.cells #[.int .i64 r.f, .string r.name, .slice an r.nums.length cn, .slice ar r.rts.length cr, .slice aw r.words.length cw] 28) := ⟨_, rfl⟩
    have HP := Lib.hid (show P5 B1 w.heap.size (.int .i64 r.f) (.string r.name) (.slice an r.nums.length cn) (.slice ar r.rts.length cr) (.slice aw r.words.length cw) by rw [hB1]; exact P5.new _ _ _ _ _ _ _)
    have HB := Lib.hid (show Below w.heap.size w B1 by rw [hB1]; exact Below.of_al _ _)
    have HBE := Lib.hid hB1.symm
    have hf2 : (r.f != 0) = false := by simpa using hf
    generalize rightR r = q at *
    generalize wordB r.name = q1 at *
    generalize (r.words.any fun x => !wordB x) = q2 at *
    generalize (ts.any fun t => negR t.r) = q3 at *
    clear hf han har haw hat hac e1 hs hp hB1
    cases q1 with
    | false => (go_enter Tryz.func17, Tryz.ntmps17; go_wp2_with (first | (go_at_call 49; rw [HBE.out]; refine (HN.out _).mono ?_; rintro e w1 ⟨rfl, hb1⟩; obtain ⟨x0, x1, x2, x3, x4, -⟩ := HP.out.go hb1) | (go_at_call 50; refine (HQ2.out _ (HAW.out.go (HB.out.st hb1))).mono ?_; rintro e w2 ⟨rfl, hb2⟩; obtain ⟨x0, x1, x2, x3, x4, -⟩ := HP.out.go (hb1.st hb2)) | (go_at_call 51; refine (HQ3.out _ ((HB.out.st hb1).st hb2)).mono ?_; rintro e w3 ⟨rfl, hb3⟩)); go_ret; exact ⟨by rw [HV.out]; first | rfl | simp, by first | (exact ((HB.out.st hb1).st hb2).st hb3) | (exact (HB.out.st hb1).st hb2) | (exact HB.out.st hb1)⟩)
    | true =>
      cases q2 with
      | true => (go_enter Tryz.func17, Tryz.ntmps17; go_wp2_with (first | (go_at_call 49; rw [HBE.out]; refine (HN.out _).mono ?_; rintro e w1 ⟨rfl, hb1⟩; obtain ⟨x0, x1, x2, x3, x4, -⟩ := HP.out.go hb1) | (go_at_call 50; refine (HQ2.out _ (HAW.out.go (HB.out.st hb1))).mono ?_; rintro e w2 ⟨rfl, hb2⟩; obtain ⟨x0, x1, x2, x3, x4, -⟩ := HP.out.go (hb1.st hb2)) | (go_at_call 51; refine (HQ3.out _ ((HB.out.st hb1).st hb2)).mono ?_; rintro e w3 ⟨rfl, hb3⟩)); go_ret; exact ⟨by rw [HV.out]; first | rfl | simp, by first | (exact ((HB.out.st hb1).st hb2).st hb3) | (exact (HB.out.st hb1).st hb2) | (exact HB.out.st hb1)⟩)
      | false => (go_enter Tryz.func17, Tryz.ntmps17; go_wp2_with (first | (go_at_call 49; rw [HBE.out]; refine (HN.out _).mono ?_; rintro e w1 ⟨rfl, hb1⟩; obtain ⟨x0, x1, x2, x3, x4, -⟩ := HP.out.go hb1) | (go_at_call 50; refine (HQ2.out _ (HAW.out.go (HB.out.st hb1))).mono ?_; rintro e w2 ⟨rfl, hb2⟩; obtain ⟨x0, x1, x2, x3, x4, -⟩ := HP.out.go (hb1.st hb2)) | (go_at_call 51; refine (HQ3.out _ ((HB.out.st hb1).st hb2)).mono ?_; rintro e w3 ⟨rfl, hb3⟩)); go_ret; exact ⟨by rw [HV.out]; first | rfl | simp, by first | (exact ((HB.out.st hb1).st hb2).st hb3) | (exact (HB.out.st hb1).st hb2) | (exact HB.out.st hb1)⟩)
  · exact RightF_any r v w hv hf hs.lowR

end Go.Proofs.YtelcmkccfjdmjaaGreatDoor
