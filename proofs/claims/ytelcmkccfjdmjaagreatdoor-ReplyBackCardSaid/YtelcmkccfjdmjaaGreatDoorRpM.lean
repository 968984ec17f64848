/-
  Walks of package reply: the reply of a fault, whether it may be, and its line.
-/
import Derived.Test.YtelcmkccfjdmjaaGreatDoorProg
import Derived.Test.YtelcmkccfjdmjaaGreatDoorRpL
namespace Go.Proofs.YtelcmkccfjdmjaaGreatDoor
open Go Go.Proofs Go.RowKit Go.Shelf Go.Sort

theorem name0_eq (s : ByteArray) : (s.toList == ([] : List UInt8)) = decide (s.size = 0) := by
  have h := byt_eq (a := s) (c := ByteArray.empty) (l := []) rfl
  rw [h]
  by_cases hz : s.size = 0
  · have e : s = ByteArray.empty := by
      apply Go.WideShapes.bytes_inj
      exact List.eq_nil_of_length_eq_zero (by simpa using hz)
    rw [decide_eq_true hz, decide_eq_true e]
  · rw [decide_eq_false hz, decide_eq_false (fun e => hz (by rw [e]; rfl))]

theorem wordOf_size (f : Int) : (wordOf f).size ≤ 20 := by
  unfold wordOf
  split
  · rw [List.getD_eq_getElem?_getD]
    cases h : faultL[f.toNat]? with
    | none => exact Nat.zero_le _
    | some x =>
      have hm := List.mem_of_getElem? h
      have : ∀ y ∈ faultL, y.size ≤ 20 := by decide
      exact this x hm
  · exact Nat.zero_le _
/-- the rows of a reply are not too long -/
def lowR (r : RepD) : Prop := r.nums.length ≤ 10000000 ∧ r.rts.length ≤ 10000000 ∧ r.words.length ≤ 10000000

set_option maxRecDepth 100000 in
set_option maxHeartbeats 1000000 in
theorem RightF_any (r : RepD) (v : Value) (w : World) (hv : RepV w r v) (hf : r.f ≠ 0) (hl : lowR r) : Calls Tryz.prog 17 #[v] w fun e w' => e = .returned (.bool (rightR r)) ∧ Below w.heap.size w w' := by
  obtain ⟨an, cn, ar, cr, aw, cw, ts, rfl, -⟩ := hv
  obtain ⟨l1, l2, l3⟩ := hl
  have HV := Lib.hid (show rightR r = (isF r.f && decide (r.name.size = 0) && decide (r.nums.length + r.rts.length + r.words.length = 0)) by unfold rightR; rw [if_pos hf])
  have HI := Lib.hid (fun W => codesIs_any r.f W)
  have hf2 : (r.f != 0) = true := by simpa using hf
  have hn0 := name0_eq r.name
  have hs : (((r.nums.length : Int) + (r.rts.length : Int) + (r.words.length : Int)) == 0) = decide (r.nums.length + r.rts.length + r.words.length = 0) := by
    by_cases h : r.nums.length + r.rts.length + r.words.length = 0
    · rw [decide_eq_true h, beq_iff_eq]; omega
    · rw [decide_eq_false h, beq_eq_false_iff_ne]; omega
  generalize rightR r = b at *
  generalize isF r.f = b1 at *
  generalize decide (r.name.size = 0) = b2 at *
  generalize decide (r.nums.length + r.rts.length + r.words.length = 0) = b3 at *
  clear hf
  cases b1 with
  | false => (go_enter Tryz.func17, Tryz.ntmps17; go_wp2_with (go_at_call 48; refine (HI.out _).mono ?_; rintro e w1 ⟨rfl, hb1⟩; (have HP1 := Lib.hid ((P5.new w 28 _ _ _ _ _).go hb1)); obtain ⟨p0, p1, p2, p3, p4, f0, f1, f2, f3, f4⟩ := HP1.out); go_ret; exact ⟨by rw [HV.out]; rfl, (Below.of_al _ _).st hb1⟩)
  | true =>
    cases b2 with
    | false => (go_enter Tryz.func17, Tryz.ntmps17; go_wp2_with (go_at_call 48; refine (HI.out _).mono ?_; rintro e w1 ⟨rfl, hb1⟩; (have HP1 := Lib.hid ((P5.new w 28 _ _ _ _ _).go hb1)); obtain ⟨p0, p1, p2, p3, p4, f0, f1, f2, f3, f4⟩ := HP1.out); go_ret; exact ⟨by rw [HV.out]; rfl, (Below.of_al _ _).st hb1⟩)
    | true =>
      cases b3 with
      | false => (go_enter Tryz.func17, Tryz.ntmps17; go_wp2_with (go_at_call 48; refine (HI.out _).mono ?_; rintro e w1 ⟨rfl, hb1⟩; (have HP1 := Lib.hid ((P5.new w 28 _ _ _ _ _).go hb1)); obtain ⟨p0, p1, p2, p3, p4, f0, f1, f2, f3, f4⟩ := HP1.out); go_ret; exact ⟨by rw [HV.out]; rfl, (Below.of_al _ _).st hb1⟩)
      | true => (go_enter Tryz.func17, Tryz.ntmps17; go_wp2_with (go_at_call 48; refine (HI.out _).mono ?_; rintro e w1 ⟨rfl, hb1⟩; (have HP1 := Lib.hid ((P5.new w 28 _ _ _ _ _).go hb1)); obtain ⟨p0, p1, p2, p3, p4, f0, f1, f2, f3, f4⟩ := HP1.out); go_ret; exact ⟨by rw [HV.out]; rfl, (Below.of_al _ _).st hb1⟩)

set_option maxRecDepth 100000 in
set_option maxHeartbeats 2000000 in
theorem ReplyError_any (f : Int) (w : World) : Calls Tryz.prog 20 #[.int .i64 f] w fun e w' => (∃ v, e = .returned v ∧ RepV w' { rep0 with f := if f ≠ 0 ∧ isF f then f else 1 } v) ∧ Below w.heap.size w w' := by
  have HI := Lib.hid (fun W => codesIs_any f W)
  obtain ⟨x, hx⟩ : ∃ x, x = if f ≠ 0 ∧ isF f then f else 1 := ⟨_, rfl⟩
  rw [← hx]
  by_cases hf : f = 0
  · have e : x = 1 := by rw [hx, if_neg (fun h => h.1 hf)]
    subst e
    subst hf
    clear hx
    go_enter Tryz.func20, Tryz.ntmps20
    go_wp2
    obtain ⟨W1, hW1⟩ : ∃ W1, W1 = w.alloc (Obj.cells #[.int .i64 1, .string ⟨#[]⟩, .slice none 0 0, .slice none 0 0, .slice none 0 0] 28) := ⟨_, rfl⟩
    obtain ⟨r0, r1, r2, r3, r4, -⟩ : P5 W1 w.heap.size (.int .i64 1) (.string ⟨#[]⟩) (.slice none 0 0) (.slice none 0 0) (.slice none 0 0) := by rw [hW1]; exact P5.new _ _ _ _ _ _ _
    have hb1 : Below w.heap.size w W1 := by rw [hW1]; exact Below.of_al _ _
    rw [← hW1]
    clear hW1
    refine bodyPost_ret (v := .agg #[.int .i64 1, .string ⟨#[]⟩, .slice none 0 0, .slice none 0 0, .slice none 0 0]) (by simp [results, Tryz.results20, go_sem, r0, r1, r2, r3, r4]; try rfl) rfl ?_
    exact ⟨⟨_, rfl, rep0_V _ _⟩, hb1⟩
  · have hf0 : (f == 0) = false := by simpa using hf
    cases hi : isF f with
    | true =>
      have e : x = f := by rw [hx, if_pos ⟨hf, hi⟩]
      subst e
      rw [hi] at HI
      clear hx hi hf
      go_enter Tryz.func20, Tryz.ntmps20
      go_wp2_with (go_at_call 48; refine (HI.out _).mono ?_; rintro e w1 ⟨rfl, hb1⟩; (have HP1 := Lib.hid ((P5.new w 28 _ _ _ _ _).go hb1)); obtain ⟨p0, p1, p2, p3, p4, f0, f1, f2, f3, f4⟩ := HP1.out)
      obtain ⟨r0, r1, r2, r3, r4, -⟩ := (HP1.out).set5 (.int .i64 (x)) (.string ⟨#[]⟩) (.slice none 0 0) (.slice none 0 0) (.slice none 0 0)
      refine bodyPost_ret (v := .agg #[.int .i64 (x), .string ⟨#[]⟩, .slice none 0 0, .slice none 0 0, .slice none 0 0]) (by simp [results, Tryz.results20, go_sem, r0, r1, r2, r3, r4]; try rfl) rfl ?_
      exact ⟨⟨_, rfl, rep0_V _ _⟩, bel_set5 ((Below.of_al _ _).st hb1) (Nat.le_refl _) _ _ _ _ _⟩
    | false =>
      have e : x = 1 := by rw [hx, if_neg (fun h => by rw [hi] at h; simp at h)]
      subst e
      rw [hi] at HI
      clear hx hi hf
      go_enter Tryz.func20, Tryz.ntmps20
      go_wp2_with (go_at_call 48; refine (HI.out _).mono ?_; rintro e w1 ⟨rfl, hb1⟩; (have HP1 := Lib.hid ((P5.new w 28 _ _ _ _ _).go hb1)); obtain ⟨p0, p1, p2, p3, p4, f0, f1, f2, f3, f4⟩ := HP1.out)
      obtain ⟨r0, r1, r2, r3, r4, -⟩ := (HP1.out).set5 (.int .i64 (1)) (.string ⟨#[]⟩) (.slice none 0 0) (.slice none 0 0) (.slice none 0 0)
      refine bodyPost_ret (v := .agg #[.int .i64 (1), .string ⟨#[]⟩, .slice none 0 0, .slice none 0 0, .slice none 0 0]) (by simp [results, Tryz.results20, go_sem, r0, r1, r2, r3, r4]; try rfl) rfl ?_
      exact ⟨⟨_, rfl, rep0_V _ _⟩, bel_set5 ((Below.of_al _ _).st hb1) (Nat.le_refl _) _ _ _ _ _⟩

set_option maxRecDepth 100000 in
set_option maxHeartbeats 1000000 in
theorem PrintF_any (r : RepD) (v : Value) (w : World) (hv : RepV w r v) (hf : r.f ≠ 0) (hl : lowR r) : Calls Tryz.prog 15 #[v] w fun e w' => e = .returned (.string (printR r)) ∧ Below w.heap.size w w' := by
  have HR := Lib.hid (fun W h => RightF_any r v W h hf hl)
  have HV := Lib.hid hv
  obtain ⟨an, cn, ar, cr, aw, cw, ts, rfl, -⟩ := hv
  have HWD := Lib.hid (fun W => codesWord_any r.f W)
  have hj : joinB 32 [errW, wordOf r.f] = bs [101, 114, 114, 111, 114, 32] ++ wordOf r.f := by
    apply Go.WideShapes.bytes_inj
    rw [joinB_data]
    simp [Lib.join, errW, bs]
  have HB1 := Lib.hid (fun W (h : Below w.heap.size w W) => HV.out.go h)
  have hf2 : (r.f != 0) = true := by simpa using hf
  cases hr : rightR r with
  | false =>
    have HQ := Lib.hid (show printR r = ByteArray.empty by unfold printR; rw [if_pos hr])
    rw [hr] at HR
    generalize printR r = q at *
    clear hr hf hj HWD
    go_enter Tryz.func15, Tryz.ntmps15
    go_wp2_with (go_at_call 17; refine (HR.out _ (HB1.out _ (Below.of_al _ _))).mono ?_; rintro e w1 ⟨rfl, hb1⟩)
    go_ret
    exact ⟨by rw [HQ.out]; rfl, (Below.of_al _ _).st hb1⟩
  | true =>
    have HQ := Lib.hid (show printR r = bs [101, 114, 114, 111, 114, 32] ++ wordOf r.f by unfold printR; rw [if_neg (by rw [hr]; simp), if_pos hf, hj])
    rw [hr] at HR
    have hwz : (wordOf r.f).size ≤ 20 := wordOf_size r.f
    generalize printR r = q at *
    generalize wordOf r.f = wd at *
    clear hr hf hj
    go_enter Tryz.func15, Tryz.ntmps15
    go_wp2_with (first
      | (go_at_call 17; refine (HR.out _ (HB1.out _ (Below.of_al _ _))).mono ?_; rintro e w1 ⟨rfl, hb1⟩; (have HP1 := Lib.hid ((P5.new w 28 _ _ _ _ _).go hb1)); obtain ⟨p0, p1, p2, p3, p4, f0, f1, f2, f3, f4⟩ := HP1.out)
      | (go_at_call 40; refine (HWD.out _).mono ?_; rintro e w2 ⟨rfl, hb2⟩))
    go_ret
    exact ⟨by rw [HQ.out]; rfl, ((Below.of_al _ _).st hb1).st hb2⟩

end Go.Proofs.YtelcmkccfjdmjaaGreatDoor
