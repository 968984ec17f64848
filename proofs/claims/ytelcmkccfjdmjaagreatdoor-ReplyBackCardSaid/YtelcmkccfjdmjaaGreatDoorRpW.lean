/-
  Walk of the document's Parse of a reply's line.
-/
import Derived.Test.YtelcmkccfjdmjaaGreatDoorProg
import Derived.Test.YtelcmkccfjdmjaaGreatDoorRpV
namespace Go.Proofs.YtelcmkccfjdmjaaGreatDoor
open Go Go.Proofs Go.RowKit Go.Shelf Go.Sort

theorem parseRt_length (s : ByteArray) : (parseRt s).1.es.length ≤ s.size + 1 := by
  unfold parseRt
  split
  · simp [rt0]
  · unfold cutRt
    split
    · simp [rt0]
    · split
      · simp
      · split
        · simp [rt0]
        · have h := @partsS_count 46 (s.extract ((Lib.indexByte s.data.toList 58).toNat + 1) s.size)
          rw [ByteArray.size_extract] at h
          simp only [valP, List.length_map]
          omega
/-- what lines of at most a thousand signs give -/
structure Sm0 (r : RepD) : Prop where
  nm : r.name.size ≤ 1000
  ws : ∀ x ∈ r.words, x.size ≤ 1000
  nu : ∀ n ∈ r.nums, 0 ≤ n ∧ n < 18446744073709551616
  rt : ∀ x ∈ r.rts, okRt x ∧ x.es.length ≤ 1001
theorem ok_ty {x : RtD} (h : okRt x) (hl : x.es.length ≤ 1001) : tyRt x := ⟨h.1, h.2.1, fun e he => by have := h.2.2 e he; omega, by omega⟩
theorem mem_snoc {α : Type} {p : α → Prop} {l : List α} {x : α} (h : ∀ y ∈ l, p y) (hx : p x) : ∀ y ∈ l ++ [x], p y := by
  intro y hy
  rcases List.mem_append.1 hy with hy | hy
  · exact h y hy
  · rw [List.mem_singleton] at hy
    subst hy
    exact hx
theorem Sm0.step {r : RepD} (h : Sm0 r) {s : ByteArray} (hs : s.size ≤ 1000) : Sm0 (readS r s) := by
  obtain ⟨h1, h2, h3, h4⟩ := h
  unfold readS
  split
  · exact ⟨h1, mem_snoc h2 (by rw [ByteArray.size_extract]; omega), h3, h4⟩
  · split
    · exact ⟨h1, h2, mem_snoc h3 (parseI_bd s), h4⟩
    · split
      · rename_i hq
        have hl := parseRt_length s
        have ho := (route_parseRt (s := s) (r := (parseRt s).1) (by rw [← hq])).2
        exact ⟨h1, h2, h3, mem_snoc h4 ⟨ho, by omega⟩⟩
      · exact ⟨h1, h2, h3, h4⟩
theorem Sm0.fold : ∀ (l : List ByteArray) (r : RepD), Sm0 r → (∀ x ∈ l, x.size ≤ 1000) → Sm0 (l.foldl readS r) ∧ lenR (l.foldl readS r) ≤ lenR r + l.length
  | [], r, h, _ => ⟨h, Nat.le_refl _⟩
  | s :: l, r, h, hs => by
    have h1 := Sm0.fold l (readS r s) (h.step (hs s (by simp))) (fun x hx => hs x (by simp [hx]))
    have h2 := (readS_keeps r s).2.2
    refine ⟨h1.1, ?_⟩
    have h3 := h1.2
    rw [List.foldl_cons, List.length_cons]
    omega
theorem Sm0.zero (f : Int) : Sm0 { rep0 with f := f } := ⟨Nat.zero_le _, (fun _ h => by cases h), (fun _ h => by cases h), (fun _ h => by cases h)⟩
theorem readR_sm {l : List ByteArray} (hs : ∀ x ∈ l, x.size ≤ 1000) : Sm0 (readR l) ∧ lenR (readR l) ≤ l.length := by
  match l, hs with
  | [], _ => exact ⟨Sm0.zero 0, Nat.zero_le _⟩
  | [a], _ => exact ⟨Sm0.zero 0, Nat.zero_le _⟩
  | a :: b :: tl, hs =>
    by_cases ha : a = errW
    · have e : readR (a :: b :: tl) = { rep0 with f := (ofW b).1 } := if_pos ha
      rw [e]
      exact ⟨Sm0.zero _, Nat.zero_le _⟩
    · have e : readR (a :: b :: tl) = tl.foldl readS { rep0 with name := b } := if_neg ha
      have h := Sm0.fold tl { rep0 with name := b } ⟨hs b (by simp), (fun _ h => by cases h), (fun _ h => by cases h), (fun _ h => by cases h)⟩ (fun x hx => hs x (by simp [hx]))
      rw [e]
      refine ⟨h.1, ?_⟩
      have h2 := h.2
      have h3 : lenR { rep0 with name := b } = 0 := rfl
      rw [List.length_cons, List.length_cons]
      omega
theorem Sm0.sm {r : RepD} (h : Sm0 r) (hl : lenR r ≤ 1001) : SmR r := by
  unfold lenR at hl
  exact ⟨by omega, by omega, by omega, by have := h.nm; omega, fun x hx => by have := h.ws x hx; omega, h.nu, fun x hx => ⟨ok_ty (h.rt x hx).1 (h.rt x hx).2, by have := (h.rt x hx).2; omega⟩⟩
theorem readR_smR {s : ByteArray} (hs : s.size ≤ 1000) : SmR (readR (partsS 32 s)) := by
  have h := readR_sm (l := partsS 32 s) (fun x hx => by have := partsS_size x hx; omega)
  have hc := @partsS_count 32 s
  exact h.1.sm (by omega)

set_option maxRecDepth 100000 in
set_option maxHeartbeats 4000000 in
theorem refReplyParse_any (s : ByteArray) (w : World) (hs : s.size ≤ 1000) : Calls Tryz.prog 10 #[.string s] w (ParsePost w (parseR s)) := by
  have HPA := Lib.hid (fun W => refParts_any s W (by omega))
  have HRD := Lib.hid (fun ao cap W h => refRead_any (partsS 32 s) ao cap W (by have := @partsS_count 32 s; omega) (fun x hx => by have := partsS_size x hx; omega) h)
  have HPT := Lib.hid (fun v W h => refReplyPrint_any (readR (partsS 32 s)) v W h (readR_smR hs))
  have hV : parseR s = if printR (readR (partsS 32 s)) ≠ s ∨ s.size = 0 then (rep0, 3) else (readR (partsS 32 s), 0) := (parseRef_eq s).symm
  generalize parseR s = p at *
  generalize readR (partsS 32 s) = r at *
  generalize partsS 32 s = l at *
  have hcmp : ((printR r).toList == s.toList) = decide (printR r = s) := byt_eq (by rw [ByteArray.toList_eq])
  have hemp := name0_eq s
  generalize printR r = pr at *
  by_cases hps : pr = s
  · rw [decide_eq_true hps] at hcmp
    by_cases hz : s.size = 0
    · rw [decide_eq_true hz] at hemp
      have HV := Lib.hid (show p = (rep0, 3) by rw [hV, if_pos (.inr hz)])
      clear hV hps hz
      go_enter Tryz.func10, Tryz.ntmps10
      go_wp2_with fail
      obtain ⟨W0, hW0⟩ : ∃ W0, W0 = w.alloc (Obj.cells #[.int .i64 0, .string ⟨#[]⟩, .slice none 0 0, .slice none 0 0, .slice none 0 0] 31) := ⟨_, rfl⟩
      have HT0 := Lib.hid (show P5 W0 w.heap.size (.int .i64 0) (.string ⟨#[]⟩) (.slice none 0 0) (.slice none 0 0) (.slice none 0 0) by rw [hW0]; exact P5.new _ _ _ _ _ _ _)
      have HB0 := Lib.hid (show Below w.heap.size w W0 by rw [hW0]; exact Below.of_al _ _)
      rw [← hW0]
      clear hW0
      refine (HPA.out _).mono ?_
      rintro e w1 ⟨ao, cap, rfl, hc1, hb1⟩
      have HC1 := Lib.hid hc1
      have HT1 := Lib.hid (HT0.out.go hb1)
      have HB1 := Lib.hid (HB0.out.st hb1)
      clear hc1 hb1
      go_wp2_with fail
      refine (HRD.out ao cap _ HC1.out).mono ?_
      rintro e w2 ⟨v, rfl, hv2, hb2⟩
      have HRV := Lib.hid hv2
      obtain ⟨an, cn, ar, cr, aw, cw, ts, rfl, -⟩ := hv2
      have hTw : w.heap.size < w1.heap.size := HT1.out.lt
      obtain ⟨W3, hW3⟩ : ∃ W3, W3 = w2.alloc (Obj.cells #[.int .i64 r.f, .string r.name, .slice an r.nums.length cn, .slice ar r.rts.length cr, .slice aw r.words.length cw] 31) := ⟨_, rfl⟩
      have HT2 := Lib.hid (show P5 W3 w.heap.size (.int .i64 0) (.string ⟨#[]⟩) (.slice none 0 0) (.slice none 0 0) (.slice none 0 0) by rw [hW3]; exact (HT1.out.go hb2).go (Below.of_al _ _))
      have HX2 := Lib.hid (show P5 W3 w2.heap.size (.int .i64 r.f) (.string r.name) (.slice an r.nums.length cn) (.slice ar r.rts.length cr) (.slice aw r.words.length cw) by rw [hW3]; exact P5.new _ _ _ _ _ _ _)
      have HB2 := Lib.hid (show Below w.heap.size w W3 by rw [hW3]; exact (HB1.out.st hb2).al _)
      have HRW := Lib.hid (show RepF w1.heap.size W3 r (.agg #[.int .i64 r.f, .string r.name, .slice an r.nums.length cn, .slice ar r.rts.length cr, .slice aw r.words.length cw]) by rw [hW3]; exact HRV.out.go (Below.of_al _ _))
      have hlt2 : w.heap.size < w2.heap.size := by have := HT1.out.lt; have := hb2.size; omega
      obtain ⟨x0, x1, x2, x3, x4, -⟩ := HX2.out
      go_wp2_with fail
      rw [← hW3]
      clear hW3 HRV HT0 HT1 HB0 HB1 HC1 hb2
      refine (HPT.out _ _ HRW.out.rep).mono ?_
      rintro e w3 ⟨rfl, hb3⟩
      have HT3 := Lib.hid (HT2.out.go hb3)
      have HX3 := Lib.hid (HX2.out.go hb3)
      have HB3 := Lib.hid (HB2.out.st hb3)
      have HR3 := Lib.hid (HRW.out.go hb3)
      obtain ⟨x0, x1, x2, x3, x4, -⟩ := HX3.out
      obtain ⟨t0, t1, t2, t3, t4, g0, g1, g2, g3, g4⟩ := HT3.out
      clear hb3 HT2 HX2 HB2 HRW
      go_wp2
      obtain ⟨r0, r1, r2, r3, r4, -⟩ := (HT3.out).set5 (.int .i64 0) (.string ⟨#[]⟩) (.slice none 0 0) (.slice none 0 0) (.slice none 0 0)
      refine bodyPost_ret (v := .tuple #[.agg #[.int .i64 0, .string ⟨#[]⟩, .slice none 0 0, .slice none 0 0, .slice none 0 0], .int .i64 3]) (by simp [results, Tryz.results10, go_sem, r0, r1, r2, r3, r4]; try rfl) rfl ?_
      exact ⟨_, by rw [HV.out], by rw [HV.out]; exact rep0_V _ _, bel_set5 HB3.out (Nat.le_refl _) _ _ _ _ _⟩
    · rw [decide_eq_false hz] at hemp
      have HV := Lib.hid (show p = (r, 0) by rw [hV, if_neg (fun h => h.elim (fun h => h hps) hz)])
      clear hV hps hz
      go_enter Tryz.func10, Tryz.ntmps10
      go_wp2_with fail
      obtain ⟨W0, hW0⟩ : ∃ W0, W0 = w.alloc (Obj.cells #[.int .i64 0, .string ⟨#[]⟩, .slice none 0 0, .slice none 0 0, .slice none 0 0] 31) := ⟨_, rfl⟩
      have HT0 := Lib.hid (show P5 W0 w.heap.size (.int .i64 0) (.string ⟨#[]⟩) (.slice none 0 0) (.slice none 0 0) (.slice none 0 0) by rw [hW0]; exact P5.new _ _ _ _ _ _ _)
      have HB0 := Lib.hid (show Below w.heap.size w W0 by rw [hW0]; exact Below.of_al _ _)
      rw [← hW0]
      clear hW0
      refine (HPA.out _).mono ?_
      rintro e w1 ⟨ao, cap, rfl, hc1, hb1⟩
      have HC1 := Lib.hid hc1
      have HT1 := Lib.hid (HT0.out.go hb1)
      have HB1 := Lib.hid (HB0.out.st hb1)
      clear hc1 hb1
      go_wp2_with fail
      refine (HRD.out ao cap _ HC1.out).mono ?_
      rintro e w2 ⟨v, rfl, hv2, hb2⟩
      have HRV := Lib.hid hv2
      obtain ⟨an, cn, ar, cr, aw, cw, ts, rfl, -⟩ := hv2
      have hTw : w.heap.size < w1.heap.size := HT1.out.lt
      obtain ⟨W3, hW3⟩ : ∃ W3, W3 = w2.alloc (Obj.cells #[.int .i64 r.f, .string r.name, .slice an r.nums.length cn, .slice ar r.rts.length cr, .slice aw r.words.length cw] 31) := ⟨_, rfl⟩
      have HT2 := Lib.hid (show P5 W3 w.heap.size (.int .i64 0) (.string ⟨#[]⟩) (.slice none 0 0) (.slice none 0 0) (.slice none 0 0) by rw [hW3]; exact (HT1.out.go hb2).go (Below.of_al _ _))
      have HX2 := Lib.hid (show P5 W3 w2.heap.size (.int .i64 r.f) (.string r.name) (.slice an r.nums.length cn) (.slice ar r.rts.length cr) (.slice aw r.words.length cw) by rw [hW3]; exact P5.new _ _ _ _ _ _ _)
      have HB2 := Lib.hid (show Below w.heap.size w W3 by rw [hW3]; exact (HB1.out.st hb2).al _)
      have HRW := Lib.hid (show RepF w1.heap.size W3 r (.agg #[.int .i64 r.f, .string r.name, .slice an r.nums.length cn, .slice ar r.rts.length cr, .slice aw r.words.length cw]) by rw [hW3]; exact HRV.out.go (Below.of_al _ _))
      have hlt2 : w.heap.size < w2.heap.size := by have := HT1.out.lt; have := hb2.size; omega
      obtain ⟨x0, x1, x2, x3, x4, -⟩ := HX2.out
      go_wp2_with fail
      rw [← hW3]
      clear hW3 HRV HT0 HT1 HB0 HB1 HC1 hb2
      refine (HPT.out _ _ HRW.out.rep).mono ?_
      rintro e w3 ⟨rfl, hb3⟩
      have HT3 := Lib.hid (HT2.out.go hb3)
      have HX3 := Lib.hid (HX2.out.go hb3)
      have HB3 := Lib.hid (HB2.out.st hb3)
      have HR3 := Lib.hid (HRW.out.go hb3)
      obtain ⟨x0, x1, x2, x3, x4, -⟩ := HX3.out
      obtain ⟨t0, t1, t2, t3, t4, g0, g1, g2, g3, g4⟩ := HT3.out
      clear hb3 HT2 HX2 HB2 HRW
      go_wp2
      obtain ⟨r0, r1, r2, r3, r4, -⟩ := (HT3.out).set5 (.int .i64 r.f) (.string r.name) (.slice an r.nums.length cn) (.slice ar r.rts.length cr) (.slice aw r.words.length cw)
      refine bodyPost_ret (v := .tuple #[.agg #[.int .i64 r.f, .string r.name, .slice an r.nums.length cn, .slice ar r.rts.length cr, .slice aw r.words.length cw], .int .i64 0]) (by simp [results, Tryz.results10, go_sem, r0, r1, r2, r3, r4]; try rfl) rfl ?_
      exact ⟨_, by rw [HV.out], by rw [HV.out]; exact (HR3.out.put5 (b := w.heap.size) hTw _ _ _ _ _).rep, bel_set5 HB3.out (Nat.le_refl _) _ _ _ _ _⟩
  · rw [decide_eq_false hps] at hcmp
    have HV := Lib.hid (show p = (rep0, 3) by rw [hV, if_pos (.inl hps)])
    clear hV hps hemp
    go_enter Tryz.func10, Tryz.ntmps10
    go_wp2_with fail
    obtain ⟨W0, hW0⟩ : ∃ W0, W0 = w.alloc (Obj.cells #[.int .i64 0, .string ⟨#[]⟩, .slice none 0 0, .slice none 0 0, .slice none 0 0] 31) := ⟨_, rfl⟩
    have HT0 := Lib.hid (show P5 W0 w.heap.size (.int .i64 0) (.string ⟨#[]⟩) (.slice none 0 0) (.slice none 0 0) (.slice none 0 0) by rw [hW0]; exact P5.new _ _ _ _ _ _ _)
    have HB0 := Lib.hid (show Below w.heap.size w W0 by rw [hW0]; exact Below.of_al _ _)
    rw [← hW0]
    clear hW0
    refine (HPA.out _).mono ?_
    rintro e w1 ⟨ao, cap, rfl, hc1, hb1⟩
    have HC1 := Lib.hid hc1
    have HT1 := Lib.hid (HT0.out.go hb1)
    have HB1 := Lib.hid (HB0.out.st hb1)
    clear hc1 hb1
    go_wp2_with fail
    refine (HRD.out ao cap _ HC1.out).mono ?_
    rintro e w2 ⟨v, rfl, hv2, hb2⟩
    have HRV := Lib.hid hv2
    obtain ⟨an, cn, ar, cr, aw, cw, ts, rfl, -⟩ := hv2
    have hTw : w.heap.size < w1.heap.size := HT1.out.lt
    obtain ⟨W3, hW3⟩ : ∃ W3, W3 = w2.alloc (Obj.cells #[.int .i64 r.f, .string r.name, .slice an r.nums.length cn, .slice ar r.rts.length cr, .slice aw r.words.length cw] 31) := ⟨_, rfl⟩
    have HT2 := Lib.hid (show P5 W3 w.heap.size (.int .i64 0) (.string ⟨#[]⟩) (.slice none 0 0) (.slice none 0 0) (.slice none 0 0) by rw [hW3]; exact (HT1.out.go hb2).go (Below.of_al _ _))
    have HX2 := Lib.hid (show P5 W3 w2.heap.size (.int .i64 r.f) (.string r.name) (.slice an r.nums.length cn) (.slice ar r.rts.length cr) (.slice aw r.words.length cw) by rw [hW3]; exact P5.new _ _ _ _ _ _ _)
    have HB2 := Lib.hid (show Below w.heap.size w W3 by rw [hW3]; exact (HB1.out.st hb2).al _)
    have HRW := Lib.hid (show RepF w1.heap.size W3 r (.agg #[.int .i64 r.f, .string r.name, .slice an r.nums.length cn, .slice ar r.rts.length cr, .slice aw r.words.length cw]) by rw [hW3]; exact HRV.out.go (Below.of_al _ _))
    have hlt2 : w.heap.size < w2.heap.size := by have := HT1.out.lt; have := hb2.size; omega
    obtain ⟨x0, x1, x2, x3, x4, -⟩ := HX2.out
    go_wp2_with fail
    rw [← hW3]
    clear hW3 HRV HT0 HT1 HB0 HB1 HC1 hb2
    refine (HPT.out _ _ HRW.out.rep).mono ?_
    rintro e w3 ⟨rfl, hb3⟩
    have HT3 := Lib.hid (HT2.out.go hb3)
    have HX3 := Lib.hid (HX2.out.go hb3)
    have HB3 := Lib.hid (HB2.out.st hb3)
    have HR3 := Lib.hid (HRW.out.go hb3)
    obtain ⟨x0, x1, x2, x3, x4, -⟩ := HX3.out
    obtain ⟨t0, t1, t2, t3, t4, g0, g1, g2, g3, g4⟩ := HT3.out
    clear hb3 HT2 HX2 HB2 HRW
    go_wp2
    obtain ⟨r0, r1, r2, r3, r4, -⟩ := (HT3.out).set5 (.int .i64 0) (.string ⟨#[]⟩) (.slice none 0 0) (.slice none 0 0) (.slice none 0 0)
    refine bodyPost_ret (v := .tuple #[.agg #[.int .i64 0, .string ⟨#[]⟩, .slice none 0 0, .slice none 0 0, .slice none 0 0], .int .i64 3]) (by simp [results, Tryz.results10, go_sem, r0, r1, r2, r3, r4]; try rfl) rfl ?_
    exact ⟨_, by rw [HV.out], by rw [HV.out]; exact rep0_V _ _, bel_set5 HB3.out (Nat.le_refl _) _ _ _ _ _⟩

end Go.Proofs.YtelcmkccfjdmjaaGreatDoor
