/-
  Walk of the law of replies that are read as they were.
-/
import Derived.Test.YtelcmkccfjdmjaaGreatDoorProg
import Derived.Test.YtelcmkccfjdmjaaGreatDoorRqA
import Derived.Test.YtelcmkccfjdmjaaGreatDoorRpL
namespace Go.Proofs.YtelcmkccfjdmjaaGreatDoor
open Go Go.Proofs Go.RowKit Go.Shelf Go.Sort

set_option maxRecDepth 100000 in
set_option maxHeartbeats 8000000 in
theorem ReplyParseL_any (s : ByteArray) (w : World) (hs : s.size ≤ 200000) (hpz : ∀ x ∈ partsS 32 s, x.size ≤ 10000) : Calls Tryz.prog 9 #[.string s] w (ParsePost w (parseR s)) := by
  have hsz := hpz
  clear hpz
  have hct := @partsS_count 32 s
  have hne := parts_ne 32 s
  have hlg := fun W => splitB_any 32 s W (by omega)
  have hV : parseR s = parseR s := rfl
  conv at hV => rhs; unfold parseR
  generalize parseR s = p at *
  generalize partsS 32 s = l at *
  match l, hne with
  | [a], _ =>
    have HV := Lib.hid hV
    have HS := Lib.hid (show ∀ W, Calls Tryz.prog 30 #[.string s, .string ⟨#[32]⟩] W fun e w' => e = .returned (.slice (some ⟨W.heap.size, 0, none⟩) 1 1) ∧ w' = W.alloc (.cells #[.string a] 9) from hlg)
    clear hV hlg hsz hct
    go_enter Tryz.func9, Tryz.ntmps9
    go_wp2_with fail
    obtain ⟨W0, hW0⟩ : ∃ W0, W0 = w.alloc (Obj.cells #[.int .i64 0, .string ⟨#[]⟩, .slice none 0 0, .slice none 0 0, .slice none 0 0] 28) := ⟨_, rfl⟩
    rw [← hW0]
    refine (HS.out _).mono ?_
    rintro e w1 ⟨rfl, hw1⟩
    have HT := Lib.hid (show P5 w1 w.heap.size (.int .i64 0) (.string ⟨#[]⟩) (.slice none 0 0) (.slice none 0 0) (.slice none 0 0) by rw [hw1, hW0]; exact (P5.new _ _ _ _ _ _ _).go (Below.of_al _ _))
    have HB1 := Lib.hid (show Below w.heap.size w w1 by rw [hw1, hW0]; exact (Below.of_al _ _).al _)
    have HZ1 := Lib.hid (show w1.heap.size = w.heap.size + 2 by rw [hw1, hW0]; simp)
    have HC1 := Lib.hid (show Cel w1 (some ⟨W0.heap.size, 0, none⟩) _ by rw [hw1]; exact cel_new _ _ _ _)
    have hWb : W0.heap.size = w.heap.size + 1 := by rw [hW0]; simp
    rw [hWb] at HC1
    rw [hWb]
    clear hw1 hW0 hWb HS
    obtain ⟨t0, t1, t2, t3, t4, g0, g1, g2, g3, g4⟩ := HT.out
    go_wp2
    have r0 := (HT.out).set5 (.int .i64 0) (.string ⟨#[]⟩) (.slice none 0 0) (.slice none 0 0) (.slice none 0 0)
    obtain ⟨r0, r1, r2, r3, r4, -⟩ := r0
    refine bodyPost_ret (v := .tuple #[.agg #[.int .i64 0, .string ⟨#[]⟩, .slice none 0 0, .slice none 0 0, .slice none 0 0], .int .i64 3]) (by simp [results, Tryz.results9, go_sem, r0, r1, r2, r3, r4]; try rfl) rfl ?_
    exact ⟨_, by rw [HV.out], by rw [HV.out]; exact rep0_V _ _, bel_set5 HB1.out (Nat.le_refl _) _ _ _ _ _⟩
  | [a, b], _ =>
    have HS := Lib.hid (show ∀ W, Calls Tryz.prog 30 #[.string s, .string ⟨#[32]⟩] W fun e w' => e = .returned (.slice (some ⟨W.heap.size, 0, none⟩) 2 2) ∧ w' = W.alloc (.cells #[.string a, .string b] 9) from hlg)
    have hV2 : p = if a = errW then (if (ofW b).2 && decide ((ofW b).1 ≠ 0) then ({ rep0 with f := (ofW b).1 }, 0) else (rep0, 3)) else if a = okW ∧ wordB b then ({ rep0 with name := b }, 0) else (rep0, 3) := hV
    have hbz : b.size ≤ 10000 := by have := hsz b (by simp); omega
    have he := byt_eq (a := a) (c := errW) (l := [101, 114, 114, 111, 114]) rfl
    have hk := byt_eq (a := a) (c := okW) (l := [111, 107]) rfl
    have HOF := Lib.hid (fun W => codesOf_any b W)
    have HRT := Lib.hid (fun W => Right_any b W (by omega))
    clear hV hlg hsz hct
    by_cases hae : a = errW
    · rw [if_pos hae] at hV2
      rw [decide_eq_true hae] at he
      generalize ofW b = q at *
      obtain ⟨f, is⟩ := q
      simp only at hV2 HOF
      clear hk hae HRT hbz
      cases is with
      | true =>
        by_cases hf : f = 0
        · subst hf
          have HV := Lib.hid (show p = (rep0, 3) by rw [hV2]; rfl)
          clear hV2
          go_enter Tryz.func9, Tryz.ntmps9
          go_wp2_with fail
          obtain ⟨W0, hW0⟩ : ∃ W0, W0 = w.alloc (Obj.cells #[.int .i64 0, .string ⟨#[]⟩, .slice none 0 0, .slice none 0 0, .slice none 0 0] 28) := ⟨_, rfl⟩
          rw [← hW0]
          refine (HS.out _).mono ?_
          rintro e w1 ⟨rfl, hw1⟩
          have HT := Lib.hid (show P5 w1 w.heap.size (.int .i64 0) (.string ⟨#[]⟩) (.slice none 0 0) (.slice none 0 0) (.slice none 0 0) by rw [hw1, hW0]; exact (P5.new _ _ _ _ _ _ _).go (Below.of_al _ _))
          have HB1 := Lib.hid (show Below w.heap.size w w1 by rw [hw1, hW0]; exact (Below.of_al _ _).al _)
          have HZ1 := Lib.hid (show w1.heap.size = w.heap.size + 2 by rw [hw1, hW0]; simp)
          have HC1 := Lib.hid (show Cel w1 (some ⟨W0.heap.size, 0, none⟩) _ by rw [hw1]; exact cel_new _ _ _ _)
          have hWb : W0.heap.size = w.heap.size + 1 := by rw [hW0]; simp
          rw [hWb] at HC1
          rw [hWb]
          clear hw1 hW0 hWb HS
          have c0 := cel_get HC1.out (i := 0) rfl
          have c1 := cel_get HC1.out (i := 1) rfl
          go_wp2_with (go_at_call 31; refine (HOF.out _).mono ?_; rintro e w2 ⟨rfl, hb2⟩; (have HT2 := Lib.hid (HT.out.go hb2); have HB2 := Lib.hid (HB1.out.st hb2)); obtain ⟨t0, t1, t2, t3, t4, g0, g1, g2, g3, g4⟩ := HT2.out)
          have r0 := (HT2.out).set5 (.int .i64 0) (.string ⟨#[]⟩) (.slice none 0 0) (.slice none 0 0) (.slice none 0 0)
          obtain ⟨r0, r1, r2, r3, r4, -⟩ := r0
          refine bodyPost_ret (v := .tuple #[.agg #[.int .i64 0, .string ⟨#[]⟩, .slice none 0 0, .slice none 0 0, .slice none 0 0], .int .i64 3]) (by simp [results, Tryz.results9, go_sem, r0, r1, r2, r3, r4]; try rfl) rfl ?_
          exact ⟨_, by rw [HV.out], by rw [HV.out]; exact rep0_V _ _, bel_set5 HB2.out (Nat.le_refl _) _ _ _ _ _⟩
        · have HV := Lib.hid (show p = ({ rep0 with f := f }, 0) by rw [hV2, decide_eq_true hf]; rfl)
          have hf2 : (f != 0) = true := by simpa using hf
          clear hV2 hf
          go_enter Tryz.func9, Tryz.ntmps9
          go_wp2_with fail
          obtain ⟨W0, hW0⟩ : ∃ W0, W0 = w.alloc (Obj.cells #[.int .i64 0, .string ⟨#[]⟩, .slice none 0 0, .slice none 0 0, .slice none 0 0] 28) := ⟨_, rfl⟩
          rw [← hW0]
          refine (HS.out _).mono ?_
          rintro e w1 ⟨rfl, hw1⟩
          have HT := Lib.hid (show P5 w1 w.heap.size (.int .i64 0) (.string ⟨#[]⟩) (.slice none 0 0) (.slice none 0 0) (.slice none 0 0) by rw [hw1, hW0]; exact (P5.new _ _ _ _ _ _ _).go (Below.of_al _ _))
          have HB1 := Lib.hid (show Below w.heap.size w w1 by rw [hw1, hW0]; exact (Below.of_al _ _).al _)
          have HZ1 := Lib.hid (show w1.heap.size = w.heap.size + 2 by rw [hw1, hW0]; simp)
          have HC1 := Lib.hid (show Cel w1 (some ⟨W0.heap.size, 0, none⟩) _ by rw [hw1]; exact cel_new _ _ _ _)
          have hWb : W0.heap.size = w.heap.size + 1 := by rw [hW0]; simp
          rw [hWb] at HC1
          rw [hWb]
          clear hw1 hW0 hWb HS
          have c0 := cel_get HC1.out (i := 0) rfl
          have c1 := cel_get HC1.out (i := 1) rfl
          go_wp2_with (go_at_call 31; refine (HOF.out _).mono ?_; rintro e w2 ⟨rfl, hb2⟩; (have HT2 := Lib.hid (HT.out.go hb2); have HB2 := Lib.hid (HB1.out.st hb2)); obtain ⟨t0, t1, t2, t3, t4, g0, g1, g2, g3, g4⟩ := HT2.out)
          have r0 := (HT2.out).set5 (.int .i64 f) (.string ⟨#[]⟩) (.slice none 0 0) (.slice none 0 0) (.slice none 0 0)
          obtain ⟨r0, r1, r2, r3, r4, -⟩ := r0
          refine bodyPost_ret (v := .tuple #[.agg #[.int .i64 f, .string ⟨#[]⟩, .slice none 0 0, .slice none 0 0, .slice none 0 0], .int .i64 0]) (by simp [results, Tryz.results9, go_sem, r0, r1, r2, r3, r4]; try rfl) rfl ?_
          exact ⟨_, by rw [HV.out], by rw [HV.out]; exact rep0_V _ _, bel_set5 HB2.out (Nat.le_refl _) _ _ _ _ _⟩
      | false =>
        have HV := Lib.hid (show p = (rep0, 3) by rw [hV2]; rfl)
        clear hV2
        go_enter Tryz.func9, Tryz.ntmps9
        go_wp2_with fail
        obtain ⟨W0, hW0⟩ : ∃ W0, W0 = w.alloc (Obj.cells #[.int .i64 0, .string ⟨#[]⟩, .slice none 0 0, .slice none 0 0, .slice none 0 0] 28) := ⟨_, rfl⟩
        rw [← hW0]
        refine (HS.out _).mono ?_
        rintro e w1 ⟨rfl, hw1⟩
        have HT := Lib.hid (show P5 w1 w.heap.size (.int .i64 0) (.string ⟨#[]⟩) (.slice none 0 0) (.slice none 0 0) (.slice none 0 0) by rw [hw1, hW0]; exact (P5.new _ _ _ _ _ _ _).go (Below.of_al _ _))
        have HB1 := Lib.hid (show Below w.heap.size w w1 by rw [hw1, hW0]; exact (Below.of_al _ _).al _)
        have HZ1 := Lib.hid (show w1.heap.size = w.heap.size + 2 by rw [hw1, hW0]; simp)
        have HC1 := Lib.hid (show Cel w1 (some ⟨W0.heap.size, 0, none⟩) _ by rw [hw1]; exact cel_new _ _ _ _)
        have hWb : W0.heap.size = w.heap.size + 1 := by rw [hW0]; simp
        rw [hWb] at HC1
        rw [hWb]
        clear hw1 hW0 hWb HS
        have c0 := cel_get HC1.out (i := 0) rfl
        have c1 := cel_get HC1.out (i := 1) rfl
        go_wp2_with (go_at_call 31; refine (HOF.out _).mono ?_; rintro e w2 ⟨rfl, hb2⟩; (have HT2 := Lib.hid (HT.out.go hb2); have HB2 := Lib.hid (HB1.out.st hb2)); obtain ⟨t0, t1, t2, t3, t4, g0, g1, g2, g3, g4⟩ := HT2.out)
        have r0 := (HT2.out).set5 (.int .i64 0) (.string ⟨#[]⟩) (.slice none 0 0) (.slice none 0 0) (.slice none 0 0)
        obtain ⟨r0, r1, r2, r3, r4, -⟩ := r0
        refine bodyPost_ret (v := .tuple #[.agg #[.int .i64 0, .string ⟨#[]⟩, .slice none 0 0, .slice none 0 0, .slice none 0 0], .int .i64 3]) (by simp [results, Tryz.results9, go_sem, r0, r1, r2, r3, r4]; try rfl) rfl ?_
        exact ⟨_, by rw [HV.out], by rw [HV.out]; exact rep0_V _ _, bel_set5 HB2.out (Nat.le_refl _) _ _ _ _ _⟩
    · rw [if_neg hae] at hV2
      rw [decide_eq_false hae] at he
      by_cases hak : a = okW
      · rw [decide_eq_true hak] at hk
        cases hw : wordB b with
        | true =>
          have HV := Lib.hid (show p = ({ rep0 with name := b }, 0) by rw [hV2, if_pos ⟨hak, hw⟩])
          rw [hw] at HRT
          clear hV2 hw hak hae hbz HOF
          go_enter Tryz.func9, Tryz.ntmps9
          go_wp2_with fail
          obtain ⟨W0, hW0⟩ : ∃ W0, W0 = w.alloc (Obj.cells #[.int .i64 0, .string ⟨#[]⟩, .slice none 0 0, .slice none 0 0, .slice none 0 0] 28) := ⟨_, rfl⟩
          rw [← hW0]
          refine (HS.out _).mono ?_
          rintro e w1 ⟨rfl, hw1⟩
          have HT := Lib.hid (show P5 w1 w.heap.size (.int .i64 0) (.string ⟨#[]⟩) (.slice none 0 0) (.slice none 0 0) (.slice none 0 0) by rw [hw1, hW0]; exact (P5.new _ _ _ _ _ _ _).go (Below.of_al _ _))
          have HB1 := Lib.hid (show Below w.heap.size w w1 by rw [hw1, hW0]; exact (Below.of_al _ _).al _)
          have HZ1 := Lib.hid (show w1.heap.size = w.heap.size + 2 by rw [hw1, hW0]; simp)
          have HC1 := Lib.hid (show Cel w1 (some ⟨W0.heap.size, 0, none⟩) _ by rw [hw1]; exact cel_new _ _ _ _)
          have hWb : W0.heap.size = w.heap.size + 1 := by rw [hW0]; simp
          rw [hWb] at HC1
          rw [hWb]
          clear hw1 hW0 hWb HS
          have c0 := cel_get HC1.out (i := 0) rfl
          have c1 := cel_get HC1.out (i := 1) rfl
          go_wp2_with (go_at_call 32; refine (HRT.out _).mono ?_; rintro e w2 ⟨rfl, hb2⟩; have c1b := cell_later hb2 c1)
          obtain ⟨R, hR⟩ : ∃ R, R = w2.heap.size := ⟨_, rfl⟩
          obtain ⟨W4, hW4⟩ : ∃ W4, W4 = (w2.alloc (Obj.cells #[.int .i64 0, .string b, .slice none 0 0, .slice none 0 0, .slice none 0 0] 28)).alloc (Obj.cells #[.int .i64 0] 3) := ⟨_, rfl⟩
          have HP := Lib.hid (show P5 W4 R (.int .i64 0) (.string b) (.slice none 0 0) (.slice none 0 0) (.slice none 0 0) by rw [hW4, hR]; exact (P5.new _ _ _ _ _ _ _).go (Below.of_al _ _))
          have HA := Lib.hid (show P1 W4 (R + 1) (.int .i64 0) by rw [hW4, hR]; exact ⟨by go_simp, by go_simp⟩)
          have hbl : Below w2.heap.size w2 W4 := by rw [hW4]; exact (Below.of_al _ _).al _
          have HT4 := Lib.hid ((HT.out.go hb2).go hbl)
          have HC4 := Lib.hid ((HC1.out.go hb2).go hbl)
          have HB4 := Lib.hid ((HB1.out.st hb2).st hbl)
          have HZ4 := Lib.hid (show W4.heap.size = R + 2 by rw [hW4, hR]; simp)
          have HR4 := Lib.hid (show w.heap.size + 2 ≤ R by rw [hR]; have := hb2.size; have := HZ1.out; omega)
          rw [← hW4, ← hR]
          clear hW4 hR hbl hb2 HT HC1 HB1 HZ1 c0 c1 c1b HRT
          refine wp_loop_rounds 1 ?_
          rw [rounds_succ]
          obtain ⟨p0, p1, p2, p3, p4, f0, f1, f2, f3, f4⟩ := HP.out
          obtain ⟨t0, t1, t2, t3, t4, g0, g1, g2, g3, g4⟩ := HT4.out
          go_wp2
          have r0 := (HT4.out).set5 (.int .i64 (0)) (.string b) (.slice none 0 0) (.slice none 0 0) (.slice none 0 0)
          obtain ⟨r0, r1, r2, r3, r4, -⟩ := r0
          refine bodyPost_ret (v := .tuple #[.agg #[.int .i64 (0), .string b, .slice none 0 0, .slice none 0 0, .slice none 0 0], .int .i64 0]) (by simp [results, Tryz.results9, go_sem, r0, r1, r2, r3, r4]; try rfl) rfl ?_
          exact ⟨_, by rw [HV.out], by rw [HV.out]; exact ⟨none, 0, none, 0, none, 0, [], rfl, Cel.nil _ _, Cel.nil _ _, Cel.nil _ _, rfl, fun _ h => by cases h⟩, bel_set5 HB4.out (Nat.le_refl _) _ _ _ _ _⟩
        | false =>
          have HV := Lib.hid (show p = (rep0, 3) by rw [hV2, if_neg (fun h => by rw [hw] at h; simp at h)])
          rw [hw] at HRT
          clear hV2 hw hak hae hbz HOF
          go_enter Tryz.func9, Tryz.ntmps9
          go_wp2_with fail
          obtain ⟨W0, hW0⟩ : ∃ W0, W0 = w.alloc (Obj.cells #[.int .i64 0, .string ⟨#[]⟩, .slice none 0 0, .slice none 0 0, .slice none 0 0] 28) := ⟨_, rfl⟩
          rw [← hW0]
          refine (HS.out _).mono ?_
          rintro e w1 ⟨rfl, hw1⟩
          have HT := Lib.hid (show P5 w1 w.heap.size (.int .i64 0) (.string ⟨#[]⟩) (.slice none 0 0) (.slice none 0 0) (.slice none 0 0) by rw [hw1, hW0]; exact (P5.new _ _ _ _ _ _ _).go (Below.of_al _ _))
          have HB1 := Lib.hid (show Below w.heap.size w w1 by rw [hw1, hW0]; exact (Below.of_al _ _).al _)
          have HZ1 := Lib.hid (show w1.heap.size = w.heap.size + 2 by rw [hw1, hW0]; simp)
          have HC1 := Lib.hid (show Cel w1 (some ⟨W0.heap.size, 0, none⟩) _ by rw [hw1]; exact cel_new _ _ _ _)
          have hWb : W0.heap.size = w.heap.size + 1 := by rw [hW0]; simp
          rw [hWb] at HC1
          rw [hWb]
          clear hw1 hW0 hWb HS
          have c0 := cel_get HC1.out (i := 0) rfl
          have c1 := cel_get HC1.out (i := 1) rfl
          go_wp2_with (go_at_call 32; refine (HRT.out _).mono ?_; rintro e w2 ⟨rfl, hb2⟩; (have HT2 := Lib.hid (HT.out.go hb2); have HB2 := Lib.hid (HB1.out.st hb2)); obtain ⟨t0, t1, t2, t3, t4, g0, g1, g2, g3, g4⟩ := HT2.out)
          have r0 := (HT2.out).set5 (.int .i64 0) (.string ⟨#[]⟩) (.slice none 0 0) (.slice none 0 0) (.slice none 0 0)
          obtain ⟨r0, r1, r2, r3, r4, -⟩ := r0
          refine bodyPost_ret (v := .tuple #[.agg #[.int .i64 0, .string ⟨#[]⟩, .slice none 0 0, .slice none 0 0, .slice none 0 0], .int .i64 3]) (by simp [results, Tryz.results9, go_sem, r0, r1, r2, r3, r4]; try rfl) rfl ?_
          exact ⟨_, by rw [HV.out], by rw [HV.out]; exact rep0_V _ _, bel_set5 HB2.out (Nat.le_refl _) _ _ _ _ _⟩
      · have HV := Lib.hid (show p = (rep0, 3) by rw [hV2, if_neg (fun h => hak h.1)])
        rw [decide_eq_false hak] at hk
        clear hV2 hak hae hbz HOF HRT
        go_enter Tryz.func9, Tryz.ntmps9
        go_wp2_with fail
        obtain ⟨W0, hW0⟩ : ∃ W0, W0 = w.alloc (Obj.cells #[.int .i64 0, .string ⟨#[]⟩, .slice none 0 0, .slice none 0 0, .slice none 0 0] 28) := ⟨_, rfl⟩
        rw [← hW0]
        refine (HS.out _).mono ?_
        rintro e w1 ⟨rfl, hw1⟩
        have HT := Lib.hid (show P5 w1 w.heap.size (.int .i64 0) (.string ⟨#[]⟩) (.slice none 0 0) (.slice none 0 0) (.slice none 0 0) by rw [hw1, hW0]; exact (P5.new _ _ _ _ _ _ _).go (Below.of_al _ _))
        have HB1 := Lib.hid (show Below w.heap.size w w1 by rw [hw1, hW0]; exact (Below.of_al _ _).al _)
        have HZ1 := Lib.hid (show w1.heap.size = w.heap.size + 2 by rw [hw1, hW0]; simp)
        have HC1 := Lib.hid (show Cel w1 (some ⟨W0.heap.size, 0, none⟩) _ by rw [hw1]; exact cel_new _ _ _ _)
        have hWb : W0.heap.size = w.heap.size + 1 := by rw [hW0]; simp
        rw [hWb] at HC1
        rw [hWb]
        clear hw1 hW0 hWb HS
        have c0 := cel_get HC1.out (i := 0) rfl
        have c1 := cel_get HC1.out (i := 1) rfl
        obtain ⟨t0, t1, t2, t3, t4, g0, g1, g2, g3, g4⟩ := HT.out
        go_wp2
        have r0 := (HT.out).set5 (.int .i64 0) (.string ⟨#[]⟩) (.slice none 0 0) (.slice none 0 0) (.slice none 0 0)
        obtain ⟨r0, r1, r2, r3, r4, -⟩ := r0
        refine bodyPost_ret (v := .tuple #[.agg #[.int .i64 0, .string ⟨#[]⟩, .slice none 0 0, .slice none 0 0, .slice none 0 0], .int .i64 3]) (by simp [results, Tryz.results9, go_sem, r0, r1, r2, r3, r4]; try rfl) rfl ?_
        exact ⟨_, by rw [HV.out], by rw [HV.out]; exact rep0_V _ _, bel_set5 HB1.out (Nat.le_refl _) _ _ _ _ _⟩
  | a :: b :: d :: rest, _ =>
    have hV2 : p = if a = okW ∧ wordB b then (match foldR 0 { rep0 with name := b } (d :: rest) with | some r => ((r, 0) : RepD × Int) | none => (rep0, 3)) else (rep0, 3) := hV
    have hbz : b.size ≤ 10000 := by have := hsz b (by simp); omega
    have hk := byt_eq (a := a) (c := okW) (l := [111, 107]) rfl
    have HRT := Lib.hid (fun W => Right_any b W (by omega))
    obtain ⟨tl, htl⟩ : ∃ tl, tl = d :: rest := ⟨_, rfl⟩
    have hpos : 1 ≤ tl.length := by rw [htl]; simp
    rw [← htl] at hlg hsz hct hV2
    clear hV htl
    obtain ⟨n, hn⟩ : ∃ n, n = tl.length + 2 := ⟨_, rfl⟩
    have HS := Lib.hid (show ∀ W, Calls Tryz.prog 30 #[.string s, .string ⟨#[32]⟩] W fun e w' => e = .returned (.slice (some ⟨W.heap.size, 0, none⟩) n n) ∧ w' = W.alloc (.cells ((a :: b :: tl).map encS).toArray 9) from by rw [hn]; exact hlg)
    have hn2 : ((n : Int) == 2) = false := by rw [beq_eq_false_iff_ne]; omega
    have hn3 : ¬ (n : Int) < 2 := by omega
    have hn4 : (2 : Int) ≤ (n : Int) := by omega
    have hn5 : (0 : Int) < (n : Int) := by omega
    have hn6 : (1 : Int) < (n : Int) := by omega
    have hn7 : ¬ n = 2 := by omega
    have hts : ∀ x ∈ tl, x.size ≤ 10000 := fun x hx => by have := hsz x (by simp [hx]); omega
    have htn : tl.length ≤ 200001 := by simp at hct; omega
    clear hlg hsz hct
    by_cases hak : a = okW
    · rw [decide_eq_true hak] at hk
      cases hw : wordB b with
      | true =>
        have HF := Lib.hid (show p = (match foldR 0 { rep0 with name := b } tl with | some r => ((r, 0) : RepD × Int) | none => (rep0, 3)) by rw [hV2, if_pos ⟨hak, hw⟩])
        rw [hw] at HRT
        have HN := Lib.hid hn
        clear hV2 hw hak hbz hn
        go_enter Tryz.func9, Tryz.ntmps9
        go_wp2_with fail
        obtain ⟨W0, hW0⟩ : ∃ W0, W0 = w.alloc (Obj.cells #[.int .i64 0, .string ⟨#[]⟩, .slice none 0 0, .slice none 0 0, .slice none 0 0] 28) := ⟨_, rfl⟩
        rw [← hW0]
        refine (HS.out _).mono ?_
        rintro e w1 ⟨rfl, hw1⟩
        have HT := Lib.hid (show P5 w1 w.heap.size (.int .i64 0) (.string ⟨#[]⟩) (.slice none 0 0) (.slice none 0 0) (.slice none 0 0) by rw [hw1, hW0]; exact (P5.new _ _ _ _ _ _ _).go (Below.of_al _ _))
        have HB1 := Lib.hid (show Below w.heap.size w w1 by rw [hw1, hW0]; exact (Below.of_al _ _).al _)
        have HZ1 := Lib.hid (show w1.heap.size = w.heap.size + 2 by rw [hw1, hW0]; simp)
        have HC1 := Lib.hid (show Cel w1 (some ⟨W0.heap.size, 0, none⟩) _ by rw [hw1]; exact cel_new _ _ _ _)
        have hWb : W0.heap.size = w.heap.size + 1 := by rw [hW0]; simp
        rw [hWb] at HC1
        rw [hWb]
        clear hw1 hW0 hWb HS
        have c0 := cel_get HC1.out (i := 0) rfl
        have c1 := cel_get HC1.out (i := 1) rfl
        go_wp2_with (go_at_call 32; refine (HRT.out _).mono ?_; rintro e w2 ⟨rfl, hb2⟩; have c1b := cell_later hb2 c1)
        obtain ⟨R, hR⟩ : ∃ R, R = w2.heap.size := ⟨_, rfl⟩
        obtain ⟨W4, hW4⟩ : ∃ W4, W4 = (w2.alloc (Obj.cells #[.int .i64 0, .string b, .slice none 0 0, .slice none 0 0, .slice none 0 0] 28)).alloc (Obj.cells #[.int .i64 0] 3) := ⟨_, rfl⟩
        have HP := Lib.hid (show P5 W4 R (.int .i64 0) (.string b) (.slice none 0 0) (.slice none 0 0) (.slice none 0 0) by rw [hW4, hR]; exact (P5.new _ _ _ _ _ _ _).go (Below.of_al _ _))
        have HA := Lib.hid (show P1 W4 (R + 1) (.int .i64 0) by rw [hW4, hR]; exact ⟨by go_simp, by go_simp⟩)
        have hbl : Below w2.heap.size w2 W4 := by rw [hW4]; exact (Below.of_al _ _).al _
        have HT4 := Lib.hid ((HT.out.go hb2).go hbl)
        have HC4 := Lib.hid ((HC1.out.go hb2).go hbl)
        have HB4 := Lib.hid ((HB1.out.st hb2).st hbl)
        have HZ4 := Lib.hid (show W4.heap.size = R + 2 by rw [hW4, hR]; simp)
        have HR4 := Lib.hid (show w.heap.size + 2 ≤ R by rw [hR]; have := hb2.size; have := HZ1.out; omega)
        rw [← hW4, ← hR]
        clear hW4 hR hbl hb2 HT HC1 HB1 HZ1 c0 c1 c1b HRT
        have HCL := Lib.hid (fun k (hk : k < tl.length) W (hb : Below R W4 W) => (show W.cell? ⟨w.heap.size + 1, 2 + k, none⟩ = some (.string tl[k]) from (by
          have h1 := cel_get HC4.out (i := 2 + k) (v := .string tl[k]) (by
            rw [show 2 + k = (k + 1) + 1 by omega]
            simp [encS, hk])
          rw [← h1]
          exact World.cell?_of_block (hb.block (w.heap.size + 1) (by have := HR4.out; omega)))))
        have hn8 : n - 2 = tl.length := by have := HN.out; omega
        have HN8 := Lib.hid hn8
        clear hn8
        go_loopg [61] tl.length (fun g i wr => ∃ (k a' : Nat) (r' : RepD) (vn vr vw : Value) (ts : List RtC), k ≤ tl.length ∧ tl.length - k ≤ g ∧ i = .int .i64 k ∧ a' ≤ 2 ∧ lenR r' ≤ k ∧ r'.f = 0 ∧ Aside (foldR 0 { rep0 with name := b } tl = foldR a' r' (tl.drop k)) ∧ Aside (Row3 wr (R + 2) r' vn vr vw ts) ∧
          Aside (P5 wr R (.int .i64 r'.f) (.string r'.name) vn vr vw) ∧ Aside (P1 wr (R + 1) (.int .i64 a')) ∧ Aside (Below R W4 wr) ∧ Aside (R + 2 ≤ wr.heap.size))
        case atStart => exact ⟨0, 0, { rep0 with name := b }, .slice none 0 0, .slice none 0 0, .slice none 0 0, [], Nat.zero_le _, by omega, by go_num, Nat.zero_le _, Nat.le_refl _, rfl, rfl, Row3.start _ _ _ _, HP.out, HA.out, Below.refl _ _, (show R + 2 ≤ W4.heap.size by have := HZ4.out; omega)⟩
        case round =>
          obtain ⟨k, a', r', vn, vr, vw, ts, hk1, hg, rfl, ha', hlr, hrf, HFD, HRW, HP5, HP1, HBW, HZW⟩ := hrel
          have hk0 : (0 : Int) ≤ (k : Int) := by omega
          by_cases hlt : k < tl.length
          · have hlt3 : (k : Int) < (tl.length : Int) := by omega
            have hlt4 : (k : Int) < ((n - 2 : Nat) : Int) := by have := HN8.out; omega
            have hlt5 : k < n - 2 := by have := HN8.out; omega
            have hlt6 : (k : Int) < (n : Int) - 2 := by have := HN.out; omega
            have hcell := HCL.out k hlt _ HBW.out
            have HST := Lib.hid (HFD.out.trans (foldR_step (a := a') (r := r') hlt))
            have hxz := hts tl[k] (List.getElem_mem hlt)
            generalize tl[k] = x at *
            obtain ⟨e1, e2, e3, e4⟩ := partR_keeps a' r' x
            have HPA := Lib.hid (part_any a' ha' x r' W4 wr (R + 2) R (R + 1) vn vr vw ts hxz (by omega) (by omega) HZW.out (by unfold lenR at hlr; omega) HRW.out HP5.out HP1.out HBW.out (by have := HZ4.out; omega))
            unfold PartPost at HPA
            have HT := Lib.hid (fun W (hb : Below R W4 W) => HT4.out.eq (hb.block w.heap.size (by have := HR4.out; omega)))
            generalize partR a' r' x = q at *
            obtain ⟨a6, r6, ok6⟩ := q
            simp only at e1 e2 e3 e4 HPA HST
            cases ok6 with
            | true =>
              rw [if_pos rfl] at HST
              go_wp2_with (go_at_call 33; refine HPA.out.mono ?_; rintro e w6 ⟨rfl, ⟨vn6, vr6, vw6, ts6, h36, h56⟩, h16, hb6⟩; (have HR6 := Lib.hid h36; have HP6 := Lib.hid h56; have HA6 := Lib.hid h16; have HB6 := Lib.hid hb6; clear h36 h56 h16 hb6))
              go_roundg (tl.length - (k + 1))
              case measure => omega
              case rel => exact ⟨k + 1, a6, r6, vn6, vr6, vw6, ts6, by omega, by omega, by go_num, e4, by omega, by rw [e1]; exact hrf, HST.out, HR6.out, by rw [e1, e2]; exact HP6.out, HA6.out, HB6.out, (show R + 2 ≤ w6.heap.size by have := HB6.out.size; have := HZ4.out; omega)⟩
            | false =>
              rw [if_neg (by simp)] at HST
              have HV := Lib.hid (show p = (rep0, 3) by rw [HF.out, HST.out])
              go_wp2_with (go_at_call 33; refine HPA.out.mono ?_; rintro e w6 ⟨rfl, -, -, hb6⟩; (have HB6 := Lib.hid hb6; clear hb6); obtain ⟨t0, t1, t2, t3, t4, g0, g1, g2, g3, g4⟩ := HT.out _ HB6.out)
              have r0 := ((HT.out _ HB6.out)).set5 (.int .i64 0) (.string ⟨#[]⟩) (.slice none 0 0) (.slice none 0 0) (.slice none 0 0)
              obtain ⟨r0, r1, r2, r3, r4, -⟩ := r0
              refine bodyPost_ret (v := .tuple #[.agg #[.int .i64 0, .string ⟨#[]⟩, .slice none 0 0, .slice none 0 0, .slice none 0 0], .int .i64 3]) (by simp [results, Tryz.results9, go_sem, r0, r1, r2, r3, r4]; try rfl) rfl ?_
              exact ⟨_, by rw [HV.out], by rw [HV.out]; exact rep0_V _ _, bel_set5 (HB4.out.trans (HB6.out.mono (by have := HR4.out; omega))) (Nat.le_refl _) _ _ _ _ _⟩
          · obtain rfl : k = tl.length := by omega
            have hlt3 : ¬ (tl.length : Int) < (tl.length : Int) := by omega
            have hlt4 : ¬ (tl.length : Int) < ((n - 2 : Nat) : Int) := by have := HN8.out; omega
            have hlt5 : ¬ tl.length < n - 2 := by have := HN8.out; omega
            have hlt6 : ¬ (tl.length : Int) < (n : Int) - 2 := by have := HN.out; omega
            have HV := Lib.hid (show p = (r', 0) by rw [HF.out, HFD.out, List.drop_length]; rfl)
            obtain ⟨⟨an, cn, rfl⟩, ⟨ar, cr, rfl⟩, ⟨aw, cw, rfl⟩⟩ := HRW.out.shapes
            clear hrf
            have HTW := Lib.hid (HT4.out.eq (HBW.out.block w.heap.size (by have := HR4.out; omega)))
            obtain ⟨p0, p1, p2, p3, p4, f0, f1, f2, f3, f4⟩ := HP5.out
            obtain ⟨t0, t1, t2, t3, t4, g0, g1, g2, g3, g4⟩ := HTW.out
            go_wp2
            have r0 := (HTW.out).set5 (.int .i64 (r'.f)) (.string r'.name) (.slice an r'.nums.length cn) (.slice ar r'.rts.length cr) (.slice aw r'.words.length cw)
            obtain ⟨r0, r1, r2, r3, r4, -⟩ := r0
            refine bodyPost_ret (v := .tuple #[.agg #[.int .i64 (r'.f), .string r'.name, .slice an r'.nums.length cn, .slice ar r'.rts.length cr, .slice aw r'.words.length cw], .int .i64 0]) (by simp [results, Tryz.results9, go_sem, r0, r1, r2, r3, r4]; try rfl) rfl ?_
            exact ⟨_, by rw [HV.out], by rw [HV.out]; exact (HRW.out.put5 (b := w.heap.size) (by have := HR4.out; omega) _ _ _ _ _).rep, bel_set5 (HB4.out.trans (HBW.out.mono (by have := HR4.out; omega))) (Nat.le_refl _) _ _ _ _ _⟩
      | false =>
        have HV := Lib.hid (show p = (rep0, 3) by rw [hV2, if_neg (fun h => by rw [hw] at h; simp at h)])
        rw [hw] at HRT
        clear hV2 hw hak hbz hn hpos hts htn
        go_enter Tryz.func9, Tryz.ntmps9
        go_wp2_with fail
        obtain ⟨W0, hW0⟩ : ∃ W0, W0 = w.alloc (Obj.cells #[.int .i64 0, .string ⟨#[]⟩, .slice none 0 0, .slice none 0 0, .slice none 0 0] 28) := ⟨_, rfl⟩
        rw [← hW0]
        refine (HS.out _).mono ?_
        rintro e w1 ⟨rfl, hw1⟩
        have HT := Lib.hid (show P5 w1 w.heap.size (.int .i64 0) (.string ⟨#[]⟩) (.slice none 0 0) (.slice none 0 0) (.slice none 0 0) by rw [hw1, hW0]; exact (P5.new _ _ _ _ _ _ _).go (Below.of_al _ _))
        have HB1 := Lib.hid (show Below w.heap.size w w1 by rw [hw1, hW0]; exact (Below.of_al _ _).al _)
        have HZ1 := Lib.hid (show w1.heap.size = w.heap.size + 2 by rw [hw1, hW0]; simp)
        have HC1 := Lib.hid (show Cel w1 (some ⟨W0.heap.size, 0, none⟩) _ by rw [hw1]; exact cel_new _ _ _ _)
        have hWb : W0.heap.size = w.heap.size + 1 := by rw [hW0]; simp
        rw [hWb] at HC1
        rw [hWb]
        clear hw1 hW0 hWb HS
        have c0 := cel_get HC1.out (i := 0) rfl
        have c1 := cel_get HC1.out (i := 1) rfl
        go_wp2_with (go_at_call 32; refine (HRT.out _).mono ?_; rintro e w2 ⟨rfl, hb2⟩; (have HT2 := Lib.hid (HT.out.go hb2); have HB2 := Lib.hid (HB1.out.st hb2)); obtain ⟨t0, t1, t2, t3, t4, g0, g1, g2, g3, g4⟩ := HT2.out)
        have r0 := (HT2.out).set5 (.int .i64 0) (.string ⟨#[]⟩) (.slice none 0 0) (.slice none 0 0) (.slice none 0 0)
        obtain ⟨r0, r1, r2, r3, r4, -⟩ := r0
        refine bodyPost_ret (v := .tuple #[.agg #[.int .i64 0, .string ⟨#[]⟩, .slice none 0 0, .slice none 0 0, .slice none 0 0], .int .i64 3]) (by simp [results, Tryz.results9, go_sem, r0, r1, r2, r3, r4]; try rfl) rfl ?_
        exact ⟨_, by rw [HV.out], by rw [HV.out]; exact rep0_V _ _, bel_set5 HB2.out (Nat.le_refl _) _ _ _ _ _⟩
    · have HV := Lib.hid (show p = (rep0, 3) by rw [hV2, if_neg (fun h => hak h.1)])
      rw [decide_eq_false hak] at hk
      clear hV2 hak hbz HRT hn hpos hts htn
      go_enter Tryz.func9, Tryz.ntmps9
      go_wp2_with fail
      obtain ⟨W0, hW0⟩ : ∃ W0, W0 = w.alloc (Obj.cells #[.int .i64 0, .string ⟨#[]⟩, .slice none 0 0, .slice none 0 0, .slice none 0 0] 28) := ⟨_, rfl⟩
      rw [← hW0]
      refine (HS.out _).mono ?_
      rintro e w1 ⟨rfl, hw1⟩
      have HT := Lib.hid (show P5 w1 w.heap.size (.int .i64 0) (.string ⟨#[]⟩) (.slice none 0 0) (.slice none 0 0) (.slice none 0 0) by rw [hw1, hW0]; exact (P5.new _ _ _ _ _ _ _).go (Below.of_al _ _))
      have HB1 := Lib.hid (show Below w.heap.size w w1 by rw [hw1, hW0]; exact (Below.of_al _ _).al _)
      have HZ1 := Lib.hid (show w1.heap.size = w.heap.size + 2 by rw [hw1, hW0]; simp)
      have HC1 := Lib.hid (show Cel w1 (some ⟨W0.heap.size, 0, none⟩) _ by rw [hw1]; exact cel_new _ _ _ _)
      have hWb : W0.heap.size = w.heap.size + 1 := by rw [hW0]; simp
      rw [hWb] at HC1
      rw [hWb]
      clear hw1 hW0 hWb HS
      have c0 := cel_get HC1.out (i := 0) rfl
      have c1 := cel_get HC1.out (i := 1) rfl
      obtain ⟨t0, t1, t2, t3, t4, g0, g1, g2, g3, g4⟩ := HT.out
      go_wp2
      have r0 := (HT.out).set5 (.int .i64 0) (.string ⟨#[]⟩) (.slice none 0 0) (.slice none 0 0) (.slice none 0 0)
      obtain ⟨r0, r1, r2, r3, r4, -⟩ := r0
      refine bodyPost_ret (v := .tuple #[.agg #[.int .i64 0, .string ⟨#[]⟩, .slice none 0 0, .slice none 0 0, .slice none 0 0], .int .i64 3]) (by simp [results, Tryz.results9, go_sem, r0, r1, r2, r3, r4]; try rfl) rfl ?_
      exact ⟨_, by rw [HV.out], by rw [HV.out]; exact rep0_V _ _, bel_set5 HB1.out (Nat.le_refl _) _ _ _ _ _⟩

def wideRt (x : RtD) : Bool := x.es.any fun e => decide (9007199254740992 < e)
def greatB (r : RepD) : Bool := r.rts.any wideRt
theorem okR_of {r : RepD} (hr : rightR r = true) (ht : TyR r) (hg : greatB r = false) : okR r := by
  refine ⟨ht.nu, fun x hx => ?_⟩
  have h1 := ht.rt x hx
  have hn : negR x = false := by
    by_cases hf : r.f = 0
    · exact (right_fine hr hf).2.2 x hx
    · have := (right_fault hr hf).1
      rw [this] at hx
      cases hx
  refine ⟨h1.2.1.1, h1.2.1.2, fun e he => ?_⟩
  unfold negR at hn
  rw [List.any_eq_false] at hn
  have h2 := hn e he
  unfold greatB at hg
  rw [List.any_eq_false] at hg
  have h3 := hg x hx
  unfold wideRt at h3
  rw [Bool.not_eq_true, List.any_eq_false] at h3
  have h4 := h3 e he
  simp at h2 h4
  omega
theorem route_small {x : RtD} (h : tyRt x) (hl : x.es.length ≤ 60) : (routeT x).size ≤ 1300 := by
  unfold routeT
  cases hn : negR x with
  | true => simp
  | false =>
    have hall : ∀ e ∈ x.es, 0 ≤ e ∧ e < 18446744073709551616 := by
      intro e he
      unfold negR at hn
      rw [List.any_eq_false] at hn
      have := hn e he
      have := (h.2.2.1 e he).2
      simp at *
      omega
    have h1 := print_join_size hall
    have h2 := printI_size_le h.1 h.2.1
    simp only [Bool.false_eq_true, if_false, ByteArray.size_append]
    have h3 : (⟨#[58]⟩ : ByteArray).size = 1 := rfl
    omega
theorem toks_small {r : RepD} (ht : TyR r) (hl : lightB r = true) : (∀ x ∈ toksR r, x.size ≤ 1300) ∧ (toksR r).length ≤ 102 := by
  have hs := light_sm ht hl
  unfold lightB lightH at hl
  simp only [Bool.and_eq_true, decide_eq_true_eq, List.all_eq_true] at hl
  obtain ⟨⟨⟨⟨⟨h1, h2⟩, h3⟩, h4⟩, h5⟩, h6⟩ := hl
  constructor
  · intro x hx
    unfold toksR at hx
    simp only [List.mem_cons, List.mem_append, List.mem_map] at hx
    rcases hx with rfl | rfl | (⟨n, hn, rfl⟩ | ⟨y, hy, rfl⟩) | ⟨u, hu, rfl⟩
    · decide
    · omega
    · have h7 := ht.nu n hn
      have := printI_size_le h7.1 h7.2
      omega
    · exact route_small (hs.rt y hy).1 (h5 y hy)
    · have h7 := h6 u hu
      unfold eqW
      rw [ByteArray.size_append]
      have h3 : (⟨#[61]⟩ : ByteArray).size = 1 := rfl
      omega
  · unfold toksR
    simp only [List.length_cons, List.length_append, List.length_map]
    omega
theorem errW_size : errW.size = 5 := rfl
theorem line_small {r : RepD} (ht : TyR r) (hl : lightB r = true) (hr : rightR r = true) (hk : okR r) : (printR r).size ≤ 200000 ∧ ∀ x ∈ partsS 32 (printR r), x.size ≤ 10000 := by
  by_cases hf : r.f = 0
  · obtain ⟨h1, h2⟩ := toks_small ht hl
    rw [parts_fine hr hf hk]
    refine ⟨?_, fun x hx => by have := h1 x hx; omega⟩
    rw [printR_fine hr hf]
    have h3 := joinB_size 32 1300 _ h1
    have h4 : (1300 + 1) * (toksR r).length ≤ (1300 + 1) * 102 := Nat.mul_le_mul_left _ h2
    omega
  · have hw := wordOf_size r.f
    have hall : ∀ x ∈ [errW, wordOf r.f], x.size ≤ 20 := by
      intro x hx
      simp only [List.mem_cons, List.not_mem_nil, or_false] at hx
      rcases hx with rfl | rfl
      · decide
      · exact hw
    rw [parts_fault hr hf]
    refine ⟨?_, fun x hx => by have := hall x hx; omega⟩
    rw [printR_fault hr hf]
    have h3 := joinB_size 32 20 _ hall
    simp at h3
    omega

theorem any_take {α : Type} (p : α → Bool) {l : List α} {k : Nat} (h : k < l.length) : (l.take (k + 1)).any p = ((l.take k).any p || p l[k]) := by
  rw [List.take_succ_eq_append_getElem h, List.any_append]
  simp

set_option maxRecDepth 100000 in
set_option maxHeartbeats 8000000 in
theorem ReplyBack_any (r : RepD) (v : Value) (s : ByteArray) (w : World) (hv : RepV w r v) (ht : TyR r) (hs : s.size ≤ 140737488355328) (hp : Pow10 w) :
    Calls Tryz.prog 5 #[v, .string s] w fun e w' => e = .returned (.bool true) ∧ Below w.heap.size w w' := by
  have HAL := Lib.hid (fun W => alive41_any W)
  have HLA := Lib.hid (fun W h => light_ty ht v W h)
  have HRV := Lib.hid hv
  have HT := Lib.hid hp
  obtain ⟨an, cn, ar, cr, aw, cw, ts, rfl, -, har, -, hat, hac⟩ := hv
  have e1 : ts.length = r.rts.length := by rw [← hat]; simp
  obtain ⟨B1, hB1⟩ : ∃ B1, B1 = w.alloc (Obj.cells #[.int .i64 r.f, .string r.name, .slice an r.nums.length cn, .slice ar r.rts.length cr, .slice aw r.words.length cw] 28) := ⟨_, rfl⟩
  have HP1 := Lib.hid (show P5 B1 w.heap.size (.int .i64 r.f) (.string r.name) (.slice an r.nums.length cn) (.slice ar r.rts.length cr) (.slice aw r.words.length cw) by rw [hB1]; exact P5.new _ _ _ _ _ _ _)
  have HB1 := Lib.hid (show Below w.heap.size w B1 by rw [hB1]; exact Below.of_al _ _)
  have HBE := Lib.hid hB1.symm
  clear hB1 hp
  cases hla : lightB r with
  | false =>
    rw [hla] at HLA
    clear hla hs
    go_enter Tryz.func5, Tryz.ntmps5
    go_wp2_with (first
      | (go_at_call 13; rw [HBE.out]; refine (HLA.out _ (HRV.out.go HB1.out)).mono ?_; rintro e w1 ⟨rfl, hb1⟩)
      | (go_at_call 8; refine (HAL.out _).mono ?_; rintro e w2 ⟨rfl, hb2⟩))
    go_ret
    exact ⟨rfl, (HB1.out.st hb1).st hb2⟩
  | true =>
    rw [hla] at HLA
    by_cases hbig : s.size > 1000
    · have hbig2 : (1000 : Int) < (s.size : Int) := by omega
      clear hla hbig hs
      go_enter Tryz.func5, Tryz.ntmps5
      go_wp2_with (first
        | (go_at_call 13; rw [HBE.out]; refine (HLA.out _ (HRV.out.go HB1.out)).mono ?_; rintro e w1 ⟨rfl, hb1⟩)
        | (go_at_call 8; refine (HAL.out _).mono ?_; rintro e w2 ⟨rfl, hb2⟩))
      go_ret
      exact ⟨rfl, (HB1.out.st hb1).st hb2⟩
    · have hbig2 : ¬ (1000 : Int) < (s.size : Int) := by omega
      have sa := light_sm ht hla
      have HAR := Lib.hid har
      have HAC := Lib.hid hac
      have HN := Lib.hid e1
      have HGR := Lib.hid (show greatB r = ts.any (fun t => wideRt t.r) by unfold greatB; rw [← hat, List.any_map]; rfl)
      have HEL := Lib.hid (fun t (h : t ∈ ts) => (ht.rt t.r (by rw [← hat]; exact List.mem_map_of_mem h)).1)
      have l2 := sa.n2
      have HRR := Lib.hid (fun W h h' => ReplyRight_any r (.agg #[.int .i64 r.f, .string r.name, .slice an r.nums.length cn, .slice ar r.rts.length cr, .slice aw r.words.length cw]) W h sa h')
      have HPR := Lib.hid (fun W h h' => ReplyPrint_any r (.agg #[.int .i64 r.f, .string r.name, .slice an r.nums.length cn, .slice ar r.rts.length cr, .slice aw r.words.length cw]) W h sa h')
      have HSM := Lib.hid (fun va vb W h h' => (by
        have h := ReplySame_any r r va vb W h h' sa.lowR sa.lowR sa.lowE sa.lowE (by have := sa.n2; omega) (by have := sa.n2; omega)
        rw [decide_eq_true rfl] at h
        exact h : Calls Tryz.prog 19 #[va, vb] W fun e w' => e = .returned (.bool true) ∧ Below W.heap.size W w'))
      have HGD := Lib.hid (fun (h1 : rightR r = true) (h2 : greatB r = false) W => (by
        have hk := okR_of h1 ht h2
        obtain ⟨z1, z2⟩ := line_small ht hla h1 hk
        have h := ReplyParseL_any (printR r) W z1 z2
        rw [parse_printR h1 hk] at h
        exact h : Calls Tryz.prog 9 #[.string (printR r)] W fun e w' => ∃ v, e = .returned (.tuple #[v, .int .i64 0]) ∧ RepV w' r v ∧ Below W.heap.size W w'))
      have HPS := Lib.hid (fun W => ReplyParse_any s W (by omega))
      have HP2S := parseR_sm (s := s) (by omega)
      have HCA := Lib.hid (parseR_cases s)
      have HOF := Lib.hid (fun r v W h => ReplyOf_any r v W h)
      have HRX := Lib.hid (fun (r2 : RepD) (h2 : SmR r2) v W h h' => ReplyRight_any r2 v W h h2 h')
      have HPX := Lib.hid (fun (r2 : RepD) (h2 : SmR r2) v W h h' => ReplyPrint_any r2 v W h h2 h')
      have HSZ := Lib.hid (fun va vb W h h' => (by
        have h := refReplySame_any rep0 rep0 va vb W h h' SmR.zero.lowR SmR.zero.lowR SmR.zero.lowE SmR.zero.lowE (by decide) (by decide)
        rw [decide_eq_true rfl] at h
        exact h : Calls Tryz.prog 11 #[va, vb] W fun e w' => e = .returned (.bool true) ∧ Below W.heap.size W w'))
      have HP2T := Lib.hid HP2S
      generalize parseR s = p at *
      clear har hac hat sa hla ht HP2S
      go_enter Tryz.func5, Tryz.ntmps5
      go_wp2_with (go_at_call 13; rw [HBE.out]; refine (HLA.out _ (HRV.out.go HB1.out)).mono ?_; rintro e w1 ⟨rfl, hb1⟩; (have HP2 := Lib.hid (HP1.out.go hb1); have HB2 := Lib.hid (HB1.out.st hb1)); clear hb1)
      go_loopg [5, 6] r.rts.length (fun g v5 v6 wr => ∃ i : Nat, i ≤ r.rts.length ∧ r.rts.length - i ≤ g ∧ v6 = .int .i64 i ∧ v5 = .bool ((ts.take i).any (fun t => wideRt t.r)) ∧ wr = w1)
      case atStart => exact ⟨0, Nat.zero_le _, by omega, rfl, by simp, rfl⟩
      case round =>
        obtain ⟨i, hi1, hg, rfl, rfl, rfl⟩ := hrel
        have hi0 : (0 : Int) ≤ (i : Int) := by omega
        obtain ⟨x0, x1, x2, x3, x4, -⟩ := HP2.out
        by_cases hlt : i < r.rts.length
        · have hlt3 : (i : Int) < (r.rts.length : Int) := by omega
          have hltt : i < ts.length := by have := HN.out; omega
          obtain ⟨b1, o1, hao, y0, y1⟩ := (HAR.out.go HB2.out).rt hltt
          subst hao
          have hes := HEL.out ts[i] (List.getElem_mem hltt)
          have HC := Lib.hid ((HAC.out ts[i] (List.getElem_mem hltt)).go HB2.out)
          have HTK := Lib.hid (any_take (fun t : RtC => wideRt t.r) hltt)
          have HWD := Lib.hid (show wideRt ts[i].r = (ts[i].r.es.take ts[i].r.es.length).any (fun e => decide (9007199254740992 < e)) by rw [List.take_length]; rfl)
          generalize ts[i] = t at *
          generalize (ts.take i).any (fun t => wideRt t.r) = g0 at *
          obtain ⟨ta, tcp, tr⟩ := t
          simp only at y0 y1 hes HC HTK HWD
          obtain ⟨w2, hw2⟩ : ∃ w2, w2 = wr := ⟨_, rfl⟩
          subst hw2
          go_wp2
          go_loopg [5, 7] tr.es.length (fun g v5 v7 wr => ∃ k : Nat, k ≤ tr.es.length ∧ tr.es.length - k ≤ g ∧ v7 = .int .i64 k ∧ v5 = .bool (g0 || (tr.es.take k).any (fun e => decide (9007199254740992 < e))) ∧ wr = w2)
          case atStart => exact ⟨0, Nat.zero_le _, by omega, rfl, by simp, rfl⟩
          case round =>
            obtain ⟨k, hk1, hg2, rfl, rfl, rfl⟩ := hrel
            have hk0 : (0 : Int) ≤ (k : Int) := by omega
            by_cases hlk : k < tr.es.length
            · have hlk3 : (k : Int) < (tr.es.length : Int) := by omega
              obtain ⟨b2, o2, hao2, z0⟩ := HC.out.at hlk
              have HAT := Lib.hid (any_take (fun e => decide (9007199254740992 < e)) hlk)
              generalize tr.es[k] = e at *
              subst hao2
              cases hcb : (g0 || (tr.es.take k).any (fun e => decide (9007199254740992 < e))) with
              | true =>
                go_wp2
                go_roundg (tr.es.length - (k + 1))
                case measure => omega
                case rel => exact ⟨k + 1, by omega, by omega, by go_num, by rw [HAT.out, ← Bool.or_assoc, hcb]; rfl, rfl⟩
              | false =>
                go_wp2
                go_roundg (tr.es.length - (k + 1))
                case measure => omega
                case rel => exact ⟨k + 1, by omega, by omega, by go_num, by rw [HAT.out, ← Bool.or_assoc, hcb]; rfl, rfl⟩
            · obtain rfl : k = tr.es.length := by omega
              have HGN := Lib.hid (show (ts.take (i + 1)).any (fun t => wideRt t.r) = (g0 || (tr.es.take tr.es.length).any (fun e => decide (9007199254740992 < e))) by rw [HTK.out, HWD.out])
              generalize (tr.es.take tr.es.length).any (fun e => decide (9007199254740992 < e)) = ga at *
              go_wp2
              go_roundg (r.rts.length - (i + 1))
              case measure => omega
              case rel => exact ⟨i + 1, by omega, by omega, by go_num, by rw [HGN.out], rfl⟩
        · obtain rfl : i = r.rts.length := by omega
          have HG := Lib.hid (show (ts.take r.rts.length).any (fun t => wideRt t.r) = greatB r by rw [HGR.out, ← HN.out, List.take_length])
          rw [HG.out]
          generalize greatB r = gt at *
          obtain ⟨w2, hw2⟩ : ∃ w2, w2 = wr := ⟨_, rfl⟩
          subst hw2
          clear x0 x1 x2 x3 x4
          obtain ⟨x0, x1, x2, x3, x4, -⟩ := HP2.out
          go_wp2_with fail
          refine (HRR.out _ (HRV.out.go HB2.out) (tabIs_go HT.out HB2.out)).mono ?_
          rintro e w3 ⟨rfl, hb3⟩
          have HP3 := Lib.hid (HP2.out.go hb3)
          have HB3 := Lib.hid (HB2.out.st hb3)
          clear x0 x1 x2 x3 x4 hb3
          cases hrr : rightR r with
          | false =>
            go_wp2_with fail
            rcases HCA.out with hp | ⟨r2, hp, h2, -, h4⟩
            · have HPZ := Lib.hid (by have h := HPS.out w3; rw [hp] at h; exact h : Calls Tryz.prog 9 #[.string s] w3 fun e w' => ∃ v, e = .returned (.tuple #[v, .int .i64 3]) ∧ RepV w' rep0 v ∧ Below w3.heap.size w3 w')
              clear hp
              refine HPZ.out.mono ?_
              rintro e w7 ⟨vb, rfl, hvb, hb7⟩
              have HVB := Lib.hid hvb
              have HB7 := Lib.hid (HB3.out.st hb7)
              obtain ⟨bn, dn, br, dr, bw, dw, us, rfl, -⟩ := hvb
              clear hb7
              obtain ⟨W8, hW8⟩ : ∃ W8, W8 = w7.alloc (Obj.cells #[.int .i64 rep0.f, .string rep0.name, .slice bn rep0.nums.length dn, .slice br rep0.rts.length dr, .slice bw rep0.words.length dw] 28) := ⟨_, rfl⟩
              have HV8 := Lib.hid (show RepV W8 rep0 (.agg #[.int .i64 rep0.f, .string rep0.name, .slice bn rep0.nums.length dn, .slice br rep0.rts.length dr, .slice bw rep0.words.length dw]) by rw [hW8]; exact HVB.out.go (Below.of_al _ _))
              have HB8 := Lib.hid (show Below w.heap.size w W8 by rw [hW8]; exact HB7.out.al _)
              have HWE8 := Lib.hid hW8.symm
              obtain ⟨y0, y1, y2, y3, y4, -⟩ := P5.new w7 28 (.int .i64 rep0.f) (.string rep0.name) (.slice bn rep0.nums.length dn) (.slice br rep0.rts.length dr) (.slice bw rep0.words.length dw)
              clear hW8
              go_wp2_with (first
                | (go_at_call 12; refine (HOF.out rep0 _ _ (HVB.out.go (Below.of_al _ _))).mono ?_; rintro e w10 ⟨rfl, hb10⟩)
                | (go_at_call 11; refine (HSZ.out _ _ _ ((HVB.out.go (Below.of_al _ _)).go hb10) (faultV_rep _ 0)).mono ?_; rintro e w11 ⟨rfl, hb11⟩)
                | (go_at_call 8; refine (HAL.out _).mono ?_; rintro e w12 ⟨rfl, hb12⟩))
              go_ret
              exact ⟨rfl, (((HB7.out.al _).st hb10).st hb11).st hb12⟩
            · have HSM2 := HP2T.out
              rw [hp] at HSM2
              simp only at HSM2
              have HPZ := Lib.hid (by have h := HPS.out w3; rw [hp] at h; exact h : Calls Tryz.prog 9 #[.string s] w3 fun e w' => ∃ v, e = .returned (.tuple #[v, .int .i64 0]) ∧ RepV w' r2 v ∧ Below w3.heap.size w3 w')
              clear hp
              refine HPZ.out.mono ?_
              rintro e w7 ⟨vb, rfl, hvb, hb7⟩
              have HVB := Lib.hid hvb
              have HB7 := Lib.hid (HB3.out.st hb7)
              obtain ⟨bn, dn, br, dr, bw, dw, us, rfl, -⟩ := hvb
              clear hb7
              have HRY := Lib.hid (fun W h h' => (by have hh := HRX.out r2 HSM2 (.agg #[.int .i64 r2.f, .string r2.name, .slice bn r2.nums.length dn, .slice br r2.rts.length dr, .slice bw r2.words.length dw]) W h h'; rw [h2] at hh; exact hh : Calls Tryz.prog 17 #[.agg #[.int .i64 r2.f, .string r2.name, .slice bn r2.nums.length dn, .slice br r2.rts.length dr, .slice bw r2.words.length dw]] W fun e w' => e = .returned (.bool true) ∧ Below W.heap.size W w'))
              have HPY := Lib.hid (fun W h h' => (by have hh := HPX.out r2 HSM2 (.agg #[.int .i64 r2.f, .string r2.name, .slice bn r2.nums.length dn, .slice br r2.rts.length dr, .slice bw r2.words.length dw]) W h h'; rw [h4] at hh; exact hh : Calls Tryz.prog 15 #[.agg #[.int .i64 r2.f, .string r2.name, .slice bn r2.nums.length dn, .slice br r2.rts.length dr, .slice bw r2.words.length dw]] W fun e w' => e = .returned (.string s) ∧ Below W.heap.size W w'))
              clear HSM2 h2 h4
              obtain ⟨y0, y1, y2, y3, y4, -⟩ := P5.new w7 28 (.int .i64 r2.f) (.string r2.name) (.slice bn r2.nums.length dn) (.slice br r2.rts.length dr) (.slice bw r2.words.length dw)
              have HY7 := Lib.hid (P5.new w7 28 (.int .i64 r2.f) (.string r2.name) (.slice bn r2.nums.length dn) (.slice br r2.rts.length dr) (.slice bw r2.words.length dw))
              go_wp2_with (first
                | (go_at_call 17; refine (HRY.out _ (HVB.out.go (Below.of_al _ _)) (tabIs_go HT.out (HB7.out.al _))).mono ?_; rintro e w10 ⟨rfl, hb10⟩; obtain ⟨z0, z1, z2, z3, z4, -⟩ := HY7.out.go hb10)
                | (go_at_call 15; refine (HPY.out _ ((HVB.out.go (Below.of_al _ _)).go hb10) (tabIs_go HT.out ((HB7.out.al _).st hb10))).mono ?_; rintro e w11 ⟨rfl, hb11⟩)
                | (go_at_call 8; refine (HAL.out _).mono ?_; rintro e w12 ⟨rfl, hb12⟩))
              go_ret
              exact ⟨rfl, (((HB7.out.al _).st hb10).st hb11).st hb12⟩
          | true =>
            cases gt with
            | true =>
              go_wp2_with fail
              rcases HCA.out with hp | ⟨r2, hp, h2, -, h4⟩
              · have HPZ := Lib.hid (by have h := HPS.out w3; rw [hp] at h; exact h : Calls Tryz.prog 9 #[.string s] w3 fun e w' => ∃ v, e = .returned (.tuple #[v, .int .i64 3]) ∧ RepV w' rep0 v ∧ Below w3.heap.size w3 w')
                clear hp
                refine HPZ.out.mono ?_
                rintro e w7 ⟨vb, rfl, hvb, hb7⟩
                have HVB := Lib.hid hvb
                have HB7 := Lib.hid (HB3.out.st hb7)
                obtain ⟨bn, dn, br, dr, bw, dw, us, rfl, -⟩ := hvb
                clear hb7
                obtain ⟨W8, hW8⟩ : ∃ W8, W8 = w7.alloc (Obj.cells #[.int .i64 rep0.f, .string rep0.name, .slice bn rep0.nums.length dn, .slice br rep0.rts.length dr, .slice bw rep0.words.length dw] 28) := ⟨_, rfl⟩
                have HV8 := Lib.hid (show RepV W8 rep0 (.agg #[.int .i64 rep0.f, .string rep0.name, .slice bn rep0.nums.length dn, .slice br rep0.rts.length dr, .slice bw rep0.words.length dw]) by rw [hW8]; exact HVB.out.go (Below.of_al _ _))
                have HB8 := Lib.hid (show Below w.heap.size w W8 by rw [hW8]; exact HB7.out.al _)
                have HWE8 := Lib.hid hW8.symm
                obtain ⟨y0, y1, y2, y3, y4, -⟩ := P5.new w7 28 (.int .i64 rep0.f) (.string rep0.name) (.slice bn rep0.nums.length dn) (.slice br rep0.rts.length dr) (.slice bw rep0.words.length dw)
                clear hW8
                go_wp2_with (first
                  | (go_at_call 12; refine (HOF.out rep0 _ _ (HVB.out.go (Below.of_al _ _))).mono ?_; rintro e w10 ⟨rfl, hb10⟩)
                  | (go_at_call 11; refine (HSZ.out _ _ _ ((HVB.out.go (Below.of_al _ _)).go hb10) (faultV_rep _ 0)).mono ?_; rintro e w11 ⟨rfl, hb11⟩)
                  | (go_at_call 8; refine (HAL.out _).mono ?_; rintro e w12 ⟨rfl, hb12⟩))
                go_ret
                exact ⟨rfl, (((HB7.out.al _).st hb10).st hb11).st hb12⟩
              · have HSM2 := HP2T.out
                rw [hp] at HSM2
                simp only at HSM2
                have HPZ := Lib.hid (by have h := HPS.out w3; rw [hp] at h; exact h : Calls Tryz.prog 9 #[.string s] w3 fun e w' => ∃ v, e = .returned (.tuple #[v, .int .i64 0]) ∧ RepV w' r2 v ∧ Below w3.heap.size w3 w')
                clear hp
                refine HPZ.out.mono ?_
                rintro e w7 ⟨vb, rfl, hvb, hb7⟩
                have HVB := Lib.hid hvb
                have HB7 := Lib.hid (HB3.out.st hb7)
                obtain ⟨bn, dn, br, dr, bw, dw, us, rfl, -⟩ := hvb
                clear hb7
                have HRY := Lib.hid (fun W h h' => (by have hh := HRX.out r2 HSM2 (.agg #[.int .i64 r2.f, .string r2.name, .slice bn r2.nums.length dn, .slice br r2.rts.length dr, .slice bw r2.words.length dw]) W h h'; rw [h2] at hh; exact hh : Calls Tryz.prog 17 #[.agg #[.int .i64 r2.f, .string r2.name, .slice bn r2.nums.length dn, .slice br r2.rts.length dr, .slice bw r2.words.length dw]] W fun e w' => e = .returned (.bool true) ∧ Below W.heap.size W w'))
                have HPY := Lib.hid (fun W h h' => (by have hh := HPX.out r2 HSM2 (.agg #[.int .i64 r2.f, .string r2.name, .slice bn r2.nums.length dn, .slice br r2.rts.length dr, .slice bw r2.words.length dw]) W h h'; rw [h4] at hh; exact hh : Calls Tryz.prog 15 #[.agg #[.int .i64 r2.f, .string r2.name, .slice bn r2.nums.length dn, .slice br r2.rts.length dr, .slice bw r2.words.length dw]] W fun e w' => e = .returned (.string s) ∧ Below W.heap.size W w'))
                clear HSM2 h2 h4
                obtain ⟨y0, y1, y2, y3, y4, -⟩ := P5.new w7 28 (.int .i64 r2.f) (.string r2.name) (.slice bn r2.nums.length dn) (.slice br r2.rts.length dr) (.slice bw r2.words.length dw)
                have HY7 := Lib.hid (P5.new w7 28 (.int .i64 r2.f) (.string r2.name) (.slice bn r2.nums.length dn) (.slice br r2.rts.length dr) (.slice bw r2.words.length dw))
                go_wp2_with (first
                  | (go_at_call 17; refine (HRY.out _ (HVB.out.go (Below.of_al _ _)) (tabIs_go HT.out (HB7.out.al _))).mono ?_; rintro e w10 ⟨rfl, hb10⟩; obtain ⟨z0, z1, z2, z3, z4, -⟩ := HY7.out.go hb10)
                  | (go_at_call 15; refine (HPY.out _ ((HVB.out.go (Below.of_al _ _)).go hb10) (tabIs_go HT.out ((HB7.out.al _).st hb10))).mono ?_; rintro e w11 ⟨rfl, hb11⟩)
                  | (go_at_call 8; refine (HAL.out _).mono ?_; rintro e w12 ⟨rfl, hb12⟩))
                go_ret
                exact ⟨rfl, (((HB7.out.al _).st hb10).st hb11).st hb12⟩
            | false =>
              have HGE := Lib.hid (HGD.out hrr rfl)
              obtain ⟨x0, x1, x2, x3, x4, -⟩ := HP3.out
              go_wp2_with fail
              refine (HPR.out _ (HRV.out.go HB3.out) (tabIs_go HT.out HB3.out)).mono ?_
              rintro e w4 ⟨rfl, hb4⟩
              have HP4 := Lib.hid (HP3.out.go hb4)
              have HB4 := Lib.hid (HB3.out.st hb4)
              clear x0 x1 x2 x3 x4 hb4
              go_wp2_with fail
              refine (HGE.out _).mono ?_
              rintro e w5 ⟨va, rfl, hva, hb5⟩
              have HVA := Lib.hid hva
              have HP5 := Lib.hid (HP4.out.go hb5)
              have HB5 := Lib.hid (HB4.out.st hb5)
              obtain ⟨an5, cn5, ar5, cr5, aw5, cw5, ts5, rfl, -⟩ := hva
              clear hb5
              obtain ⟨W6, hW6⟩ : ∃ W6, W6 = w5.alloc (Obj.cells #[.int .i64 r.f, .string r.name, .slice an5 r.nums.length cn5, .slice ar5 r.rts.length cr5, .slice aw5 r.words.length cw5] 28) := ⟨_, rfl⟩
              have HY6 := Lib.hid (show P5 W6 w5.heap.size (.int .i64 r.f) (.string r.name) (.slice an5 r.nums.length cn5) (.slice ar5 r.rts.length cr5) (.slice aw5 r.words.length cw5) by rw [hW6]; exact P5.new _ _ _ _ _ _ _)
              have HP6 := Lib.hid (show P5 W6 w.heap.size (.int .i64 r.f) (.string r.name) (.slice an r.nums.length cn) (.slice ar r.rts.length cr) (.slice aw r.words.length cw) by rw [hW6]; exact HP5.out.go (Below.of_al _ _))
              have HB6 := Lib.hid (show Below w.heap.size w W6 by rw [hW6]; exact HB5.out.al _)
              have HV6 := Lib.hid (show RepV W6 r (.agg #[.int .i64 r.f, .string r.name, .slice an5 r.nums.length cn5, .slice ar5 r.rts.length cr5, .slice aw5 r.words.length cw5]) by rw [hW6]; exact HVA.out.go (Below.of_al _ _))
              obtain ⟨x0, x1, x2, x3, x4, -⟩ := HP6.out
              obtain ⟨y0, y1, y2, y3, y4, -⟩ := HY6.out
              rw [hW6] at x0 x1 x2 x3 x4 y0 y1 y2 y3 y4
              go_wp2_with fail
              rw [← hW6]
              refine (HSM.out _ _ _ HV6.out (HRV.out.go HB6.out)).mono ?_
              rintro e w9 ⟨rfl, hb9⟩
              have HB9 := Lib.hid (HB6.out.st hb9)
              clear x0 x1 x2 x3 x4 y0 y1 y2 y3 y4 hb9 hW6 HVA HP5 HB5 HY6 HP6 HB6 HV6
              go_wp2_with fail
              rcases HCA.out with hp | ⟨r2, hp, h2, -, h4⟩
              · have HPZ := Lib.hid (by have h := HPS.out w9; rw [hp] at h; exact h : Calls Tryz.prog 9 #[.string s] w9 fun e w' => ∃ v, e = .returned (.tuple #[v, .int .i64 3]) ∧ RepV w' rep0 v ∧ Below w9.heap.size w9 w')
                clear hp
                refine HPZ.out.mono ?_
                rintro e w7 ⟨vb, rfl, hvb, hb7⟩
                have HVB := Lib.hid hvb
                have HB7 := Lib.hid (HB9.out.st hb7)
                obtain ⟨bn, dn, br, dr, bw, dw, us, rfl, -⟩ := hvb
                clear hb7
                obtain ⟨W8, hW8⟩ : ∃ W8, W8 = w7.alloc (Obj.cells #[.int .i64 rep0.f, .string rep0.name, .slice bn rep0.nums.length dn, .slice br rep0.rts.length dr, .slice bw rep0.words.length dw] 28) := ⟨_, rfl⟩
                have HV8 := Lib.hid (show RepV W8 rep0 (.agg #[.int .i64 rep0.f, .string rep0.name, .slice bn rep0.nums.length dn, .slice br rep0.rts.length dr, .slice bw rep0.words.length dw]) by rw [hW8]; exact HVB.out.go (Below.of_al _ _))
                have HB8 := Lib.hid (show Below w.heap.size w W8 by rw [hW8]; exact HB7.out.al _)
                have HWE8 := Lib.hid hW8.symm
                obtain ⟨y0, y1, y2, y3, y4, -⟩ := P5.new w7 28 (.int .i64 rep0.f) (.string rep0.name) (.slice bn rep0.nums.length dn) (.slice br rep0.rts.length dr) (.slice bw rep0.words.length dw)
                clear hW8
                go_wp2_with (first
                  | (go_at_call 12; refine (HOF.out rep0 _ _ (HVB.out.go (Below.of_al _ _))).mono ?_; rintro e w10 ⟨rfl, hb10⟩)
                  | (go_at_call 11; refine (HSZ.out _ _ _ ((HVB.out.go (Below.of_al _ _)).go hb10) (faultV_rep _ 0)).mono ?_; rintro e w11 ⟨rfl, hb11⟩)
                  | (go_at_call 8; refine (HAL.out _).mono ?_; rintro e w12 ⟨rfl, hb12⟩))
                go_ret
                exact ⟨rfl, (((HB7.out.al _).st hb10).st hb11).st hb12⟩
              · have HSM2 := HP2T.out
                rw [hp] at HSM2
                simp only at HSM2
                have HPZ := Lib.hid (by have h := HPS.out w9; rw [hp] at h; exact h : Calls Tryz.prog 9 #[.string s] w9 fun e w' => ∃ v, e = .returned (.tuple #[v, .int .i64 0]) ∧ RepV w' r2 v ∧ Below w9.heap.size w9 w')
                clear hp
                refine HPZ.out.mono ?_
                rintro e w7 ⟨vb, rfl, hvb, hb7⟩
                have HVB := Lib.hid hvb
                have HB7 := Lib.hid (HB9.out.st hb7)
                obtain ⟨bn, dn, br, dr, bw, dw, us, rfl, -⟩ := hvb
                clear hb7
                have HRY := Lib.hid (fun W h h' => (by have hh := HRX.out r2 HSM2 (.agg #[.int .i64 r2.f, .string r2.name, .slice bn r2.nums.length dn, .slice br r2.rts.length dr, .slice bw r2.words.length dw]) W h h'; rw [h2] at hh; exact hh : Calls Tryz.prog 17 #[.agg #[.int .i64 r2.f, .string r2.name, .slice bn r2.nums.length dn, .slice br r2.rts.length dr, .slice bw r2.words.length dw]] W fun e w' => e = .returned (.bool true) ∧ Below W.heap.size W w'))
                have HPY := Lib.hid (fun W h h' => (by have hh := HPX.out r2 HSM2 (.agg #[.int .i64 r2.f, .string r2.name, .slice bn r2.nums.length dn, .slice br r2.rts.length dr, .slice bw r2.words.length dw]) W h h'; rw [h4] at hh; exact hh : Calls Tryz.prog 15 #[.agg #[.int .i64 r2.f, .string r2.name, .slice bn r2.nums.length dn, .slice br r2.rts.length dr, .slice bw r2.words.length dw]] W fun e w' => e = .returned (.string s) ∧ Below W.heap.size W w'))
                clear HSM2 h2 h4
                obtain ⟨y0, y1, y2, y3, y4, -⟩ := P5.new w7 28 (.int .i64 r2.f) (.string r2.name) (.slice bn r2.nums.length dn) (.slice br r2.rts.length dr) (.slice bw r2.words.length dw)
                have HY7 := Lib.hid (P5.new w7 28 (.int .i64 r2.f) (.string r2.name) (.slice bn r2.nums.length dn) (.slice br r2.rts.length dr) (.slice bw r2.words.length dw))
                go_wp2_with (first
                  | (go_at_call 17; refine (HRY.out _ (HVB.out.go (Below.of_al _ _)) (tabIs_go HT.out (HB7.out.al _))).mono ?_; rintro e w10 ⟨rfl, hb10⟩; obtain ⟨z0, z1, z2, z3, z4, -⟩ := HY7.out.go hb10)
                  | (go_at_call 15; refine (HPY.out _ ((HVB.out.go (Below.of_al _ _)).go hb10) (tabIs_go HT.out ((HB7.out.al _).st hb10))).mono ?_; rintro e w11 ⟨rfl, hb11⟩)
                  | (go_at_call 8; refine (HAL.out _).mono ?_; rintro e w12 ⟨rfl, hb12⟩))
                go_ret
                exact ⟨rfl, (((HB7.out.al _).st hb10).st hb11).st hb12⟩

end Go.Proofs.YtelcmkccfjdmjaaGreatDoor
