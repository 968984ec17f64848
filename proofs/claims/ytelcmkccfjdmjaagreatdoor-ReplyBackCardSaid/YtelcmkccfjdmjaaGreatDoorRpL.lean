/-
  Walk of package reply: the reply of a line.
-/
import Derived.Test.YtelcmkccfjdmjaaGreatDoorProg
import Derived.Test.YtelcmkccfjdmjaaGreatDoorRpK
import Derived.Test.YtelcmkccfjdmjaaGreatDoorRpH
namespace Go.Proofs.YtelcmkccfjdmjaaGreatDoor
open Go Go.Proofs Go.RowKit Go.Shelf Go.Sort

theorem part_any (a : Nat) (ha : a ≤ 2) (s : ByteArray) (r : RepD) (w0 w : World) (base R Ab : Nat) (vn vr vw : Value) (ts : List RtC) (hs : s.size ≤ 10000) (hR : R < Ab) (hA : Ab < base) (hz : base ≤ w.heap.size) (hn : r.nums.length + r.rts.length + r.words.length ≤ 1000000)
    (h3 : Row3 w base r vn vr vw ts) (h5 : P5 w R (.int .i64 r.f) (.string r.name) vn vr vw) (h1 : P1 w Ab (.int .i64 (a : Int))) (hb0 : Below R w0 w) (hz0 : R ≤ w0.heap.size) :
    Calls Tryz.prog 33 #[.pointer (some ⟨R, 0, none⟩), .string s, .pointer (some ⟨Ab, 0, none⟩)] w (PartPost w0 base R Ab a r s) := by
  match a, ha with
  | 0, _ => exact part0_any s r w0 w base R Ab vn vr vw ts hs hR hA hz (by omega) (by omega) (by omega) h3 h5 h1 hb0 hz0
  | 1, _ => exact part1_any s r w0 w base R Ab vn vr vw ts hs hR hA hz (by omega) (by omega) h3 h5 h1 hb0 hz0
  | 2, _ => exact part2_any s r w0 w base R Ab vn vr vw ts hs hR hA hz (by omega) h3 h5 h1 hb0 hz0

def lenR (r : RepD) : Nat := r.nums.length + r.rts.length + r.words.length
theorem partR_keeps (a : Nat) (r : RepD) (s : ByteArray) : (partR a r s).2.1.f = r.f ∧ (partR a r s).2.1.name = r.name ∧ lenR (partR a r s).2.1 = lenR r + 1 ∧ (partR a r s).1 ≤ 2 := by
  unfold partR
  split
  · exact ⟨rfl, rfl, by simp [lenR]; omega, by simp⟩
  · split
    · exact ⟨rfl, rfl, by simp [lenR]; omega, by simp⟩
    · split
      · exact ⟨rfl, rfl, by simp [lenR]; omega, by simp⟩
      · exact ⟨rfl, rfl, by simp [lenR]; omega, by simp⟩
theorem foldR_step {a : Nat} {r : RepD} {l : List ByteArray} {k : Nat} (h : k < l.length) : foldR a r (l.drop k) = if (partR a r l[k]).2.2 then foldR (partR a r l[k]).1 (partR a r l[k]).2.1 (l.drop (k + 1)) else none := by
  rw [List.drop_eq_getElem_cons h, foldR]

/-- what Parse leaves -/
def ParsePost (w : World) (p : RepD × Int) (e : Ending) (w' : World) : Prop :=
  ∃ v, e = .returned (.tuple #[v, .int .i64 p.2]) ∧ RepV w' p.1 v ∧ Below w.heap.size w w'
theorem rep0_V (W : World) (f : Int) : RepV W { rep0 with f := f } (.agg #[.int .i64 f, .string ByteArray.empty, .slice none 0 0, .slice none 0 0, .slice none 0 0]) :=
  ⟨none, 0, none, 0, none, 0, [], rfl, Cel.nil _ _, Cel.nil _ _, Cel.nil _ _, rfl, fun _ h => by cases h⟩
theorem P5.set0 {W : World} {b : Nat} {x0 x1 x2 x3 x4 : Value} (h : P5 W b x0 x1 x2 x3 x4) (u : Value) : P5 (W.setCell ⟨b, 0, none⟩ u) b u x1 x2 x3 x4 := by
  obtain ⟨h0, h1, h2, h3, h4, h5⟩ := h
  refine ⟨World.cell?_setCell_same _ _ _ h0, ?_, ?_, ?_, ?_, by simpa only [World.frozen?_setCell] using h5⟩ <;> (rw [World.cell?_setCell_other _ _ _ _ (by simp)]; assumption)
theorem P5.set1 {W : World} {b : Nat} {x0 x1 x2 x3 x4 : Value} (h : P5 W b x0 x1 x2 x3 x4) (u : Value) : P5 (W.setCell ⟨b, 1, none⟩ u) b x0 u x2 x3 x4 := by
  obtain ⟨h0, h1, h2, h3, h4, h5⟩ := h
  refine ⟨?_, World.cell?_setCell_same _ _ _ h1, ?_, ?_, ?_, by simpa only [World.frozen?_setCell] using h5⟩ <;> (rw [World.cell?_setCell_other _ _ _ _ (by simp)]; assumption)
abbrev set5 (W : World) (b : Nat) (x0 x1 x2 x3 x4 : Value) : World := ((((W.setCell ⟨b, 0, none⟩ x0).setCell ⟨b, 1, none⟩ x1).setCell ⟨b, 2, none⟩ x2).setCell ⟨b, 3, none⟩ x3).setCell ⟨b, 4, none⟩ x4
theorem P5.set5 {W : World} {b : Nat} {y0 y1 y2 y3 y4 : Value} (h : P5 W b y0 y1 y2 y3 y4) (x0 x1 x2 x3 x4 : Value) : P5 (set5 W b x0 x1 x2 x3 x4) b x0 x1 x2 x3 x4 := ((((h.set0 x0).set1 x1).set2 x2).set3 x3).set4 x4
theorem bel_set5 {B : Nat} {w W : World} (h : Below B w W) {b : Nat} (hb : B ≤ b) (x0 x1 x2 x3 x4 : Value) : Below B w (set5 W b x0 x1 x2 x3 x4) := ((((h.setCell hb x0).setCell hb x1).setCell hb x2).setCell hb x3).setCell hb x4
theorem Row3.put5 {W : World} {base : Nat} {r : RepD} {vn vr vw : Value} {ts : List RtC} (h : Row3 W base r vn vr vw ts) {b : Nat} (hb : b < base) (x0 x1 x2 x3 x4 : Value) : Row3 (set5 W b x0 x1 x2 x3 x4) base r vn vr vw ts :=
  ((((h.put (a := ⟨b, 0, none⟩) hb x0).put (a := ⟨b, 1, none⟩) hb x1).put (a := ⟨b, 2, none⟩) hb x2).put (a := ⟨b, 3, none⟩) hb x3).put (a := ⟨b, 4, none⟩) hb x4

/-- the text of a word, as it is compared -/
theorem byt_eq {a c : ByteArray} {l : List UInt8} (hc : c.data.toList = l) : (a.toList == l) = decide (a = c) := by
  subst hc
  rw [ByteArray.toList_eq]
  by_cases h : a = c
  · subst h; simp
  · rw [decide_eq_false h, beq_eq_false_iff_ne]
    exact fun e => h (Go.WideShapes.bytes_inj e)

theorem cel_get {w : World} {b : Nat} {cs : List Value} (h : Cel w (some ⟨b, 0, none⟩) cs) {i : Nat} {v : Value} (hi : cs[i]? = some v) : w.cell? ⟨b, i, none⟩ = some v := by
  obtain ⟨b', o', e, hc⟩ := h i v hi
  cases e
  simpa using hc

set_option maxRecDepth 100000 in
set_option maxHeartbeats 8000000 in
theorem ReplyParse_any (s : ByteArray) (w : World) (hs : s.size ≤ 10000) : Calls Tryz.prog 9 #[.string s] w (ParsePost w (parseR s)) := by
  have hsz := @partsS_size 32 s
  have hct := @partsS_count 32 s
  have hne := parts_ne 32 s
  have hlg := fun W => splitB_any 32 s W (by omega)
  have hV : parseR s = parseR s := rfl
  conv at hV => rhs; unfold parseR
  generalize parseR s = p at *
  generalize partsS 32 s = l at *
  match l, hne with
  | [a], _ =>
    have HV := Lib.hid hV
    have HS := Lib.hid (show ∀ W, Calls Tryz.prog 30 #[.string s, .string ⟨#[32]⟩] W fun e w' => e = .returned (.slice (some ⟨W.heap.size, 0, none⟩) 1 1) ∧ w' = W.alloc (.cells #[.string a] 9) from hlg)
    clear hV hlg hsz hct
    go_enter Tryz.func9, Tryz.ntmps9
    go_wp2_with fail
    obtain ⟨W0, hW0⟩ : ∃ W0, W0 = w.alloc (Obj.cells #[.int .i64 0, .string ⟨#[]⟩, .slice none 0 0, .slice none 0 0, .slice none 0 0] 28) := ⟨_, rfl⟩
    rw [← hW0]
    refine (HS.out _).mono ?_
    rintro e w1 ⟨rfl, hw1⟩
    have HT := Lib.hid (show P5 w1 w.heap.size (.int .i64 0) (.string ⟨#[]⟩) (.slice none 0 0) (.slice none 0 0) (.slice none 0 0) by rw [hw1, hW0]; exact (P5.new _ _ _ _ _ _ _).go (Below.of_al _ _))
    have HB1 := Lib.hid (show Below w.heap.size w w1 by rw [hw1, hW0]; exact (Below.of_al _ _).al _)
    have HZ1 := Lib.hid (show w1.heap.size = w.heap.size + 2 by rw [hw1, hW0]; simp)
    have HC1 := Lib.hid (show Cel w1 (some ⟨W0.heap.size, 0, none⟩) _ by rw [hw1]; exact cel_new _ _ _ _)
    have hWb : W0.heap.size = w.heap.size + 1 := by rw [hW0]; simp
    rw [hWb] at HC1
    rw [hWb]
    clear hw1 hW0 hWb HS
    obtain ⟨t0, t1, t2, t3, t4, g0, g1, g2, g3, g4⟩ := HT.out
    go_wp2
    have r0 := (HT.out).set5 (.int .i64 0) (.string ⟨#[]⟩) (.slice none 0 0) (.slice none 0 0) (.slice none 0 0)
    obtain ⟨r0, r1, r2, r3, r4, -⟩ := r0
    refine bodyPost_ret (v := .tuple #[.agg #[.int .i64 0, .string ⟨#[]⟩, .slice none 0 0, .slice none 0 0, .slice none 0 0], .int .i64 3]) (by simp [results, Tryz.results9, go_sem, r0, r1, r2, r3, r4]; try rfl) rfl ?_
    exact ⟨_, by rw [HV.out], by rw [HV.out]; exact rep0_V _ _, bel_set5 HB1.out (Nat.le_refl _) _ _ _ _ _⟩
  | [a, b], _ =>
    have HS := Lib.hid (show ∀ W, Calls Tryz.prog 30 #[.string s, .string ⟨#[32]⟩] W fun e w' => e = .returned (.slice (some ⟨W.heap.size, 0, none⟩) 2 2) ∧ w' = W.alloc (.cells #[.string a, .string b] 9) from hlg)
    have hV2 : p = if a = errW then (if (ofW b).2 && decide ((ofW b).1 ≠ 0) then ({ rep0 with f := (ofW b).1 }, 0) else (rep0, 3)) else if a = okW ∧ wordB b then ({ rep0 with name := b }, 0) else (rep0, 3) := hV
    have hbz : b.size ≤ 10000 := by have := hsz b (by simp); omega
    have he := byt_eq (a := a) (c := errW) (l := [101, 114, 114, 111, 114]) rfl
    have hk := byt_eq (a := a) (c := okW) (l := [111, 107]) rfl
    have HOF := Lib.hid (fun W => codesOf_any b W)
    have HRT := Lib.hid (fun W => Right_any b W (by omega))
    clear hV hlg hsz hct
    by_cases hae : a = errW
    · rw [if_pos hae] at hV2
      rw [decide_eq_true hae] at he
      generalize ofW b = q at *
      obtain ⟨f, is⟩ := q
      simp only at hV2 HOF
      clear hk hae HRT hbz
      cases is with
      | true =>
        by_cases hf : f = 0
        · subst hf
          have HV := Lib.hid (show p = (rep0, 3) by rw [hV2]; rfl)
          clear hV2
          go_enter Tryz.func9, Tryz.ntmps9
          go_wp2_with fail
          obtain ⟨W0, hW0⟩ : ∃ W0, W0 = w.alloc (Obj.cells #[.int .i64 0, .string ⟨#[]⟩, .slice none 0 0, .slice none 0 0, .slice none 0 0] 28) := ⟨_, rfl⟩
          rw [← hW0]
          refine (HS.out _).mono ?_
          rintro e w1 ⟨rfl, hw1⟩
          have HT := Lib.hid (show P5 w1 w.heap.size (.int .i64 0) (.string ⟨#[]⟩) (.slice none 0 0) (.slice none 0 0) (.slice none 0 0) by rw [hw1, hW0]; exact (P5.new _ _ _ _ _ _ _).go (Below.of_al _ _))
          have HB1 := Lib.hid (show Below w.heap.size w w1 by rw [hw1, hW0]; exact (Below.of_al _ _).al _)
          have HZ1 := Lib.hid (show w1.heap.size = w.heap.size + 2 by rw [hw1, hW0]; simp)
          have HC1 := Lib.hid (show Cel w1 (some ⟨W0.heap.size, 0, none⟩) _ by rw [hw1]; exact cel_new _ _ _ _)
          have hWb : W0.heap.size = w.heap.size + 1 := by rw [hW0]; simp
          rw [hWb] at HC1
          rw [hWb]
          clear hw1 hW0 hWb HS
          have c0 := cel_get HC1.out (i := 0) rfl
          have c1 := cel_get HC1.out (i := 1) rfl
          go_wp2_with (go_at_call 31; refine (HOF.out _).mono ?_; rintro e w2 ⟨rfl, hb2⟩; (have HT2 := Lib.hid (HT.out.go hb2); have HB2 := Lib.hid (HB1.out.st hb2)); obtain ⟨t0, t1, t2, t3, t4, g0, g1, g2, g3, g4⟩ := HT2.out)
          have r0 := (HT2.out).set5 (.int .i64 0) (.string ⟨#[]⟩) (.slice none 0 0) (.slice none 0 0) (.slice none 0 0)
          obtain ⟨r0, r1, r2, r3, r4, -⟩ := r0
          refine bodyPost_ret (v := .tuple #[.agg #[.int .i64 0, .string ⟨#[]⟩, .slice none 0 0, .slice none 0 0, .slice none 0 0], .int .i64 3]) (by simp [results, Tryz.results9, go_sem, r0, r1, r2, r3, r4]; try rfl) rfl ?_
          exact ⟨_, by rw [HV.out], by rw [HV.out]; exact rep0_V _ _, bel_set5 HB2.out (Nat.le_refl _) _ _ _ _ _⟩
        · have HV := Lib.hid (show p = ({ rep0 with f := f }, 0) by rw [hV2, decide_eq_true hf]; rfl)
          have hf2 : (f != 0) = true := by simpa using hf
          clear hV2 hf
          go_enter Tryz.func9, Tryz.ntmps9
          go_wp2_with fail
          obtain ⟨W0, hW0⟩ : ∃ W0, W0 = w.alloc (Obj.cells #[.int .i64 0, .string ⟨#[]⟩, .slice none 0 0, .slice none 0 0, .slice none 0 0] 28) := ⟨_, rfl⟩
          rw [← hW0]
          refine (HS.out _).mono ?_
          rintro e w1 ⟨rfl, hw1⟩
          have HT := Lib.hid (show P5 w1 w.heap.size (.int .i64 0) (.string ⟨#[]⟩) (.slice none 0 0) (.slice none 0 0) (.slice none 0 0) by rw [hw1, hW0]; exact (P5.new _ _ _ _ _ _ _).go (Below.of_al _ _))
          have HB1 := Lib.hid (show Below w.heap.size w w1 by rw [hw1, hW0]; exact (Below.of_al _ _).al _)
          have HZ1 := Lib.hid (show w1.heap.size = w.heap.size + 2 by rw [hw1, hW0]; simp)
          have HC1 := Lib.hid (show Cel w1 (some ⟨W0.heap.size, 0, none⟩) _ by rw [hw1]; exact cel_new _ _ _ _)
          have hWb : W0.heap.size = w.heap.size + 1 := by rw [hW0]; simp
          rw [hWb] at HC1
          rw [hWb]
          clear hw1 hW0 hWb HS
          have c0 := cel_get HC1.out (i := 0) rfl
          have c1 := cel_get HC1.out (i := 1) rfl
          go_wp2_with (go_at_call 31; refine (HOF.out _).mono ?_; rintro e w2 ⟨rfl, hb2⟩; (have HT2 := Lib.hid (HT.out.go hb2); have HB2 := Lib.hid (HB1.out.st hb2)); obtain ⟨t0, t1, t2, t3, t4, g0, g1, g2, g3, g4⟩ := HT2.out)
          have r0 := (HT2.out).set5 (.int .i64 f) (.string ⟨#[]⟩) (.slice none 0 0) (.slice none 0 0) (.slice none 0 0)
          obtain ⟨r0, r1, r2, r3, r4, -⟩ := r0
          refine bodyPost_ret (v := .tuple #[.agg #[.int .i64 f, .string ⟨#[]⟩, .slice none 0 0, .slice none 0 0, .slice none 0 0], .int .i64 0]) (by simp [results, Tryz.results9, go_sem, r0, r1, r2, r3, r4]; try rfl) rfl ?_
          exact ⟨_, by rw [HV.out], by rw [HV.out]; exact rep0_V _ _, bel_set5 HB2.out (Nat.le_refl _) _ _ _ _ _⟩
      | false =>
        have HV := Lib.hid (show p = (rep0, 3) by rw [hV2]; rfl)
        clear hV2
        go_enter Tryz.func9, Tryz.ntmps9
        go_wp2_with fail
        obtain ⟨W0, hW0⟩ : ∃ W0, W0 = w.alloc (Obj.cells #[.int .i64 0, .string ⟨#[]⟩, .slice none 0 0, .slice none 0 0, .slice none 0 0] 28) := ⟨_, rfl⟩
        rw [← hW0]
        refine (HS.out _).mono ?_
        rintro e w1 ⟨rfl, hw1⟩
        have HT := Lib.hid (show P5 w1 w.heap.size (.int .i64 0) (.string ⟨#[]⟩) (.slice none 0 0) (.slice none 0 0) (.slice none 0 0) by rw [hw1, hW0]; exact (P5.new _ _ _ _ _ _ _).go (Below.of_al _ _))
        have HB1 := Lib.hid (show Below w.heap.size w w1 by rw [hw1, hW0]; exact (Below.of_al _ _).al _)
        have HZ1 := Lib.hid (show w1.heap.size = w.heap.size + 2 by rw [hw1, hW0]; simp)
        have HC1 := Lib.hid (show Cel w1 (some ⟨W0.heap.size, 0, none⟩) _ by rw [hw1]; exact cel_new _ _ _ _)
        have hWb : W0.heap.size = w.heap.size + 1 := by rw [hW0]; simp
        rw [hWb] at HC1
        rw [hWb]
        clear hw1 hW0 hWb HS
        have c0 := cel_get HC1.out (i := 0) rfl
        have c1 := cel_get HC1.out (i := 1) rfl
        go_wp2_with (go_at_call 31; refine (HOF.out _).mono ?_; rintro e w2 ⟨rfl, hb2⟩; (have HT2 := Lib.hid (HT.out.go hb2); have HB2 := Lib.hid (HB1.out.st hb2)); obtain ⟨t0, t1, t2, t3, t4, g0, g1, g2, g3, g4⟩ := HT2.out)
        have r0 := (HT2.out).set5 (.int .i64 0) (.string ⟨#[]⟩) (.slice none 0 0) (.slice none 0 0) (.slice none 0 0)
        obtain ⟨r0, r1, r2, r3, r4, -⟩ := r0
        refine bodyPost_ret (v := .tuple #[.agg #[.int .i64 0, .string ⟨#[]⟩, .slice none 0 0, .slice none 0 0, .slice none 0 0], .int .i64 3]) (by simp [results, Tryz.results9, go_sem, r0, r1, r2, r3, r4]; try rfl) rfl ?_
        exact ⟨_, by rw [HV.out], by rw [HV.out]; exact rep0_V _ _, bel_set5 HB2.out (Nat.le_refl _) _ _ _ _ _⟩
    · rw [if_neg hae] at hV2
      rw [decide_eq_false hae] at he
      by_cases hak : a = okW
      · rw [decide_eq_true hak] at hk
        cases hw : wordB b with
        | true =>
          have HV := Lib.hid (show p = ({ rep0 with name := b }, 0) by rw [hV2, if_pos ⟨hak, hw⟩])
          rw [hw] at HRT
          clear hV2 hw hak hae hbz HOF
          go_enter Tryz.func9, Tryz.ntmps9
          go_wp2_with fail
          obtain ⟨W0, hW0⟩ : ∃ W0, W0 = w.alloc (Obj.cells #[.int .i64 0, .string ⟨#[]⟩, .slice none 0 0, .slice none 0 0, .slice none 0 0] 28) := ⟨_, rfl⟩
          rw [← hW0]
          refine (HS.out _).mono ?_
          rintro e w1 ⟨rfl, hw1⟩
          have HT := Lib.hid (show P5 w1 w.heap.size (.int .i64 0) (.string ⟨#[]⟩) (.slice none 0 0) (.slice none 0 0) (.slice none 0 0) by rw [hw1, hW0]; exact (P5.new _ _ _ _ _ _ _).go (Below.of_al _ _))
          have HB1 := Lib.hid (show Below w.heap.size w w1 by rw [hw1, hW0]; exact (Below.of_al _ _).al _)
          have HZ1 := Lib.hid (show w1.heap.size = w.heap.size + 2 by rw [hw1, hW0]; simp)
          have HC1 := Lib.hid (show Cel w1 (some ⟨W0.heap.size, 0, none⟩) _ by rw [hw1]; exact cel_new _ _ _ _)
          have hWb : W0.heap.size = w.heap.size + 1 := by rw [hW0]; simp
          rw [hWb] at HC1
          rw [hWb]
          clear hw1 hW0 hWb HS
          have c0 := cel_get HC1.out (i := 0) rfl
          have c1 := cel_get HC1.out (i := 1) rfl
          go_wp2_with (go_at_call 32; refine (HRT.out _).mono ?_; rintro e w2 ⟨rfl, hb2⟩; have c1b := cell_later hb2 c1)
          obtain ⟨R, hR⟩ : ∃ R, R = w2.heap.size := ⟨_, rfl⟩
          obtain ⟨W4, hW4⟩ : ∃ W4, W4 = (w2.alloc (Obj.cells #[.int .i64 0, .string b, .slice none 0 0, .slice none 0 0, .slice none 0 0] 28)).alloc (Obj.cells #[.int .i64 0] 3) := ⟨_, rfl⟩
          have HP := Lib.hid (show P5 W4 R (.int .i64 0) (.string b) (.slice none 0 0) (.slice none 0 0) (.slice none 0 0) by rw [hW4, hR]; exact (P5.new _ _ _ _ _ _ _).go (Below.of_al _ _))
          have HA := Lib.hid (show P1 W4 (R + 1) (.int .i64 0) by rw [hW4, hR]; exact ⟨by go_simp, by go_simp⟩)
          have hbl : Below w2.heap.size w2 W4 := by rw [hW4]; exact (Below.of_al _ _).al _
          have HT4 := Lib.hid ((HT.out.go hb2).go hbl)
          have HC4 := Lib.hid ((HC1.out.go hb2).go hbl)
          have HB4 := Lib.hid ((HB1.out.st hb2).st hbl)
          have HZ4 := Lib.hid (show W4.heap.size = R + 2 by rw [hW4, hR]; simp)
          have HR4 := Lib.hid (show w.heap.size + 2 ≤ R by rw [hR]; have := hb2.size; have := HZ1.out; omega)
          rw [← hW4, ← hR]
          clear hW4 hR hbl hb2 HT HC1 HB1 HZ1 c0 c1 c1b HRT
          refine wp_loop_rounds 1 ?_
          rw [rounds_succ]
          obtain ⟨p0, p1, p2, p3, p4, f0, f1, f2, f3, f4⟩ := HP.out
          obtain ⟨t0, t1, t2, t3, t4, g0, g1, g2, g3, g4⟩ := HT4.out
          go_wp2
          have r0 := (HT4.out).set5 (.int .i64 (0)) (.string b) (.slice none 0 0) (.slice none 0 0) (.slice none 0 0)
          obtain ⟨r0, r1, r2, r3, r4, -⟩ := r0
          refine bodyPost_ret (v := .tuple #[.agg #[.int .i64 (0), .string b, .slice none 0 0, .slice none 0 0, .slice none 0 0], .int .i64 0]) (by simp [results, Tryz.results9, go_sem, r0, r1, r2, r3, r4]; try rfl) rfl ?_
          exact ⟨_, by rw [HV.out], by rw [HV.out]; exact ⟨none, 0, none, 0, none, 0, [], rfl, Cel.nil _ _, Cel.nil _ _, Cel.nil _ _, rfl, fun _ h => by cases h⟩, bel_set5 HB4.out (Nat.le_refl _) _ _ _ _ _⟩
        | false =>
          have HV := Lib.hid (show p = (rep0, 3) by rw [hV2, if_neg (fun h => by rw [hw] at h; simp at h)])
          rw [hw] at HRT
          clear hV2 hw hak hae hbz HOF
          go_enter Tryz.func9, Tryz.ntmps9
          go_wp2_with fail
          obtain ⟨W0, hW0⟩ : ∃ W0, W0 = w.alloc (Obj.cells #[.int .i64 0, .string ⟨#[]⟩, .slice none 0 0, .slice none 0 0, .slice none 0 0] 28) := ⟨_, rfl⟩
          rw [← hW0]
          refine (HS.out _).mono ?_
          rintro e w1 ⟨rfl, hw1⟩
          have HT := Lib.hid (show P5 w1 w.heap.size (.int .i64 0) (.string ⟨#[]⟩) (.slice none 0 0) (.slice none 0 0) (.slice none 0 0) by rw [hw1, hW0]; exact (P5.new _ _ _ _ _ _ _).go (Below.of_al _ _))
          have HB1 := Lib.hid (show Below w.heap.size w w1 by rw [hw1, hW0]; exact (Below.of_al _ _).al _)
          have HZ1 := Lib.hid (show w1.heap.size = w.heap.size + 2 by rw [hw1, hW0]; simp)
          have HC1 := Lib.hid (show Cel w1 (some ⟨W0.heap.size, 0, none⟩) _ by rw [hw1]; exact cel_new _ _ _ _)
          have hWb : W0.heap.size = w.heap.size + 1 := by rw [hW0]; simp
          rw [hWb] at HC1
          rw [hWb]
          clear hw1 hW0 hWb HS
          have c0 := cel_get HC1.out (i := 0) rfl
          have c1 := cel_get HC1.out (i := 1) rfl
          go_wp2_with (go_at_call 32; refine (HRT.out _).mono ?_; rintro e w2 ⟨rfl, hb2⟩; (have HT2 := Lib.hid (HT.out.go hb2); have HB2 := Lib.hid (HB1.out.st hb2)); obtain ⟨t0, t1, t2, t3, t4, g0, g1, g2, g3, g4⟩ := HT2.out)
          have r0 := (HT2.out).set5 (.int .i64 0) (.string ⟨#[]⟩) (.slice none 0 0) (.slice none 0 0) (.slice none 0 0)
          obtain ⟨r0, r1, r2, r3, r4, -⟩ := r0
          refine bodyPost_ret (v := .tuple #[.agg #[.int .i64 0, .string ⟨#[]⟩, .slice none 0 0, .slice none 0 0, .slice none 0 0], .int .i64 3]) (by simp [results, Tryz.results9, go_sem, r0, r1, r2, r3, r4]; try rfl) rfl ?_
          exact ⟨_, by rw [HV.out], by rw [HV.out]; exact rep0_V _ _, bel_set5 HB2.out (Nat.le_refl _) _ _ _ _ _⟩
      · have HV := Lib.hid (show p = (rep0, 3) by rw [hV2, if_neg (fun h => hak h.1)])
        rw [decide_eq_false hak] at hk
        clear hV2 hak hae hbz HOF HRT
        go_enter Tryz.func9, Tryz.ntmps9
        go_wp2_with fail
        obtain ⟨W0, hW0⟩ : ∃ W0, W0 = w.alloc (Obj.cells #[.int .i64 0, .string ⟨#[]⟩, .slice none 0 0, .slice none 0 0, .slice none 0 0] 28) := ⟨_, rfl⟩
        rw [← hW0]
        refine (HS.out _).mono ?_
        rintro e w1 ⟨rfl, hw1⟩
        have HT := Lib.hid (show P5 w1 w.heap.size (.int .i64 0) (.string ⟨#[]⟩) (.slice none 0 0) (.slice none 0 0) (.slice none 0 0) by rw [hw1, hW0]; exact (P5.new _ _ _ _ _ _ _).go (Below.of_al _ _))
        have HB1 := Lib.hid (show Below w.heap.size w w1 by rw [hw1, hW0]; exact (Below.of_al _ _).al _)
        have HZ1 := Lib.hid (show w1.heap.size = w.heap.size + 2 by rw [hw1, hW0]; simp)
        have HC1 := Lib.hid (show Cel w1 (some ⟨W0.heap.size, 0, none⟩) _ by rw [hw1]; exact cel_new _ _ _ _)
        have hWb : W0.heap.size = w.heap.size + 1 := by rw [hW0]; simp
        rw [hWb] at HC1
        rw [hWb]
        clear hw1 hW0 hWb HS
        have c0 := cel_get HC1.out (i := 0) rfl
        have c1 := cel_get HC1.out (i := 1) rfl
        obtain ⟨t0, t1, t2, t3, t4, g0, g1, g2, g3, g4⟩ := HT.out
        go_wp2
        have r0 := (HT.out).set5 (.int .i64 0) (.string ⟨#[]⟩) (.slice none 0 0) (.slice none 0 0) (.slice none 0 0)
        obtain ⟨r0, r1, r2, r3, r4, -⟩ := r0
        refine bodyPost_ret (v := .tuple #[.agg #[.int .i64 0, .string ⟨#[]⟩, .slice none 0 0, .slice none 0 0, .slice none 0 0], .int .i64 3]) (by simp [results, Tryz.results9, go_sem, r0, r1, r2, r3, r4]; try rfl) rfl ?_
        exact ⟨_, by rw [HV.out], by rw [HV.out]; exact rep0_V _ _, bel_set5 HB1.out (Nat.le_refl _) _ _ _ _ _⟩
  | a :: b :: d :: rest, _ =>
    have hV2 : p = if a = okW ∧ wordB b then (match foldR 0 { rep0 with name := b } (d :: rest) with | some r => ((r, 0) : RepD × Int) | none => (rep0, 3)) else (rep0, 3) := hV
    have hbz : b.size ≤ 10000 := by have := hsz b (by simp); omega
    have hk := byt_eq (a := a) (c := okW) (l := [111, 107]) rfl
    have HRT := Lib.hid (fun W => Right_any b W (by omega))
    obtain ⟨tl, htl⟩ : ∃ tl, tl = d :: rest := ⟨_, rfl⟩
    have hpos : 1 ≤ tl.length := by rw [htl]; simp
    rw [← htl] at hlg hsz hct hV2
    clear hV htl
    obtain ⟨n, hn⟩ : ∃ n, n = tl.length + 2 := ⟨_, rfl⟩
    have HS := Lib.hid (show ∀ W, Calls Tryz.prog 30 #[.string s, .string ⟨#[32]⟩] W fun e w' => e = .returned (.slice (some ⟨W.heap.size, 0, none⟩) n n) ∧ w' = W.alloc (.cells ((a :: b :: tl).map encS).toArray 9) from by rw [hn]; exact hlg)
    have hn2 : ((n : Int) == 2) = false := by rw [beq_eq_false_iff_ne]; omega
    have hn3 : ¬ (n : Int) < 2 := by omega
    have hn4 : (2 : Int) ≤ (n : Int) := by omega
    have hn5 : (0 : Int) < (n : Int) := by omega
    have hn6 : (1 : Int) < (n : Int) := by omega
    have hn7 : ¬ n = 2 := by omega
    have hts : ∀ x ∈ tl, x.size ≤ 10000 := fun x hx => by have := hsz x (by simp [hx]); omega
    have htn : tl.length ≤ 10001 := by simp at hct; omega
    clear hlg hsz hct
    by_cases hak : a = okW
    · rw [decide_eq_true hak] at hk
      cases hw : wordB b with
      | true =>
        have HF := Lib.hid (show p = (match foldR 0 { rep0 with name := b } tl with | some r => ((r, 0) : RepD × Int) | none => (rep0, 3)) by rw [hV2, if_pos ⟨hak, hw⟩])
        rw [hw] at HRT
        have HN := Lib.hid hn
        clear hV2 hw hak hbz hn
        go_enter Tryz.func9, Tryz.ntmps9
        go_wp2_with fail
        obtain ⟨W0, hW0⟩ : ∃ W0, W0 = w.alloc (Obj.cells #[.int .i64 0, .string ⟨#[]⟩, .slice none 0 0, .slice none 0 0, .slice none 0 0] 28) := ⟨_, rfl⟩
        rw [← hW0]
        refine (HS.out _).mono ?_
        rintro e w1 ⟨rfl, hw1⟩
        have HT := Lib.hid (show P5 w1 w.heap.size (.int .i64 0) (.string ⟨#[]⟩) (.slice none 0 0) (.slice none 0 0) (.slice none 0 0) by rw [hw1, hW0]; exact (P5.new _ _ _ _ _ _ _).go (Below.of_al _ _))
        have HB1 := Lib.hid (show Below w.heap.size w w1 by rw [hw1, hW0]; exact (Below.of_al _ _).al _)
        have HZ1 := Lib.hid (show w1.heap.size = w.heap.size + 2 by rw [hw1, hW0]; simp)
        have HC1 := Lib.hid (show Cel w1 (some ⟨W0.heap.size, 0, none⟩) _ by rw [hw1]; exact cel_new _ _ _ _)
        have hWb : W0.heap.size = w.heap.size + 1 := by rw [hW0]; simp
        rw [hWb] at HC1
        rw [hWb]
        clear hw1 hW0 hWb HS
        have c0 := cel_get HC1.out (i := 0) rfl
        have c1 := cel_get HC1.out (i := 1) rfl
        go_wp2_with (go_at_call 32; refine (HRT.out _).mono ?_; rintro e w2 ⟨rfl, hb2⟩; have c1b := cell_later hb2 c1)
        obtain ⟨R, hR⟩ : ∃ R, R = w2.heap.size := ⟨_, rfl⟩
        obtain ⟨W4, hW4⟩ : ∃ W4, W4 = (w2.alloc (Obj.cells #[.int .i64 0, .string b, .slice none 0 0, .slice none 0 0, .slice none 0 0] 28)).alloc (Obj.cells #[.int .i64 0] 3) := ⟨_, rfl⟩
        have HP := Lib.hid (show P5 W4 R (.int .i64 0) (.string b) (.slice none 0 0) (.slice none 0 0) (.slice none 0 0) by rw [hW4, hR]; exact (P5.new _ _ _ _ _ _ _).go (Below.of_al _ _))
        have HA := Lib.hid (show P1 W4 (R + 1) (.int .i64 0) by rw [hW4, hR]; exact ⟨by go_simp, by go_simp⟩)
        have hbl : Below w2.heap.size w2 W4 := by rw [hW4]; exact (Below.of_al _ _).al _
        have HT4 := Lib.hid ((HT.out.go hb2).go hbl)
        have HC4 := Lib.hid ((HC1.out.go hb2).go hbl)
        have HB4 := Lib.hid ((HB1.out.st hb2).st hbl)
        have HZ4 := Lib.hid (show W4.heap.size = R + 2 by rw [hW4, hR]; simp)
        have HR4 := Lib.hid (show w.heap.size + 2 ≤ R by rw [hR]; have := hb2.size; have := HZ1.out; omega)
        rw [← hW4, ← hR]
        clear hW4 hR hbl hb2 HT HC1 HB1 HZ1 c0 c1 c1b HRT
        have HCL := Lib.hid (fun k (hk : k < tl.length) W (hb : Below R W4 W) => (show W.cell? ⟨w.heap.size + 1, 2 + k, none⟩ = some (.string tl[k]) from (by
          have h1 := cel_get HC4.out (i := 2 + k) (v := .string tl[k]) (by
            rw [show 2 + k = (k + 1) + 1 by omega]
            simp [encS, hk])
          rw [← h1]
          exact World.cell?_of_block (hb.block (w.heap.size + 1) (by have := HR4.out; omega)))))
        have hn8 : n - 2 = tl.length := by have := HN.out; omega
        have HN8 := Lib.hid hn8
        clear hn8
        go_loopg [61] tl.length (fun g i wr => ∃ (k a' : Nat) (r' : RepD) (vn vr vw : Value) (ts : List RtC), k ≤ tl.length ∧ tl.length - k ≤ g ∧ i = .int .i64 k ∧ a' ≤ 2 ∧ lenR r' ≤ k ∧ r'.f = 0 ∧ Aside (foldR 0 { rep0 with name := b } tl = foldR a' r' (tl.drop k)) ∧ Aside (Row3 wr (R + 2) r' vn vr vw ts) ∧
          Aside (P5 wr R (.int .i64 r'.f) (.string r'.name) vn vr vw) ∧ Aside (P1 wr (R + 1) (.int .i64 a')) ∧ Aside (Below R W4 wr) ∧ Aside (R + 2 ≤ wr.heap.size))
        case atStart => exact ⟨0, 0, { rep0 with name := b }, .slice none 0 0, .slice none 0 0, .slice none 0 0, [], Nat.zero_le _, by omega, by go_num, Nat.zero_le _, Nat.le_refl _, rfl, rfl, Row3.start _ _ _ _, HP.out, HA.out, Below.refl _ _, (show R + 2 ≤ W4.heap.size by have := HZ4.out; omega)⟩
        case round =>
          obtain ⟨k, a', r', vn, vr, vw, ts, hk1, hg, rfl, ha', hlr, hrf, HFD, HRW, HP5, HP1, HBW, HZW⟩ := hrel
          have hk0 : (0 : Int) ≤ (k : Int) := by omega
          by_cases hlt : k < tl.length
          · have hlt3 : (k : Int) < (tl.length : Int) := by omega
            have hlt4 : (k : Int) < ((n - 2 : Nat) : Int) := by have := HN8.out; omega
            have hlt5 : k < n - 2 := by have := HN8.out; omega
            have hlt6 : (k : Int) < (n : Int) - 2 := by have := HN.out; omega
            have hcell := HCL.out k hlt _ HBW.out
            have HST := Lib.hid (HFD.out.trans (foldR_step (a := a') (r := r') hlt))
            have hxz := hts tl[k] (List.getElem_mem hlt)
            generalize tl[k] = x at *
            obtain ⟨e1, e2, e3, e4⟩ := partR_keeps a' r' x
            have HPA := Lib.hid (part_any a' ha' x r' W4 wr (R + 2) R (R + 1) vn vr vw ts hxz (by omega) (by omega) HZW.out (by unfold lenR at hlr; omega) HRW.out HP5.out HP1.out HBW.out (by have := HZ4.out; omega))
            unfold PartPost at HPA
            have HT := Lib.hid (fun W (hb : Below R W4 W) => HT4.out.eq (hb.block w.heap.size (by have := HR4.out; omega)))
            generalize partR a' r' x = q at *
            obtain ⟨a6, r6, ok6⟩ := q
            simp only at e1 e2 e3 e4 HPA HST
            cases ok6 with
            | true =>
              rw [if_pos rfl] at HST
              go_wp2_with (go_at_call 33; refine HPA.out.mono ?_; rintro e w6 ⟨rfl, ⟨vn6, vr6, vw6, ts6, h36, h56⟩, h16, hb6⟩; (have HR6 := Lib.hid h36; have HP6 := Lib.hid h56; have HA6 := Lib.hid h16; have HB6 := Lib.hid hb6; clear h36 h56 h16 hb6))
              go_roundg (tl.length - (k + 1))
              case measure => omega
              case rel => exact ⟨k + 1, a6, r6, vn6, vr6, vw6, ts6, by omega, by omega, by go_num, e4, by omega, by rw [e1]; exact hrf, HST.out, HR6.out, by rw [e1, e2]; exact HP6.out, HA6.out, HB6.out, (show R + 2 ≤ w6.heap.size by have := HB6.out.size; have := HZ4.out; omega)⟩
            | false =>
              rw [if_neg (by simp)] at HST
              have HV := Lib.hid (show p = (rep0, 3) by rw [HF.out, HST.out])
              go_wp2_with (go_at_call 33; refine HPA.out.mono ?_; rintro e w6 ⟨rfl, -, -, hb6⟩; (have HB6 := Lib.hid hb6; clear hb6); obtain ⟨t0, t1, t2, t3, t4, g0, g1, g2, g3, g4⟩ := HT.out _ HB6.out)
              have r0 := ((HT.out _ HB6.out)).set5 (.int .i64 0) (.string ⟨#[]⟩) (.slice none 0 0) (.slice none 0 0) (.slice none 0 0)
              obtain ⟨r0, r1, r2, r3, r4, -⟩ := r0
              refine bodyPost_ret (v := .tuple #[.agg #[.int .i64 0, .string ⟨#[]⟩, .slice none 0 0, .slice none 0 0, .slice none 0 0], .int .i64 3]) (by simp [results, Tryz.results9, go_sem, r0, r1, r2, r3, r4]; try rfl) rfl ?_
              exact ⟨_, by rw [HV.out], by rw [HV.out]; exact rep0_V _ _, bel_set5 (HB4.out.trans (HB6.out.mono (by have := HR4.out; omega))) (Nat.le_refl _) _ _ _ _ _⟩
          · obtain rfl : k = tl.length := by omega
            have hlt3 : ¬ (tl.length : Int) < (tl.length : Int) := by omega
            have hlt4 : ¬ (tl.length : Int) < ((n - 2 : Nat) : Int) := by have := HN8.out; omega
            have hlt5 : ¬ tl.length < n - 2 := by have := HN8.out; omega
            have hlt6 : ¬ (tl.length : Int) < (n : Int) - 2 := by have := HN.out; omega
            have HV := Lib.hid (show p = (r', 0) by rw [HF.out, HFD.out, List.drop_length]; rfl)
            obtain ⟨⟨an, cn, rfl⟩, ⟨ar, cr, rfl⟩, ⟨aw, cw, rfl⟩⟩ := HRW.out.shapes
            clear hrf
            have HTW := Lib.hid (HT4.out.eq (HBW.out.block w.heap.size (by have := HR4.out; omega)))
            obtain ⟨p0, p1, p2, p3, p4, f0, f1, f2, f3, f4⟩ := HP5.out
            obtain ⟨t0, t1, t2, t3, t4, g0, g1, g2, g3, g4⟩ := HTW.out
            go_wp2
            have r0 := (HTW.out).set5 (.int .i64 (r'.f)) (.string r'.name) (.slice an r'.nums.length cn) (.slice ar r'.rts.length cr) (.slice aw r'.words.length cw)
            obtain ⟨r0, r1, r2, r3, r4, -⟩ := r0
            refine bodyPost_ret (v := .tuple #[.agg #[.int .i64 (r'.f), .string r'.name, .slice an r'.nums.length cn, .slice ar r'.rts.length cr, .slice aw r'.words.length cw], .int .i64 0]) (by simp [results, Tryz.results9, go_sem, r0, r1, r2, r3, r4]; try rfl) rfl ?_
            exact ⟨_, by rw [HV.out], by rw [HV.out]; exact (HRW.out.put5 (b := w.heap.size) (by have := HR4.out; omega) _ _ _ _ _).rep, bel_set5 (HB4.out.trans (HBW.out.mono (by have := HR4.out; omega))) (Nat.le_refl _) _ _ _ _ _⟩
      | false =>
        have HV := Lib.hid (show p = (rep0, 3) by rw [hV2, if_neg (fun h => by rw [hw] at h; simp at h)])
        rw [hw] at HRT
        clear hV2 hw hak hbz hn hpos hts htn
        go_enter Tryz.func9, Tryz.ntmps9
        go_wp2_with fail
        obtain ⟨W0, hW0⟩ : ∃ W0, W0 = w.alloc (Obj.cells #[.int .i64 0, .string ⟨#[]⟩, .slice none 0 0, .slice none 0 0, .slice none 0 0] 28) := ⟨_, rfl⟩
        rw [← hW0]
        refine (HS.out _).mono ?_
        rintro e w1 ⟨rfl, hw1⟩
        have HT := Lib.hid (show P5 w1 w.heap.size (.int .i64 0) (.string ⟨#[]⟩) (.slice none 0 0) (.slice none 0 0) (.slice none 0 0) by rw [hw1, hW0]; exact (P5.new _ _ _ _ _ _ _).go (Below.of_al _ _))
        have HB1 := Lib.hid (show Below w.heap.size w w1 by rw [hw1, hW0]; exact (Below.of_al _ _).al _)
        have HZ1 := Lib.hid (show w1.heap.size = w.heap.size + 2 by rw [hw1, hW0]; simp)
        have HC1 := Lib.hid (show Cel w1 (some ⟨W0.heap.size, 0, none⟩) _ by rw [hw1]; exact cel_new _ _ _ _)
        have hWb : W0.heap.size = w.heap.size + 1 := by rw [hW0]; simp
        rw [hWb] at HC1
        rw [hWb]
        clear hw1 hW0 hWb HS
        have c0 := cel_get HC1.out (i := 0) rfl
        have c1 := cel_get HC1.out (i := 1) rfl
        go_wp2_with (go_at_call 32; refine (HRT.out _).mono ?_; rintro e w2 ⟨rfl, hb2⟩; (have HT2 := Lib.hid (HT.out.go hb2); have HB2 := Lib.hid (HB1.out.st hb2)); obtain ⟨t0, t1, t2, t3, t4, g0, g1, g2, g3, g4⟩ := HT2.out)
        have r0 := (HT2.out).set5 (.int .i64 0) (.string ⟨#[]⟩) (.slice none 0 0) (.slice none 0 0) (.slice none 0 0)
        obtain ⟨r0, r1, r2, r3, r4, -⟩ := r0
        refine bodyPost_ret (v := .tuple #[.agg #[.int .i64 0, .string ⟨#[]⟩, .slice none 0 0, .slice none 0 0, .slice none 0 0], .int .i64 3]) (by simp [results, Tryz.results9, go_sem, r0, r1, r2, r3, r4]; try rfl) rfl ?_
        exact ⟨_, by rw [HV.out], by rw [HV.out]; exact rep0_V _ _, bel_set5 HB2.out (Nat.le_refl _) _ _ _ _ _⟩
    · have HV := Lib.hid (show p = (rep0, 3) by rw [hV2, if_neg (fun h => hak h.1)])
      rw [decide_eq_false hak] at hk
      clear hV2 hak hbz HRT hn hpos hts htn
      go_enter Tryz.func9, Tryz.ntmps9
      go_wp2_with fail
      obtain ⟨W0, hW0⟩ : ∃ W0, W0 = w.alloc (Obj.cells #[.int .i64 0, .string ⟨#[]⟩, .slice none 0 0, .slice none 0 0, .slice none 0 0] 28) := ⟨_, rfl⟩
      rw [← hW0]
      refine (HS.out _).mono ?_
      rintro e w1 ⟨rfl, hw1⟩
      have HT := Lib.hid (show P5 w1 w.heap.size (.int .i64 0) (.string ⟨#[]⟩) (.slice none 0 0) (.slice none 0 0) (.slice none 0 0) by rw [hw1, hW0]; exact (P5.new _ _ _ _ _ _ _).go (Below.of_al _ _))
      have HB1 := Lib.hid (show Below w.heap.size w w1 by rw [hw1, hW0]; exact (Below.of_al _ _).al _)
      have HZ1 := Lib.hid (show w1.heap.size = w.heap.size + 2 by rw [hw1, hW0]; simp)
      have HC1 := Lib.hid (show Cel w1 (some ⟨W0.heap.size, 0, none⟩) _ by rw [hw1]; exact cel_new _ _ _ _)
      have hWb : W0.heap.size = w.heap.size + 1 := by rw [hW0]; simp
      rw [hWb] at HC1
      rw [hWb]
      clear hw1 hW0 hWb HS
      have c0 := cel_get HC1.out (i := 0) rfl
      have c1 := cel_get HC1.out (i := 1) rfl
      obtain ⟨t0, t1, t2, t3, t4, g0, g1, g2, g3, g4⟩ := HT.out
      go_wp2
      have r0 := (HT.out).set5 (.int .i64 0) (.string ⟨#[]⟩) (.slice none 0 0) (.slice none 0 0) (.slice none 0 0)
      obtain ⟨r0, r1, r2, r3, r4, -⟩ := r0
      refine bodyPost_ret (v := .tuple #[.agg #[.int .i64 0, .string ⟨#[]⟩, .slice none 0 0, .slice none 0 0, .slice none 0 0], .int .i64 3]) (by simp [results, Tryz.results9, go_sem, r0, r1, r2, r3, r4]; try rfl) rfl ?_
      exact ⟨_, by rw [HV.out], by rw [HV.out]; exact rep0_V _ _, bel_set5 HB1.out (Nat.le_refl _) _ _ _ _ _⟩

end Go.Proofs.YtelcmkccfjdmjaaGreatDoor
