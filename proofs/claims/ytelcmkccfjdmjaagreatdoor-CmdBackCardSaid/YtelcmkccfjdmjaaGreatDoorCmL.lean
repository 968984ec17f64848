/-
  Walk of the reference of package cmd: Parse.
  Walk of the reference of package cmd: Parse, where words of kinds stand behind the name.
  Walks: are two graphs the same, are two commands, by the reference.
  Walk of the reference of package cmd: are two commands the same.
-/
import Derived.Test.YtelcmkccfjdmjaaGreatDoorProg
import Derived.Test.YtelcmkccfjdmjaaGreatDoorCmJ
import Derived.Deep.Cut
import Derived.Deep.RegionHeld3
import Derived.Test.YtelcmkccfjdmjaaGreatDoorSame
import Derived.Laws.StructEq
namespace Go.Proofs.YtelcmkccfjdmjaaGreatDoor
open Go Go.Proofs Go.RowKit Go.Shelf Go.Sort

/-- the commands but for those whose words are of kinds -/
def cmN (nm : ByteArray) : List Value := [.string nm, .slice none 0 0, .int .u64 0, .slice none 0 0, .int .i64 0, .slice none 0 0, .slice none 0 0]
set_option maxRecDepth 100000 in
set_option maxHeartbeats 4000000 in
theorem refCmdParse_none (s : ByteArray) (w : World) (hs : s.size ≤ 65536) (h : (wordsF s).2 ≠ 0 ∨ (wordsF s).1 = []) :
    Calls Tryz.prog 64 #[.string s] w (CParsePost w (parseC s)) := by
  have HW := Lib.hid (fun W => refWords_own s W (by omega))
  unfold parseC
  unfold WordsPostC at HW
  generalize wordsF s = r at *
  obtain ⟨l, f⟩ := r
  simp only at HW h ⊢
  by_cases hf : f = 0
  · subst hf
    rw [if_neg (fun h => h rfl)]
    have hl : l = [] := h.resolve_left (fun h => h rfl)
    subst hl
    simp only
    go_enter Tryz.func64, Tryz.ntmps64
    go_wp2_with fail
    (refine (HW.out _).mono ?_; rintro e w1 ⟨ao1, cap1, rfl, hc1, hb1, hcp1⟩; (have HP1 := Lib.hid ((PB.new7 w 60 _ _ _ _ _ _ _).go hb1)); (have HB1 := Lib.hid ((Below.of_al w (Obj.cells #[.string ⟨#[]⟩, .slice none 0 0, .int .u64 0, .slice none 0 0, .int .i64 0, .slice none 0 0, .slice none 0 0] 60)).st hb1)); (have HC1 := Lib.hid hc1); (have HZ1 := Lib.hid (show w.heap.size + 1 ≤ w1.heap.size by have := hb1.size; simp at this; omega)); clear hb1 hc1)
    obtain ⟨p0, q0⟩ := HP1.out 0 _ rfl
    obtain ⟨p1, q1⟩ := HP1.out 1 _ rfl
    obtain ⟨p2, q2⟩ := HP1.out 2 _ rfl
    obtain ⟨p3, q3⟩ := HP1.out 3 _ rfl
    obtain ⟨p4, q4⟩ := HP1.out 4 _ rfl
    obtain ⟨p5, q5⟩ := HP1.out 5 _ rfl
    obtain ⟨p6, q6⟩ := HP1.out 6 _ rfl
    go_wp2
    have hr7 := (HP1.out).set7 rfl (.string ⟨#[]⟩) (.slice none 0 0) (.int .u64 0) (.slice none 0 0) (.int .i64 0) (.slice none 0 0) (.slice none 0 0)
    obtain ⟨r0, -⟩ := hr7 0 _ rfl
    obtain ⟨r1, -⟩ := hr7 1 _ rfl
    obtain ⟨r2, -⟩ := hr7 2 _ rfl
    obtain ⟨r3, -⟩ := hr7 3 _ rfl
    obtain ⟨r4, -⟩ := hr7 4 _ rfl
    obtain ⟨r5, -⟩ := hr7 5 _ rfl
    obtain ⟨r6, -⟩ := hr7 6 _ rfl
    refine bodyPost_ret (v := .tuple #[.agg #[.string ⟨#[]⟩, .slice none 0 0, .int .u64 0, .slice none 0 0, .int .i64 0, .slice none 0 0, .slice none 0 0], .int .i64 3]) (by simp [results, Tryz.results64, go_sem, r0, r1, r2, r3, r4, r5, r6]; try rfl) rfl ?_
    exact ⟨_, CmV.zero _, rfl, bel_set7 HB1.out (Nat.le_refl _) _ _ _ _ _ _ _⟩
  · rw [if_pos hf]
    have hf2 : (f != 0) = true := by simpa using hf
    clear h
    go_enter Tryz.func64, Tryz.ntmps64
    go_wp2_with fail
    (refine (HW.out _).mono ?_; rintro e w1 ⟨ao1, cap1, rfl, hc1, hb1, hcp1⟩; (have HP1 := Lib.hid ((PB.new7 w 60 _ _ _ _ _ _ _).go hb1)); (have HB1 := Lib.hid ((Below.of_al w (Obj.cells #[.string ⟨#[]⟩, .slice none 0 0, .int .u64 0, .slice none 0 0, .int .i64 0, .slice none 0 0, .slice none 0 0] 60)).st hb1)); (have HC1 := Lib.hid hc1); (have HZ1 := Lib.hid (show w.heap.size + 1 ≤ w1.heap.size by have := hb1.size; simp at this; omega)); clear hb1 hc1)
    obtain ⟨p0, q0⟩ := HP1.out 0 _ rfl
    obtain ⟨p1, q1⟩ := HP1.out 1 _ rfl
    obtain ⟨p2, q2⟩ := HP1.out 2 _ rfl
    obtain ⟨p3, q3⟩ := HP1.out 3 _ rfl
    obtain ⟨p4, q4⟩ := HP1.out 4 _ rfl
    obtain ⟨p5, q5⟩ := HP1.out 5 _ rfl
    obtain ⟨p6, q6⟩ := HP1.out 6 _ rfl
    go_wp2
    have hr7 := (HP1.out).set7 rfl (.string ⟨#[]⟩) (.slice none 0 0) (.int .u64 0) (.slice none 0 0) (.int .i64 0) (.slice none 0 0) (.slice none 0 0)
    obtain ⟨r0, -⟩ := hr7 0 _ rfl
    obtain ⟨r1, -⟩ := hr7 1 _ rfl
    obtain ⟨r2, -⟩ := hr7 2 _ rfl
    obtain ⟨r3, -⟩ := hr7 3 _ rfl
    obtain ⟨r4, -⟩ := hr7 4 _ rfl
    obtain ⟨r5, -⟩ := hr7 5 _ rfl
    obtain ⟨r6, -⟩ := hr7 6 _ rfl
    refine bodyPost_ret (v := .tuple #[.agg #[.string ⟨#[]⟩, .slice none 0 0, .int .u64 0, .slice none 0 0, .int .i64 0, .slice none 0 0, .slice none 0 0], .int .i64 f]) (by simp [results, Tryz.results64, go_sem, r0, r1, r2, r3, r4, r5, r6]; try rfl) rfl ?_
    exact ⟨_, CmV.zero _, rfl, bel_set7 HB1.out (Nat.le_refl _) _ _ _ _ _ _ _⟩

set_option maxRecDepth 100000 in
set_option maxHeartbeats 4000000 in
theorem refCmdParse_unknown (s a : ByteArray) (tl : List ByteArray) (w : World) (hs : s.size ≤ 65536) (h : wordsF s = (a :: tl, 0)) (hk : isNm (upS a) = false) :
    Calls Tryz.prog 64 #[.string s] w (CParsePost w (cmd0, 10)) := by
  have HW := Lib.hid (fun W => refWords_own s W (by omega))
  have hsz := wordsF_sz s
  unfold WordsPostC at HW
  rw [h] at HW hsz
  simp only at HW hsz
  have HSZ := Lib.hid hsz
  have HA := Lib.hid (hsz.1 a (by simp))
  have hl2 : tl.length + 1 ≤ 65536 := by have := hsz.2; simp at this; omega
  have HU := Lib.hid (fun W => refUpper_any a W (by have := HA.out; omega))
  have HKN := Lib.hid (fun W => refKnown_any (upS a) W)
  clear hsz h
  rw [hk] at HKN
  clear hk
  generalize upS a = nm at *
  go_enter Tryz.func64, Tryz.ntmps64
  go_wp2_with fail
  (refine (HW.out _).mono ?_; rintro e w1 ⟨ao1, cap1, rfl, hc1, hb1, hcp1⟩; (have HP1 := Lib.hid ((PB.new7 w 60 _ _ _ _ _ _ _).go hb1)); (have HB1 := Lib.hid ((Below.of_al w (Obj.cells #[.string ⟨#[]⟩, .slice none 0 0, .int .u64 0, .slice none 0 0, .int .i64 0, .slice none 0 0, .slice none 0 0] 60)).st hb1)); (have HC1 := Lib.hid hc1); (have HZ1 := Lib.hid (show w.heap.size + 1 ≤ w1.heap.size by have := hb1.size; simp at this; omega)); clear hb1 hc1)
  obtain ⟨bw, ow, rfl, hcw⟩ := HC1.out.at (i := 0) (by simp)
  simp only [Nat.add_zero, List.getElem_cons_zero] at hcw
  have hbw : bw < w1.heap.size := World.block_lt_of_cell? _ _ hcw
  go_wp2_with fail
  refine (HU.out _).mono ?_
  rintro e w2 ⟨rfl, hb2⟩
  go_wp2_with fail
  obtain ⟨W3, hW3⟩ : ∃ W3, W3 = w2.alloc (Obj.cells #[.string nm, .slice none 0 0, .int .u64 0, .slice none 0 0, .int .i64 0, .slice none 0 0, .slice none 0 0] 60) := ⟨_, rfl⟩
  have hb3 : Below w2.heap.size w2 W3 := by rw [hW3]; exact Below.of_al _ _
  have HR3 := Lib.hid (show PB W3 w2.heap.size (cmN nm) by rw [hW3]; exact PB.new7 _ _ _ _ _ _ _ _ _)
  have HP3 := Lib.hid ((HP1.out.go hb2).go hb3)
  have HB3 := Lib.hid ((HB1.out.st hb2).st hb3)
  have HC3 := Lib.hid ((HC1.out.go hb2).go hb3)
  have HZ3 := Lib.hid (show W3.heap.size = w2.heap.size + 1 by rw [hW3]; simp)
  have hbb : bw < w2.heap.size := by have := hb2.size; omega
  have HZ2 := Lib.hid (show w.heap.size + 1 ≤ w2.heap.size by have := hb2.size; have := HZ1.out; omega)
  rw [← hW3]
  clear hW3 hb3 hb2 HP1 HB1 HC1 hcw hbw HZ1
  generalize w2.heap.size = b at *
  refine (HKN.out _).mono ?_
  rintro e w4 ⟨rfl, hb4⟩
  have HP4 := Lib.hid (HP3.out.go hb4)
  have HB4 := Lib.hid (HB3.out.st hb4)
  have HR4 := Lib.hid (HR3.out.go hb4)
  have HC4 := Lib.hid (HC3.out.go hb4)
  have HZ4 := Lib.hid (show b < w4.heap.size by have := hb4.size; have := HZ3.out; omega)
  clear hb4 HP3 HB3 HR3 HC3 HZ3
  obtain ⟨p0, q0⟩ := HP4.out 0 _ rfl
  obtain ⟨p1, q1⟩ := HP4.out 1 _ rfl
  obtain ⟨p2, q2⟩ := HP4.out 2 _ rfl
  obtain ⟨p3, q3⟩ := HP4.out 3 _ rfl
  obtain ⟨p4, q4⟩ := HP4.out 4 _ rfl
  obtain ⟨p5, q5⟩ := HP4.out 5 _ rfl
  obtain ⟨p6, q6⟩ := HP4.out 6 _ rfl
  go_wp2
  have hr7 := (HP4.out).set7 rfl (.string ⟨#[]⟩) (.slice none 0 0) (.int .u64 0) (.slice none 0 0) (.int .i64 0) (.slice none 0 0) (.slice none 0 0)
  obtain ⟨r0, -⟩ := hr7 0 _ rfl
  obtain ⟨r1, -⟩ := hr7 1 _ rfl
  obtain ⟨r2, -⟩ := hr7 2 _ rfl
  obtain ⟨r3, -⟩ := hr7 3 _ rfl
  obtain ⟨r4, -⟩ := hr7 4 _ rfl
  obtain ⟨r5, -⟩ := hr7 5 _ rfl
  obtain ⟨r6, -⟩ := hr7 6 _ rfl
  refine bodyPost_ret (v := .tuple #[.agg #[.string ⟨#[]⟩, .slice none 0 0, .int .u64 0, .slice none 0 0, .int .i64 0, .slice none 0 0, .slice none 0 0], .int .i64 10]) (by simp [results, Tryz.results64, go_sem, r0, r1, r2, r3, r4, r5, r6]; try rfl) rfl ?_
  exact ⟨_, CmV.zero _, rfl, bel_set7 HB4.out (Nat.le_refl _) _ _ _ _ _ _ _⟩

theorem parseC_some {s a : ByteArray} {tl : List ByteArray} (h : wordsF s = (a :: tl, 0)) (hk : isNm (upS a) = true) : parseC s = restC (upS a) tl := by
  unfold parseC
  rw [h, if_neg (fun h => h rfl)]
  simp only
  rw [if_pos hk]

set_option maxRecDepth 100000 in
set_option maxHeartbeats 4000000 in
theorem refCmdParse_load (s a : ByteArray) (tl : List ByteArray) (w : World) (hs : s.size ≤ 65536) (h : wordsF s = (a :: tl, 0)) (hk : isNm (upS a) = true) (hl : upS a = loadC) :
    Calls Tryz.prog 64 #[.string s] w (CParsePost w (restC loadC tl)) := by
  have HW := Lib.hid (fun W => refWords_own s W (by omega))
  have hsz := wordsF_sz s
  unfold WordsPostC at HW
  rw [h] at HW hsz
  simp only at HW hsz
  have HSZ := Lib.hid hsz
  have HA := Lib.hid (hsz.1 a (by simp))
  have hl2 : tl.length + 1 ≤ 65536 := by have := hsz.2; simp at this; omega
  have HU := Lib.hid (fun W => refUpper_any a W (by have := HA.out; omega))
  have HKN := Lib.hid (fun W => refKnown_any (upS a) W)
  clear hsz h
  rw [hk] at HKN
  clear hk
  have f0 : ((upS a).toList == ([76, 79, 65, 68] : List UInt8)) = true := (cm_byt (a := upS a) (c := loadC) (l := [76, 79, 65, 68]) rfl).trans (decide_eq_true hl)
  have hr : restC loadC tl = if (parseG tl).2.2 = 0 then ({ cmd0 with name := loadC, gn := (parseG tl).1.n, ge := (parseG tl).1.es }, 0) else (cmd0, (parseG tl).2.2) := if_pos rfl
  have HG := Lib.hid (fun ao cap W h => refGParse_own tl ao cap W h (fun x hx => by have := HSZ.out.1 x (by simp [hx]); omega) (by omega))
  rw [hr, ← hl]
  clear hr hl
  unfold GPPostF at HG
  generalize parseG tl = q at *
  obtain ⟨r, hr⟩ : ∃ r, r = if q.2.2 = 0 then (({ cmd0 with name := upS a, gn := q.1.n, ge := q.1.es }, 0) : CmD × Int) else (cmd0, q.2.2) := ⟨_, rfl⟩
  rw [← hr]
  have HV := Lib.hid hr
  clear hr
  obtain ⟨⟨gn, es⟩, k, f⟩ := q
  simp only at HG HV ⊢
  generalize upS a = nm at *
  go_enter Tryz.func64, Tryz.ntmps64
  go_wp2_with fail
  (refine (HW.out _).mono ?_; rintro e w1 ⟨ao1, cap1, rfl, hc1, hb1, hcp1⟩; (have HP1 := Lib.hid ((PB.new7 w 60 _ _ _ _ _ _ _).go hb1)); (have HB1 := Lib.hid ((Below.of_al w (Obj.cells #[.string ⟨#[]⟩, .slice none 0 0, .int .u64 0, .slice none 0 0, .int .i64 0, .slice none 0 0, .slice none 0 0] 60)).st hb1)); (have HC1 := Lib.hid hc1); (have HZ1 := Lib.hid (show w.heap.size + 1 ≤ w1.heap.size by have := hb1.size; simp at this; omega)); clear hb1 hc1)
  obtain ⟨bw, ow, rfl, hcw⟩ := HC1.out.at (i := 0) (by simp)
  simp only [Nat.add_zero, List.getElem_cons_zero] at hcw
  have hbw : bw < w1.heap.size := World.block_lt_of_cell? _ _ hcw
  go_wp2_with fail
  refine (HU.out _).mono ?_
  rintro e w2 ⟨rfl, hb2⟩
  go_wp2_with fail
  obtain ⟨W3, hW3⟩ : ∃ W3, W3 = w2.alloc (Obj.cells #[.string nm, .slice none 0 0, .int .u64 0, .slice none 0 0, .int .i64 0, .slice none 0 0, .slice none 0 0] 60) := ⟨_, rfl⟩
  have hb3 : Below w2.heap.size w2 W3 := by rw [hW3]; exact Below.of_al _ _
  have HR3 := Lib.hid (show PB W3 w2.heap.size (cmN nm) by rw [hW3]; exact PB.new7 _ _ _ _ _ _ _ _ _)
  have HP3 := Lib.hid ((HP1.out.go hb2).go hb3)
  have HB3 := Lib.hid ((HB1.out.st hb2).st hb3)
  have HC3 := Lib.hid ((HC1.out.go hb2).go hb3)
  have HZ3 := Lib.hid (show W3.heap.size = w2.heap.size + 1 by rw [hW3]; simp)
  have hbb : bw < w2.heap.size := by have := hb2.size; omega
  have HZ2 := Lib.hid (show w.heap.size + 1 ≤ w2.heap.size by have := hb2.size; have := HZ1.out; omega)
  rw [← hW3]
  clear hW3 hb3 hb2 HP1 HB1 HC1 hcw hbw HZ1
  generalize w2.heap.size = b at *
  refine (HKN.out _).mono ?_
  rintro e w4 ⟨rfl, hb4⟩
  have HP4 := Lib.hid (HP3.out.go hb4)
  have HB4 := Lib.hid (HB3.out.st hb4)
  have HR4 := Lib.hid (HR3.out.go hb4)
  have HC4 := Lib.hid (HC3.out.go hb4)
  have HZ4 := Lib.hid (show b < w4.heap.size by have := hb4.size; have := HZ3.out; omega)
  clear hb4 HP3 HB3 HR3 HC3 HZ3
  have hcp : tl.length + 1 ≤ cap1 := hcp1
  have HCA := Lib.hid (fun (h : cap1 = 1) (ad : Addr) => (show Cel w4 (some ad) (tl.map encS) by
    obtain rfl : tl = [] := List.length_eq_zero_iff.1 (by omega)
    exact Cel.nil _ _))
  have HCB := Lib.hid (cm_tail HC4.out)
  obtain ⟨c0, -⟩ := HR4.out 0 _ rfl
  go_wp2_with fail
  · refine (HG.out _ _ _ (HCA.out (by omega) _)).mono ?_
    rintro e w5 ⟨ao5, cap5, rfl, hc5, hb5, hf5⟩
    go_upto_region 11 with (fail)
    obtain ⟨W6, hW6, g0, g1⟩ : ∃ W6, W6 = w5.alloc (Obj.cells #[.int .i64 gn, .slice ao5 es.length cap5] 53) ∧ W6.cell? ⟨w5.heap.size, 0, none⟩ = some (.int .i64 gn) ∧ W6.cell? ⟨w5.heap.size, 1, none⟩ = some (.slice ao5 es.length cap5) := ⟨_, rfl, by go_simp, by go_simp⟩
    have hb6 : Below w5.heap.size w5 W6 := by rw [hW6]; exact Below.of_al _ _
    rw [← hW6]
    have HP6 := Lib.hid ((HP4.out.go hb5).go hb6)
    have HR6 := Lib.hid ((HR4.out.go hb5).go hb6)
    have HB6 := Lib.hid ((HB4.out.st hb5).st hb6)
    have HF6 := Lib.hid (show ∀ x, ao5 = some x → x.block ≠ b ∧ x.block ≠ w.heap.size from fun x e => by have := hf5 x e; have := HZ4.out; have := HZ2.out; omega)
    have HC6 := Lib.hid (hc5.go hb6)
    clear hb5 hf5 hc5 hb6 HC4 HP4 HR4 HB4 HCA HCB
    obtain ⟨p0, q0⟩ := HP6.out 0 _ rfl
    obtain ⟨p1, q1⟩ := HP6.out 1 _ rfl
    obtain ⟨p2, q2⟩ := HP6.out 2 _ rfl
    obtain ⟨p3, q3⟩ := HP6.out 3 _ rfl
    obtain ⟨p4, q4⟩ := HP6.out 4 _ rfl
    obtain ⟨p5, q5⟩ := HP6.out 5 _ rfl
    obtain ⟨p6, q6⟩ := HP6.out 6 _ rfl
    obtain ⟨x0, y0⟩ := HR6.out 0 _ rfl
    obtain ⟨x1, y1⟩ := HR6.out 1 _ rfl
    obtain ⟨x2, y2⟩ := HR6.out 2 _ rfl
    obtain ⟨x3, y3⟩ := HR6.out 3 _ rfl
    obtain ⟨x4, y4⟩ := HR6.out 4 _ rfl
    obtain ⟨x5, y5⟩ := HR6.out 5 _ rfl
    obtain ⟨x6, y6⟩ := HR6.out 6 _ rfl
    clear hW6
    have hne1 : (b = w.heap.size) = False := by simp; have := HZ2.out; omega
    have hne2 : (w.heap.size = b) = False := by simp; have := HZ2.out; omega
    by_cases hf : f = 0
    · subst hf
      have HV2 := Lib.hid (HV.out.trans (if_pos rfl))
      clear HV
      go_wp2
      have hV := HV2.out
      subst hV
      have hx := (HP6.out.setAt (c := b) (j := 4) (by have := HZ2.out; omega) (.int .i64 gn)).setAt (c := b) (j := 5) (by have := HZ2.out; omega) (.slice ao5 es.length cap5)
      have hbx := (HB6.out.setCell (p := ⟨b, 4, none⟩) (Nat.le_of_succ_le HZ2.out) (.int .i64 gn)).setCell (p := ⟨b, 5, none⟩) (Nat.le_of_succ_le HZ2.out) (.slice ao5 es.length cap5)
      have hr7 := (hx).set7 rfl (.string nm) (.slice none 0 0) (.int .u64 0) (.slice none 0 0) (.int .i64 gn) (.slice ao5 es.length cap5) (.slice none 0 0)
      obtain ⟨r0, -⟩ := hr7 0 _ rfl
      obtain ⟨r1, -⟩ := hr7 1 _ rfl
      obtain ⟨r2, -⟩ := hr7 2 _ rfl
      obtain ⟨r3, -⟩ := hr7 3 _ rfl
      obtain ⟨r4, -⟩ := hr7 4 _ rfl
      obtain ⟨r5, -⟩ := hr7 5 _ rfl
      obtain ⟨r6, -⟩ := hr7 6 _ rfl
      refine bodyPost_ret (v := .tuple #[.agg #[.string nm, .slice none 0 0, .int .u64 0, .slice none 0 0, .int .i64 gn, .slice ao5 es.length cap5, .slice none 0 0], .int .i64 0]) (by simp [results, Tryz.results64, go_sem, r0, r1, r2, r3, r4, r5, r6]; try rfl) rfl ?_
      exact ⟨_, ⟨none, 0, none, 0, ao5, cap5, none, 0, rfl, Cel.nil _ _, Cel.nil _ _, ((HC6.out.put (fun x e => (HF6.out x e).1) _ _).put (fun x e => (HF6.out x e).1) _ _).put7 (fun x e => (HF6.out x e).2) _ _ _ _ _ _ _, Cel.nil _ _⟩, rfl, bel_set7 hbx (Nat.le_refl _) _ _ _ _ _ _ _⟩
    · have hf2 : (f != 0) = true := by simpa using hf
      have HV2 := Lib.hid (HV.out.trans (if_neg hf))
      clear hf HV
      go_wp2
      have hV := HV2.out
      subst hV
      have hr7 := (HP6.out).set7 rfl (.string ⟨#[]⟩) (.slice none 0 0) (.int .u64 0) (.slice none 0 0) (.int .i64 0) (.slice none 0 0) (.slice none 0 0)
      obtain ⟨r0, -⟩ := hr7 0 _ rfl
      obtain ⟨r1, -⟩ := hr7 1 _ rfl
      obtain ⟨r2, -⟩ := hr7 2 _ rfl
      obtain ⟨r3, -⟩ := hr7 3 _ rfl
      obtain ⟨r4, -⟩ := hr7 4 _ rfl
      obtain ⟨r5, -⟩ := hr7 5 _ rfl
      obtain ⟨r6, -⟩ := hr7 6 _ rfl
      refine bodyPost_ret (v := .tuple #[.agg #[.string ⟨#[]⟩, .slice none 0 0, .int .u64 0, .slice none 0 0, .int .i64 0, .slice none 0 0, .slice none 0 0], .int .i64 f]) (by simp [results, Tryz.results64, go_sem, r0, r1, r2, r3, r4, r5, r6]; try rfl) rfl ?_
      exact ⟨_, CmV.zero _, rfl, bel_set7 HB6.out (Nat.le_refl _) _ _ _ _ _ _ _⟩
  · refine (HG.out _ _ _ HCB.out).mono ?_
    rintro e w5 ⟨ao5, cap5, rfl, hc5, hb5, hf5⟩
    go_upto_region 11 with (fail)
    obtain ⟨W6, hW6, g0, g1⟩ : ∃ W6, W6 = w5.alloc (Obj.cells #[.int .i64 gn, .slice ao5 es.length cap5] 53) ∧ W6.cell? ⟨w5.heap.size, 0, none⟩ = some (.int .i64 gn) ∧ W6.cell? ⟨w5.heap.size, 1, none⟩ = some (.slice ao5 es.length cap5) := ⟨_, rfl, by go_simp, by go_simp⟩
    have hb6 : Below w5.heap.size w5 W6 := by rw [hW6]; exact Below.of_al _ _
    rw [← hW6]
    have HP6 := Lib.hid ((HP4.out.go hb5).go hb6)
    have HR6 := Lib.hid ((HR4.out.go hb5).go hb6)
    have HB6 := Lib.hid ((HB4.out.st hb5).st hb6)
    have HF6 := Lib.hid (show ∀ x, ao5 = some x → x.block ≠ b ∧ x.block ≠ w.heap.size from fun x e => by have := hf5 x e; have := HZ4.out; have := HZ2.out; omega)
    have HC6 := Lib.hid (hc5.go hb6)
    clear hb5 hf5 hc5 hb6 HC4 HP4 HR4 HB4 HCA HCB
    obtain ⟨p0, q0⟩ := HP6.out 0 _ rfl
    obtain ⟨p1, q1⟩ := HP6.out 1 _ rfl
    obtain ⟨p2, q2⟩ := HP6.out 2 _ rfl
    obtain ⟨p3, q3⟩ := HP6.out 3 _ rfl
    obtain ⟨p4, q4⟩ := HP6.out 4 _ rfl
    obtain ⟨p5, q5⟩ := HP6.out 5 _ rfl
    obtain ⟨p6, q6⟩ := HP6.out 6 _ rfl
    obtain ⟨x0, y0⟩ := HR6.out 0 _ rfl
    obtain ⟨x1, y1⟩ := HR6.out 1 _ rfl
    obtain ⟨x2, y2⟩ := HR6.out 2 _ rfl
    obtain ⟨x3, y3⟩ := HR6.out 3 _ rfl
    obtain ⟨x4, y4⟩ := HR6.out 4 _ rfl
    obtain ⟨x5, y5⟩ := HR6.out 5 _ rfl
    obtain ⟨x6, y6⟩ := HR6.out 6 _ rfl
    clear hW6
    have hne1 : (b = w.heap.size) = False := by simp; have := HZ2.out; omega
    have hne2 : (w.heap.size = b) = False := by simp; have := HZ2.out; omega
    by_cases hf : f = 0
    · subst hf
      have HV2 := Lib.hid (HV.out.trans (if_pos rfl))
      clear HV
      go_wp2
      have hV := HV2.out
      subst hV
      have hx := (HP6.out.setAt (c := b) (j := 4) (by have := HZ2.out; omega) (.int .i64 gn)).setAt (c := b) (j := 5) (by have := HZ2.out; omega) (.slice ao5 es.length cap5)
      have hbx := (HB6.out.setCell (p := ⟨b, 4, none⟩) (Nat.le_of_succ_le HZ2.out) (.int .i64 gn)).setCell (p := ⟨b, 5, none⟩) (Nat.le_of_succ_le HZ2.out) (.slice ao5 es.length cap5)
      have hr7 := (hx).set7 rfl (.string nm) (.slice none 0 0) (.int .u64 0) (.slice none 0 0) (.int .i64 gn) (.slice ao5 es.length cap5) (.slice none 0 0)
      obtain ⟨r0, -⟩ := hr7 0 _ rfl
      obtain ⟨r1, -⟩ := hr7 1 _ rfl
      obtain ⟨r2, -⟩ := hr7 2 _ rfl
      obtain ⟨r3, -⟩ := hr7 3 _ rfl
      obtain ⟨r4, -⟩ := hr7 4 _ rfl
      obtain ⟨r5, -⟩ := hr7 5 _ rfl
      obtain ⟨r6, -⟩ := hr7 6 _ rfl
      refine bodyPost_ret (v := .tuple #[.agg #[.string nm, .slice none 0 0, .int .u64 0, .slice none 0 0, .int .i64 gn, .slice ao5 es.length cap5, .slice none 0 0], .int .i64 0]) (by simp [results, Tryz.results64, go_sem, r0, r1, r2, r3, r4, r5, r6]; try rfl) rfl ?_
      exact ⟨_, ⟨none, 0, none, 0, ao5, cap5, none, 0, rfl, Cel.nil _ _, Cel.nil _ _, ((HC6.out.put (fun x e => (HF6.out x e).1) _ _).put (fun x e => (HF6.out x e).1) _ _).put7 (fun x e => (HF6.out x e).2) _ _ _ _ _ _ _, Cel.nil _ _⟩, rfl, bel_set7 hbx (Nat.le_refl _) _ _ _ _ _ _ _⟩
    · have hf2 : (f != 0) = true := by simpa using hf
      have HV2 := Lib.hid (HV.out.trans (if_neg hf))
      clear hf HV
      go_wp2
      have hV := HV2.out
      subst hV
      have hr7 := (HP6.out).set7 rfl (.string ⟨#[]⟩) (.slice none 0 0) (.int .u64 0) (.slice none 0 0) (.int .i64 0) (.slice none 0 0) (.slice none 0 0)
      obtain ⟨r0, -⟩ := hr7 0 _ rfl
      obtain ⟨r1, -⟩ := hr7 1 _ rfl
      obtain ⟨r2, -⟩ := hr7 2 _ rfl
      obtain ⟨r3, -⟩ := hr7 3 _ rfl
      obtain ⟨r4, -⟩ := hr7 4 _ rfl
      obtain ⟨r5, -⟩ := hr7 5 _ rfl
      obtain ⟨r6, -⟩ := hr7 6 _ rfl
      refine bodyPost_ret (v := .tuple #[.agg #[.string ⟨#[]⟩, .slice none 0 0, .int .u64 0, .slice none 0 0, .int .i64 0, .slice none 0 0, .slice none 0 0], .int .i64 f]) (by simp [results, Tryz.results64, go_sem, r0, r1, r2, r3, r4, r5, r6]; try rfl) rfl ?_
      exact ⟨_, CmV.zero _, rfl, bel_set7 HB6.out (Nat.le_refl _) _ _ _ _ _ _ _⟩

set_option maxRecDepth 100000 in
set_option maxHeartbeats 4000000 in
theorem refCmdParse_build (s a : ByteArray) (tl : List ByteArray) (w : World) (hs : s.size ≤ 65536) (hx : ∀ x ∈ tl, x.size ≤ 4096) (h : wordsF s = (a :: tl, 0)) (hk : isNm (upS a) = true) (hl : upS a = buildC) :
    Calls Tryz.prog 64 #[.string s] w (CParsePost w (restC buildC tl)) := by
  have HW := Lib.hid (fun W => refWords_own s W (by omega))
  have hsz := wordsF_sz s
  unfold WordsPostC at HW
  rw [h] at HW hsz
  simp only at HW hsz
  have HSZ := Lib.hid hsz
  have HA := Lib.hid (hsz.1 a (by simp))
  have hl2 : tl.length + 1 ≤ 65536 := by have := hsz.2; simp at this; omega
  have HU := Lib.hid (fun W => refUpper_any a W (by have := HA.out; omega))
  have HKN := Lib.hid (fun W => refKnown_any (upS a) W)
  clear hsz h
  rw [hk] at HKN
  clear hk
  have f0 : ((upS a).toList == ([76, 79, 65, 68] : List UInt8)) = false := (cm_byt (a := upS a) (c := loadC) (l := [76, 79, 65, 68]) rfl).trans (by rw [hl]; decide)
  have f1 : ((upS a).toList == ([66, 85, 73, 76, 68] : List UInt8)) = true := (cm_byt (a := upS a) (c := buildC) (l := [66, 85, 73, 76, 68]) rfl).trans (decide_eq_true hl)
  match tl, hl2, HSZ, HW, hx with
  | [], hl2, HSZ, HW, _ =>
    rw [restC_b0, ← hl]
    clear hl
    generalize upS a = nm at *
    go_enter Tryz.func64, Tryz.ntmps64
    go_wp2_with fail
    (refine (HW.out _).mono ?_; rintro e w1 ⟨ao1, cap1, rfl, hc1, hb1, hcp1⟩; (have HP1 := Lib.hid ((PB.new7 w 60 _ _ _ _ _ _ _).go hb1)); (have HB1 := Lib.hid ((Below.of_al w (Obj.cells #[.string ⟨#[]⟩, .slice none 0 0, .int .u64 0, .slice none 0 0, .int .i64 0, .slice none 0 0, .slice none 0 0] 60)).st hb1)); (have HC1 := Lib.hid hc1); (have HZ1 := Lib.hid (show w.heap.size + 1 ≤ w1.heap.size by have := hb1.size; simp at this; omega)); clear hb1 hc1)
    obtain ⟨bw, ow, rfl, hcw⟩ := HC1.out.at (i := 0) (by simp)
    simp only [Nat.add_zero, List.getElem_cons_zero] at hcw
    have hbw : bw < w1.heap.size := World.block_lt_of_cell? _ _ hcw
    go_wp2_with fail
    refine (HU.out _).mono ?_
    rintro e w2 ⟨rfl, hb2⟩
    go_wp2_with fail
    obtain ⟨W3, hW3⟩ : ∃ W3, W3 = w2.alloc (Obj.cells #[.string nm, .slice none 0 0, .int .u64 0, .slice none 0 0, .int .i64 0, .slice none 0 0, .slice none 0 0] 60) := ⟨_, rfl⟩
    have hb3 : Below w2.heap.size w2 W3 := by rw [hW3]; exact Below.of_al _ _
    have HR3 := Lib.hid (show PB W3 w2.heap.size (cmN nm) by rw [hW3]; exact PB.new7 _ _ _ _ _ _ _ _ _)
    have HP3 := Lib.hid ((HP1.out.go hb2).go hb3)
    have HB3 := Lib.hid ((HB1.out.st hb2).st hb3)
    have HC3 := Lib.hid ((HC1.out.go hb2).go hb3)
    have HZ3 := Lib.hid (show W3.heap.size = w2.heap.size + 1 by rw [hW3]; simp)
    have hbb : bw < w2.heap.size := by have := hb2.size; omega
    have HZ2 := Lib.hid (show w.heap.size + 1 ≤ w2.heap.size by have := hb2.size; have := HZ1.out; omega)
    rw [← hW3]
    clear hW3 hb3 hb2 HP1 HB1 HC1 hcw hbw HZ1
    generalize w2.heap.size = b at *
    refine (HKN.out _).mono ?_
    rintro e w4 ⟨rfl, hb4⟩
    have HP4 := Lib.hid (HP3.out.go hb4)
    have HB4 := Lib.hid (HB3.out.st hb4)
    have HR4 := Lib.hid (HR3.out.go hb4)
    have HC4 := Lib.hid (HC3.out.go hb4)
    have HZ4 := Lib.hid (show b < w4.heap.size by have := hb4.size; have := HZ3.out; omega)
    clear hb4 HP3 HB3 HR3 HC3 HZ3
    obtain ⟨p0, q0⟩ := HP4.out 0 _ rfl
    obtain ⟨p1, q1⟩ := HP4.out 1 _ rfl
    obtain ⟨p2, q2⟩ := HP4.out 2 _ rfl
    obtain ⟨p3, q3⟩ := HP4.out 3 _ rfl
    obtain ⟨p4, q4⟩ := HP4.out 4 _ rfl
    obtain ⟨p5, q5⟩ := HP4.out 5 _ rfl
    obtain ⟨p6, q6⟩ := HP4.out 6 _ rfl
    obtain ⟨x0, y0⟩ := HR4.out 0 _ rfl
    obtain ⟨x1, y1⟩ := HR4.out 1 _ rfl
    obtain ⟨x2, y2⟩ := HR4.out 2 _ rfl
    obtain ⟨x3, y3⟩ := HR4.out 3 _ rfl
    obtain ⟨x4, y4⟩ := HR4.out 4 _ rfl
    obtain ⟨x5, y5⟩ := HR4.out 5 _ rfl
    obtain ⟨x6, y6⟩ := HR4.out 6 _ rfl
    have hne1 : (b = w.heap.size) = False := by simp; have := HZ2.out; omega
    have hne2 : (w.heap.size = b) = False := by simp; have := HZ2.out; omega
    go_wp2
    have hr7 := (HP4.out).set7 rfl (.string nm) (.slice none 0 0) (.int .u64 0) (.slice none 0 0) (.int .i64 0) (.slice none 0 0) (.slice none 0 0)
    obtain ⟨r0, -⟩ := hr7 0 _ rfl
    obtain ⟨r1, -⟩ := hr7 1 _ rfl
    obtain ⟨r2, -⟩ := hr7 2 _ rfl
    obtain ⟨r3, -⟩ := hr7 3 _ rfl
    obtain ⟨r4, -⟩ := hr7 4 _ rfl
    obtain ⟨r5, -⟩ := hr7 5 _ rfl
    obtain ⟨r6, -⟩ := hr7 6 _ rfl
    refine bodyPost_ret (v := .tuple #[.agg #[.string nm, .slice none 0 0, .int .u64 0, .slice none 0 0, .int .i64 0, .slice none 0 0, .slice none 0 0], .int .i64 0]) (by simp [results, Tryz.results64, go_sem, r0, r1, r2, r3, r4, r5, r6]; try rfl) rfl ?_
    exact ⟨_, ⟨none, 0, none, 0, none, 0, none, 0, rfl, Cel.nil _ _, Cel.nil _ _, Cel.nil _ _, Cel.nil _ _⟩, rfl, bel_set7 HB4.out (Nat.le_refl _) _ _ _ _ _ _ _⟩
  | [x], hl2, HSZ, HW, hx =>
    have HRK := Lib.hid (fun W => refRkParse_own x W (hx x (by simp)))
    rw [restC_b1, ← hl]
    clear hl hx
    unfold RkPostF at HRK
    generalize rankP x = q at *
    obtain ⟨rk, f⟩ := q
    simp only at HRK ⊢
    obtain ⟨r, hr⟩ : ∃ r, r = if f = 0 then (({ cmd0 with name := upS a, rank := rk }, 0) : CmD × Int) else (cmd0, f) := ⟨_, rfl⟩
    rw [← hr]
    have HV := Lib.hid hr
    clear hr
    generalize upS a = nm at *
    go_enter Tryz.func64, Tryz.ntmps64
    go_wp2_with fail
    (refine (HW.out _).mono ?_; rintro e w1 ⟨ao1, cap1, rfl, hc1, hb1, hcp1⟩; (have HP1 := Lib.hid ((PB.new7 w 60 _ _ _ _ _ _ _).go hb1)); (have HB1 := Lib.hid ((Below.of_al w (Obj.cells #[.string ⟨#[]⟩, .slice none 0 0, .int .u64 0, .slice none 0 0, .int .i64 0, .slice none 0 0, .slice none 0 0] 60)).st hb1)); (have HC1 := Lib.hid hc1); (have HZ1 := Lib.hid (show w.heap.size + 1 ≤ w1.heap.size by have := hb1.size; simp at this; omega)); clear hb1 hc1)
    obtain ⟨bw, ow, rfl, hcw⟩ := HC1.out.at (i := 0) (by simp)
    simp only [Nat.add_zero, List.getElem_cons_zero] at hcw
    have hbw : bw < w1.heap.size := World.block_lt_of_cell? _ _ hcw
    go_wp2_with fail
    refine (HU.out _).mono ?_
    rintro e w2 ⟨rfl, hb2⟩
    go_wp2_with fail
    obtain ⟨W3, hW3⟩ : ∃ W3, W3 = w2.alloc (Obj.cells #[.string nm, .slice none 0 0, .int .u64 0, .slice none 0 0, .int .i64 0, .slice none 0 0, .slice none 0 0] 60) := ⟨_, rfl⟩
    have hb3 : Below w2.heap.size w2 W3 := by rw [hW3]; exact Below.of_al _ _
    have HR3 := Lib.hid (show PB W3 w2.heap.size (cmN nm) by rw [hW3]; exact PB.new7 _ _ _ _ _ _ _ _ _)
    have HP3 := Lib.hid ((HP1.out.go hb2).go hb3)
    have HB3 := Lib.hid ((HB1.out.st hb2).st hb3)
    have HC3 := Lib.hid ((HC1.out.go hb2).go hb3)
    have HZ3 := Lib.hid (show W3.heap.size = w2.heap.size + 1 by rw [hW3]; simp)
    have hbb : bw < w2.heap.size := by have := hb2.size; omega
    have HZ2 := Lib.hid (show w.heap.size + 1 ≤ w2.heap.size by have := hb2.size; have := HZ1.out; omega)
    rw [← hW3]
    clear hW3 hb3 hb2 HP1 HB1 HC1 hcw hbw HZ1
    generalize w2.heap.size = b at *
    refine (HKN.out _).mono ?_
    rintro e w4 ⟨rfl, hb4⟩
    have HP4 := Lib.hid (HP3.out.go hb4)
    have HB4 := Lib.hid (HB3.out.st hb4)
    have HR4 := Lib.hid (HR3.out.go hb4)
    have HC4 := Lib.hid (HC3.out.go hb4)
    have HZ4 := Lib.hid (show b < w4.heap.size by have := hb4.size; have := HZ3.out; omega)
    clear hb4 HP3 HB3 HR3 HC3 HZ3
    obtain ⟨p0, q0⟩ := HP4.out 0 _ rfl
    obtain ⟨p1, q1⟩ := HP4.out 1 _ rfl
    obtain ⟨p2, q2⟩ := HP4.out 2 _ rfl
    obtain ⟨p3, q3⟩ := HP4.out 3 _ rfl
    obtain ⟨p4, q4⟩ := HP4.out 4 _ rfl
    obtain ⟨p5, q5⟩ := HP4.out 5 _ rfl
    obtain ⟨p6, q6⟩ := HP4.out 6 _ rfl
    obtain ⟨x0, y0⟩ := HR4.out 0 _ rfl
    obtain ⟨x1, y1⟩ := HR4.out 1 _ rfl
    obtain ⟨x2, y2⟩ := HR4.out 2 _ rfl
    obtain ⟨x3, y3⟩ := HR4.out 3 _ rfl
    obtain ⟨x4, y4⟩ := HR4.out 4 _ rfl
    obtain ⟨x5, y5⟩ := HR4.out 5 _ rfl
    obtain ⟨x6, y6⟩ := HR4.out 6 _ rfl
    have hne1 : (b = w.heap.size) = False := by simp; have := HZ2.out; omega
    have hne2 : (w.heap.size = b) = False := by simp; have := HZ2.out; omega
    obtain ⟨bx, ox, ex, hcx⟩ := HC4.out.at (i := 1) (by simp)
    cases ex
    simp only [List.getElem_cons_succ, List.getElem_cons_zero] at hcx
    go_wp2_with fail
    refine (HRK.out _).mono ?_
    rintro e w5 ⟨ao5, cap5, rfl, hc5, hb5, hf5⟩
    have HP6 := Lib.hid (HP4.out.go hb5)
    have HR6 := Lib.hid (HR4.out.go hb5)
    have HB6 := Lib.hid (HB4.out.st hb5)
    have HF6 := Lib.hid (show ∀ x, ao5 = some x → x.block ≠ b ∧ x.block ≠ w.heap.size from fun x e => by have := hf5 x e; have := HZ4.out; have := HZ2.out; omega)
    have HC6 := Lib.hid hc5
    clear hb5 hf5 hc5 p0 p1 p2 p3 p4 p5 p6 q0 q1 q2 q3 q4 q5 q6 x0 x1 x2 x3 x4 x5 x6 y0 y1 y2 y3 y4 y5 y6 hcx HC4 HP4 HR4 HB4
    obtain ⟨p0, q0⟩ := HP6.out 0 _ rfl
    obtain ⟨p1, q1⟩ := HP6.out 1 _ rfl
    obtain ⟨p2, q2⟩ := HP6.out 2 _ rfl
    obtain ⟨p3, q3⟩ := HP6.out 3 _ rfl
    obtain ⟨p4, q4⟩ := HP6.out 4 _ rfl
    obtain ⟨p5, q5⟩ := HP6.out 5 _ rfl
    obtain ⟨p6, q6⟩ := HP6.out 6 _ rfl
    obtain ⟨x0, y0⟩ := HR6.out 0 _ rfl
    obtain ⟨x1, y1⟩ := HR6.out 1 _ rfl
    obtain ⟨x2, y2⟩ := HR6.out 2 _ rfl
    obtain ⟨x3, y3⟩ := HR6.out 3 _ rfl
    obtain ⟨x4, y4⟩ := HR6.out 4 _ rfl
    obtain ⟨x5, y5⟩ := HR6.out 5 _ rfl
    obtain ⟨x6, y6⟩ := HR6.out 6 _ rfl
    by_cases hf : f = 0
    · subst hf
      have HV2 := Lib.hid (HV.out.trans (if_pos rfl))
      clear HV
      go_wp2
      have hV := HV2.out
      subst hV
      have hx := HP6.out.setAt (c := b) (j := 6) (by have := HZ2.out; omega) (.slice ao5 rk.length cap5)
      have hbx := HB6.out.setCell (p := ⟨b, 6, none⟩) (Nat.le_of_succ_le HZ2.out) (.slice ao5 rk.length cap5)
      have hr7 := (hx).set7 rfl (.string nm) (.slice none 0 0) (.int .u64 0) (.slice none 0 0) (.int .i64 0) (.slice none 0 0) (.slice ao5 rk.length cap5)
      obtain ⟨r0, -⟩ := hr7 0 _ rfl
      obtain ⟨r1, -⟩ := hr7 1 _ rfl
      obtain ⟨r2, -⟩ := hr7 2 _ rfl
      obtain ⟨r3, -⟩ := hr7 3 _ rfl
      obtain ⟨r4, -⟩ := hr7 4 _ rfl
      obtain ⟨r5, -⟩ := hr7 5 _ rfl
      obtain ⟨r6, -⟩ := hr7 6 _ rfl
      refine bodyPost_ret (v := .tuple #[.agg #[.string nm, .slice none 0 0, .int .u64 0, .slice none 0 0, .int .i64 0, .slice none 0 0, .slice ao5 rk.length cap5], .int .i64 0]) (by simp [results, Tryz.results64, go_sem, r0, r1, r2, r3, r4, r5, r6]; try rfl) rfl ?_
      exact ⟨_, ⟨none, 0, none, 0, none, 0, ao5, cap5, rfl, Cel.nil _ _, Cel.nil _ _, Cel.nil _ _, (HC6.out.put (fun x e => (HF6.out x e).1) _ _).put7 (fun x e => (HF6.out x e).2) _ _ _ _ _ _ _⟩, rfl, bel_set7 hbx (Nat.le_refl _) _ _ _ _ _ _ _⟩
    · have hf2 : (f != 0) = true := by simpa using hf
      have HV2 := Lib.hid (HV.out.trans (if_neg hf))
      clear hf HV
      go_wp2
      have hV := HV2.out
      subst hV
      have hr7 := (HP6.out).set7 rfl (.string ⟨#[]⟩) (.slice none 0 0) (.int .u64 0) (.slice none 0 0) (.int .i64 0) (.slice none 0 0) (.slice none 0 0)
      obtain ⟨r0, -⟩ := hr7 0 _ rfl
      obtain ⟨r1, -⟩ := hr7 1 _ rfl
      obtain ⟨r2, -⟩ := hr7 2 _ rfl
      obtain ⟨r3, -⟩ := hr7 3 _ rfl
      obtain ⟨r4, -⟩ := hr7 4 _ rfl
      obtain ⟨r5, -⟩ := hr7 5 _ rfl
      obtain ⟨r6, -⟩ := hr7 6 _ rfl
      refine bodyPost_ret (v := .tuple #[.agg #[.string ⟨#[]⟩, .slice none 0 0, .int .u64 0, .slice none 0 0, .int .i64 0, .slice none 0 0, .slice none 0 0], .int .i64 f]) (by simp [results, Tryz.results64, go_sem, r0, r1, r2, r3, r4, r5, r6]; try rfl) rfl ?_
      exact ⟨_, CmV.zero _, rfl, bel_set7 HB6.out (Nat.le_refl _) _ _ _ _ _ _ _⟩
  | x :: y :: t, hl2, HSZ, HW, _ =>
    rw [restC_b2]
    clear hl
    generalize upS a = nm at *
    obtain ⟨tl, htl⟩ : ∃ tl, tl = x :: y :: t := ⟨_, rfl⟩
    have hn2 : 2 ≤ tl.length := by rw [htl]; simp
    rw [← htl] at hl2 HW
    clear htl HSZ
    go_enter Tryz.func64, Tryz.ntmps64
    go_wp2_with fail
    (refine (HW.out _).mono ?_; rintro e w1 ⟨ao1, cap1, rfl, hc1, hb1, hcp1⟩; (have HP1 := Lib.hid ((PB.new7 w 60 _ _ _ _ _ _ _).go hb1)); (have HB1 := Lib.hid ((Below.of_al w (Obj.cells #[.string ⟨#[]⟩, .slice none 0 0, .int .u64 0, .slice none 0 0, .int .i64 0, .slice none 0 0, .slice none 0 0] 60)).st hb1)); (have HC1 := Lib.hid hc1); (have HZ1 := Lib.hid (show w.heap.size + 1 ≤ w1.heap.size by have := hb1.size; simp at this; omega)); clear hb1 hc1)
    obtain ⟨bw, ow, rfl, hcw⟩ := HC1.out.at (i := 0) (by simp)
    simp only [Nat.add_zero, List.getElem_cons_zero] at hcw
    have hbw : bw < w1.heap.size := World.block_lt_of_cell? _ _ hcw
    go_wp2_with fail
    refine (HU.out _).mono ?_
    rintro e w2 ⟨rfl, hb2⟩
    go_wp2_with fail
    obtain ⟨W3, hW3⟩ : ∃ W3, W3 = w2.alloc (Obj.cells #[.string nm, .slice none 0 0, .int .u64 0, .slice none 0 0, .int .i64 0, .slice none 0 0, .slice none 0 0] 60) := ⟨_, rfl⟩
    have hb3 : Below w2.heap.size w2 W3 := by rw [hW3]; exact Below.of_al _ _
    have HR3 := Lib.hid (show PB W3 w2.heap.size (cmN nm) by rw [hW3]; exact PB.new7 _ _ _ _ _ _ _ _ _)
    have HP3 := Lib.hid ((HP1.out.go hb2).go hb3)
    have HB3 := Lib.hid ((HB1.out.st hb2).st hb3)
    have HC3 := Lib.hid ((HC1.out.go hb2).go hb3)
    have HZ3 := Lib.hid (show W3.heap.size = w2.heap.size + 1 by rw [hW3]; simp)
    have hbb : bw < w2.heap.size := by have := hb2.size; omega
    have HZ2 := Lib.hid (show w.heap.size + 1 ≤ w2.heap.size by have := hb2.size; have := HZ1.out; omega)
    rw [← hW3]
    clear hW3 hb3 hb2 HP1 HB1 HC1 hcw hbw HZ1
    generalize w2.heap.size = b at *
    refine (HKN.out _).mono ?_
    rintro e w4 ⟨rfl, hb4⟩
    have HP4 := Lib.hid (HP3.out.go hb4)
    have HB4 := Lib.hid (HB3.out.st hb4)
    have HR4 := Lib.hid (HR3.out.go hb4)
    have HC4 := Lib.hid (HC3.out.go hb4)
    have HZ4 := Lib.hid (show b < w4.heap.size by have := hb4.size; have := HZ3.out; omega)
    clear hb4 HP3 HB3 HR3 HC3 HZ3
    obtain ⟨p0, q0⟩ := HP4.out 0 _ rfl
    obtain ⟨p1, q1⟩ := HP4.out 1 _ rfl
    obtain ⟨p2, q2⟩ := HP4.out 2 _ rfl
    obtain ⟨p3, q3⟩ := HP4.out 3 _ rfl
    obtain ⟨p4, q4⟩ := HP4.out 4 _ rfl
    obtain ⟨p5, q5⟩ := HP4.out 5 _ rfl
    obtain ⟨p6, q6⟩ := HP4.out 6 _ rfl
    obtain ⟨x0, y0⟩ := HR4.out 0 _ rfl
    obtain ⟨x1, y1⟩ := HR4.out 1 _ rfl
    obtain ⟨x2, y2⟩ := HR4.out 2 _ rfl
    obtain ⟨x3, y3⟩ := HR4.out 3 _ rfl
    obtain ⟨x4, y4⟩ := HR4.out 4 _ rfl
    obtain ⟨x5, y5⟩ := HR4.out 5 _ rfl
    obtain ⟨x6, y6⟩ := HR4.out 6 _ rfl
    have hne1 : (b = w.heap.size) = False := by simp; have := HZ2.out; omega
    have hne2 : (w.heap.size = b) = False := by simp; have := HZ2.out; omega
    have hn3 : (2 : Int) < (tl.length : Int) + 1 := by omega
    go_wp2
    have hr7 := (HP4.out).set7 rfl (.string ⟨#[]⟩) (.slice none 0 0) (.int .u64 0) (.slice none 0 0) (.int .i64 0) (.slice none 0 0) (.slice none 0 0)
    obtain ⟨r0, -⟩ := hr7 0 _ rfl
    obtain ⟨r1, -⟩ := hr7 1 _ rfl
    obtain ⟨r2, -⟩ := hr7 2 _ rfl
    obtain ⟨r3, -⟩ := hr7 3 _ rfl
    obtain ⟨r4, -⟩ := hr7 4 _ rfl
    obtain ⟨r5, -⟩ := hr7 5 _ rfl
    obtain ⟨r6, -⟩ := hr7 6 _ rfl
    refine bodyPost_ret (v := .tuple #[.agg #[.string ⟨#[]⟩, .slice none 0 0, .int .u64 0, .slice none 0 0, .int .i64 0, .slice none 0 0, .slice none 0 0], .int .i64 3]) (by simp [results, Tryz.results64, go_sem, r0, r1, r2, r3, r4, r5, r6]; try rfl) rfl ?_
    exact ⟨_, CmV.zero _, rfl, bel_set7 HB4.out (Nat.le_refl _) _ _ _ _ _ _ _⟩

end Go.Proofs.YtelcmkccfjdmjaaGreatDoor

namespace Go.Proofs.YtelcmkccfjdmjaaGreatDoor
open Go Go.Proofs Go.RowKit Go.Shelf Go.Sort

theorem RfS.low {W : World} {b base : Nat} {c : CmD} {vi vr : Value} (h : RfS W base c vi vr) (hb : b < base) (v0 v1 v2 v3 v4 v5 v6 : Value) :
    RfS (((((((W.setCell ⟨b, 0, none⟩ v0).setCell ⟨b, 1, none⟩ v1).setCell ⟨b, 2, none⟩ v2).setCell ⟨b, 3, none⟩ v3).setCell ⟨b, 4, none⟩ v4).setCell ⟨b, 5, none⟩ v5).setCell ⟨b, 6, none⟩ v6) base c vi vr :=
  h.set7 (fun e => by have := (h.oi.lt _ e).1; omega) (fun e => by have := (h.oq.lt _ e).1; omega) _ _ _ _ _ _ _
theorem KP.put7 {b base : Nat} {W A : World} (h : KP b base W A) (v0 v1 v2 v3 v4 v5 v6 : Value) :
    KP b base W (((((((A.setCell ⟨b, 0, none⟩ v0).setCell ⟨b, 1, none⟩ v1).setCell ⟨b, 2, none⟩ v2).setCell ⟨b, 3, none⟩ v3).setCell ⟨b, 4, none⟩ v4).setCell ⟨b, 5, none⟩ v5).setCell ⟨b, 6, none⟩ v6) :=
  ((((((h.put _ _).put _ _).put _ _).put _ _).put _ _).put _ _).put _ _

theorem PB.new7d (w : World) (T : TypeId) (x0 x1 x2 x3 x4 x5 x6 : Value) : PB (w.alloc (.cells #[x0, x1, x2, x3, x4, x5, x6] T)).drew w.heap.size [x0, x1, x2, x3, x4, x5, x6] := PB.new7 w T x0 x1 x2 x3 x4 x5 x6
theorem c8_next {w1 w2 : World} {B b bw o : Nat} {v0 v1 v2 v3 v4 v5 v6 v7 : Value} (hb : Below B w1 w2) (h1 : b < B) (h2 : bw < B)
    (h : w1.cell? ⟨b, 0, none⟩ = some v0 ∧ w1.cell? ⟨b, 1, none⟩ = some v1 ∧ w1.cell? ⟨b, 2, none⟩ = some v2 ∧ w1.cell? ⟨b, 3, none⟩ = some v3 ∧ w1.cell? ⟨b, 4, none⟩ = some v4 ∧ w1.cell? ⟨b, 5, none⟩ = some v5 ∧ w1.cell? ⟨b, 6, none⟩ = some v6 ∧ w1.cell? ⟨bw, o, none⟩ = some v7) :
    w2.cell? ⟨b, 0, none⟩ = some v0 ∧ w2.cell? ⟨b, 1, none⟩ = some v1 ∧ w2.cell? ⟨b, 2, none⟩ = some v2 ∧ w2.cell? ⟨b, 3, none⟩ = some v3 ∧ w2.cell? ⟨b, 4, none⟩ = some v4 ∧ w2.cell? ⟨b, 5, none⟩ = some v5 ∧ w2.cell? ⟨b, 6, none⟩ = some v6 ∧ w2.cell? ⟨bw, o, none⟩ = some v7 := by
  have e := fun j => World.cell?_of_block (a := ⟨b, j, none⟩) (hb.block b h1)
  have f := World.cell?_of_block (a := ⟨bw, o, none⟩) (hb.block bw h2)
  obtain ⟨h0, h1, h2, h3, h4, h5, h6, h7⟩ := h
  exact ⟨(e 0).trans h0, (e 1).trans h1, (e 2).trans h2, (e 3).trans h3, (e 4).trans h4, (e 5).trans h5, (e 6).trans h6, f.trans h7⟩

set_option maxRecDepth 100000 in
set_option maxHeartbeats 4000000 in
theorem refCmdParse_kinds (s a : ByteArray) (tl : List ByteArray) (w : World) (hs : s.size ≤ 65536) (h : wordsF s = (a :: tl, 0)) (hk : isNm (upS a) = true) (hn1 : upS a ≠ loadC) (hn2 : upS a ≠ buildC) :
    Calls Tryz.prog 64 #[.string s] w (CParsePost w (restC (upS a) tl)) := by
  have HW := Lib.hid (fun W => refWords_own s W (by omega))
  have hsz := wordsF_sz s
  unfold WordsPostC at HW
  rw [h] at HW hsz
  simp only at HW hsz
  have HSZ := Lib.hid hsz
  have HA := Lib.hid (hsz.1 a (by simp))
  have hl2 : tl.length + 1 ≤ 65536 := by have := hsz.2; simp at this; omega
  have HU := Lib.hid (fun W => refUpper_any a W (by have := HA.out; omega))
  have HKN := Lib.hid (fun W => refKnown_any (upS a) W)
  clear hsz h
  rw [hk] at HKN
  have f0 : ((upS a).toList == ([76, 79, 65, 68] : List UInt8)) = false := (cm_byt (a := upS a) (c := loadC) (l := [76, 79, 65, 68]) rfl).trans (decide_eq_false hn1)
  have f1 : ((upS a).toList == ([66, 85, 73, 76, 68] : List UInt8)) = false := (cm_byt (a := upS a) (c := buildC) (l := [66, 85, 73, 76, 68]) rfl).trans (decide_eq_false hn2)
  have hr : restC (upS a) tl = if (kindsC (upS a) tl.length).2 then foldC { cmd0 with name := upS a } (kindsC (upS a) tl.length).1.data.toList tl else (cmd0, 3) := by
    unfold restC
    rw [if_neg hn1, if_neg hn2]
  obtain ⟨-, hK, hkk, hkz⟩ := kindsBoth_any (n := tl.length) hk hn1 hn2 (by omega)
  unfold KindPost at hK
  rw [hr]
  clear hr hn1 hn2 hk
  generalize kindsC (upS a) tl.length = q at *
  obtain ⟨ks, is⟩ := q
  simp only at hK hkk hkz ⊢
  have HK := Lib.hid hK
  have HKK := Lib.hid hkk
  clear hK hkk
  generalize upS a = nm at *
  cases is with
  | false =>
    simp only [Bool.false_eq_true, if_false]
    clear hkz
    go_enter Tryz.func64, Tryz.ntmps64
    go_wp2_with fail
    (refine (HW.out _).mono ?_; rintro e w1 ⟨ao1, cap1, rfl, hc1, hb1, hcp1⟩; (have HP1 := Lib.hid ((PB.new7 w 60 _ _ _ _ _ _ _).go hb1)); (have HB1 := Lib.hid ((Below.of_al w (Obj.cells #[.string ⟨#[]⟩, .slice none 0 0, .int .u64 0, .slice none 0 0, .int .i64 0, .slice none 0 0, .slice none 0 0] 60)).st hb1)); (have HC1 := Lib.hid hc1); (have HZ1 := Lib.hid (show w.heap.size + 1 ≤ w1.heap.size by have := hb1.size; simp at this; omega)); clear hb1 hc1)
    obtain ⟨bw, ow, rfl, hcw⟩ := HC1.out.at (i := 0) (by simp)
    simp only [Nat.add_zero, List.getElem_cons_zero] at hcw
    have hbw : bw < w1.heap.size := World.block_lt_of_cell? _ _ hcw
    go_wp2_with fail
    refine (HU.out _).mono ?_
    rintro e w2 ⟨rfl, hb2⟩
    go_wp2_with fail
    obtain ⟨W3, hW3⟩ : ∃ W3, W3 = w2.alloc (Obj.cells #[.string nm, .slice none 0 0, .int .u64 0, .slice none 0 0, .int .i64 0, .slice none 0 0, .slice none 0 0] 60) := ⟨_, rfl⟩
    have hb3 : Below w2.heap.size w2 W3 := by rw [hW3]; exact Below.of_al _ _
    have HR3 := Lib.hid (show PB W3 w2.heap.size (cmN nm) by rw [hW3]; exact PB.new7 _ _ _ _ _ _ _ _ _)
    have HP3 := Lib.hid ((HP1.out.go hb2).go hb3)
    have HB3 := Lib.hid ((HB1.out.st hb2).st hb3)
    have HC3 := Lib.hid ((HC1.out.go hb2).go hb3)
    have HZ3 := Lib.hid (show W3.heap.size = w2.heap.size + 1 by rw [hW3]; simp)
    have hbb : bw < w2.heap.size := by have := hb2.size; omega
    have HZ2 := Lib.hid (show w.heap.size + 1 ≤ w2.heap.size by have := hb2.size; have := HZ1.out; omega)
    rw [← hW3]
    clear hW3 hb3 hb2 HP1 HB1 HC1 hcw hbw HZ1
    generalize w2.heap.size = b at *
    refine (HKN.out _).mono ?_
    rintro e w4 ⟨rfl, hb4⟩
    have HP4 := Lib.hid (HP3.out.go hb4)
    have HB4 := Lib.hid (HB3.out.st hb4)
    have HR4 := Lib.hid (HR3.out.go hb4)
    have HC4 := Lib.hid (HC3.out.go hb4)
    have HZ4 := Lib.hid (show b < w4.heap.size by have := hb4.size; have := HZ3.out; omega)
    clear hb4 HP3 HB3 HR3 HC3 HZ3
    obtain ⟨p0, q0⟩ := HP4.out 0 _ rfl
    obtain ⟨p1, q1⟩ := HP4.out 1 _ rfl
    obtain ⟨p2, q2⟩ := HP4.out 2 _ rfl
    obtain ⟨p3, q3⟩ := HP4.out 3 _ rfl
    obtain ⟨p4, q4⟩ := HP4.out 4 _ rfl
    obtain ⟨p5, q5⟩ := HP4.out 5 _ rfl
    obtain ⟨p6, q6⟩ := HP4.out 6 _ rfl
    obtain ⟨x0, y0⟩ := HR4.out 0 _ rfl
    obtain ⟨x1, y1⟩ := HR4.out 1 _ rfl
    obtain ⟨x2, y2⟩ := HR4.out 2 _ rfl
    obtain ⟨x3, y3⟩ := HR4.out 3 _ rfl
    obtain ⟨x4, y4⟩ := HR4.out 4 _ rfl
    obtain ⟨x5, y5⟩ := HR4.out 5 _ rfl
    obtain ⟨x6, y6⟩ := HR4.out 6 _ rfl
    have hne1 : (b = w.heap.size) = False := by simp; have := HZ2.out; omega
    have hne2 : (w.heap.size = b) = False := by simp; have := HZ2.out; omega
    go_wp2_with fail
    refine (HK.out _).mono ?_
    rintro e w5 ⟨s5, rfl, -, hb5⟩
    have HP5 := Lib.hid (HP4.out.go hb5)
    have HB5 := Lib.hid (HB4.out.st hb5)
    clear hb5 p0 p1 p2 p3 p4 p5 p6 q0 q1 q2 q3 q4 q5 q6 x0 x1 x2 x3 x4 x5 x6 y0 y1 y2 y3 y4 y5 y6 HC4 HP4 HR4 HB4
    obtain ⟨p0, q0⟩ := HP5.out 0 _ rfl
    obtain ⟨p1, q1⟩ := HP5.out 1 _ rfl
    obtain ⟨p2, q2⟩ := HP5.out 2 _ rfl
    obtain ⟨p3, q3⟩ := HP5.out 3 _ rfl
    obtain ⟨p4, q4⟩ := HP5.out 4 _ rfl
    obtain ⟨p5, q5⟩ := HP5.out 5 _ rfl
    obtain ⟨p6, q6⟩ := HP5.out 6 _ rfl
    go_wp2
    have hr7 := (HP5.out).set7 rfl (.string ⟨#[]⟩) (.slice none 0 0) (.int .u64 0) (.slice none 0 0) (.int .i64 0) (.slice none 0 0) (.slice none 0 0)
    obtain ⟨r0, -⟩ := hr7 0 _ rfl
    obtain ⟨r1, -⟩ := hr7 1 _ rfl
    obtain ⟨r2, -⟩ := hr7 2 _ rfl
    obtain ⟨r3, -⟩ := hr7 3 _ rfl
    obtain ⟨r4, -⟩ := hr7 4 _ rfl
    obtain ⟨r5, -⟩ := hr7 5 _ rfl
    obtain ⟨r6, -⟩ := hr7 6 _ rfl
    refine bodyPost_ret (v := .tuple #[.agg #[.string ⟨#[]⟩, .slice none 0 0, .int .u64 0, .slice none 0 0, .int .i64 0, .slice none 0 0, .slice none 0 0], .int .i64 3]) (by simp [results, Tryz.results64, go_sem, r0, r1, r2, r3, r4, r5, r6]; try rfl) rfl ?_
    exact ⟨_, CmV.zero _, rfl, bel_set7 HB5.out (Nat.le_refl _) _ _ _ _ _ _ _⟩
  | true =>
    simp only [if_true]
    have hz := hkz rfl
    clear hkz
    go_enter Tryz.func64, Tryz.ntmps64
    go_wp2_with fail
    (refine (HW.out _).mono ?_; rintro e w1 ⟨ao1, cap1, rfl, hc1, hb1, hcp1⟩; (have HP1 := Lib.hid ((PB.new7 w 60 _ _ _ _ _ _ _).go hb1)); (have HB1 := Lib.hid ((Below.of_al w (Obj.cells #[.string ⟨#[]⟩, .slice none 0 0, .int .u64 0, .slice none 0 0, .int .i64 0, .slice none 0 0, .slice none 0 0] 60)).st hb1)); (have HC1 := Lib.hid hc1); (have HZ1 := Lib.hid (show w.heap.size + 1 ≤ w1.heap.size by have := hb1.size; simp at this; omega)); clear hb1 hc1)
    obtain ⟨bw, ow, rfl, hcw⟩ := HC1.out.at (i := 0) (by simp)
    simp only [Nat.add_zero, List.getElem_cons_zero] at hcw
    have hbw : bw < w1.heap.size := World.block_lt_of_cell? _ _ hcw
    go_wp2_with fail
    refine (HU.out _).mono ?_
    rintro e w2 ⟨rfl, hb2⟩
    go_wp2_with fail
    obtain ⟨W3, hW3⟩ : ∃ W3, W3 = w2.alloc (Obj.cells #[.string nm, .slice none 0 0, .int .u64 0, .slice none 0 0, .int .i64 0, .slice none 0 0, .slice none 0 0] 60) := ⟨_, rfl⟩
    have hb3 : Below w2.heap.size w2 W3 := by rw [hW3]; exact Below.of_al _ _
    have HR3 := Lib.hid (show PB W3 w2.heap.size (cmN nm) by rw [hW3]; exact PB.new7 _ _ _ _ _ _ _ _ _)
    have HP3 := Lib.hid ((HP1.out.go hb2).go hb3)
    have HB3 := Lib.hid ((HB1.out.st hb2).st hb3)
    have HC3 := Lib.hid ((HC1.out.go hb2).go hb3)
    have HZ3 := Lib.hid (show W3.heap.size = w2.heap.size + 1 by rw [hW3]; simp)
    have hbb : bw < w2.heap.size := by have := hb2.size; omega
    have HZ2 := Lib.hid (show w.heap.size + 1 ≤ w2.heap.size by have := hb2.size; have := HZ1.out; omega)
    rw [← hW3]
    clear hW3 hb3 hb2 HP1 HB1 HC1 hcw hbw HZ1
    generalize w2.heap.size = b at *
    refine (HKN.out _).mono ?_
    rintro e w4 ⟨rfl, hb4⟩
    have HP4 := Lib.hid (HP3.out.go hb4)
    have HB4 := Lib.hid (HB3.out.st hb4)
    have HR4 := Lib.hid (HR3.out.go hb4)
    have HC4 := Lib.hid (HC3.out.go hb4)
    have HZ4 := Lib.hid (show b < w4.heap.size by have := hb4.size; have := HZ3.out; omega)
    clear hb4 HP3 HB3 HR3 HC3 HZ3
    obtain ⟨p0, q0⟩ := HP4.out 0 _ rfl
    obtain ⟨p1, q1⟩ := HP4.out 1 _ rfl
    obtain ⟨p2, q2⟩ := HP4.out 2 _ rfl
    obtain ⟨p3, q3⟩ := HP4.out 3 _ rfl
    obtain ⟨p4, q4⟩ := HP4.out 4 _ rfl
    obtain ⟨p5, q5⟩ := HP4.out 5 _ rfl
    obtain ⟨p6, q6⟩ := HP4.out 6 _ rfl
    obtain ⟨x0, y0⟩ := HR4.out 0 _ rfl
    obtain ⟨x1, y1⟩ := HR4.out 1 _ rfl
    obtain ⟨x2, y2⟩ := HR4.out 2 _ rfl
    obtain ⟨x3, y3⟩ := HR4.out 3 _ rfl
    obtain ⟨x4, y4⟩ := HR4.out 4 _ rfl
    obtain ⟨x5, y5⟩ := HR4.out 5 _ rfl
    obtain ⟨x6, y6⟩ := HR4.out 6 _ rfl
    have hne1 : (b = w.heap.size) = False := by simp; have := HZ2.out; omega
    have hne2 : (w.heap.size = b) = False := by simp; have := HZ2.out; omega
    go_wp2_with fail
    refine (HK.out _).mono ?_
    rintro e w5 ⟨s5, rfl, hs5, hb5⟩
    obtain rfl := hs5 trivial
    have HP5 := Lib.hid (HP4.out.go hb5)
    have HR5 := Lib.hid (HR4.out.go hb5)
    have HB5 := Lib.hid (HB4.out.st hb5)
    have HC5 := Lib.hid (HC4.out.go hb5)
    have HZ5 := Lib.hid (show b < w5.heap.size by have := hb5.size; have := HZ4.out; omega)
    clear hb5 hs5 p0 p1 p2 p3 p4 p5 p6 q0 q1 q2 q3 q4 q5 q6 x0 x1 x2 x3 x4 x5 x6 y0 y1 y2 y3 y4 y5 y6 HC4 HP4 HR4 HB4 hne1 hne2 HZ4
    go_wp2
    have HL2 := Lib.hid (show b < w5.heap.size from HZ5.out)
    have HCL := Lib.hid (fun wr p (hp : p < tl.length) (hk : KP b w5.heap.size w5 wr) => (by
      obtain ⟨b1, o1, e1, hcell⟩ := (cm_tail HC5.out).at hp
      cases e1
      rw [Nat.add_assoc, Nat.add_comm 1 p] at hcell
      exact (World.cell?_of_block (w := w5) (hk.2 bw (by have := HZ5.out; omega) (by omega))).trans hcell : wr.cell? ⟨bw, ow + (p + 1), none⟩ = some (encS tl[p])))
    have HR0 := Lib.hid (show RfS w5 w5.heap.size { cmd0 with name := nm } (.slice none 0 0) (.slice none 0 0) from ⟨World.ownsRow_nil _ _ _ _, World.ownsRow_nil _ _ _ _, fun k h => by cases h⟩)
    have hzl : s5.data.toList.length = tl.length := by rw [← hz]; rfl
    have HSA := Lib.hid (fun p (hp : p < s5.size) => (show s5[p] = s5.data.toList[p]'(by rw [hzl, ← hz]; exact hp) from by simp; rfl))
    have HF0 := Lib.hid (show foldC { cmd0 with name := nm } s5.data.toList tl = foldC { cmd0 with name := nm } (s5.data.toList.drop 0) (tl.drop 0) by rw [List.drop_zero, List.drop_zero])
    have HB0 := Lib.hid (show Bare { cmd0 with name := nm } 0 from ⟨rfl, rfl, rfl, Nat.le_refl _, Nat.le_refl _⟩)
    have HPX := Lib.hid (show PB w5 b (cmVal { cmd0 with name := nm } (.slice none 0 0) (.slice none 0 0)) from HR5.out)
    clear HR5
    generalize foldC { cmd0 with name := nm } s5.data.toList tl = r at *
    generalize s5.data.toList = L at *
    generalize ({ cmd0 with name := nm } : CmD) = c0 at *
    obtain ⟨B, hB⟩ : ∃ B, B = w5.heap.size := ⟨_, rfl⟩
    rw [← hB] at HCL HR0 HL2
    go_loopg [14] tl.length (fun g v14 wr => ∃ (p : Nat) (c : CmD) (vi vr : Value), p ≤ tl.length ∧ tl.length - p ≤ g ∧ v14 = .int .i64 p ∧ Aside (PB wr b (cmVal c vi vr)) ∧ Aside (RfS wr B c vi vr) ∧ Aside (KP b B w5 wr) ∧ Aside (B ≤ wr.heap.size) ∧ Aside (Bare c p) ∧ Aside (r = foldC c (L.drop p) (tl.drop p)))
    case atStart => exact ⟨0, c0, _, _, Nat.zero_le _, by omega, rfl, HPX.out, HR0.out, KP.refl _ _ _, Nat.le_of_eq hB, HB0.out, HF0.out⟩
    case round =>
      obtain ⟨p, c, vi, vr, hp, hg, rfl, HP, HR, HKP, HS, HBA, HF⟩ := hrel
      obtain ⟨ai, ci, rfl, -⟩ := Cel.of_owns HR.out.oi
      obtain ⟨aq, cq, rfl, -⟩ := Cel.of_owns HR.out.oq
      by_cases hlt2 : p < tl.length
      · have hlt3 : (p : Int) < (tl.length : Int) := by omega
        have hp0 : (0 : Int) ≤ (p : Int) := by omega
        have hps : p < s5.size := by omega
        have hpL : p < L.length := by omega
        have hke : s5[p] = L[p] := HSA.out p hps
        have hk := HKK.out L[p] (List.getElem_mem hpL)
        have HBAD := Lib.hid (fun h => HF.out.trans (foldC_bad (c := c) hpL hlt2 h))
        have HOK := Lib.hid (fun h => HF.out.trans (foldC_ok (c := c) hpL hlt2 h))
        have HST := Lib.hid (HBA.out.step L[p] tl[p])
        have HX := Lib.hid (Nat.le_trans (HSZ.out.1 tl[p] (by simp)) hs)
        have hcell : wr.cell? ⟨bw, ow + (p + 1), none⟩ = some (.string tl[p]) := HCL.out wr p hlt2 HKP.out
        have HT := Lib.hid (fun W h1 h2 => refCmTake_any L[p] hk tl[p] c B (.slice ai c.ints.length ci) (.slice aq c.rats.length cq) W HX.out (by have := HBA.out.2.2.2.1; omega) (by have := HBA.out.2.2.2.2; omega) h1 h2)
        unfold RtPost at HT
        have hs4 := HS.out
        have HZW := Lib.hid (show B ≤ wr.heap.size from HS.out)
        clear hk HX HBA HF
        generalize tkC L[p] tl[p] c = c2 at *
        generalize tkF L[p] tl[p] = f at *
        generalize L[p] = kd at *
        generalize tl[p] = x at *
        obtain ⟨x0, y0⟩ := HP.out 0 _ rfl
        obtain ⟨x1, y1⟩ := HP.out 1 _ rfl
        obtain ⟨x2, y2⟩ := HP.out 2 _ rfl
        obtain ⟨x3, y3⟩ := HP.out 3 _ rfl
        obtain ⟨x4, y4⟩ := HP.out 4 _ rfl
        obtain ⟨x5, y5⟩ := HP.out 5 _ rfl
        obtain ⟨x6, y6⟩ := HP.out 6 _ rfl
        have s1 : IntKind.i64.wrap ((p : Int) + 1) = (p : Int) + 1 := IntWalk.i64_in _ (by omega)
        have s2 : (0 : Int) ≤ (p : Int) + 1 := by omega
        have s3 : ((p : Int) + 1).toNat = p + 1 := by omega
        have s4 : (p : Int) + 1 < (tl.length : Int) + 1 := by omega
        have s5 : (p : Int) < (s5.size : Int) := by omega
        have HBW := Lib.hid (show bw < B by have := HL2.out; omega)
        have HZA := Lib.hid (show B ≤ wr.drew.heap.size from HZW.out)
        have HZB := Lib.hid (fun o => (show B ≤ (wr.alloc o).drew.heap.size from Nat.le_trans HZW.out (Below.of_al wr o).size))
        have HRA := Lib.hid (HR.out.go (Below.of_dr wr 1) : RfS wr.drew B c _ _)
        have HRB := Lib.hid (fun o => ((HR.out.go (Below.of_al wr o)).go (Below.of_dr _ 1) : RfS (wr.alloc o).drew B c _ _))
        have HNV := Lib.hid (show wr.heap.size < (wr.alloc (Obj.cells #[.string ⟨#[]⟩, .slice none 0 0, .int .u64 0, .slice none 0 0, .int .i64 0, .slice none 0 0, .slice none 0 0] 60)).drew.heap.size ∧ (Value.slice ai c.ints.length ci).ownBlock ≠ some wr.heap.size ∧ (Value.slice aq c.rats.length cq).ownBlock ≠ some wr.heap.size from ⟨by simp, fun e => Nat.lt_irrefl _ (HR.out.oi.lt _ e).2, fun e => Nat.lt_irrefl _ (HR.out.oq.lt _ e).2⟩)
        have HTA := Lib.hid (HT.out wr.drew HZA.out HRA.out)
        have HTB := Lib.hid (HT.out ((wr.alloc (Obj.cells #[.string ⟨#[]⟩, .slice none 0 0, .int .u64 0, .slice none 0 0, .int .i64 0, .slice none 0 0, .slice none 0 0] 60)).drew) (HZB.out _) (HRB.out _))
        simp only [cmVal] at HTA HTB
        have HS0 := Lib.hid (show wr.drew.cell? ⟨b, 0, none⟩ = some (.string c.name) ∧ wr.drew.cell? ⟨b, 1, none⟩ = some (.slice ai c.ints.length ci) ∧ wr.drew.cell? ⟨b, 2, none⟩ = some (.int .u64 c.w) ∧ wr.drew.cell? ⟨b, 3, none⟩ = some (.slice aq c.rats.length cq) ∧ wr.drew.cell? ⟨b, 4, none⟩ = some (.int .i64 0) ∧ wr.drew.cell? ⟨b, 5, none⟩ = some (.slice none 0 0) ∧ wr.drew.cell? ⟨b, 6, none⟩ = some (.slice none 0 0) ∧ wr.drew.cell? ⟨bw, ow + (p + 1), none⟩ = some (.string x) from ⟨x0, x1, x2, x3, x4, x5, x6, hcell⟩)
        have HS1 := Lib.hid (show (wr.alloc (Obj.cells #[.string ⟨#[]⟩, .slice none 0 0, .int .u64 0, .slice none 0 0, .int .i64 0, .slice none 0 0, .slice none 0 0] 60)).drew.cell? ⟨b, 0, none⟩ = some (.string c.name) ∧ (wr.alloc (Obj.cells #[.string ⟨#[]⟩, .slice none 0 0, .int .u64 0, .slice none 0 0, .int .i64 0, .slice none 0 0, .slice none 0 0] 60)).drew.cell? ⟨b, 1, none⟩ = some (.slice ai c.ints.length ci) ∧ (wr.alloc (Obj.cells #[.string ⟨#[]⟩, .slice none 0 0, .int .u64 0, .slice none 0 0, .int .i64 0, .slice none 0 0, .slice none 0 0] 60)).drew.cell? ⟨b, 2, none⟩ = some (.int .u64 c.w) ∧ (wr.alloc (Obj.cells #[.string ⟨#[]⟩, .slice none 0 0, .int .u64 0, .slice none 0 0, .int .i64 0, .slice none 0 0, .slice none 0 0] 60)).drew.cell? ⟨b, 3, none⟩ = some (.slice aq c.rats.length cq) ∧ (wr.alloc (Obj.cells #[.string ⟨#[]⟩, .slice none 0 0, .int .u64 0, .slice none 0 0, .int .i64 0, .slice none 0 0, .slice none 0 0] 60)).drew.cell? ⟨b, 4, none⟩ = some (.int .i64 0) ∧ (wr.alloc (Obj.cells #[.string ⟨#[]⟩, .slice none 0 0, .int .u64 0, .slice none 0 0, .int .i64 0, .slice none 0 0, .slice none 0 0] 60)).drew.cell? ⟨b, 5, none⟩ = some (.slice none 0 0) ∧ (wr.alloc (Obj.cells #[.string ⟨#[]⟩, .slice none 0 0, .int .u64 0, .slice none 0 0, .int .i64 0, .slice none 0 0, .slice none 0 0] 60)).drew.cell? ⟨b, 6, none⟩ = some (.slice none 0 0) ∧ (wr.alloc (Obj.cells #[.string ⟨#[]⟩, .slice none 0 0, .int .u64 0, .slice none 0 0, .int .i64 0, .slice none 0 0, .slice none 0 0] 60)).drew.cell? ⟨bw, ow + (p + 1), none⟩ = some (.string x) from c8_next (w1 := wr) (w2 := wr.alloc (Obj.cells #[.string ⟨#[]⟩, .slice none 0 0, .int .u64 0, .slice none 0 0, .int .i64 0, .slice none 0 0, .slice none 0 0] 60)) ((Below.of_al wr _).mono HZW.out) HL2.out HBW.out ⟨x0, x1, x2, x3, x4, x5, x6, hcell⟩)
        clear y0 y1 y2 y3 y4 y5 y6
        go_wp2
        go_region_held3 (fun w' => w'.cell? ⟨b, 0, none⟩ = some (.string c.name) ∧ w'.cell? ⟨b, 1, none⟩ = some (.slice ai c.ints.length ci) ∧ w'.cell? ⟨b, 2, none⟩ = some (.int .u64 c.w) ∧ w'.cell? ⟨b, 3, none⟩ = some (.slice aq c.rats.length cq) ∧ w'.cell? ⟨b, 4, none⟩ = some (.int .i64 0) ∧ w'.cell? ⟨b, 5, none⟩ = some (.slice none 0 0) ∧ w'.cell? ⟨b, 6, none⟩ = some (.slice none 0 0) ∧ w'.cell? ⟨bw, ow + (p + 1), none⟩ = some (.string x)) (first
                                        | with_reducible exact HS6.out
                                        | (have h9 := HX6; with_reducible exact c8_next (bel_set7 (Below.refl B w6) HZW.out _ _ _ _ _ _ _) HL2.out HBW.out HS6.out)
                                        | with_reducible exact c8_next ((Below.of_al w6 _).mono HZ6.out) HL2.out HBW.out HS6.out
                                        | with_reducible exact HS0.out
                                        | with_reducible exact HS1.out)
                                    (first
                                        | (go_at_call 111; (with_reducible refine HTA.out.mono ?_); rintro e w6 ⟨vi6, vr6, rfl, hr6, hb6, hk6, hi6, hq6⟩; obtain ⟨ai6, ci6, rfl, -⟩ := Cel.of_owns hr6.oi; obtain ⟨aq6, cq6, rfl, -⟩ := Cel.of_owns hr6.oq; (have HR6 := Lib.hid hr6; have HB6 := Lib.hid hb6; have HS6 := Lib.hid (c8_next hb6 HL2.out HBW.out (by assumption)); have HZ6 := Lib.hid (Nat.le_trans HZA.out hb6.size)); (clear hr6 hb6 hk6 hi6 hq6))
                                        | (go_at_call 111; (with_reducible refine HTB.out.mono ?_); rintro e w6 ⟨vi6, vr6, rfl, hr6, hb6, hk6, hi6, hq6⟩; obtain ⟨ai6, ci6, rfl, -⟩ := Cel.of_owns hr6.oi; obtain ⟨aq6, cq6, rfl, -⟩ := Cel.of_owns hr6.oq; (have HR6 := Lib.hid hr6; have HB6 := Lib.hid hb6; have HS6 := Lib.hid (c8_next hb6 HL2.out HBW.out (by assumption)); have HZ6 := Lib.hid (Nat.le_trans (HZB.out _) hb6.size)); (have hx6 : PB w6 wr.heap.size [.string ⟨#[]⟩, .slice none 0 0, .int .u64 0, .slice none 0 0, .int .i64 0, .slice none 0 0, .slice none 0 0] := (by with_reducible exact PB.eq (PB.new7d wr 60 _ _ _ _ _ _ _) (hk6 _ HNV.out.1 HNV.out.2.1 HNV.out.2.2)); have HX6 := Lib.hid hx6; (have HNE := Lib.hid (show (Value.slice ai6 c2.ints.length ci6).ownBlock ≠ some wr.heap.size ∧ (Value.slice aq6 c2.rats.length cq6).ownBlock ≠ some wr.heap.size from ⟨fun e => (hi6 _ e).elim HNV.out.2.1 (fun e => Nat.lt_irrefl _ (Nat.lt_of_lt_of_le HNV.out.1 e)), fun e => (hq6 _ e).elim HNV.out.2.2 (fun e => Nat.lt_irrefl _ (Nat.lt_of_lt_of_le HNV.out.1 e))⟩)); clear hx6; (obtain ⟨j0, k0⟩ := (HX6).out 0 _ rfl); (obtain ⟨j1, k1⟩ := (HX6).out 1 _ rfl); (obtain ⟨j2, k2⟩ := (HX6).out 2 _ rfl); (obtain ⟨j3, k3⟩ := (HX6).out 3 _ rfl); (obtain ⟨j4, k4⟩ := (HX6).out 4 _ rfl); (obtain ⟨j5, k5⟩ := (HX6).out 5 _ rfl); (obtain ⟨j6, k6⟩ := (HX6).out 6 _ rfl)); (clear hr6 hb6 hk6 hi6 hq6)))
        · obtain ⟨N7, hN7⟩ : ∃ N7, N7 = w6.heap.size := ⟨_, rfl⟩
          obtain ⟨W7, hW7⟩ : ∃ W7, W7 = w6.alloc (Obj.cells #[.string c2.name, .slice ai6 c2.ints.length ci6, .int .u64 c2.w, .slice aq6 c2.rats.length cq6, .int .i64 0, .slice none 0 0, .slice none 0 0] 60) := ⟨_, rfl⟩
          have HQ7 := Lib.hid (show PB W7 N7 [.string c2.name, .slice ai6 c2.ints.length ci6, .int .u64 c2.w, .slice aq6 c2.rats.length cq6, .int .i64 0, .slice none 0 0, .slice none 0 0] by rw [hW7, hN7]; exact PB.new7 _ _ _ _ _ _ _ _ _)
          have HR7 := Lib.hid (show RfS W7 B c2 (.slice ai6 c2.ints.length ci6) (.slice aq6 c2.rats.length cq6) by rw [hW7]; exact HR6.out.go (Below.of_al _ _))
          have HLW := Lib.hid (show Below B wr W7 by rw [hW7]; exact (((Below.of_dr wr 1).mono HZW.out).trans HB6.out).trans ((Below.of_al w6 _).mono HZ6.out))
          have HN7 := Lib.hid (show B ≤ N7 by rw [hN7]; exact HZ6.out)
          rw [← hW7, ← hN7]
          clear hW7 hN7 HS6 HZ6 HB6 HR6
          have hbB : b < B := HL2.out
          have HP7 := Lib.hid (HP.out.eq (HLW.out.block b hbB))
          have HK7 := Lib.hid (HKP.out.low hbB HLW.out)
          have HZ7 := Lib.hid (Nat.le_trans HZW.out HLW.out.size)
          have HPZ := Lib.hid (HP5.out.eq (HK7.out.1.block w.heap.size (by have := HZ2.out; omega)))
          have HBZ := Lib.hid (HB5.out.trans (HK7.out.1.mono (Nat.le_of_succ_le HZ2.out)))
          clear HLW HP HR HKP HS HTA HTB HT HS0 HS1 HNV HZA HZB HRA HRB x0 x1 x2 x3 x4 x5 x6 hcell
          obtain ⟨j0, -⟩ := HQ7.out 0 _ rfl
          obtain ⟨j1, -⟩ := HQ7.out 1 _ rfl
          obtain ⟨j2, -⟩ := HQ7.out 2 _ rfl
          obtain ⟨j3, -⟩ := HQ7.out 3 _ rfl
          obtain ⟨j4, -⟩ := HQ7.out 4 _ rfl
          obtain ⟨j5, -⟩ := HQ7.out 5 _ rfl
          obtain ⟨j6, -⟩ := HQ7.out 6 _ rfl
          by_cases hf : f = 0
          · have HOK2 := Lib.hid (HOK.out hf)
            subst hf
            clear HBAD HOK
            obtain ⟨x0, y0⟩ := HP7.out 0 _ rfl
            obtain ⟨x1, y1⟩ := HP7.out 1 _ rfl
            obtain ⟨x2, y2⟩ := HP7.out 2 _ rfl
            obtain ⟨x3, y3⟩ := HP7.out 3 _ rfl
            obtain ⟨x4, y4⟩ := HP7.out 4 _ rfl
            obtain ⟨x5, y5⟩ := HP7.out 5 _ rfl
            obtain ⟨x6, y6⟩ := HP7.out 6 _ rfl
            go_wp2
            go_roundg (tl.length - (p + 1))
            case measure => omega
            case rel => exact ⟨p + 1, c2, _, _, by omega, by omega, by go_num, HP7.out.set7 rfl _ _ _ _ _ _ _, HR7.out.low hbB _ _ _ _ _ _ _, HK7.out.put7 _ _ _ _ _ _ _, Nat.le_trans HZ7.out (bel_set7 (Below.refl b W7) (Nat.le_refl b) _ _ _ _ _ _ _).size, HST.out, HOK2.out⟩
          · have HBAD2 := Lib.hid (HBAD.out hf)
            have hf2 : (f != 0) = true := by simpa using hf
            clear HBAD HOK hf
            obtain ⟨p0, q0⟩ := HPZ.out 0 _ rfl
            obtain ⟨p1, q1⟩ := HPZ.out 1 _ rfl
            obtain ⟨p2, q2⟩ := HPZ.out 2 _ rfl
            obtain ⟨p3, q3⟩ := HPZ.out 3 _ rfl
            obtain ⟨p4, q4⟩ := HPZ.out 4 _ rfl
            obtain ⟨p5, q5⟩ := HPZ.out 5 _ rfl
            obtain ⟨p6, q6⟩ := HPZ.out 6 _ rfl
            go_wp2
            have hV := HBAD2.out
            subst hV
            have hr7 := (HPZ.out).set7 rfl (.string ⟨#[]⟩) (.slice none 0 0) (.int .u64 0) (.slice none 0 0) (.int .i64 0) (.slice none 0 0) (.slice none 0 0)
            obtain ⟨r0, -⟩ := hr7 0 _ rfl
            obtain ⟨r1, -⟩ := hr7 1 _ rfl
            obtain ⟨r2, -⟩ := hr7 2 _ rfl
            obtain ⟨r3, -⟩ := hr7 3 _ rfl
            obtain ⟨r4, -⟩ := hr7 4 _ rfl
            obtain ⟨r5, -⟩ := hr7 5 _ rfl
            obtain ⟨r6, -⟩ := hr7 6 _ rfl
            refine bodyPost_ret (v := .tuple #[.agg #[.string ⟨#[]⟩, .slice none 0 0, .int .u64 0, .slice none 0 0, .int .i64 0, .slice none 0 0, .slice none 0 0], .int .i64 f]) (by simp [results, Tryz.results64, go_sem, r0, r1, r2, r3, r4, r5, r6]; try rfl) rfl ?_
            exact ⟨_, CmV.zero _, rfl, bel_set7 HBZ.out (Nat.le_refl _) _ _ _ _ _ _ _⟩
        · obtain ⟨N7, hN7⟩ : ∃ N7, N7 = wr.heap.size := ⟨_, rfl⟩
          clear j0 j1 j2 j3 j4 j5 j6 k0 k1 k2 k3 k4 k5 k6
          rw [← hN7] at HX6 HNE ⊢
          obtain ⟨W7, hW7⟩ : ∃ W7, W7 = ((((((w6.setCell ⟨N7, 0, none⟩ (.string c2.name)).setCell ⟨N7, 1, none⟩ (.slice ai6 c2.ints.length ci6)).setCell ⟨N7, 2, none⟩ (.int .u64 c2.w)).setCell ⟨N7, 3, none⟩ (.slice aq6 c2.rats.length cq6)).setCell ⟨N7, 4, none⟩ (.int .i64 0)).setCell ⟨N7, 5, none⟩ (.slice none 0 0)).setCell ⟨N7, 6, none⟩ (.slice none 0 0) := ⟨_, rfl⟩
          have HN7 := Lib.hid (show B ≤ N7 by rw [hN7]; exact HZW.out)
          have HQ7 := Lib.hid (show PB W7 N7 [.string c2.name, .slice ai6 c2.ints.length ci6, .int .u64 c2.w, .slice aq6 c2.rats.length cq6, .int .i64 0, .slice none 0 0, .slice none 0 0] by rw [hW7]; exact HX6.out.set7 rfl _ _ _ _ _ _ _)
          have HR7 := Lib.hid (show RfS W7 B c2 (.slice ai6 c2.ints.length ci6) (.slice aq6 c2.rats.length cq6) by rw [hW7]; exact HR6.out.set7 HNE.out.1 HNE.out.2 _ _ _ _ _ _ _)
          have HLW := Lib.hid (show Below B wr W7 by rw [hW7]; exact bel_set7 ((((Below.of_al wr _).dr 1).mono HZW.out).trans HB6.out) HN7.out _ _ _ _ _ _ _)
          rw [← hW7]
          clear hW7 hN7 HS6 HZ6 HB6 HR6 HX6 HNE
          have hbB : b < B := HL2.out
          have HP7 := Lib.hid (HP.out.eq (HLW.out.block b hbB))
          have HK7 := Lib.hid (HKP.out.low hbB HLW.out)
          have HZ7 := Lib.hid (Nat.le_trans HZW.out HLW.out.size)
          have HPZ := Lib.hid (HP5.out.eq (HK7.out.1.block w.heap.size (by have := HZ2.out; omega)))
          have HBZ := Lib.hid (HB5.out.trans (HK7.out.1.mono (Nat.le_of_succ_le HZ2.out)))
          clear HLW HP HR HKP HS HTA HTB HT HS0 HS1 HNV HZA HZB HRA HRB x0 x1 x2 x3 x4 x5 x6 hcell
          obtain ⟨j0, -⟩ := HQ7.out 0 _ rfl
          obtain ⟨j1, -⟩ := HQ7.out 1 _ rfl
          obtain ⟨j2, -⟩ := HQ7.out 2 _ rfl
          obtain ⟨j3, -⟩ := HQ7.out 3 _ rfl
          obtain ⟨j4, -⟩ := HQ7.out 4 _ rfl
          obtain ⟨j5, -⟩ := HQ7.out 5 _ rfl
          obtain ⟨j6, -⟩ := HQ7.out 6 _ rfl
          by_cases hf : f = 0
          · have HOK2 := Lib.hid (HOK.out hf)
            subst hf
            clear HBAD HOK
            obtain ⟨x0, y0⟩ := HP7.out 0 _ rfl
            obtain ⟨x1, y1⟩ := HP7.out 1 _ rfl
            obtain ⟨x2, y2⟩ := HP7.out 2 _ rfl
            obtain ⟨x3, y3⟩ := HP7.out 3 _ rfl
            obtain ⟨x4, y4⟩ := HP7.out 4 _ rfl
            obtain ⟨x5, y5⟩ := HP7.out 5 _ rfl
            obtain ⟨x6, y6⟩ := HP7.out 6 _ rfl
            go_wp2
            go_roundg (tl.length - (p + 1))
            case measure => omega
            case rel => exact ⟨p + 1, c2, _, _, by omega, by omega, by go_num, HP7.out.set7 rfl _ _ _ _ _ _ _, HR7.out.low hbB _ _ _ _ _ _ _, HK7.out.put7 _ _ _ _ _ _ _, Nat.le_trans HZ7.out (bel_set7 (Below.refl b W7) (Nat.le_refl b) _ _ _ _ _ _ _).size, HST.out, HOK2.out⟩
          · have HBAD2 := Lib.hid (HBAD.out hf)
            have hf2 : (f != 0) = true := by simpa using hf
            clear HBAD HOK hf
            obtain ⟨p0, q0⟩ := HPZ.out 0 _ rfl
            obtain ⟨p1, q1⟩ := HPZ.out 1 _ rfl
            obtain ⟨p2, q2⟩ := HPZ.out 2 _ rfl
            obtain ⟨p3, q3⟩ := HPZ.out 3 _ rfl
            obtain ⟨p4, q4⟩ := HPZ.out 4 _ rfl
            obtain ⟨p5, q5⟩ := HPZ.out 5 _ rfl
            obtain ⟨p6, q6⟩ := HPZ.out 6 _ rfl
            go_wp2
            have hV := HBAD2.out
            subst hV
            have hr7 := (HPZ.out).set7 rfl (.string ⟨#[]⟩) (.slice none 0 0) (.int .u64 0) (.slice none 0 0) (.int .i64 0) (.slice none 0 0) (.slice none 0 0)
            obtain ⟨r0, -⟩ := hr7 0 _ rfl
            obtain ⟨r1, -⟩ := hr7 1 _ rfl
            obtain ⟨r2, -⟩ := hr7 2 _ rfl
            obtain ⟨r3, -⟩ := hr7 3 _ rfl
            obtain ⟨r4, -⟩ := hr7 4 _ rfl
            obtain ⟨r5, -⟩ := hr7 5 _ rfl
            obtain ⟨r6, -⟩ := hr7 6 _ rfl
            refine bodyPost_ret (v := .tuple #[.agg #[.string ⟨#[]⟩, .slice none 0 0, .int .u64 0, .slice none 0 0, .int .i64 0, .slice none 0 0, .slice none 0 0], .int .i64 f]) (by simp [results, Tryz.results64, go_sem, r0, r1, r2, r3, r4, r5, r6]; try rfl) rfl ?_
            exact ⟨_, CmV.zero _, rfl, bel_set7 HBZ.out (Nat.le_refl _) _ _ _ _ _ _ _⟩
        · obtain ⟨N7, hN7⟩ : ∃ N7, N7 = wr.heap.size := ⟨_, rfl⟩
          clear j0 j1 j2 j3 j4 j5 j6 k0 k1 k2 k3 k4 k5 k6
          rw [← hN7] at HX6 HNE ⊢
          obtain ⟨W7, hW7⟩ : ∃ W7, W7 = ((((((w6.setCell ⟨N7, 0, none⟩ (.string c2.name)).setCell ⟨N7, 1, none⟩ (.slice ai6 c2.ints.length ci6)).setCell ⟨N7, 2, none⟩ (.int .u64 c2.w)).setCell ⟨N7, 3, none⟩ (.slice aq6 c2.rats.length cq6)).setCell ⟨N7, 4, none⟩ (.int .i64 0)).setCell ⟨N7, 5, none⟩ (.slice none 0 0)).setCell ⟨N7, 6, none⟩ (.slice none 0 0) := ⟨_, rfl⟩
          have HN7 := Lib.hid (show B ≤ N7 by rw [hN7]; exact HZW.out)
          have HQ7 := Lib.hid (show PB W7 N7 [.string c2.name, .slice ai6 c2.ints.length ci6, .int .u64 c2.w, .slice aq6 c2.rats.length cq6, .int .i64 0, .slice none 0 0, .slice none 0 0] by rw [hW7]; exact HX6.out.set7 rfl _ _ _ _ _ _ _)
          have HR7 := Lib.hid (show RfS W7 B c2 (.slice ai6 c2.ints.length ci6) (.slice aq6 c2.rats.length cq6) by rw [hW7]; exact HR6.out.set7 HNE.out.1 HNE.out.2 _ _ _ _ _ _ _)
          have HLW := Lib.hid (show Below B wr W7 by rw [hW7]; exact bel_set7 ((((Below.of_al wr _).dr 1).mono HZW.out).trans HB6.out) HN7.out _ _ _ _ _ _ _)
          rw [← hW7]
          clear hW7 hN7 HS6 HZ6 HB6 HR6 HX6 HNE
          have hbB : b < B := HL2.out
          have HP7 := Lib.hid (HP.out.eq (HLW.out.block b hbB))
          have HK7 := Lib.hid (HKP.out.low hbB HLW.out)
          have HZ7 := Lib.hid (Nat.le_trans HZW.out HLW.out.size)
          have HPZ := Lib.hid (HP5.out.eq (HK7.out.1.block w.heap.size (by have := HZ2.out; omega)))
          have HBZ := Lib.hid (HB5.out.trans (HK7.out.1.mono (Nat.le_of_succ_le HZ2.out)))
          clear HLW HP HR HKP HS HTA HTB HT HS0 HS1 HNV HZA HZB HRA HRB x0 x1 x2 x3 x4 x5 x6 hcell
          obtain ⟨j0, -⟩ := HQ7.out 0 _ rfl
          obtain ⟨j1, -⟩ := HQ7.out 1 _ rfl
          obtain ⟨j2, -⟩ := HQ7.out 2 _ rfl
          obtain ⟨j3, -⟩ := HQ7.out 3 _ rfl
          obtain ⟨j4, -⟩ := HQ7.out 4 _ rfl
          obtain ⟨j5, -⟩ := HQ7.out 5 _ rfl
          obtain ⟨j6, -⟩ := HQ7.out 6 _ rfl
          by_cases hf : f = 0
          · have HOK2 := Lib.hid (HOK.out hf)
            subst hf
            clear HBAD HOK
            obtain ⟨x0, y0⟩ := HP7.out 0 _ rfl
            obtain ⟨x1, y1⟩ := HP7.out 1 _ rfl
            obtain ⟨x2, y2⟩ := HP7.out 2 _ rfl
            obtain ⟨x3, y3⟩ := HP7.out 3 _ rfl
            obtain ⟨x4, y4⟩ := HP7.out 4 _ rfl
            obtain ⟨x5, y5⟩ := HP7.out 5 _ rfl
            obtain ⟨x6, y6⟩ := HP7.out 6 _ rfl
            go_wp2
            go_roundg (tl.length - (p + 1))
            case measure => omega
            case rel => exact ⟨p + 1, c2, _, _, by omega, by omega, by go_num, HP7.out.set7 rfl _ _ _ _ _ _ _, HR7.out.low hbB _ _ _ _ _ _ _, HK7.out.put7 _ _ _ _ _ _ _, Nat.le_trans HZ7.out (bel_set7 (Below.refl b W7) (Nat.le_refl b) _ _ _ _ _ _ _).size, HST.out, HOK2.out⟩
          · have HBAD2 := Lib.hid (HBAD.out hf)
            have hf2 : (f != 0) = true := by simpa using hf
            clear HBAD HOK hf
            obtain ⟨p0, q0⟩ := HPZ.out 0 _ rfl
            obtain ⟨p1, q1⟩ := HPZ.out 1 _ rfl
            obtain ⟨p2, q2⟩ := HPZ.out 2 _ rfl
            obtain ⟨p3, q3⟩ := HPZ.out 3 _ rfl
            obtain ⟨p4, q4⟩ := HPZ.out 4 _ rfl
            obtain ⟨p5, q5⟩ := HPZ.out 5 _ rfl
            obtain ⟨p6, q6⟩ := HPZ.out 6 _ rfl
            go_wp2
            have hV := HBAD2.out
            subst hV
            have hr7 := (HPZ.out).set7 rfl (.string ⟨#[]⟩) (.slice none 0 0) (.int .u64 0) (.slice none 0 0) (.int .i64 0) (.slice none 0 0) (.slice none 0 0)
            obtain ⟨r0, -⟩ := hr7 0 _ rfl
            obtain ⟨r1, -⟩ := hr7 1 _ rfl
            obtain ⟨r2, -⟩ := hr7 2 _ rfl
            obtain ⟨r3, -⟩ := hr7 3 _ rfl
            obtain ⟨r4, -⟩ := hr7 4 _ rfl
            obtain ⟨r5, -⟩ := hr7 5 _ rfl
            obtain ⟨r6, -⟩ := hr7 6 _ rfl
            refine bodyPost_ret (v := .tuple #[.agg #[.string ⟨#[]⟩, .slice none 0 0, .int .u64 0, .slice none 0 0, .int .i64 0, .slice none 0 0, .slice none 0 0], .int .i64 f]) (by simp [results, Tryz.results64, go_sem, r0, r1, r2, r3, r4, r5, r6]; try rfl) rfl ?_
            exact ⟨_, CmV.zero _, rfl, bel_set7 HBZ.out (Nat.le_refl _) _ _ _ _ _ _ _⟩
      · obtain rfl : p = tl.length := by omega
        have e := HF.out
        rw [← hzl, foldC_end] at e
        obtain ⟨h1, h2, h3, -, -⟩ := HBA.out
        have HPZ := Lib.hid (HP5.out.eq (HKP.out.1.block w.heap.size (by have := HZ2.out; omega)))
        have HBZ := Lib.hid (HB5.out.trans (HKP.out.1.mono (Nat.le_of_succ_le HZ2.out)))
        have hne1 : (b = w.heap.size) = False := by simp; have := HZ2.out; omega
        have hne2 : (w.heap.size = b) = False := by simp; have := HZ2.out; omega
        have HV := Lib.hid e
        have HE := Lib.hid (And.intro h1 (And.intro h2 h3))
        have hci := Lib.hid (Cel.of_owns HR.out.oi)
        have hcq := Lib.hid (Cel.of_owns HR.out.oq)
        clear e h1 h2 h3
        obtain ⟨x0, y0⟩ := HP.out 0 _ rfl
        obtain ⟨x1, y1⟩ := HP.out 1 _ rfl
        obtain ⟨x2, y2⟩ := HP.out 2 _ rfl
        obtain ⟨x3, y3⟩ := HP.out 3 _ rfl
        obtain ⟨x4, y4⟩ := HP.out 4 _ rfl
        obtain ⟨x5, y5⟩ := HP.out 5 _ rfl
        obtain ⟨x6, y6⟩ := HP.out 6 _ rfl
        obtain ⟨p0, q0⟩ := HPZ.out 0 _ rfl
        obtain ⟨p1, q1⟩ := HPZ.out 1 _ rfl
        obtain ⟨p2, q2⟩ := HPZ.out 2 _ rfl
        obtain ⟨p3, q3⟩ := HPZ.out 3 _ rfl
        obtain ⟨p4, q4⟩ := HPZ.out 4 _ rfl
        obtain ⟨p5, q5⟩ := HPZ.out 5 _ rfl
        obtain ⟨p6, q6⟩ := HPZ.out 6 _ rfl
        go_wp2
        obtain ⟨ai', ci', e1, hi⟩ := hci.out
        obtain ⟨aq', cq', e2, hq⟩ := hcq.out
        cases e1
        cases e2
        have hfi : ∀ x, ai = some x → x.block ≠ w.heap.size := fun x e => by
          have := owns_far HR.out.oi x e
          have h9 := HZ2.out
          have h8 := HL2.out
          omega
        have hfq : ∀ x, aq = some x → x.block ≠ w.heap.size := fun x e => by
          have := owns_far HR.out.oq x e
          have h9 := HZ2.out
          have h8 := HL2.out
          omega
        have hV := HV.out
        subst hV
        have hr7 := (HPZ.out).set7 rfl (.string c.name) (.slice ai c.ints.length ci) (.int .u64 c.w) (.slice aq c.rats.length cq) (.int .i64 0) (.slice none 0 0) (.slice none 0 0)
        obtain ⟨r0, -⟩ := hr7 0 _ rfl
        obtain ⟨r1, -⟩ := hr7 1 _ rfl
        obtain ⟨r2, -⟩ := hr7 2 _ rfl
        obtain ⟨r3, -⟩ := hr7 3 _ rfl
        obtain ⟨r4, -⟩ := hr7 4 _ rfl
        obtain ⟨r5, -⟩ := hr7 5 _ rfl
        obtain ⟨r6, -⟩ := hr7 6 _ rfl
        refine bodyPost_ret (v := .tuple #[.agg #[.string c.name, .slice ai c.ints.length ci, .int .u64 c.w, .slice aq c.rats.length cq, .int .i64 0, .slice none 0 0, .slice none 0 0], .int .i64 0]) (by simp [results, Tryz.results64, go_sem, r0, r1, r2, r3, r4, r5, r6]; try rfl) rfl ?_
        exact ⟨_, ⟨ai, ci, aq, cq, none, 0, none, 0, by rw [HE.out.1, HE.out.2.1, HE.out.2.2]; rfl, hi.put7 hfi _ _ _ _ _ _ _, hq.put7 hfq _ _ _ _ _ _ _, by rw [HE.out.2.1]; exact Cel.nil _ _, by rw [HE.out.2.2]; exact Cel.nil _ _⟩, rfl, bel_set7 HBZ.out (Nat.le_refl _) _ _ _ _ _ _ _⟩

end Go.Proofs.YtelcmkccfjdmjaaGreatDoor

namespace Go.Proofs.YtelcmkccfjdmjaaGreatDoor
open Go Go.Proofs Go.RowKit Go.Shelf Go.Sort

set_option maxHeartbeats 1000000 in
theorem refGSame_any (n m : Int) (es fs : List EdgeD) (ao bo : Option Addr) (ca cb : Nat) (w : World) (hl : es.length ≤ 9223372036854775807) (hl2 : fs.length ≤ 9223372036854775807) (ha : Cel w ao (flat es)) (hb : Cel w bo (flat fs)) :
    Calls Tryz.prog 68 #[.agg #[.int .i64 n, .slice ao es.length ca], .agg #[.int .i64 m, .slice bo fs.length cb]] w fun e w' => e = .returned (.bool (decide (n = m) && decide (es = fs))) ∧ Below w.heap.size w w' := by
  have HA := Lib.hid ha
  have HB := Lib.hid hb
  clear ha hb
  by_cases hn : n = m
  · subst hn
    rw [decide_eq_true (rfl : n = n), Bool.true_and]
    by_cases hlen : es.length = fs.length
    · have HLN := Lib.hid hlen
      have hn3 : ((es.length : Int) != (fs.length : Int)) = false := by simp; omega
      clear hlen
      have HD := Lib.hid (fun k (h1 : k < es.length) (h2 : es[k] ≠ fs[k]'(by have := HLN.out; omega)) => (decide_eq_false (fun e => h2 (by subst e; rfl)) : decide (es = fs) = false))
      have HE := Lib.hid (fun h : (∀ j (h : j < es.length), es[j] = fs[j]'(by have := HLN.out; omega)) => (decide_eq_true (List.ext_getElem HLN.out (fun i h1 h2 => h i h1)) : decide (es = fs) = true))
      generalize decide (es = fs) = r at *
      have hn4 : (n != n) = false := by simp
      go_enter Tryz.func68, Tryz.ntmps68
      go_wp2
      obtain ⟨W, hW, HW, HP, HR⟩ : ∃ W, W = (w.alloc (Obj.cells #[.int .i64 n, .slice ao es.length ca] 53)).alloc (Obj.cells #[.int .i64 n, .slice bo fs.length cb] 53) ∧ Below w.heap.size w W ∧ C2 W w.heap.size (.int .i64 n) (.slice ao es.length ca) ∧ C2 W (w.heap.size + 1) (.int .i64 n) (.slice bo fs.length cb) :=
        ⟨_, rfl, (Below.of_al _ _).al _, (C2.new w 53 _ _).go (Below.of_al _ _), C2.newAt _ 53 _ _ (by simp)⟩
      rw [← hW]
      clear hW
      have HW1 := Lib.hid HW
      have HA1 := Lib.hid (HA.out.go HW)
      have HB1 := Lib.hid (HB.out.go HW)
      clear HW HA HB
      obtain ⟨p0, p1, -, -⟩ := HP
      obtain ⟨q0, q1, -, -⟩ := HR
      go_loopg [5] es.length (fun gq i wr => ∃ k q : Nat, k ≤ es.length ∧ es.length - k ≤ gq ∧ i = .int .i64 k ∧ wr = W.drewN q ∧ Aside (∀ j (h : j < es.length), j < k → es[j] = fs[j]'(by have := HLN.out; omega)))
      case atStart => exact ⟨0, 0, Nat.zero_le _, by omega, rfl, rfl, fun j _ h => absurd h (Nat.not_lt_zero _)⟩
      case round =>
        obtain ⟨k, q, hk, hg, rfl, rfl, HF⟩ := hrel
        by_cases hlt : k < es.length
        · have hlt2 : k < fs.length := by have := HLN.out; omega
          obtain ⟨b1, o1, hao, f1, f2, f3⟩ := HA1.out.edge hlt
          obtain ⟨b2, o2, hbo, g1, g2, g3⟩ := HB1.out.edge hlt2
          subst hao hbo
          have hlt3 : (k : Int) < (es.length : Int) := by omega
          have hlt4 : (k : Int) < (fs.length : Int) := by omega
          have hk0 : (0 : Int) ≤ (k : Int) := by omega
          have HD2 := Lib.hid (HD.out k hlt)
          have HM := Lib.hid (fun h : es[k] = fs[k] => (fun j (h1 : j < es.length) (h2 : j < k + 1) => (by
            by_cases e : j = k
            · subst e; exact h
            · exact HF.out j h1 (by omega) : es[j] = fs[j]'(by have := HLN.out; omega))))
          generalize es[k] = x at *
          generalize fs[k] = y at *
          obtain ⟨xf, xt, xw⟩ := x
          obtain ⟨yf, yt, yw⟩ := y
          simp only at f1 f2 f3 g1 g2 g3
          by_cases hq : xf = yf ∧ xt = yt ∧ xw = yw
          · obtain ⟨rfl, rfl, rfl⟩ := hq
            have HM2 := Lib.hid (HM.out rfl)
            clear HD2 HM
            go_wp2
            go_quiet (fail)
            go_wp2
            go_roundg (es.length - (k + 1))
            case measure => omega
            case rel => exact ⟨k + 1, q + nq, by omega, by omega, by go_num, by first | rfl | (rw [World.drewN_add]), HM2.out⟩
          · have HM2 := Lib.hid (HD2.out (fun e => by cases e; exact hq ⟨rfl, rfl, rfl⟩))
            clear HD2 HM
            have h3 : ¬ xf = yf ∨ xf = yf ∧ ¬ xt = yt ∨ xf = yf ∧ xt = yt ∧ ¬ xw = yw := by omega
            clear hq
            rcases h3 with h3 | ⟨rfl, h3⟩ | ⟨rfl, rfl, h3⟩
            all_goals
              go_wp2
              go_quiet (fail)
              go_wp2
              go_ret
              exact ⟨by rw [HM2.out]; rfl, HW1.out.dr _ |>.dr _⟩
        · obtain rfl : k = es.length := by omega
          have HE2 := Lib.hid (HE.out (fun j h => HF.out j h h))
          go_wp2
          go_ret
          exact ⟨by rw [HE2.out]; rfl, HW1.out.dr _⟩
    · have hr : decide (es = fs) = false := decide_eq_false (fun e => hlen (by rw [e]))
      rw [hr]
      have hn3 : ((es.length : Int) != (fs.length : Int)) = true := by simp; omega
      have hn4 : (n != n) = false := by simp
      clear hlen hr
      go_enter Tryz.func68, Tryz.ntmps68
      go_wp2
      go_ret
      exact ⟨rfl, (Below.of_al _ _).al _⟩
  · rw [decide_eq_false hn, Bool.false_and]
    have hn4 : (n != m) = true := by simpa using hn
    clear hn
    go_enter Tryz.func68, Tryz.ntmps68
    go_wp2
    go_ret
    exact ⟨rfl, (Below.of_al _ _).al _⟩

end Go.Proofs.YtelcmkccfjdmjaaGreatDoor

namespace Go.Proofs.YtelcmkccfjdmjaaGreatDoor
open Go Go.Proofs Go.RowKit Go.Shelf Go.Sort

/-- the rows of a command are no longer than any machine's -/
def SmallC (c : CmD) : Prop := c.ints.length ≤ 9223372036854775807 ∧ c.rats.length ≤ 9223372036854775807 ∧ c.ge.length ≤ 9223372036854775807 ∧ c.rank.length ≤ 9223372036854775807
theorem sameC (c d : CmD) : decide (c = d) = (decide (c.name = d.name) && (decide (c.ints = d.ints) && (decide (c.w = d.w) && (decide (c.rats = d.rats) && ((decide (c.gn = d.gn) && decide (c.ge = d.ge)) && decide (c.rank = d.rank)))))) := by
  obtain ⟨a1, a2, a3, a4, a5, a6, a7⟩ := c
  obtain ⟨b1, b2, b3, b4, b5, b6, b7⟩ := d
  rw [Bool.eq_iff_iff]
  simp
  exact fun _ _ _ _ => and_assoc.symm
theorem flatP_at {W : World} {ao : Option Addr} {l : List (Int × Int)} (h : Cel W ao (flatP l)) {k : Nat} (hk : k < l.length) :
    ∃ b o, ao = some ⟨b, o, none⟩ ∧ W.cell? ⟨b, o + k * 2, none⟩ = some (.int .u64 l[k].1) ∧ W.cell? ⟨b, o + k * 2 + 1, none⟩ = some (.int .u64 l[k].2) := by
  have hf : ∀ (l : List (Int × Int)) (k : Nat) (hk : k < l.length), (flatP l)[k * 2]? = some (.int .u64 l[k].1) ∧ (flatP l)[k * 2 + 1]? = some (.int .u64 l[k].2) := by
    intro l
    induction l with
    | nil => intro k hk; simp at hk
    | cons p l ih =>
      intro k hk
      match k with
      | 0 => exact ⟨rfl, rfl⟩
      | k + 1 =>
        have := ih k (by simpa using hk)
        rw [show (k + 1) * 2 = k * 2 + 2 by omega]
        exact this
  obtain ⟨h1, h2⟩ := hf l k hk
  obtain ⟨b, o, e, hc⟩ := h _ _ h1
  obtain ⟨b', o', e', hc'⟩ := h _ _ h2
  cases e
  cases e'
  exact ⟨b, o, rfl, hc, hc'⟩

set_option maxRecDepth 100000 in
set_option maxHeartbeats 4000000 in
theorem refCmSame_any (c d : CmD) (v u : List Value) (w : World) (hc : CmV w c v) (hd : CmV w d u) (hs : SmallC c) (ht : SmallC d) :
    Calls Tryz.prog 27 #[.agg v.toArray, .agg u.toArray] w fun e w' => e = .returned (.bool (decide (c = d))) ∧ Below w.heap.size w w' := by
  obtain ⟨ai, ci, aq, cq, ag, cg, ak, ck, rfl, h1, h2, h3, h4⟩ := hc
  obtain ⟨bi, di, bq, dq, bg, dg, bk, dk, rfl, k1, k2, k3, k4⟩ := hd
  rw [sameC]
  obtain ⟨W, hW⟩ : ∃ W, W = (w.alloc (Obj.cells #[.string c.name, .slice ai c.ints.length ci, .int .u64 c.w, .slice aq c.rats.length cq, .int .i64 c.gn, .slice ag c.ge.length cg, .slice ak c.rank.length ck] 60)).alloc (Obj.cells #[.string d.name, .slice bi d.ints.length di, .int .u64 d.w, .slice bq d.rats.length dq, .int .i64 d.gn, .slice bg d.ge.length dg, .slice bk d.rank.length dk] 60) := ⟨_, rfl⟩
  have HP := Lib.hid (show PB W w.heap.size _ by rw [hW]; exact (PB.new7 _ _ _ _ _ _ _ _ _).go (Below.of_al _ _))
  have HX := Lib.hid (show PB W (w.heap.size + 1) _ by rw [hW]; exact PB.new7At _ _ _ _ _ _ _ _ _ (by simp))
  have HB := Lib.hid (show Below w.heap.size w W by rw [hW]; exact (Below.of_al _ _).al _)
  have HI := Lib.hid (fun W' (hb : Below W.heap.size W W') => sameInts_any ai bi ci di c.ints d.ints W' hs.1 ht.1 ((h1.go HB.out).go hb) ((k1.go HB.out).go hb))
  have HG := Lib.hid (fun W' (hb : Below W.heap.size W W') => refGSame_any c.gn d.gn c.ge d.ge ag bg cg dg W' hs.2.2.1 ht.2.2.1 ((h3.go HB.out).go hb) ((k3.go HB.out).go hb))
  have HK := Lib.hid (fun W' (hb : Below W.heap.size W W') => sameInts_any ak bk ck dk c.rank d.rank W' hs.2.2.2 ht.2.2.2 ((h4.go HB.out).go hb) ((k4.go HB.out).go hb))
  have HQ1 := Lib.hid (h2.go HB.out)
  have HQ2 := Lib.hid (k2.go HB.out)
  obtain ⟨hs1, hs2, hs3, hs4⟩ := hs
  obtain ⟨ht1, ht2, ht3, ht4⟩ := ht
  clear h1 h2 h3 h4 k1 k2 k3 k4 hs1 ht1 hs3 ht3 hs4 ht4
  generalize decide (c.ints = d.ints) = b1 at *
  generalize (decide (c.gn = d.gn) && decide (c.ge = d.ge)) = b2 at *
  generalize decide (c.rank = d.rank) = b3 at *
  obtain ⟨p0, -⟩ := HP.out 0 _ rfl
  obtain ⟨p1, -⟩ := HP.out 1 _ rfl
  obtain ⟨p2, -⟩ := HP.out 2 _ rfl
  obtain ⟨p3, -⟩ := HP.out 3 _ rfl
  obtain ⟨p4, -⟩ := HP.out 4 _ rfl
  obtain ⟨p5, -⟩ := HP.out 5 _ rfl
  obtain ⟨p6, -⟩ := HP.out 6 _ rfl
  obtain ⟨x0, -⟩ := HX.out 0 _ rfl
  obtain ⟨x1, -⟩ := HX.out 1 _ rfl
  obtain ⟨x2, -⟩ := HX.out 2 _ rfl
  obtain ⟨x3, -⟩ := HX.out 3 _ rfl
  obtain ⟨x4, -⟩ := HX.out 4 _ rfl
  obtain ⟨x5, -⟩ := HX.out 5 _ rfl
  obtain ⟨x6, -⟩ := HX.out 6 _ rfl
  by_cases hn : c.name = d.name
  · rw [decide_eq_true hn, Bool.true_and]
    rw [hn] at p0 hW ⊢
    generalize d.name = nm at *
    have hn2 : (nm.toList == nm.toList) = true := by simp
    clear hn
    cases b1 with
    | false =>
      rw [Bool.false_and]
      go_enter Tryz.func27, Tryz.ntmps27
      go_upto_region 1 with (fail)
      rw [← hW]
      clear hW
      go_wp2_with (first
  | (go_at_call_of 29 (#[.slice ai c.ints.length ci, .slice bi d.ints.length di] : Array Value); refine (HI.out _ (Below.refl _ _)).mono ?_; rintro e w1 ⟨rfl, n1, rfl⟩)
  | (go_at_call 68; refine (HG.out _ (Below.of_dr W n1)).mono ?_; rintro e w2 ⟨rfl, hb2⟩; (have HB2 := Lib.hid ((HB.out.dr n1).st hb2)); (have HP2 := Lib.hid ((HP.out.go (Below.of_dr W n1)).go hb2)); (have HX2 := Lib.hid ((HX.out.go (Below.of_dr W n1)).go hb2)); (have HW2 := Lib.hid ((Below.of_dr W n1).st hb2)); clear hb2; (obtain ⟨p0, -⟩ := (HP2).out 0 _ rfl); (obtain ⟨p1, -⟩ := (HP2).out 1 _ rfl); (obtain ⟨p2, -⟩ := (HP2).out 2 _ rfl); (obtain ⟨p3, -⟩ := (HP2).out 3 _ rfl); (obtain ⟨p4, -⟩ := (HP2).out 4 _ rfl); (obtain ⟨p5, -⟩ := (HP2).out 5 _ rfl); (obtain ⟨p6, -⟩ := (HP2).out 6 _ rfl); (obtain ⟨x0, -⟩ := (HX2).out 0 _ rfl); (obtain ⟨x1, -⟩ := (HX2).out 1 _ rfl); (obtain ⟨x2, -⟩ := (HX2).out 2 _ rfl); (obtain ⟨x3, -⟩ := (HX2).out 3 _ rfl); (obtain ⟨x4, -⟩ := (HX2).out 4 _ rfl); (obtain ⟨x5, -⟩ := (HX2).out 5 _ rfl); (obtain ⟨x6, -⟩ := (HX2).out 6 _ rfl))
  | (go_at_call_of 29 (#[.slice ak c.rank.length ck, .slice bk d.rank.length dk] : Array Value); refine (HK.out _ HW2.out).mono ?_; rintro e w3 ⟨rfl, n3, rfl⟩))
      go_ret
      exact ⟨rfl, HB.out.dr _⟩
    | true =>
      rw [Bool.true_and]
      by_cases hw : c.w = d.w
      · rw [decide_eq_true hw, Bool.true_and]
        rw [hw] at p2 hW ⊢
        generalize d.w = wv at *
        have hw2 : (wv != wv) = false := by simp
        clear hw
        by_cases hl : c.rats.length = d.rats.length
        · have HL := Lib.hid hl
          have hl2 : ((c.rats.length : Int) != (d.rats.length : Int)) = false := by simp; omega
          clear hl
          cases b2 with
          | false =>
            rw [Bool.false_and, Bool.and_false]
            go_enter Tryz.func27, Tryz.ntmps27
            go_upto_region 1 with (fail)
            rw [← hW]
            clear hW
            go_wp2_with (first
  | (go_at_call_of 29 (#[.slice ai c.ints.length ci, .slice bi d.ints.length di] : Array Value); refine (HI.out _ (Below.refl _ _)).mono ?_; rintro e w1 ⟨rfl, n1, rfl⟩)
  | (go_at_call 68; refine (HG.out _ (Below.of_dr W n1)).mono ?_; rintro e w2 ⟨rfl, hb2⟩; (have HB2 := Lib.hid ((HB.out.dr n1).st hb2)); (have HP2 := Lib.hid ((HP.out.go (Below.of_dr W n1)).go hb2)); (have HX2 := Lib.hid ((HX.out.go (Below.of_dr W n1)).go hb2)); (have HW2 := Lib.hid ((Below.of_dr W n1).st hb2)); clear hb2; (obtain ⟨p0, -⟩ := (HP2).out 0 _ rfl); (obtain ⟨p1, -⟩ := (HP2).out 1 _ rfl); (obtain ⟨p2, -⟩ := (HP2).out 2 _ rfl); (obtain ⟨p3, -⟩ := (HP2).out 3 _ rfl); (obtain ⟨p4, -⟩ := (HP2).out 4 _ rfl); (obtain ⟨p5, -⟩ := (HP2).out 5 _ rfl); (obtain ⟨p6, -⟩ := (HP2).out 6 _ rfl); (obtain ⟨x0, -⟩ := (HX2).out 0 _ rfl); (obtain ⟨x1, -⟩ := (HX2).out 1 _ rfl); (obtain ⟨x2, -⟩ := (HX2).out 2 _ rfl); (obtain ⟨x3, -⟩ := (HX2).out 3 _ rfl); (obtain ⟨x4, -⟩ := (HX2).out 4 _ rfl); (obtain ⟨x5, -⟩ := (HX2).out 5 _ rfl); (obtain ⟨x6, -⟩ := (HX2).out 6 _ rfl))
  | (go_at_call_of 29 (#[.slice ak c.rank.length ck, .slice bk d.rank.length dk] : Array Value); refine (HK.out _ HW2.out).mono ?_; rintro e w3 ⟨rfl, n3, rfl⟩))
            go_ret
            exact ⟨rfl, HB2.out⟩
          | true =>
            rw [Bool.true_and]
            cases b3 with
            | false =>
              rw [Bool.and_false]
              go_enter Tryz.func27, Tryz.ntmps27
              go_upto_region 1 with (fail)
              rw [← hW]
              clear hW
              go_wp2_with (first
  | (go_at_call_of 29 (#[.slice ai c.ints.length ci, .slice bi d.ints.length di] : Array Value); refine (HI.out _ (Below.refl _ _)).mono ?_; rintro e w1 ⟨rfl, n1, rfl⟩)
  | (go_at_call 68; refine (HG.out _ (Below.of_dr W n1)).mono ?_; rintro e w2 ⟨rfl, hb2⟩; (have HB2 := Lib.hid ((HB.out.dr n1).st hb2)); (have HP2 := Lib.hid ((HP.out.go (Below.of_dr W n1)).go hb2)); (have HX2 := Lib.hid ((HX.out.go (Below.of_dr W n1)).go hb2)); (have HW2 := Lib.hid ((Below.of_dr W n1).st hb2)); clear hb2; (obtain ⟨p0, -⟩ := (HP2).out 0 _ rfl); (obtain ⟨p1, -⟩ := (HP2).out 1 _ rfl); (obtain ⟨p2, -⟩ := (HP2).out 2 _ rfl); (obtain ⟨p3, -⟩ := (HP2).out 3 _ rfl); (obtain ⟨p4, -⟩ := (HP2).out 4 _ rfl); (obtain ⟨p5, -⟩ := (HP2).out 5 _ rfl); (obtain ⟨p6, -⟩ := (HP2).out 6 _ rfl); (obtain ⟨x0, -⟩ := (HX2).out 0 _ rfl); (obtain ⟨x1, -⟩ := (HX2).out 1 _ rfl); (obtain ⟨x2, -⟩ := (HX2).out 2 _ rfl); (obtain ⟨x3, -⟩ := (HX2).out 3 _ rfl); (obtain ⟨x4, -⟩ := (HX2).out 4 _ rfl); (obtain ⟨x5, -⟩ := (HX2).out 5 _ rfl); (obtain ⟨x6, -⟩ := (HX2).out 6 _ rfl))
  | (go_at_call_of 29 (#[.slice ak c.rank.length ck, .slice bk d.rank.length dk] : Array Value); refine (HK.out _ HW2.out).mono ?_; rintro e w3 ⟨rfl, n3, rfl⟩))
              go_ret
              exact ⟨rfl, HB2.out.dr _⟩
            | true =>
              rw [Bool.and_true]
              have HD := Lib.hid (fun k (h1 : k < c.rats.length) (h2 : c.rats[k] ≠ d.rats[k]'(by have := HL.out; omega)) => (decide_eq_false (fun e => h2 (by simp only [e])) : decide (c.rats = d.rats) = false))
              have HE := Lib.hid (fun h : (∀ j (h : j < c.rats.length), c.rats[j] = d.rats[j]'(by have := HL.out; omega)) => (decide_eq_true (List.ext_getElem HL.out (fun i h1 h2 => h i h1)) : decide (c.rats = d.rats) = true))
              generalize decide (c.rats = d.rats) = r at *
              go_enter Tryz.func27, Tryz.ntmps27
              go_upto_region 1 with (fail)
              rw [← hW]
              clear hW
              go_wp2_with (first
  | (go_at_call_of 29 (#[.slice ai c.ints.length ci, .slice bi d.ints.length di] : Array Value); refine (HI.out _ (Below.refl _ _)).mono ?_; rintro e w1 ⟨rfl, n1, rfl⟩)
  | (go_at_call 68; refine (HG.out _ (Below.of_dr W n1)).mono ?_; rintro e w2 ⟨rfl, hb2⟩; (have HB2 := Lib.hid ((HB.out.dr n1).st hb2)); (have HP2 := Lib.hid ((HP.out.go (Below.of_dr W n1)).go hb2)); (have HX2 := Lib.hid ((HX.out.go (Below.of_dr W n1)).go hb2)); (have HW2 := Lib.hid ((Below.of_dr W n1).st hb2)); clear hb2; (obtain ⟨p0, -⟩ := (HP2).out 0 _ rfl); (obtain ⟨p1, -⟩ := (HP2).out 1 _ rfl); (obtain ⟨p2, -⟩ := (HP2).out 2 _ rfl); (obtain ⟨p3, -⟩ := (HP2).out 3 _ rfl); (obtain ⟨p4, -⟩ := (HP2).out 4 _ rfl); (obtain ⟨p5, -⟩ := (HP2).out 5 _ rfl); (obtain ⟨p6, -⟩ := (HP2).out 6 _ rfl); (obtain ⟨x0, -⟩ := (HX2).out 0 _ rfl); (obtain ⟨x1, -⟩ := (HX2).out 1 _ rfl); (obtain ⟨x2, -⟩ := (HX2).out 2 _ rfl); (obtain ⟨x3, -⟩ := (HX2).out 3 _ rfl); (obtain ⟨x4, -⟩ := (HX2).out 4 _ rfl); (obtain ⟨x5, -⟩ := (HX2).out 5 _ rfl); (obtain ⟨x6, -⟩ := (HX2).out 6 _ rfl))
  | (go_at_call_of 29 (#[.slice ak c.rank.length ck, .slice bk d.rank.length dk] : Array Value); refine (HK.out _ HW2.out).mono ?_; rintro e w3 ⟨rfl, n3, rfl⟩))
              have HQA := Lib.hid (HQ1.out.go HW2.out)
              have HQB := Lib.hid (HQ2.out.go HW2.out)
              clear HQ1 HQ2 HW2 HP HX HB HI HG HK
              go_loopg [5] c.rats.length (fun gq i wr => ∃ k q : Nat, k ≤ c.rats.length ∧ c.rats.length - k ≤ gq ∧ i = .int .i64 k ∧ wr = w2.drewN q ∧ Aside (∀ j (h : j < c.rats.length), j < k → c.rats[j] = d.rats[j]'(by have := HL.out; omega)))
              case atStart => exact ⟨0, n3, Nat.zero_le _, by omega, rfl, rfl, fun j _ h => absurd h (Nat.not_lt_zero _)⟩
              case round =>
                obtain ⟨k, q, hk, hg, rfl, rfl, HF⟩ := hrel
                by_cases hlt : k < c.rats.length
                · have hlt2 : k < d.rats.length := by have := HL.out; omega
                  obtain ⟨y1, o1, hao, f1, f2⟩ := flatP_at HQA.out hlt
                  obtain ⟨y2, o2, hbo, g1, g2⟩ := flatP_at HQB.out hlt2
                  subst hao hbo
                  have hlt3 : (k : Int) < (c.rats.length : Int) := by omega
                  have hlt4 : (k : Int) < (d.rats.length : Int) := by omega
                  have hk0 : (0 : Int) ≤ (k : Int) := by omega
                  have HD2 := Lib.hid (HD.out k hlt)
                  have HM := Lib.hid (fun h : c.rats[k] = d.rats[k] => (fun j (h1 : j < c.rats.length) (h2 : j < k + 1) => (by
                    by_cases e : j = k
                    · subst e; exact h
                    · exact HF.out j h1 (by omega) : c.rats[j] = d.rats[j]'(by have := HL.out; omega))))
                  generalize c.rats[k] = x at *
                  generalize d.rats[k] = y at *
                  obtain ⟨xf, xt⟩ := x
                  obtain ⟨yf, yt⟩ := y
                  simp only at f1 f2 g1 g2
                  by_cases hq : xf = yf ∧ xt = yt
                  · obtain ⟨rfl, rfl⟩ := hq
                    have HM2 := Lib.hid (HM.out rfl)
                    clear HD2 HM
                    go_wp2
                    go_quiet (fail)
                    go_wp2
                    go_roundg (c.rats.length - (k + 1))
                    case measure => omega
                    case rel => exact ⟨k + 1, q + nq, by omega, by omega, by go_num, by first | rfl | (rw [World.drewN_add]), HM2.out⟩
                  · have HM2 := Lib.hid (HD2.out (fun e => by cases e; exact hq ⟨rfl, rfl⟩))
                    clear HD2 HM
                    have h3 : ¬ xf = yf ∨ xf = yf ∧ ¬ xt = yt := by omega
                    clear hq
                    rcases h3 with h3 | ⟨rfl, h3⟩
                    all_goals
                      go_wp2
                      go_quiet (fail)
                      go_wp2
                      go_ret
                      exact ⟨by rw [HM2.out]; rfl, HB2.out.dr _ |>.dr _⟩
                · have ek : k = c.rats.length := by omega
                  subst ek
                  have HE2 := Lib.hid (HE.out (fun j h => HF.out j h h))
                  go_wp2
                  go_ret
                  exact ⟨by rw [HE2.out]; rfl, HB2.out.dr _⟩
        · have hl2 : ((c.rats.length : Int) != (d.rats.length : Int)) = true := by simp; omega
          rw [decide_eq_false (fun e => hl (by rw [e])), Bool.false_and]
          clear hl
          go_enter Tryz.func27, Tryz.ntmps27
          go_upto_region 1 with (fail)
          rw [← hW]
          clear hW
          go_wp2_with (first
  | (go_at_call_of 29 (#[.slice ai c.ints.length ci, .slice bi d.ints.length di] : Array Value); refine (HI.out _ (Below.refl _ _)).mono ?_; rintro e w1 ⟨rfl, n1, rfl⟩)
  | (go_at_call 68; refine (HG.out _ (Below.of_dr W n1)).mono ?_; rintro e w2 ⟨rfl, hb2⟩; (have HB2 := Lib.hid ((HB.out.dr n1).st hb2)); (have HP2 := Lib.hid ((HP.out.go (Below.of_dr W n1)).go hb2)); (have HX2 := Lib.hid ((HX.out.go (Below.of_dr W n1)).go hb2)); (have HW2 := Lib.hid ((Below.of_dr W n1).st hb2)); clear hb2; (obtain ⟨p0, -⟩ := (HP2).out 0 _ rfl); (obtain ⟨p1, -⟩ := (HP2).out 1 _ rfl); (obtain ⟨p2, -⟩ := (HP2).out 2 _ rfl); (obtain ⟨p3, -⟩ := (HP2).out 3 _ rfl); (obtain ⟨p4, -⟩ := (HP2).out 4 _ rfl); (obtain ⟨p5, -⟩ := (HP2).out 5 _ rfl); (obtain ⟨p6, -⟩ := (HP2).out 6 _ rfl); (obtain ⟨x0, -⟩ := (HX2).out 0 _ rfl); (obtain ⟨x1, -⟩ := (HX2).out 1 _ rfl); (obtain ⟨x2, -⟩ := (HX2).out 2 _ rfl); (obtain ⟨x3, -⟩ := (HX2).out 3 _ rfl); (obtain ⟨x4, -⟩ := (HX2).out 4 _ rfl); (obtain ⟨x5, -⟩ := (HX2).out 5 _ rfl); (obtain ⟨x6, -⟩ := (HX2).out 6 _ rfl))
  | (go_at_call_of 29 (#[.slice ak c.rank.length ck, .slice bk d.rank.length dk] : Array Value); refine (HK.out _ HW2.out).mono ?_; rintro e w3 ⟨rfl, n3, rfl⟩))
          go_ret
          exact ⟨rfl, HB.out.dr _⟩
      · rw [decide_eq_false hw, Bool.false_and]
        have hw2 : (c.w != d.w) = true := by simpa using hw
        clear hw
        go_enter Tryz.func27, Tryz.ntmps27
        go_upto_region 1 with (fail)
        rw [← hW]
        clear hW
        go_wp2_with (first
  | (go_at_call_of 29 (#[.slice ai c.ints.length ci, .slice bi d.ints.length di] : Array Value); refine (HI.out _ (Below.refl _ _)).mono ?_; rintro e w1 ⟨rfl, n1, rfl⟩)
  | (go_at_call 68; refine (HG.out _ (Below.of_dr W n1)).mono ?_; rintro e w2 ⟨rfl, hb2⟩; (have HB2 := Lib.hid ((HB.out.dr n1).st hb2)); (have HP2 := Lib.hid ((HP.out.go (Below.of_dr W n1)).go hb2)); (have HX2 := Lib.hid ((HX.out.go (Below.of_dr W n1)).go hb2)); (have HW2 := Lib.hid ((Below.of_dr W n1).st hb2)); clear hb2; (obtain ⟨p0, -⟩ := (HP2).out 0 _ rfl); (obtain ⟨p1, -⟩ := (HP2).out 1 _ rfl); (obtain ⟨p2, -⟩ := (HP2).out 2 _ rfl); (obtain ⟨p3, -⟩ := (HP2).out 3 _ rfl); (obtain ⟨p4, -⟩ := (HP2).out 4 _ rfl); (obtain ⟨p5, -⟩ := (HP2).out 5 _ rfl); (obtain ⟨p6, -⟩ := (HP2).out 6 _ rfl); (obtain ⟨x0, -⟩ := (HX2).out 0 _ rfl); (obtain ⟨x1, -⟩ := (HX2).out 1 _ rfl); (obtain ⟨x2, -⟩ := (HX2).out 2 _ rfl); (obtain ⟨x3, -⟩ := (HX2).out 3 _ rfl); (obtain ⟨x4, -⟩ := (HX2).out 4 _ rfl); (obtain ⟨x5, -⟩ := (HX2).out 5 _ rfl); (obtain ⟨x6, -⟩ := (HX2).out 6 _ rfl))
  | (go_at_call_of 29 (#[.slice ak c.rank.length ck, .slice bk d.rank.length dk] : Array Value); refine (HK.out _ HW2.out).mono ?_; rintro e w3 ⟨rfl, n3, rfl⟩))
        go_ret
        exact ⟨rfl, HB.out.dr _⟩
  · rw [decide_eq_false hn, Bool.false_and]
    have hn2 : (c.name.toList == d.name.toList) = false := by
      rw [beq_eq_false_iff_ne]
      intro e
      rw [ByteArray.toList_eq, ByteArray.toList_eq] at e
      exact hn (Go.WideShapes.bytes_inj e)
    clear hn
    go_enter Tryz.func27, Tryz.ntmps27
    go_upto_region 1 with (fail)
    rw [← hW]
    clear hW
    go_wp2
    go_ret
    exact ⟨rfl, HB.out⟩

end Go.Proofs.YtelcmkccfjdmjaaGreatDoor
