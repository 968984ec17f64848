/-
  Walks of package gtext: the graph of a text that was printed.
-/
import Derived.Test.YtfjplphdkfiljaaDoorProg
import Derived.Test.YtfjplphdkfiljaaDoorGbLaw
import Derived.Test.YtfjplphdkfiljaaDoorGpD
import Derived.Test.YtfjplphdkfiljaaDoorTokLines
import Derived.Test.YtfjplphdkfiljaaDoorWords
namespace Go.Proofs.YtfjplphdkfiljaaDoor
open Go.Proofs Go.RowKit Go.Shelf Go.Sort

theorem sliteHas_no (s : ByteArray) (c : UInt8) (w : World) (hc : s.data.toList.head? = some c) (h35 : c ≠ 35) (hs : s.size ≤ 1000) : Calls Tryd.prog 153 #[.string s, .string ⟨#[35]⟩] w fun e w' => e = .returned (.bool false) ∧ w' = w := by
  have hpos : 0 < s.size := by
    cases hh : s.data.toList with
    | nil => rw [hh] at hc; cases hc
    | cons a r => have := congrArg List.length hh; simp at this; omega
  have hne : ((s.extract 0 1).toList == ([35] : List UInt8)) = false := by
    rw [beq_eq_false_iff_ne, ByteArray.toList_eq, extract_list]
    intro e
    cases hh : s.data.toList with
    | nil => rw [hh] at hc; cases hc
    | cons a r =>
      rw [hh] at hc e
      simp at e hc
      exact h35 (hc.symm.trans e)
  have h1 : (1 : Int) ≤ (s.size : Int) := by omega
  clear hc
  go_enter Tryd.func153, Tryd.ntmps153
  go_wp2
  go_ret
  exact ⟨rfl, rfl⟩
theorem Has_no (s : ByteArray) (c : UInt8) (w : World) (hc : s.data.toList.head? = some c) (h35 : c ≠ 35) (hs : s.size ≤ 1000) : Calls Tryd.prog 136 #[.string s, .string ⟨#[35]⟩] w fun e w' => e = .returned (.bool false) ∧ w' = w := by
  have HI := Lib.hid (sliteHas_no s c w hc h35 hs)
  clear hc h35 hs
  go_enter Tryd.func136, Tryd.ntmps136
  go_wp2_with (go_at_call 153; refine HI.out.mono ?_; rintro e w1 ⟨rfl, rfl⟩)
  go_ret
  exact ⟨rfl, rfl⟩

/-- a line that says something -/
theorem told_any (s : ByteArray) (c : UInt8) (l : List ByteArray) (w : World) (hc : s.data.toList.head? = some c) (h35 : c ≠ 35) (hs : s.size ≤ 1000) (hw : wordsF s = (l, 0)) (hl : 0 < l.length) :
    Calls Tryd.prog 111 #[.string s] w fun e w' => ∃ ao cap, e = .returned (.tuple #[.slice ao l.length cap, .bool true, .int .i64 0]) ∧ Cel w' ao (l.map encS) ∧ Below w.heap.size w w' ∧ l.length ≤ cap := by
  have HH := Lib.hid (fun W => Has_no s c W hc h35 hs)
  have HW := Lib.hid (fun W => Words_own s W (by omega))
  rw [hw] at HW
  have hne : (s.toList == ([] : List UInt8)) = false := by
    rw [beq_eq_false_iff_ne, ByteArray.toList_eq]
    intro e
    rw [e] at hc
    cases hc
  have hl0 : ((l.length : Int) == 0) = false := by rw [beq_eq_false_iff_ne]; omega
  clear hc h35 hs hw
  go_enter Tryd.func111, Tryd.ntmps111
  go_wp2_with (first
    | (go_at_call 136; refine (HH.out _).mono ?_; rintro e w1 ⟨rfl, rfl⟩)
    | (go_at_call 137; refine (HW.out _).mono ?_; rintro e w2 ⟨ao, cap, rfl, hc2, hb2, hcap⟩; (have HC2 := Lib.hid hc2; have HB2 := Lib.hid hb2; clear hc2 hb2)))
  refine bodyPost_ret (by simp [results, Tryd.results111, go_sem]; try rfl) rfl ?_
  exact ⟨ao, cap, rfl, HC2.out, HB2.out, hcap⟩

theorem Cel.tail {w : World} {b o : Nat} {x : ByteArray} {l : List ByteArray} (h : Cel w (some ⟨b, o, none⟩) ((x :: l).map encS)) : Cel w (some ⟨b, o + 1, none⟩) (l.map encS) := by
  intro i u hu
  obtain ⟨b', o', e, hc⟩ := h (i + 1) u (by simpa using hu)
  cases e
  exact ⟨b, o + 1, rfl, by rw [show o + 1 + i = o + (i + 1) by omega]; exact hc⟩

theorem owns_offQ {R : Nat} {w w' : World} {base : Nat} {e : TypeId} {size n : Nat} {v : Value} {xs : List Value} (h : w.ownsRow base e size v n xs) (hb : Off R w w') (hX : ∀ k, v.ownBlock = some k → k ≠ R) : w'.ownsRow base e size v n xs := by
  refine ⟨h.1, ?_⟩
  rcases h.2 with h2 | ⟨g, cap, cur, hv, hbg, hg, r⟩
  · exact .inl h2
  · exact .inr ⟨g, cap, cur, hv, hbg, by rw [hb.block g (Array.getElem?_eq_some_iff.1 hg).1 (hX g (by rw [hv]; rfl))]; exact hg, r⟩

/-- append at a step of a region that draws its order, and what else stays -/
theorem step_appG {P : Program} {w : World} {ops : Array Oper} {o : Oper} {a : Act} {K : Act → World → Prop} {Q : Exit → Act → World → Prop} {F : Prop} (hgd : o.guard = none) (s x : Operand) (t : TypeId)
    (ho : o.op = .call { callee := .builtin .append, args := #[s, x], argTypes := #[t, t] })
    (base : Nat) (E : TypeId) (z : Value) (size bytes : Nat) (hE : Elem P E z size bytes) (ht : P.underlying t = some (.slice E))
    (v : Value) (n : Nat) (xs : List Value) (ad : Addr) (m c : Nat) (news : List Value) (hs : a.eval s = v) (hx : a.eval x = .slice (some ad) m c)
    (hown : w.ownsRow base E size v n xs) (hnews : ∀ j u, news[j]? = some u → w.cell? (ad.add j) = some u) (h1 : ∀ u ∈ news, u.oneCell' = true)
    (hl : news.length = m * size ∧ 0 < m ∧ n + m ≤ 9223372036854775807 ∧ (n + m) * bytes ≤ 140737488355328 ∧ base ≤ w.heap.size)
    (h : ∀ g cap w', w'.ownsRow base E size (.slice (some ⟨g, 0, none⟩) (n + m) cap) (n + m) (xs ++ news) → w.grownBy w' v.ownBlock → Below base w w' → K (a.put o.dst (.slice (some ⟨g, 0, none⟩) (n + m) cap)) w') :
    if Region.wanted o (yielded ops a.tmps) = true then Oper.wp P o a w K Q else F := by
  obtain ⟨hE, hz1, hz2⟩ := hE
  obtain ⟨i, hi, hz, hsz, hby⟩ := info_parts hE
  obtain ⟨l1, l2, l3, l4, l5⟩ := hl
  refine step_append_lies w hgd s x t ho base E i z size bytes ht hi hz hsz hby hz1 hz2 v n xs hs hown ad m c news hx l1 hnews h1 l2 (by unfold maxLen; omega) l4 l5 _ rfl ?_
  intro g cap w' ho hg hat hlt
  exact h g cap w' ho hg ((Below.refl _ w).grown hg l5 (fun k hk => (hown.lt k hk).1))

theorem off_then {Q R : Nat} {a b c : World} (h : Off Q a b) (k : Off R b c) (hR : a.heap.size ≤ R) : Off Q a c :=
  ⟨k.os.trans h.os, k.tape.trans h.tape, k.output.trans h.output, Nat.le_trans h.size k.size, fun i hi hn => (k.block i (by have := h.size; omega) (by omega)).trans (h.block i hi hn)⟩
theorem off_bel {Q : Nat} {a b c : World} (h : Off Q a b) (k : Below a.heap.size b c) : Off Q a c :=
  ⟨k.os.trans h.os, k.tape.trans h.tape, k.output.trans h.output, Nat.le_trans h.size k.size, fun i hi hn => (k.block i hi).trans (h.block i hi hn)⟩

/-- between two lines: the first i have been read -/
def BkI (w : World) (B0 : Nat) (g : GD) (i : Nat) (many : Int) (begun : Bool) (W : World) : Prop :=
  ∃ v, C2 W w.heap.size (.int .i64 (if i = 0 then 0 else g.n)) v ∧ W.ownsRow B0 99 3 v (i - 1) (flat (g.es.take (i - 1))) ∧ Below w.heap.size w W ∧ w.heap.size + 1 ≤ W.heap.size ∧ begun = decide (1 ≤ i) ∧ many = (if i = 0 then 0 else (g.es.length : Int))

set_option maxRecDepth 100000 in
set_option maxHeartbeats 8000000 in
theorem GRead_text (g : GD) (w : World) (hr : rightG g = 0) (hm : g.es.length ≤ 400) :
    Calls Tryd.prog 71 #[.string (textK g g.es.length)] w fun e w' => ∃ ao cap, e = .returned (.tuple #[.agg #[.int .i64 g.n, .slice ao g.es.length cap], .int .i64 0, .int .i64 0]) ∧ Cel w' ao (flat g.es) ∧ Below w.heap.size w w' := by
  have hts := textK_size g hr g.es.length (Nat.le_refl _)
  have HL := Lib.hid (fun W => Lines_any (textK g g.es.length) W (by omega))
  rw [lines_text] at HL
  have hll := linesG_length g
  obtain ⟨hd0, hd1, hd2, hd3⟩ := line_head g hr
  have HT0 := Lib.hid (fun W => told_any _ 103 _ W hd2 (by decide) hd3 hd1 (by simp))
  have HH := Lib.hid hd0
  have HE := Lib.hid (fun i (hi : i < g.es.length) => (line_edge g hr hi).1)
  have HTE := Lib.hid (fun i (hi : i < g.es.length) W => told_any _ 101 [keyE, printI g.es[i].f, printI g.es[i].t, printI g.es[i].w] W (line_edge g hr hi).2.2.1 (by decide) (line_edge g hr hi).2.2.2 (line_edge g hr hi).2.1 (by simp))
  obtain ⟨r1, r2, r3, r4⟩ := right_edge hr
  have HF := Lib.hid (firstS_pr (n := g.n) (m := (g.es.length : Int)) ⟨r1, r2⟩ ⟨by omega, by omega⟩)
  have HED := Lib.hid (fun i (hi : i < g.es.length) => edgeS_pr (n := g.n) (r4 _ (List.getElem_mem hi)) r2)
  generalize textK g g.es.length = t at *
  generalize linesG g g.es.length = L at *
  clear hts hd0 hd1 hd2 hd3
  go_enter Tryd.func71, Tryd.ntmps71
  go_wp2_with (go_at_call 110; refine (HL.out _).mono ?_; rintro e w1 ⟨ao, cap, rfl, hc1, hb1, hn1, -⟩)
  have hz1 : w.heap.size + 1 ≤ w1.heap.size := by have := hb1.size; simp at this; exact this
  have HC1 := Lib.hid hc1
  have HNE := Lib.hid (show ∀ x, ao = some x → x.block ≠ w.heap.size by
    obtain ⟨b, o, e, cc⟩ := hc1.at (i := 0) (by omega)
    rintro x rfl hx
    cases e
    subst hx
    rw [hb1.cell (p := ⟨w.heap.size, o + 0, none⟩) (by show w.heap.size < _; simp), World.cell?_alloc_mark] at cc
    match o, cc with
    | 0, cc => cases cc
    | 1, cc => cases cc
    | n + 2, cc => simp at cc)
  have HI0 := Lib.hid (show BkI w w1.heap.size g 0 0 false w1 from ⟨.slice none 0 0, by
    have h := (C2.new w 52 (.int .i64 0) (.slice none 0 0)).go hb1
    simpa using h, World.ownsRow_nil _ _ _ _, (Below.of_al _ _).trans (hb1.mono (by simp)), hz1, rfl, rfl⟩)
  clear hc1 hb1
  go_loopg [7, 8, 22] (g.es.length + 1) (fun gq v7 v8 v22 wr => ∃ (i : Nat) (many : Int) (begun : Bool), i ≤ g.es.length + 1 ∧ g.es.length + 1 - i ≤ gq ∧ v22 = .int .i64 i ∧ v7 = .int .i64 many ∧ v8 = .bool begun ∧ Aside (BkI w w1.heap.size g i many begun wr) ∧ Aside (Off w.heap.size w1 wr))
  case atStart => exact ⟨0, 0, false, Nat.zero_le _, by omega, rfl, rfl, rfl, HI0.out, Off.refl _ _⟩
  case round =>
    clear HI0
    obtain ⟨i, many, begun, hi, hg, rfl, rfl, rfl, HI, HW⟩ := hrel
    by_cases hlt : i < g.es.length + 1
    · have hlt3 : (i : Int) < (L.length : Int) := by omega
      have hi0 : (0 : Int) ≤ (i : Int) := by omega
      obtain ⟨b, o, rfl, c1⟩ := (HC1.out.off HW.out HNE.out).at (i := i) (by omega)
      obtain ⟨v, hC2, hOw, hB, hz, hbeg, hmany⟩ := HI.out
      have HG0 := Lib.hid hC2
      have HO := Lib.hid hOw
      have HB := Lib.hid hB
      clear hOw hB HI hC2
      cases i with
      | zero =>
        rw [show L[0] = bodyT keyG [printI g.n, printI (g.es.length : Int)] from (List.getElem?_eq_some_iff.1 HH.out).2] at c1
        generalize bodyT keyG [printI g.n, printI (g.es.length : Int)] = s0 at *
        have hk0 : (keyG.toList == ([103, 114, 97, 112, 104] : List UInt8)) = true := by rw [ByteArray.toList_eq]; decide
        obtain rfl : many = 0 := by simpa using hmany
        obtain rfl : begun = false := by simpa using hbeg
        have HG := Lib.hid (show C2 wr w.heap.size (.int .i64 0) v by have := HG0.out; rwa [if_pos rfl] at this)
        have HOZ := Lib.hid (show wr.ownsRow w1.heap.size 99 3 v 0 [] by have := HO.out; simpa [flat] using this)
        rw [Nat.add_zero] at c1
        clear hmany hbeg HG0 HO
        obtain ⟨a0, a1, y0, y1⟩ := HG.out
        go_wp2_with fail
        refine (HT0.out _).mono ?_
        rintro e w2 ⟨ta, tcap, rfl, hct, hb2, hcap⟩
        obtain ⟨tb, to, rfl, ct0⟩ := hct.at (i := 0) (by simp)
        have HCT := Lib.hid hct.tail
        have HB2 := Lib.hid hb2
        simp only [List.length_cons, List.length_nil, Nat.reduceAdd] at hcap
        have hcap2 : (3 : Int) ≤ (tcap : Int) := by omega
        have hcap3 : (tcap = 1) = False := eq_false (by omega)
        have ct1 : w2.cell? ⟨tb, to, none⟩ = some (.string keyG) := ct0
        have a0' := cell_later hb2 a0
        have a1' := cell_later hb2 a1
        have ct2 := fun o => cell_later (Below.of_al w2 o) ct1
        clear hct hb2 ct0 a0 a1
        go_wp2_with fail
        obtain ⟨W3, hW3⟩ : ∃ W3, W3 = w2.alloc (Obj.cells #[.slice (some ⟨tb, to + 1, none⟩) 2 (tcap - 1), .int .i64 0, .int .i64 0] 114) := ⟨_, rfl⟩
        have HD3 := Lib.hid (show Rd W3 w2.heap.size (some ⟨tb, to + 1, none⟩) (tcap - 1) 2 0 0 by rw [hW3]; exact Rd.new _ _ _ _ _)
        have HB3 := Lib.hid (show Below w.heap.size w W3 by rw [hW3]; exact (HB.out.st HB2.out).al _)
        have HW3 := Lib.hid (show Off w.heap.size w1 W3 by rw [hW3]; exact (HW.out.st HB2.out).al _)
        have HCT3 := Lib.hid (show Cel W3 (some ⟨tb, to + 1, none⟩) ([printI g.n, printI (g.es.length : Int)].map encS) by rw [hW3]; exact HCT.out.go (Below.of_al _ _))
        have HG3 := Lib.hid (show C2 W3 w.heap.size (.int .i64 0) v by rw [hW3]; exact (HG.out.go HB2.out).go (Below.of_al _ _))
        have HO3 := Lib.hid (show W3.ownsRow w1.heap.size 99 3 v 0 [] by rw [hW3]; exact (owns_goD HOZ.out HB2.out).alloc _)
        have hz3 : W3.heap.size = w2.heap.size + 1 := by rw [hW3]; simp
        have hz2 : wr.heap.size ≤ w2.heap.size := HB2.out.size
        have HWZ := Lib.hid (show w1.heap.size ≤ wr.heap.size from HW.out.size)
        have htb : tb < w2.heap.size := cell_ltP ct1
        have HVK := Lib.hid (fun k (e : v.ownBlock = some k) => (show k ≠ w2.heap.size by have := (HOZ.out.lt k e).2; omega))
        rw [← hW3]
        clear hW3 ct2 HOZ HG HB HCT HB2 a0' a1' y0 y1 HW
        have HFA := first_any [printI g.n, printI (g.es.length : Int)] (some ⟨tb, to + 1, none⟩) (tcap - 1) w2.heap.size W3 HD3.out HCT3.out (fun _ x hx => by cases hx; show tb ≠ w2.heap.size; omega) (by
          intro x hx
          simp only [List.mem_cons, List.not_mem_nil, or_false] at hx
          rcases hx with rfl | rfl
          · have := printI_size_le (n := g.n) (by omega) (by omega); omega
          · have := printI_size_le (n := (g.es.length : Int)) (by omega) (by omega); omega) (by simp)
        rw [HF.out] at HFA
        refine HFA.mono ?_
        clear HFA
        rintro e w4 ⟨rfl, hd4, ho4⟩
        have hne : w.heap.size ≠ w2.heap.size := by omega
        obtain ⟨b0, b1, z0, z1⟩ := HG3.out.off ho4 hne
        have d2 := fun u => (hd4.off (Off.set w.heap.size 0 w4 u) (Ne.symm hne)).2.2.1
        have HG4 := Lib.hid (HG3.out.off ho4 hne)
        have HO4 := Lib.hid (owns_offQ HO3.out ho4 HVK.out)
        have HB4 := Lib.hid (HB3.out.trans (ho4.below (by omega) HB3.out.size))
        have HW4 := Lib.hid (off_then HW3.out ho4 (show w1.heap.size ≤ w2.heap.size by have := HWZ.out; omega))
        have hz4 : W3.heap.size ≤ w4.heap.size := ho4.size
        clear hd4 ho4 HO3 HG3 HD3 HB3 HW3
        go_wp2
        go_roundg g.es.length
        case measure => omega
        case rel => exact ⟨1, _, _, by omega, by omega, by go_num, rfl, rfl, ⟨v, HG4.out.set0 _, ownsRow_setCell_below HO4.out (show w.heap.size < w1.heap.size by omega) _, HB4.out.setCell (Nat.le_refl _) _, by simp [World.setCell]; omega, rfl, rfl⟩, HW4.out.trans (Off.set _ _ _ _)⟩
      | succ j =>
        have hj : j < g.es.length := by omega
        rw [show L[j + 1] = bodyT keyE (ofE g.es[j]) from (List.getElem?_eq_some_iff.1 (HE.out j hj)).2] at c1
        have HTJ := Lib.hid (HTE.out j hj)
        have HEJ := Lib.hid (show edgeS [printI g.es[j].f, printI g.es[j].t, printI g.es[j].w] g.n 0 0 = (g.es[j], 3, 0) from HED.out j hj)
        have HRJ := Lib.hid (r4 g.es[j] (List.getElem_mem hj))
        have HTK := Lib.hid (show flat (g.es.take (j + 1)) = flat (g.es.take j) ++ [.int .i64 g.es[j].f, .int .i64 g.es[j].t, .int .u64 g.es[j].w] by
          rw [List.take_succ_eq_append_getElem hj, flat_append]
          rfl)
        generalize bodyT keyE (ofE g.es[j]) = s0 at *
        generalize g.es[j] = ed at *
        obtain ⟨ef, et, ew⟩ := ed
        have hk0 : (keyE.toList == ([101] : List UInt8)) = true := by rw [ByteArray.toList_eq]; decide
        obtain rfl : many = (g.es.length : Int) := by simpa using hmany
        obtain rfl : begun = true := by simpa using hbeg
        have HG := Lib.hid (show C2 wr w.heap.size (.int .i64 g.n) v by have := HG0.out; rwa [if_neg (by omega)] at this)
        have HOZ := Lib.hid (show wr.ownsRow w1.heap.size 99 3 v j (flat (g.es.take j)) by have := HO.out; rwa [Nat.add_sub_cancel] at this)
        clear hmany hbeg HG0 HO
        obtain ⟨eo, ecap, rfl, -⟩ := Cel.of_owns HOZ.out
        obtain ⟨a0, a1, y0, y1⟩ := HG.out
        have hjm : (j : Int) < (g.es.length : Int) := by omega
        go_wp2_with fail
        refine (HTJ.out _).mono ?_
        rintro e w2 ⟨ta, tcap, rfl, hct, hb2, hcap⟩
        obtain ⟨tb, to, rfl, ct0⟩ := hct.at (i := 0) (by simp)
        have HCT := Lib.hid hct.tail
        have HB2 := Lib.hid hb2
        simp only [List.length_cons, List.length_nil, Nat.reduceAdd] at hcap
        have hcap2 : (4 : Int) ≤ (tcap : Int) := by omega
        have hcap3 : (tcap = 1) = False := eq_false (by omega)
        have ct1 : w2.cell? ⟨tb, to, none⟩ = some (.string keyE) := ct0
        have ct2 := fun o => cell_later (Below.of_al w2 o) ct1
        have a0' := fun o => cell_later (Below.of_al w2 o) (cell_later hb2 a0)
        have a1' := fun o => cell_later (Below.of_al w2 o) (cell_later hb2 a1)
        clear hct hb2 ct0 a0 a1
        obtain ⟨W3, hW3⟩ : ∃ W3, W3 = w2.alloc (Obj.cells #[.slice (some ⟨tb, to + 1, none⟩) 3 (tcap - 1), .int .i64 0, .int .i64 0] 114) := ⟨_, rfl⟩
        have HD3 := Lib.hid (show Rd W3 w2.heap.size (some ⟨tb, to + 1, none⟩) (tcap - 1) 3 0 0 by rw [hW3]; exact Rd.new _ _ _ _ _)
        have HB3 := Lib.hid (show Below w.heap.size w W3 by rw [hW3]; exact (HB.out.st HB2.out).al _)
        have HW3 := Lib.hid (show Off w.heap.size w1 W3 by rw [hW3]; exact (HW.out.st HB2.out).al _)
        have HCT3 := Lib.hid (show Cel W3 (some ⟨tb, to + 1, none⟩) ([printI ef, printI et, printI ew].map encS) by rw [hW3]; exact HCT.out.go (Below.of_al _ _))
        have HG3 := Lib.hid (show C2 W3 w.heap.size (.int .i64 g.n) (.slice eo j ecap) by rw [hW3]; exact (HG.out.go HB2.out).go (Below.of_al _ _))
        have HO3 := Lib.hid (show W3.ownsRow w1.heap.size 99 3 (.slice eo j ecap) j (flat (g.es.take j)) by rw [hW3]; exact (owns_goD HOZ.out HB2.out).alloc _)
        have hz3 : W3.heap.size = w2.heap.size + 1 := by rw [hW3]; simp
        have hz2 : wr.heap.size ≤ w2.heap.size := HB2.out.size
        have HWZ := Lib.hid (show w1.heap.size ≤ wr.heap.size from HW.out.size)
        have htb : tb < w2.heap.size := cell_ltP ct1
        have HVK := Lib.hid (fun k (e : (Value.slice eo j ecap).ownBlock = some k) => (show k ≠ w2.heap.size by have := (HOZ.out.lt k e).2; omega))
        have hne : w.heap.size ≠ w2.heap.size := by omega
        have HEE := Lib.hid (fun W h h' => (by
          have H := edge_any [printI ef, printI et, printI ew] (some ⟨tb, to + 1, none⟩) (tcap - 1) w2.heap.size 0 0 g.n W h h' (fun _ x hx => by cases hx; show tb ≠ w2.heap.size; omega) (by
            intro x hx
            obtain ⟨q0, q1, q2, q3, -, q5, q6⟩ := HRJ.out
            try simp only at q0 q1 q2 q3 q5 q6
            simp only [List.mem_cons, List.not_mem_nil, or_false] at hx
            rcases hx with rfl | rfl | rfl
            · have := printI_size_le (n := ef) (by omega) (by omega); omega
            · have := printI_size_le (n := et) (by omega) (by omega); omega
            · have := printI_size_le (n := ew) (by omega) (by omega); omega) (by simp) (by simp) ⟨r1, r2⟩
          rw [HEJ.out] at H
          exact H : Calls Tryd.prog 102 #[.pointer (some ⟨w2.heap.size, 0, none⟩), .int .i64 g.n] W fun e w' => e = .returned (encE ⟨ef, et, ew⟩) ∧ Rd w' w2.heap.size (some ⟨tb, to + 1, none⟩) (tcap - 1) 3 3 0 ∧ Off w2.heap.size W w'))
        go_wp2
        rw [← hW3]
        clear hW3 ct2 HOZ HG HB HCT HB2 a0' a1' y0 y1 HW HTJ
        obtain ⟨b0, b1, z0, z1⟩ := HG3.out
        go_region_law (first
          | (go_simp; go_at_call 102; refine (HEE.out _ (HD3.out.go (Below.of_dr W3 1)) (HCT3.out.go (Below.of_dr W3 1))).mono ?_; rintro e w5 ⟨rfl, hd5, ho5⟩; (have HG5 := Lib.hid ((HG3.out.go (Below.of_dr W3 1)).off ho5 hne); have HO5 := Lib.hid (owns_offQ (owns_dr HO3.out 1) ho5 HVK.out); have HD5 := Lib.hid hd5; have HZ5 := Lib.hid (show W3.heap.size ≤ w5.heap.size from ho5.size); have HB5 := Lib.hid ((HB3.out.dr 1).trans (ho5.below (by omega) (HB3.out.dr 1).size)); have HW5 := Lib.hid (off_then (HW3.out.st (Below.of_dr W3 1)) ho5 (show w1.heap.size ≤ w2.heap.size by have := HWZ.out; omega))); clear hd5 ho5; obtain ⟨b0, b1, q0, q1⟩ := HG5.out; have b2 := fun o => cell_later (Below.of_al w5 o) b1)
          | (refine step_appG rfl (.tmp 89) (.tmp 94) 50 rfl w1.heap.size 99 _ 3 24 elem_edge Tryd.underlying50 (.slice eo j ecap) j (flat (g.es.take j)) ⟨w5.heap.size, 0, none⟩ 1 1 [.int .i64 ef, .int .i64 et, .int .u64 ew] rfl rfl (World.ownsRow.alloc HO5.out _) (three_cells _ _ _ _ _ rfl) (by intro u hu; simp at hu; rcases hu with rfl | rfl | rfl <;> rfl) ⟨rfl, by decide, by omega, by omega, by have := HZ5.out; have := HWZ.out; simp; omega⟩ ?_; intro g6 cap6 w6 hown hgr hbl; (have HO6 := Lib.hid hown; have HG6 := Lib.hid ((HG5.out.go (Below.of_al _ _)).grown hgr (fun e => by have := (HO5.out.lt _ e.symm).1; omega)); have HZ6 := Lib.hid (show w5.heap.size < w6.heap.size by have := hbl.size; simp at this; omega); have HB6 := Lib.hid ((HB5.out.al _).trans (hbl.mono (by omega))); have HW6 := Lib.hid (off_bel (HW5.out.al _) hbl); have HR6 := Lib.hid (hgr.cell (cell_later (Below.of_al w5 _) HD5.out.2.2.1) (fun e => HVK.out _ e.symm rfl))); clear hown hbl hgr; obtain ⟨c0, c1, p0, p1⟩ := HG6.out; have d2 := fun u => (Off.set w.heap.size 1 w6 u).cell HR6.out (Ne.symm hne)))
        all_goals
          go_wp2
          go_roundg (g.es.length + 1 - (j + 1 + 1))
          case measure => omega
          case rel => exact ⟨j + 1 + 1, _, _, by omega, by omega, by go_num, rfl, rfl, ⟨_, HG6.out.set1 _, by rw [Nat.add_sub_cancel, HTK.out]; exact ownsRow_setCell_below HO6.out (show w.heap.size < w1.heap.size by omega) _, HB6.out.setCell (Nat.le_refl _) _, by have := HZ6.out; have := HZ5.out; simp [World.setCell]; omega, rfl, rfl⟩, HW6.out.trans (Off.set _ _ _ _)⟩
    · obtain rfl : i = g.es.length + 1 := by omega
      obtain ⟨v, hC2, hOw, hB, hz, hbeg, hmany⟩ := HI.out
      obtain rfl : many = (g.es.length : Int) := by simpa using hmany
      obtain rfl : begun = true := by simpa using hbeg
      have HG := Lib.hid (show C2 wr w.heap.size (.int .i64 g.n) v by rwa [if_neg (by omega)] at hC2)
      have HO := Lib.hid (show wr.ownsRow w1.heap.size 99 3 v g.es.length (flat g.es) by rwa [Nat.add_sub_cancel, List.take_length] at hOw)
      have HB := Lib.hid hB
      clear hC2 hOw hB hbeg hmany HI
      obtain ⟨eo, ecap, rfl, -⟩ := Cel.of_owns HO.out
      obtain ⟨a0, a1, y0, y1⟩ := HG.out
      have he0 : ((ByteArray.empty).toList == ([] : List UInt8)) = true := by rw [ByteArray.toList_eq]; rfl
      have r0 := (HG.out.set0 (.int .i64 g.n)).set1 (.slice eo g.es.length ecap)
      go_wp2
      obtain ⟨r0, r1, -, -⟩ := r0
      refine bodyPost_ret (by simp [results, Tryd.results71, go_sem, r0, r1]; try rfl) rfl ?_
      refine ⟨eo, ecap, rfl, ?_, (HB.out.setCell (Nat.le_refl _) _).setCell (Nat.le_refl _) _⟩
      obtain ⟨ao8, cap8, e8, hc8⟩ := Cel.of_owns (ownsRow_setCell_below (ownsRow_setCell_below HO.out (a := ⟨w.heap.size, 0, none⟩) (show w.heap.size < w1.heap.size by omega) (.int .i64 g.n)) (a := ⟨w.heap.size, 1, none⟩) (show w.heap.size < w1.heap.size by omega) (.slice eo g.es.length ecap))
      cases e8
      exact hc8

end Go.Proofs.YtfjplphdkfiljaaDoor
