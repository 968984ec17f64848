/-
  Walk of package cmd: what stands behind a name: a graph, a rank.
  Walk of package cmd: what stands behind a name: words of their kinds.
  Package cmd: what stands behind any name.
-/
import Derived.Test.YtelcmkccfjdmjaaDoorProg
import Derived.Test.YtelcmkccfjdmjaaDoorCmE
import Derived.Test.YtelcmkccfjdmjaaDoorGpD
import Derived.Test.YtelcmkccfjdmjaaDoorRkE
import Derived.Lib.OthersKept
namespace Go.Proofs.YtelcmkccfjdmjaaDoor
open Go Go.Proofs Go.RowKit Go.Shelf Go.Sort

/-- a command as a value -/
def CmV (W : World) (c : CmD) (v : List Value) : Prop := ∃ ai ci aq cq ag cg ak ck,
  v = [.string c.name, .slice ai c.ints.length ci, .int .u64 c.w, .slice aq c.rats.length cq, .int .i64 c.gn, .slice ag c.ge.length cg, .slice ak c.rank.length ck] ∧
    Cel W ai (c.ints.map encI) ∧ Cel W aq (flatP c.rats) ∧ Cel W ag (flat c.ge) ∧ Cel W ak (c.rank.map encI)
theorem CmV.go {W W' : World} {c : CmD} {v : List Value} (h : CmV W c v) (hb : Below W.heap.size W W') : CmV W' c v := by
  obtain ⟨ai, ci, aq, cq, ag, cg, ak, ck, e, h1, h2, h3, h4⟩ := h
  exact ⟨ai, ci, aq, cq, ag, cg, ak, ck, e, h1.go hb, h2.go hb, h3.go hb, h4.go hb⟩
/-- the rows of a command lie at a block or behind it -/
def CmVB (W : World) (k : Nat) (c : CmD) (v : List Value) : Prop := ∃ ai ci aq cq ag cg ak ck,
  v = [.string c.name, .slice ai c.ints.length ci, .int .u64 c.w, .slice aq c.rats.length cq, .int .i64 c.gn, .slice ag c.ge.length cg, .slice ak c.rank.length ck] ∧
    Cel W ai (c.ints.map encI) ∧ Cel W aq (flatP c.rats) ∧ Cel W ag (flat c.ge) ∧ Cel W ak (c.rank.map encI) ∧
    (∀ x, ai = some x → k ≤ x.block) ∧ (∀ x, aq = some x → k ≤ x.block) ∧ (∀ x, ag = some x → k ≤ x.block) ∧ (∀ x, ak = some x → k ≤ x.block)
theorem CmVB.cmv {W : World} {k : Nat} {c : CmD} {v : List Value} (h : CmVB W k c v) : CmV W c v := by
  obtain ⟨ai, ci, aq, cq, ag, cg, ak, ck, e, h1, h2, h3, h4, -⟩ := h
  exact ⟨ai, ci, aq, cq, ag, cg, ak, ck, e, h1, h2, h3, h4⟩
theorem far_nil (k : Nat) : ∀ x : Addr, none = some x → k ≤ x.block := fun x h => by cases h
/-- what is left of what stands behind a name -/
def RestPost (w : World) (b : Nat) (r : CmD × Int) (e : Ending) (w' : World) : Prop :=
  e = .returned (.tuple #[]) ∧ Below b w w' ∧ ∃ v, v.length = 7 ∧ PB w' b (v ++ [.int .i64 r.2]) ∧ (r.2 = 0 → CmVB w' b r.1 v)
theorem Cel.put {W : World} {ao : Option Addr} {cs : List Value} {b : Nat} (h : Cel W ao cs) (hn : ∀ x, ao = some x → x.block ≠ b) (j : Nat) (u : Value) : Cel (W.setCell ⟨b, j, none⟩ u) ao cs := by
  intro i v hv
  obtain ⟨c, o, e, hc⟩ := h i v hv
  refine ⟨c, o, e, ?_⟩
  have hne : c ≠ b := hn _ e
  rw [World.cell?_setCell_other _ _ _ _ (fun h => hne (congrArg Addr.block h).symm)]
  exact hc
/-- the reader ahead of it -/
def rd0 (nm : ByteArray) : List Value := rdL { cmd0 with name := nm } 0 (.slice none 0 0) (.slice none 0 0)

set_option maxRecDepth 100000 in
set_option maxHeartbeats 4000000 in
theorem cmdRest_load (tl : List ByteArray) (ao : Option Addr) (cap b : Nat) (w : World) (hl : tl.length ≤ 3000) (hsz : ∀ x ∈ tl, x.size ≤ 2000) (hc : Cel w ao (tl.map encS)) (hlt : b < w.heap.size) (h : PB w b (rd0 loadC)) :
    Calls Tryd.prog 23 #[.pointer (some ⟨b, 0, none⟩), .slice ao tl.length cap] w (RestPost w b (restC loadC tl)) := by
  have HG := Lib.hid (fun W (hb : Below w.heap.size w W) => GParse_own tl ao cap W (hc.go hb) (fun x hx => by have := hsz x hx; omega) (by omega))
  have hr : restC loadC tl = if (parseG tl).2.2 = 0 then ({ cmd0 with name := loadC, gn := (parseG tl).1.n, ge := (parseG tl).1.es }, 0) else (cmd0, (parseG tl).2.2) := if_pos rfl
  have HP := Lib.hid h
  rw [hr]
  clear hr hc h
  obtain ⟨nm, hnm⟩ : ∃ nm, nm = loadC := ⟨_, rfl⟩
  rw [← hnm] at HP ⊢
  have f0 : (nm.toList == ([76, 79, 65, 68] : List UInt8)) = true := (cm_byt (a := nm) (c := loadC) (l := [76, 79, 65, 68]) rfl).trans (decide_eq_true hnm)
  clear hnm
  generalize parseG tl = q at *
  obtain ⟨⟨gn, es⟩, k, f⟩ := q
  simp only at HG ⊢
  obtain ⟨p0, -⟩ := HP.out 0 _ rfl
  go_enter Tryd.func23, Tryd.ntmps23
  repeat go_step
  refine wp_scope_straight ?_
  go_wp2_with (go_at_call 52; refine (HG.out _ (Below.refl _ _)).mono ?_; rintro e w2 ⟨ao2, cap2, rfl, hc2, hb2, hf2⟩; (have HF2 := Lib.hid (show ∀ x, ao2 = some x → x.block ≠ b from fun x e => by have := hf2 x e; omega)); (have HF3 := Lib.hid (show ∀ x, ao2 = some x → b ≤ x.block from fun x e => by have := hf2 x e; omega)); clear hf2; (have HP2 := Lib.hid (HP.out.go hb2); have HC2 := Lib.hid hc2; have HB2 := Lib.hid hb2; clear hc2 hb2); obtain ⟨p4, q4⟩ := HP2.out 4 _ rfl; obtain ⟨p5, q5⟩ := HP2.out 5 _ rfl; obtain ⟨p7, q7⟩ := HP2.out 7 _ rfl)
  all_goals
    refine bodyPost_ret (results_none rfl _ _ _) rfl ?_
    refine ⟨rfl, (((HB2.out.mono (Nat.le_of_lt hlt)).setCell (Nat.le_refl _) _).setCell (Nat.le_refl _) _).setCell (Nat.le_refl _) _, [.string nm, .slice none 0 0, .int .u64 0, .slice none 0 0, .int .i64 gn, .slice ao2 es.length cap2, .slice none 0 0], rfl, ((HP2.out.set 4 _).set 5 _).set 7 _, ?_⟩
  · exact fun _ => ⟨none, 0, none, 0, ao2, cap2, none, 0, rfl, Cel.nil _ _, Cel.nil _ _, ((HC2.out.put HF2.out _ _).put HF2.out _ _).put HF2.out _ _, Cel.nil _ _, far_nil _, far_nil _, HF3.out, far_nil _⟩
  · exact fun h => absurd h (by assumption)

theorem restC_b0 : restC buildC [] = ({ cmd0 with name := buildC }, 0) := (if_neg (by decide)).trans (if_pos rfl)
theorem restC_b1 (x : ByteArray) : restC buildC [x] = if (rankP x).2 = 0 then ({ cmd0 with name := buildC, rank := (rankP x).1 }, 0) else (cmd0, (rankP x).2) := (if_neg (by decide)).trans (if_pos rfl)
theorem restC_b2 (x y : ByteArray) (t : List ByteArray) : restC buildC (x :: y :: t) = (cmd0, 3) := (if_neg (by decide)).trans (if_pos rfl)

set_option maxRecDepth 100000 in
set_option maxHeartbeats 4000000 in
theorem cmdRest_build (tl : List ByteArray) (ao : Option Addr) (cap b : Nat) (w : World) (hl : tl.length ≤ 3000) (hsz : ∀ x ∈ tl, x.size ≤ 2000) (hc : Cel w ao (tl.map encS)) (hlt : b < w.heap.size) (h : PB w b (rd0 buildC)) :
    Calls Tryd.prog 23 #[.pointer (some ⟨b, 0, none⟩), .slice ao tl.length cap] w (RestPost w b (restC buildC tl)) := by
  have HP := Lib.hid h
  have HC := Lib.hid hc
  clear hc h
  have E0 := Lib.hid restC_b0
  have E1 := Lib.hid restC_b1
  have E2 := Lib.hid restC_b2
  obtain ⟨nm, hnm⟩ : ∃ nm, nm = buildC := ⟨_, rfl⟩
  rw [← hnm] at HP E0 E1 E2 ⊢
  have f0 : (nm.toList == ([76, 79, 65, 68] : List UInt8)) = false := (cm_byt (a := nm) (c := loadC) (l := [76, 79, 65, 68]) rfl).trans (by rw [hnm]; decide)
  have f1 : (nm.toList == ([66, 85, 73, 76, 68] : List UInt8)) = true := (cm_byt (a := nm) (c := buildC) (l := [66, 85, 73, 76, 68]) rfl).trans (decide_eq_true hnm)
  clear hnm
  obtain ⟨p0, -⟩ := HP.out 0 _ rfl
  obtain ⟨p7, q7⟩ := HP.out 7 _ rfl
  match tl, hl, hsz, HC with
  | [], hl, hsz, HC =>
    rw [E0.out]
    go_enter Tryd.func23, Tryd.ntmps23
    repeat go_step
    refine wp_scope_straight ?_
    go_wp2
    refine bodyPost_ret (results_none rfl _ _ _) rfl ?_
    exact ⟨rfl, Below.refl _ _, [.string nm, .slice none 0 0, .int .u64 0, .slice none 0 0, .int .i64 0, .slice none 0 0, .slice none 0 0], rfl, HP.out, fun _ => ⟨none, 0, none, 0, none, 0, none, 0, rfl, Cel.nil _ _, Cel.nil _ _, Cel.nil _ _, Cel.nil _ _, far_nil _, far_nil _, far_nil _, far_nil _⟩⟩
  | [x], hl, hsz, HC =>
    have HRK := Lib.hid (fun W => rkParse_own x W (hsz x (by simp)))
    rw [E1.out]
    obtain ⟨b1, o1, rfl, hcell⟩ := HC.out.at (i := 0) (by simp)
    simp only [Nat.add_zero, List.getElem_cons_zero] at hcell
    generalize rankP x = q at *
    obtain ⟨rk, f⟩ := q
    simp only at HRK ⊢
    go_enter Tryd.func23, Tryd.ntmps23
    repeat go_step
    refine wp_scope_straight ?_
    go_wp2_with (go_at_call 53; refine (HRK.out _).mono ?_; rintro e w2 ⟨ao2, cap2, rfl, hc2, hb2, hf2⟩; (have HF2 := Lib.hid (show ∀ x, ao2 = some x → x.block ≠ b from fun x e => by have := hf2 x e; omega)); (have HF3 := Lib.hid (show ∀ x, ao2 = some x → b ≤ x.block from fun x e => by have := hf2 x e; omega)); clear hf2; (have HP2 := Lib.hid (HP.out.go hb2); have HC2 := Lib.hid hc2; have HB2 := Lib.hid hb2; clear hc2 hb2); obtain ⟨p6, q6⟩ := HP2.out 6 _ rfl; obtain ⟨r7, s7⟩ := HP2.out 7 _ rfl)
    all_goals
      refine bodyPost_ret (results_none rfl _ _ _) rfl ?_
      refine ⟨rfl, ((HB2.out.mono (Nat.le_of_lt hlt)).setCell (Nat.le_refl _) _).setCell (Nat.le_refl _) _, [.string nm, .slice none 0 0, .int .u64 0, .slice none 0 0, .int .i64 0, .slice none 0 0, .slice ao2 rk.length cap2], rfl, (HP2.out.set 6 _).set 7 _, ?_⟩
    · exact fun _ => ⟨none, 0, none, 0, none, 0, ao2, cap2, rfl, Cel.nil _ _, Cel.nil _ _, Cel.nil _ _, (HC2.out.put HF2.out _ _).put HF2.out _ _, far_nil _, far_nil _, far_nil _, HF3.out⟩
    · exact fun h => absurd h (by assumption)
  | x :: y :: t, hl, hsz, HC =>
    rw [E2.out]
    have hn0 : (((x :: y :: t).length : Int) == 0) = false := by simp; omega
    have hn1 : (((x :: y :: t).length : Int) == 1) = false := by simp; omega
    generalize (x :: y :: t).length = n at *
    go_enter Tryd.func23, Tryd.ntmps23
    repeat go_step
    refine wp_scope_straight ?_
    go_wp2
    refine bodyPost_ret (results_none rfl _ _ _) rfl ?_
    exact ⟨rfl, (Below.refl b w).setCell (p := ⟨b, 7, none⟩) (Nat.le_refl b) _, [.string nm, .slice none 0 0, .int .u64 0, .slice none 0 0, .int .i64 0, .slice none 0 0, .slice none 0 0], rfl, HP.out.set 7 _, fun h => by cases h⟩

end Go.Proofs.YtelcmkccfjdmjaaDoor

namespace Go.Proofs.YtelcmkccfjdmjaaDoor
open Go Go.Proofs Go.RowKit Go.Shelf Go.Sort

theorem foldC_ok {c : CmD} {ks : List UInt8} {tl : List ByteArray} {p : Nat} (h1 : p < ks.length) (h2 : p < tl.length) (h : tkF ks[p] tl[p] = 0) : foldC c (ks.drop p) (tl.drop p) = foldC (tkC ks[p] tl[p] c) (ks.drop (p + 1)) (tl.drop (p + 1)) := by
  rw [List.drop_eq_getElem_cons h1, List.drop_eq_getElem_cons h2, foldC, if_pos h]
theorem foldC_bad {c : CmD} {ks : List UInt8} {tl : List ByteArray} {p : Nat} (h1 : p < ks.length) (h2 : p < tl.length) (h : tkF ks[p] tl[p] ≠ 0) : foldC c (ks.drop p) (tl.drop p) = (cmd0, tkF ks[p] tl[p]) := by
  rw [List.drop_eq_getElem_cons h1, List.drop_eq_getElem_cons h2, foldC, if_neg h]
theorem foldC_end (c : CmD) (ks : List UInt8) (tl : List ByteArray) : foldC c (ks.drop ks.length) tl = (c, 0) := by
  rw [List.drop_length, foldC]
  intro k ks x xs h
  cases h
/-- nothing but words of kinds -/
def Bare (c : CmD) (p : Nat) : Prop := c.gn = 0 ∧ c.ge = [] ∧ c.rank = [] ∧ c.ints.length ≤ p ∧ c.rats.length ≤ p
theorem Bare.step {c : CmD} {p : Nat} (h : Bare c p) (k : UInt8) (x : ByteArray) : Bare (tkC k x c) (p + 1) := by
  obtain ⟨h1, h2, h3, h4, h5⟩ := h
  unfold tkC
  split
  · exact ⟨h1, h2, h3, by simp; omega, by simp; omega⟩
  · split
    · exact ⟨h1, h2, h3, by simp; omega, by simp; omega⟩
    · exact ⟨h1, h2, h3, by simp; omega, by simp; omega⟩
theorem owns_far {w : World} {base : Nat} {e : TypeId} {size n m c : Nat} {ao : Option Addr} {xs : List Value} (h : w.ownsRow base e size (.slice ao m c) n xs) : ∀ x, ao = some x → base ≤ x.block := by
  intro x hx
  subst hx
  exact (h.lt x.block rfl).1
theorem RdS.cmv {W : World} {b base : Nat} {c : CmD} {f : Int} {vi vr : Value} {p : Nat} (h : RdS W b base c f vi vr) (hz : Bare c p) (hb : b ≤ base) : ∃ v, v.length = 7 ∧ PB W b (v ++ [.int .i64 f]) ∧ CmVB W b c v := by
  obtain ⟨ai, ci, rfl, hi⟩ := Cel.of_owns h.oi
  obtain ⟨aq, cq, rfl, hq⟩ := Cel.of_owns h.oq
  obtain ⟨h1, h2, h3, -, -⟩ := hz
  refine ⟨[.string c.name, .slice ai c.ints.length ci, .int .u64 c.w, .slice aq c.rats.length cq, .int .i64 0, .slice none 0 0, .slice none 0 0], rfl, h.pb, ai, ci, aq, cq, none, 0, none, 0, ?_, hi, hq, by rw [h2]; exact Cel.nil _ _, by rw [h3]; exact Cel.nil _ _, fun x hx => Nat.le_trans hb (owns_far h.oi x hx), fun x hx => Nat.le_trans hb (owns_far h.oq x hx), far_nil _, far_nil _⟩
  rw [h1, h2, h3]
  rfl
theorem RdS.blk {W W' : World} {b base : Nat} {c : CmD} {f : Int} {vi vr : Value} (h : RdS W b base c f vi vr) (hb : W'.heap[b]? = W.heap[b]?) (hh : ∀ g, base ≤ g → W'.heap[g]? = W.heap[g]?) : RdS W' b base c f vi vr := by
  refine ⟨h.pb.eq hb, ⟨h.oi.1, ?_⟩, ⟨h.oq.1, ?_⟩, h.far⟩
  · rcases h.oi.2 with h2 | ⟨g, cap, cur, hv, hbg, hg, r⟩
    · exact .inl h2
    · exact .inr ⟨g, cap, cur, hv, hbg, by rw [hh g hbg]; exact hg, r⟩
  · rcases h.oq.2 with h2 | ⟨g, cap, cur, hv, hbg, hg, r⟩
    · exact .inl h2
    · exact .inr ⟨g, cap, cur, hv, hbg, by rw [hh g hbg]; exact hg, r⟩
theorem KP.le {b base base' : Nat} {W W' : World} (h : KP b base W W') (hl : base' ≤ base) : KP b base' W W' := ⟨h.1, fun k h1 h2 => h.2 k (by omega) h2⟩

set_option maxRecDepth 100000 in
set_option maxHeartbeats 4000000 in
theorem cmdRest_kinds (nm : ByteArray) (tl : List ByteArray) (ao : Option Addr) (cap b : Nat) (w : World) (hl : tl.length ≤ 3000) (hsz : ∀ x ∈ tl, x.size ≤ 2000) (hc : Cel w ao (tl.map encS)) (hnb : ∀ x, ao = some x → x.block ≠ b) (hlt : b < w.heap.size) (h : PB w b (rd0 nm))
    (hn1 : nm ≠ loadC) (hn2 : nm ≠ buildC) (hK : ∀ W, Calls Tryd.prog 54 #[.string nm, .int .i64 (tl.length : Int)] W (KindPost nm tl.length W))
    (hkk : ∀ k ∈ (kindsC nm tl.length).1.data.toList, isKind k) (hkz : (kindsC nm tl.length).2 = true → (kindsC nm tl.length).1.size = tl.length) :
    Calls Tryd.prog 23 #[.pointer (some ⟨b, 0, none⟩), .slice ao tl.length cap] w (RestPost w b (restC nm tl)) := by
  have hr : restC nm tl = if (kindsC nm tl.length).2 then foldC { cmd0 with name := nm } (kindsC nm tl.length).1.data.toList tl else (cmd0, 3) := by
    unfold restC
    rw [if_neg hn1, if_neg hn2]
  have f0 : (nm.toList == ([76, 79, 65, 68] : List UInt8)) = false := (cm_byt (a := nm) (c := loadC) (l := [76, 79, 65, 68]) rfl).trans (decide_eq_false hn1)
  have f1 : (nm.toList == ([66, 85, 73, 76, 68] : List UInt8)) = false := (cm_byt (a := nm) (c := buildC) (l := [66, 85, 73, 76, 68]) rfl).trans (decide_eq_false hn2)
  unfold KindPost at hK
  rw [hr]
  clear hr hn1 hn2
  generalize kindsC nm tl.length = q at *
  obtain ⟨ks, is⟩ := q
  simp only at hK hkk hkz ⊢
  have HK := Lib.hid hK
  have HP := Lib.hid h
  have HC := Lib.hid hc
  have HN := Lib.hid hnb
  have HKK := Lib.hid hkk
  have HSZ := Lib.hid hsz
  obtain ⟨p0, -⟩ := HP.out 0 _ rfl
  clear hK h hc hnb hkk hsz
  cases is with
  | false =>
    simp only [Bool.false_eq_true, if_false]
    clear hkz
    go_enter Tryd.func23, Tryd.ntmps23
    repeat go_step
    refine wp_scope_straight ?_
    go_wp2_with (go_at_call 54; refine (HK.out _).mono ?_; rintro e w2 ⟨s, rfl, -, hb2⟩; (have HP2 := Lib.hid (HP.out.go hb2); have HB2 := Lib.hid hb2; clear hb2); obtain ⟨r7, s7⟩ := HP2.out 7 _ rfl)
    refine bodyPost_ret (results_none rfl _ _ _) rfl ?_
    exact ⟨rfl, (HB2.out.mono (Nat.le_of_lt hlt)).setCell (p := ⟨b, 7, none⟩) (Nat.le_refl b) _, [.string nm, .slice none 0 0, .int .u64 0, .slice none 0 0, .int .i64 0, .slice none 0 0, .slice none 0 0], rfl, HP2.out.set 7 _, fun h => by cases h⟩
  | true =>
    simp only [if_true]
    have hz := hkz rfl
    clear hkz
    go_enter Tryd.func23, Tryd.ntmps23
    repeat go_step
    refine wp_scope_straight ?_
    go_wp2_with (go_at_call 54; refine (HK.out _).mono ?_; rintro e w2 ⟨s, rfl, hs, hb2⟩; (obtain rfl := hs rfl); (have HP2 := Lib.hid (HP.out.go hb2); have HC2 := Lib.hid (HC.out.go hb2); have HB2 := Lib.hid hb2; clear hb2 hs))
    go_step3
    go_wp2
    obtain ⟨WL, hWL⟩ : ∃ WL, WL = w2.iter s 0 := ⟨_, rfl⟩
    have hbl : Below w2.heap.size w2 WL := by rw [hWL]; exact Below.of_al _ _
    have HIT := Lib.hid (show WL.heap[w2.heap.size]? = some (.stringIter s 0) by rw [hWL]; exact heap_alloc_last w2 _)
    have HZ := Lib.hid (show WL.heap.size = w2.heap.size + 1 by rw [hWL]; exact (show (w2.alloc (.stringIter s 0)).heap.size = _ by simp))
    have HP3 := Lib.hid (HP2.out.go hbl)
    have HC3 := Lib.hid (HC2.out.go hbl)
    have HB3 := Lib.hid (HB2.out.st hbl)
    have HL2 := Lib.hid (show w.heap.size ≤ w2.heap.size from HB2.out.size)
    rw [← hWL]
    clear hWL hbl HP2 HC2 HB2
    have hbase : b < w2.heap.size + 1 := by have := HL2.out; omega
    generalize w2.heap.size = K at *
    have HCL := Lib.hid (fun wr p (hp : p < tl.length) (hk : KP b K WL wr) => (by
      obtain ⟨b1, o1, e1, hcell⟩ := HC.out.at hp
      have hb1 : b1 < w.heap.size := World.block_lt_of_cell? _ _ hcell
      have := HL2.out
      refine ⟨b1, o1, e1, (World.cell?_of_block (w := w) (((hk.2 b1 (by omega) (HN.out _ e1))).trans (HB3.out.block b1 hb1))).trans hcell⟩ : ∃ b1 o1, ao = some ⟨b1, o1, none⟩ ∧ wr.cell? ⟨b1, o1 + p, none⟩ = some (encS tl[p])))
    have HR0 := Lib.hid (show RdS WL b (K + 1) { cmd0 with name := nm } 0 (.slice none 0 0) (.slice none 0 0) from ⟨HP3.out, World.ownsRow_nil _ _ _ _, World.ownsRow_nil _ _ _ _, fun k h => by cases h⟩)
    have hzl : s.data.toList.length = tl.length := by rw [← hz]; rfl
    have HSA := Lib.hid (fun p (hp : p < s.size) => (show s[p] = s.data.toList[p]'(by rw [hzl, ← hz]; exact hp) from by simp; rfl))
    have HF0 := Lib.hid (show foldC { cmd0 with name := nm } s.data.toList tl = foldC { cmd0 with name := nm } (s.data.toList.drop 0) (tl.drop 0) by rw [List.drop_zero, List.drop_zero])
    have HB0 := Lib.hid (show Bare { cmd0 with name := nm } 0 from ⟨rfl, rfl, rfl, Nat.le_refl _, Nat.le_refl _⟩)
    generalize foldC { cmd0 with name := nm } s.data.toList tl = r at *
    generalize s.data.toList = L at *
    generalize ({ cmd0 with name := nm } : CmD) = c0 at *
    go_loopg [7, 8] tl.length (fun g v7 v8 wr => ∃ (p : Nat) (c : CmD) (vi vr : Value), p ≤ tl.length ∧ tl.length - p ≤ g ∧ Aside (wr.heap[K]? = some (.stringIter s p)) ∧ Aside (RdS wr b (K + 1) c 0 vi vr) ∧ Aside (KP b K WL wr) ∧ Aside (K + 1 ≤ wr.heap.size) ∧ Aside (Bare c p) ∧ Aside (r = foldC c (L.drop p) (tl.drop p)))
    case atStart => exact ⟨0, c0, _, _, Nat.zero_le _, by omega, HIT.out, HR0.out, KP.refl _ _ _, (show K + 1 ≤ WL.heap.size by have := HZ.out; omega), HB0.out, HF0.out⟩
    case round =>
      obtain ⟨p, c, vi, vr, hp, hg, HI, HR, HKP, HS, HBA, HF⟩ := hrel
      by_cases hlt2 : p < tl.length
      · have hlt3 : (p : Int) < (tl.length : Int) := by omega
        have hp0 : (0 : Int) ≤ (p : Int) := by omega
        have hps : p < s.size := by omega
        have hpL : p < L.length := by omega
        have hke : s[p] = L[p] := HSA.out p hps
        have hk := HKK.out L[p] (List.getElem_mem hpL)
        have ha : (s[p]).toNat < 128 := by
          rw [hke]
          rcases hk with h | h | h | h | h | h | h <;> rw [h] <;> decide
        have hnx := fun ty => Lib.run_next_ascii_at (P := Tryd.prog) wr K s p ty HI.out hps ha
        rw [hke] at hnx
        have HBAD := Lib.hid (fun h => HF.out.trans (foldC_bad (c := c) hpL hlt2 h))
        have HOK := Lib.hid (fun h => HF.out.trans (foldC_ok (c := c) hpL hlt2 h))
        have HST := Lib.hid (HBA.out.step L[p] tl[p])
        have HX := Lib.hid (HSZ.out tl[p] (List.getElem_mem hlt2))
        obtain ⟨W4, hW4⟩ : ∃ W4, W4 = wr.iterAt K s (p + 1) := ⟨_, rfl⟩
        have HI4 := Lib.hid (show W4.heap[K]? = some (.stringIter s (p + 1)) by rw [hW4]; exact Lib.iterAt_heap wr K s p (p + 1) HI.out)
        have HLO4 := Lib.hid (show Below K wr W4 by rw [hW4]; exact Lib.below_iterAt (Below.refl _ _) (Nat.le_refl _) s (p + 1))
        have HLK := Lib.hid (show ∀ j, j ≠ K → W4.heap[j]? = wr.heap[j]? by rw [hW4]; exact fun j h => Lib.iterAt_other wr K j s (p + 1) h)
        have HZ4 := Lib.hid (show W4.heap.size = wr.heap.size by rw [hW4]; exact Lib.iterAt_size _ _ _ _)
        rw [← hW4] at hnx
        clear hW4
        have hbK : b < K := by have := HL2.out; omega
        have HR4 := Lib.hid (HR.out.blk (HLK.out b (by omega)) (fun g hg => HLK.out g (by omega)))
        have HKP4 := Lib.hid (HKP.out.low hbK HLO4.out)
        obtain ⟨b1, o1, hao, hcell⟩ := HCL.out W4 p hlt2 HKP4.out
        subst hao
        have HT := Lib.hid (cmdTake_any L[p] hk tl[p] c b (K + 1) vi vr W4 HX.out (by have := HBA.out.2.2.2.1; omega) (by have := HBA.out.2.2.2.2; omega) hbase (by have := HS.out; have := HZ4.out; omega) HR4.out)
        unfold TakePostC at HT
        have hz4 := HZ4.out
        have hs4 := HS.out
        clear HLK HLO4 HR HKP HS HZ4 hke HBA HF HR4 HX HP3 HC3
        generalize tkC L[p] tl[p] c = c2 at *
        generalize tkF L[p] tl[p] = f at *
        generalize L[p] = kd at *
        generalize tl[p] = x at *
        have HE4 := Lib.hid (fun w5 (h : KP b (K + 1) W4 w5) => (show w5.heap[K]? = some (.stringIter s (p + 1)) ∧ KP b K WL w5 ∧ K + 1 ≤ w5.heap.size from ⟨(h.2 K (by omega) (by omega)).trans HI4.out, HKP4.out.trans (h.le (by omega)), by have := h.1.size; omega⟩))
        by_cases hf : f = 0
        · have HOK2 := Lib.hid (HOK.out hf)
          subst hf
          clear HBAD HOK
          go_wp2_with (go_at_call 55; refine HT.out.mono ?_; rintro e w5 ⟨rfl, ⟨vi5, vr5, hr5⟩, hk5⟩; (have HR5 := Lib.hid hr5; have HK5 := Lib.hid (HE4.out _ hk5); clear hr5 hk5); obtain ⟨p7, q7⟩ := HR5.out.pb 7 _ rfl)
          go_roundg (tl.length - (p + 1))
          case measure => omega
          case rel => exact ⟨p + 1, c2, vi5, vr5, by omega, by omega, HK5.out.1, HR5.out, HK5.out.2.1, HK5.out.2.2, HST.out, HOK2.out⟩
        · have HBAD2 := Lib.hid (HBAD.out hf)
          have hf2 : (f != 0) = true := by simpa using hf
          clear HBAD HOK
          go_wp2_with (go_at_call 55; refine HT.out.mono ?_; rintro e w5 ⟨rfl, ⟨vi5, vr5, hr5⟩, hk5⟩; (have HR5 := Lib.hid hr5; have HK5 := Lib.hid (HE4.out _ hk5); clear hr5 hk5); obtain ⟨p7, q7⟩ := HR5.out.pb 7 _ rfl)
          refine bodyPost_end (results_none rfl _ _ _) rfl ?_
          obtain ⟨v, h7, hpb, -⟩ := HR5.out.cmv HST.out (by omega)
          rw [HBAD2.out]
          exact ⟨rfl, (HB3.out.mono (Nat.le_of_lt hlt)).trans HK5.out.2.1.1, v, h7, hpb, fun h => absurd h hf⟩
      · obtain rfl : p = tl.length := by omega
        have hnx := fun ty => Lib.run_next_end_at (P := Tryd.prog) wr K s tl.length ty HI.out (by omega)
        go_wp2
        refine bodyPost_end (results_none rfl _ _ _) rfl ?_
        have e := HF.out
        rw [← hzl, foldC_end] at e
        obtain ⟨v, h7, hpb, hcv⟩ := HR.out.cmv HBA.out (by omega)
        rw [e]
        exact ⟨rfl, (HB3.out.mono (Nat.le_of_lt hlt)).trans HKP.out.1, v, h7, hpb, fun _ => hcv⟩

end Go.Proofs.YtelcmkccfjdmjaaDoor

namespace Go.Proofs.YtelcmkccfjdmjaaDoor
open Go Go.Proofs Go.RowKit Go.Shelf Go.Sort

/-- the kinds behind a name, told by both -/
def KindsBoth (nm : ByteArray) (n : Nat) : Prop :=
  (∀ W, Calls Tryd.prog 54 #[.string nm, .int .i64 (n : Int)] W (KindPost nm n W)) ∧ (∀ W, Calls Tryd.prog 29 #[.string nm, .int .i64 (n : Int)] W (KindPost nm n W)) ∧
    (∀ k ∈ (kindsC nm n).1.data.toList, isKind k) ∧ ((kindsC nm n).2 = true → (kindsC nm n).1.size = n)
theorem KindsBoth.of {nm kd : ByteArray} {n : Nat} (k : Nat) (hn : n ≤ 100000) (hk : k < formL.length) (hat : formL[k] = (nm, kd)) (hne : nm ≠ tourC) (hi : idxI (fun p : FmP => decide (p.1 = nm)) formL = (k : Int)) (hf : formL.find? (fun p => decide (p.1 = nm)) = some (nm, kd)) (hkz : kd.size ≤ 10)
    (hkk : ∀ k ∈ kd.data.toList, isKind k) (hr : ∀ W, Calls Tryd.prog 29 #[.string nm, .int .i64 (n : Int)] W (KindPost nm n W)) : KindsBoth nm n := by
  refine ⟨fun W => cmdKinds_form nm kd k n W hn hk hat hne hi hf hkz, hr, ?_, ?_⟩
  · rw [kindsC_form hne hf]
    exact hkk
  · rw [kindsC_form hne hf]
    exact fun h => of_decide_eq_true h
theorem isNm_cases {nm : ByteArray} (h : isNm nm = true) : nm ∈ nameL := by
  obtain ⟨x, hx, e⟩ := List.any_eq_true.1 h
  have e := of_decide_eq_true e
  subst e
  exact hx
theorem kindsBoth_any {nm : ByteArray} {n : Nat} (h : isNm nm = true) (h1 : nm ≠ loadC) (h2 : nm ≠ buildC) (hn : n ≤ 100000) : KindsBoth nm n := by
  have hx := isNm_cases h
  simp only [nameL, formL, List.map_cons, List.map_nil, List.mem_cons, List.not_mem_nil, or_false] at hx
  rcases hx with rfl | rfl | rfl | rfl | rfl | rfl | rfl | rfl | rfl | rfl | rfl | rfl | rfl
  · exact absurd rfl h1
  · exact absurd rfl h2
  · exact .of 2 hn (by decide) rfl (by decide) (by decide) (by decide) (by decide) (by unfold isKind; decide) (fun W => refKinds_ROUTE n W hn)
  · exact .of 3 hn (by decide) rfl (by decide) (by decide) (by decide) (by decide) (by unfold isKind; decide) (fun W => refKinds_DIST n W hn)
  · exact .of 4 hn (by decide) rfl (by decide) (by decide) (by decide) (by decide) (by unfold isKind; decide) (fun W => refKinds_ALT n W hn)
  · exact .of 5 hn (by decide) rfl (by decide) (by decide) (by decide) (by decide) (by unfold isKind; decide) (fun W => refKinds_KSP n W hn)
  · exact .of 6 hn (by decide) rfl (by decide) (by decide) (by decide) (by decide) (by unfold isKind; decide) (fun W => refKinds_PEN n W hn)
  · exact .of 7 hn (by decide) rfl (by decide) (by decide) (by decide) (by decide) (by unfold isKind; decide) (fun W => refKinds_SETW n W hn)
  · exact .of 8 hn (by decide) rfl (by decide) (by decide) (by decide) (by decide) (by unfold isKind; decide) (fun W => refKinds_NEAR n W hn)
  · have hk : kindsC tourC n = (cb (List.replicate n 110), decide (2 ≤ n) && decide (n ≤ 20)) := if_pos rfl
    refine ⟨fun W => cmdKinds_tour n W hn, fun W => refKinds_TOUR n W hn, ?_, ?_⟩
    · rw [show cb [84, 79, 85, 82] = tourC from rfl, hk]
      intro k h
      exact .inl (List.eq_of_mem_replicate h)
    · rw [show cb [84, 79, 85, 82] = tourC from rfl, hk]
      exact fun _ => tourF_size n
  · exact .of 10 hn (by decide) rfl (by decide) (by decide) (by decide) (by decide) (by unfold isKind; decide) (fun W => refKinds_STAT n W hn)
  · exact .of 11 hn (by decide) rfl (by decide) (by decide) (by decide) (by decide) (by unfold isKind; decide) (fun W => refKinds_DUMP n W hn)
  · exact .of 12 hn (by decide) rfl (by decide) (by decide) (by decide) (by decide) (by unfold isKind; decide) (fun W => refKinds_QUIT n W hn)

theorem cmdRest_any (nm : ByteArray) (h : isNm nm = true) (tl : List ByteArray) (ao : Option Addr) (cap b : Nat) (w : World) (hl : tl.length ≤ 3000) (hsz : ∀ x ∈ tl, x.size ≤ 2000) (hc : Cel w ao (tl.map encS)) (hnb : ∀ x, ao = some x → x.block ≠ b) (hlt : b < w.heap.size) (hp : PB w b (rd0 nm)) :
    Calls Tryd.prog 23 #[.pointer (some ⟨b, 0, none⟩), .slice ao tl.length cap] w (RestPost w b (restC nm tl)) := by
  by_cases h1 : nm = loadC
  · subst h1
    exact cmdRest_load tl ao cap b w hl hsz hc hlt hp
  · by_cases h2 : nm = buildC
    · subst h2
      exact cmdRest_build tl ao cap b w hl hsz hc hlt hp
    · obtain ⟨k1, -, k3, k4⟩ := kindsBoth_any (n := tl.length) h h1 h2 (by omega)
      exact cmdRest_kinds nm tl ao cap b w hl hsz hc hnb hlt hp h1 h2 k1 k3 k4

end Go.Proofs.YtelcmkccfjdmjaaDoor
