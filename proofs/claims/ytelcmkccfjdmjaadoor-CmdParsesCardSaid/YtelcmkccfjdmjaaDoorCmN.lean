/-
  Walks: are two graphs the same, are two commands, by the reference.
  Walk of the reference of package cmd: are two commands the same.
-/
import Derived.Test.YtelcmkccfjdmjaaDoorProg
import Derived.Test.YtelcmkccfjdmjaaDoorCmL
import Derived.Test.YtelcmkccfjdmjaaDoorSame
import Derived.Laws.StructEq
namespace Go.Proofs.YtelcmkccfjdmjaaDoor
open Go Go.Proofs Go.RowKit Go.Shelf Go.Sort

set_option maxHeartbeats 1000000 in
theorem refGSame_any (n m : Int) (es fs : List EdgeD) (ao bo : Option Addr) (ca cb : Nat) (w : World) (hl : es.length ≤ 9223372036854775807) (hl2 : fs.length ≤ 9223372036854775807) (ha : Cel w ao (flat es)) (hb : Cel w bo (flat fs)) :
    Calls Tryd.prog 31 #[.agg #[.int .i64 n, .slice ao es.length ca], .agg #[.int .i64 m, .slice bo fs.length cb]] w fun e w' => e = .returned (.bool (decide (n = m) && decide (es = fs))) ∧ Below w.heap.size w w' := by
  have HA := Lib.hid ha
  have HB := Lib.hid hb
  clear ha hb
  by_cases hn : n = m
  · subst hn
    rw [decide_eq_true (rfl : n = n), Bool.true_and]
    by_cases hlen : es.length = fs.length
    · have HLN := Lib.hid hlen
      have hn3 : ((es.length : Int) != (fs.length : Int)) = false := by simp; omega
      clear hlen
      have HD := Lib.hid (fun k (h1 : k < es.length) (h2 : es[k] ≠ fs[k]'(by have := HLN.out; omega)) => (decide_eq_false (fun e => h2 (by subst e; rfl)) : decide (es = fs) = false))
      have HE := Lib.hid (fun h : (∀ j (h : j < es.length), es[j] = fs[j]'(by have := HLN.out; omega)) => (decide_eq_true (List.ext_getElem HLN.out (fun i h1 h2 => h i h1)) : decide (es = fs) = true))
      generalize decide (es = fs) = r at *
      have hn4 : (n != n) = false := by simp
      go_enter Tryd.func31, Tryd.ntmps31
      go_wp2
      obtain ⟨W, hW, HW, HP, HR⟩ : ∃ W, W = (w.alloc (Obj.cells #[.int .i64 n, .slice ao es.length ca] 28)).alloc (Obj.cells #[.int .i64 n, .slice bo fs.length cb] 28) ∧ Below w.heap.size w W ∧ C2 W w.heap.size (.int .i64 n) (.slice ao es.length ca) ∧ C2 W (w.heap.size + 1) (.int .i64 n) (.slice bo fs.length cb) :=
        ⟨_, rfl, (Below.of_al _ _).al _, (C2.new w 28 _ _).go (Below.of_al _ _), C2.newAt _ 28 _ _ (by simp)⟩
      rw [← hW]
      clear hW
      have HW1 := Lib.hid HW
      have HA1 := Lib.hid (HA.out.go HW)
      have HB1 := Lib.hid (HB.out.go HW)
      clear HW HA HB
      obtain ⟨p0, p1, -, -⟩ := HP
      obtain ⟨q0, q1, -, -⟩ := HR
      go_loopg [5] es.length (fun gq i wr => ∃ k q : Nat, k ≤ es.length ∧ es.length - k ≤ gq ∧ i = .int .i64 k ∧ wr = W.drewN q ∧ Aside (∀ j (h : j < es.length), j < k → es[j] = fs[j]'(by have := HLN.out; omega)))
      case atStart => exact ⟨0, 0, Nat.zero_le _, by omega, rfl, rfl, fun j _ h => absurd h (Nat.not_lt_zero _)⟩
      case round =>
        obtain ⟨k, q, hk, hg, rfl, rfl, HF⟩ := hrel
        by_cases hlt : k < es.length
        · have hlt2 : k < fs.length := by have := HLN.out; omega
          obtain ⟨b1, o1, hao, f1, f2, f3⟩ := HA1.out.edge hlt
          obtain ⟨b2, o2, hbo, g1, g2, g3⟩ := HB1.out.edge hlt2
          subst hao hbo
          have hlt3 : (k : Int) < (es.length : Int) := by omega
          have hlt4 : (k : Int) < (fs.length : Int) := by omega
          have hk0 : (0 : Int) ≤ (k : Int) := by omega
          have HD2 := Lib.hid (HD.out k hlt)
          have HM := Lib.hid (fun h : es[k] = fs[k] => (fun j (h1 : j < es.length) (h2 : j < k + 1) => (by
            by_cases e : j = k
            · subst e; exact h
            · exact HF.out j h1 (by omega) : es[j] = fs[j]'(by have := HLN.out; omega))))
          generalize es[k] = x at *
          generalize fs[k] = y at *
          obtain ⟨xf, xt, xw⟩ := x
          obtain ⟨yf, yt, yw⟩ := y
          simp only at f1 f2 f3 g1 g2 g3
          by_cases hq : xf = yf ∧ xt = yt ∧ xw = yw
          · obtain ⟨rfl, rfl, rfl⟩ := hq
            have HM2 := Lib.hid (HM.out rfl)
            clear HD2 HM
            go_wp2
            go_quiet (fail)
            go_wp2
            go_roundg (es.length - (k + 1))
            case measure => omega
            case rel => exact ⟨k + 1, q + nq, by omega, by omega, by go_num, by first | rfl | (rw [World.drewN_add]), HM2.out⟩
          · have HM2 := Lib.hid (HD2.out (fun e => by cases e; exact hq ⟨rfl, rfl, rfl⟩))
            clear HD2 HM
            have h3 : ¬ xf = yf ∨ xf = yf ∧ ¬ xt = yt ∨ xf = yf ∧ xt = yt ∧ ¬ xw = yw := by omega
            clear hq
            rcases h3 with h3 | ⟨rfl, h3⟩ | ⟨rfl, rfl, h3⟩
            all_goals
              go_wp2
              go_quiet (fail)
              go_wp2
              go_ret
              exact ⟨by rw [HM2.out]; rfl, HW1.out.dr _ |>.dr _⟩
        · obtain rfl : k = es.length := by omega
          have HE2 := Lib.hid (HE.out (fun j h => HF.out j h h))
          go_wp2
          go_ret
          exact ⟨by rw [HE2.out]; rfl, HW1.out.dr _⟩
    · have hr : decide (es = fs) = false := decide_eq_false (fun e => hlen (by rw [e]))
      rw [hr]
      have hn3 : ((es.length : Int) != (fs.length : Int)) = true := by simp; omega
      have hn4 : (n != n) = false := by simp
      clear hlen hr
      go_enter Tryd.func31, Tryd.ntmps31
      go_wp2
      go_ret
      exact ⟨rfl, (Below.of_al _ _).al _⟩
  · rw [decide_eq_false hn, Bool.false_and]
    have hn4 : (n != m) = true := by simpa using hn
    clear hn
    go_enter Tryd.func31, Tryd.ntmps31
    go_wp2
    go_ret
    exact ⟨rfl, (Below.of_al _ _).al _⟩

end Go.Proofs.YtelcmkccfjdmjaaDoor

namespace Go.Proofs.YtelcmkccfjdmjaaDoor
open Go Go.Proofs Go.RowKit Go.Shelf Go.Sort

/-- the rows of a command are no longer than any machine's -/
def SmallC (c : CmD) : Prop := c.ints.length ≤ 9223372036854775807 ∧ c.rats.length ≤ 9223372036854775807 ∧ c.ge.length ≤ 9223372036854775807 ∧ c.rank.length ≤ 9223372036854775807
theorem sameC (c d : CmD) : decide (c = d) = (decide (c.name = d.name) && (decide (c.ints = d.ints) && (decide (c.w = d.w) && (decide (c.rats = d.rats) && ((decide (c.gn = d.gn) && decide (c.ge = d.ge)) && decide (c.rank = d.rank)))))) := by
  obtain ⟨a1, a2, a3, a4, a5, a6, a7⟩ := c
  obtain ⟨b1, b2, b3, b4, b5, b6, b7⟩ := d
  rw [Bool.eq_iff_iff]
  simp
  exact fun _ _ _ _ => and_assoc.symm
theorem flatP_at {W : World} {ao : Option Addr} {l : List (Int × Int)} (h : Cel W ao (flatP l)) {k : Nat} (hk : k < l.length) :
    ∃ b o, ao = some ⟨b, o, none⟩ ∧ W.cell? ⟨b, o + k * 2, none⟩ = some (.int .u64 l[k].1) ∧ W.cell? ⟨b, o + k * 2 + 1, none⟩ = some (.int .u64 l[k].2) := by
  have hf : ∀ (l : List (Int × Int)) (k : Nat) (hk : k < l.length), (flatP l)[k * 2]? = some (.int .u64 l[k].1) ∧ (flatP l)[k * 2 + 1]? = some (.int .u64 l[k].2) := by
    intro l
    induction l with
    | nil => intro k hk; simp at hk
    | cons p l ih =>
      intro k hk
      match k with
      | 0 => exact ⟨rfl, rfl⟩
      | k + 1 =>
        have := ih k (by simpa using hk)
        rw [show (k + 1) * 2 = k * 2 + 2 by omega]
        exact this
  obtain ⟨h1, h2⟩ := hf l k hk
  obtain ⟨b, o, e, hc⟩ := h _ _ h1
  obtain ⟨b', o', e', hc'⟩ := h _ _ h2
  cases e
  cases e'
  exact ⟨b, o, rfl, hc, hc'⟩

set_option maxRecDepth 100000 in
set_option maxHeartbeats 4000000 in
theorem refCmSame_any (c d : CmD) (v u : List Value) (w : World) (hc : CmV w c v) (hd : CmV w d u) (hs : SmallC c) (ht : SmallC d) :
    Calls Tryd.prog 8 #[.agg v.toArray, .agg u.toArray] w fun e w' => e = .returned (.bool (decide (c = d))) ∧ Below w.heap.size w w' := by
  obtain ⟨ai, ci, aq, cq, ag, cg, ak, ck, rfl, h1, h2, h3, h4⟩ := hc
  obtain ⟨bi, di, bq, dq, bg, dg, bk, dk, rfl, k1, k2, k3, k4⟩ := hd
  rw [sameC]
  obtain ⟨W, hW⟩ : ∃ W, W = (w.alloc (Obj.cells #[.string c.name, .slice ai c.ints.length ci, .int .u64 c.w, .slice aq c.rats.length cq, .int .i64 c.gn, .slice ag c.ge.length cg, .slice ak c.rank.length ck] 34)).alloc (Obj.cells #[.string d.name, .slice bi d.ints.length di, .int .u64 d.w, .slice bq d.rats.length dq, .int .i64 d.gn, .slice bg d.ge.length dg, .slice bk d.rank.length dk] 34) := ⟨_, rfl⟩
  have HP := Lib.hid (show PB W w.heap.size _ by rw [hW]; exact (PB.new7 _ _ _ _ _ _ _ _ _).go (Below.of_al _ _))
  have HX := Lib.hid (show PB W (w.heap.size + 1) _ by rw [hW]; exact PB.new7At _ _ _ _ _ _ _ _ _ (by simp))
  have HB := Lib.hid (show Below w.heap.size w W by rw [hW]; exact (Below.of_al _ _).al _)
  have HI := Lib.hid (fun W' (hb : Below W.heap.size W W') => sameInts_any ai bi ci di c.ints d.ints W' hs.1 ht.1 ((h1.go HB.out).go hb) ((k1.go HB.out).go hb))
  have HG := Lib.hid (fun W' (hb : Below W.heap.size W W') => refGSame_any c.gn d.gn c.ge d.ge ag bg cg dg W' hs.2.2.1 ht.2.2.1 ((h3.go HB.out).go hb) ((k3.go HB.out).go hb))
  have HK := Lib.hid (fun W' (hb : Below W.heap.size W W') => sameInts_any ak bk ck dk c.rank d.rank W' hs.2.2.2 ht.2.2.2 ((h4.go HB.out).go hb) ((k4.go HB.out).go hb))
  have HQ1 := Lib.hid (h2.go HB.out)
  have HQ2 := Lib.hid (k2.go HB.out)
  obtain ⟨hs1, hs2, hs3, hs4⟩ := hs
  obtain ⟨ht1, ht2, ht3, ht4⟩ := ht
  clear h1 h2 h3 h4 k1 k2 k3 k4 hs1 ht1 hs3 ht3 hs4 ht4
  generalize decide (c.ints = d.ints) = b1 at *
  generalize (decide (c.gn = d.gn) && decide (c.ge = d.ge)) = b2 at *
  generalize decide (c.rank = d.rank) = b3 at *
  obtain ⟨p0, -⟩ := HP.out 0 _ rfl
  obtain ⟨p1, -⟩ := HP.out 1 _ rfl
  obtain ⟨p2, -⟩ := HP.out 2 _ rfl
  obtain ⟨p3, -⟩ := HP.out 3 _ rfl
  obtain ⟨p4, -⟩ := HP.out 4 _ rfl
  obtain ⟨p5, -⟩ := HP.out 5 _ rfl
  obtain ⟨p6, -⟩ := HP.out 6 _ rfl
  obtain ⟨x0, -⟩ := HX.out 0 _ rfl
  obtain ⟨x1, -⟩ := HX.out 1 _ rfl
  obtain ⟨x2, -⟩ := HX.out 2 _ rfl
  obtain ⟨x3, -⟩ := HX.out 3 _ rfl
  obtain ⟨x4, -⟩ := HX.out 4 _ rfl
  obtain ⟨x5, -⟩ := HX.out 5 _ rfl
  obtain ⟨x6, -⟩ := HX.out 6 _ rfl
  by_cases hn : c.name = d.name
  · rw [decide_eq_true hn, Bool.true_and]
    rw [hn] at p0 hW ⊢
    generalize d.name = nm at *
    have hn2 : (nm.toList == nm.toList) = true := by simp
    clear hn
    cases b1 with
    | false =>
      rw [Bool.false_and]
      go_enter Tryd.func8, Tryd.ntmps8
      go_upto_region 1 with (fail)
      rw [← hW]
      clear hW
      go_wp2_with (first
  | (go_at_call_of 19 (#[.slice ai c.ints.length ci, .slice bi d.ints.length di] : Array Value); refine (HI.out _ (Below.refl _ _)).mono ?_; rintro e w1 ⟨rfl, n1, rfl⟩)
  | (go_at_call 31; refine (HG.out _ (Below.of_dr W n1)).mono ?_; rintro e w2 ⟨rfl, hb2⟩; (have HB2 := Lib.hid ((HB.out.dr n1).st hb2)); (have HP2 := Lib.hid ((HP.out.go (Below.of_dr W n1)).go hb2)); (have HX2 := Lib.hid ((HX.out.go (Below.of_dr W n1)).go hb2)); (have HW2 := Lib.hid ((Below.of_dr W n1).st hb2)); clear hb2; (obtain ⟨p0, -⟩ := (HP2).out 0 _ rfl); (obtain ⟨p1, -⟩ := (HP2).out 1 _ rfl); (obtain ⟨p2, -⟩ := (HP2).out 2 _ rfl); (obtain ⟨p3, -⟩ := (HP2).out 3 _ rfl); (obtain ⟨p4, -⟩ := (HP2).out 4 _ rfl); (obtain ⟨p5, -⟩ := (HP2).out 5 _ rfl); (obtain ⟨p6, -⟩ := (HP2).out 6 _ rfl); (obtain ⟨x0, -⟩ := (HX2).out 0 _ rfl); (obtain ⟨x1, -⟩ := (HX2).out 1 _ rfl); (obtain ⟨x2, -⟩ := (HX2).out 2 _ rfl); (obtain ⟨x3, -⟩ := (HX2).out 3 _ rfl); (obtain ⟨x4, -⟩ := (HX2).out 4 _ rfl); (obtain ⟨x5, -⟩ := (HX2).out 5 _ rfl); (obtain ⟨x6, -⟩ := (HX2).out 6 _ rfl))
  | (go_at_call_of 19 (#[.slice ak c.rank.length ck, .slice bk d.rank.length dk] : Array Value); refine (HK.out _ HW2.out).mono ?_; rintro e w3 ⟨rfl, n3, rfl⟩))
      go_ret
      exact ⟨rfl, HB.out.dr _⟩
    | true =>
      rw [Bool.true_and]
      by_cases hw : c.w = d.w
      · rw [decide_eq_true hw, Bool.true_and]
        rw [hw] at p2 hW ⊢
        generalize d.w = wv at *
        have hw2 : (wv != wv) = false := by simp
        clear hw
        by_cases hl : c.rats.length = d.rats.length
        · have HL := Lib.hid hl
          have hl2 : ((c.rats.length : Int) != (d.rats.length : Int)) = false := by simp; omega
          clear hl
          cases b2 with
          | false =>
            rw [Bool.false_and, Bool.and_false]
            go_enter Tryd.func8, Tryd.ntmps8
            go_upto_region 1 with (fail)
            rw [← hW]
            clear hW
            go_wp2_with (first
  | (go_at_call_of 19 (#[.slice ai c.ints.length ci, .slice bi d.ints.length di] : Array Value); refine (HI.out _ (Below.refl _ _)).mono ?_; rintro e w1 ⟨rfl, n1, rfl⟩)
  | (go_at_call 31; refine (HG.out _ (Below.of_dr W n1)).mono ?_; rintro e w2 ⟨rfl, hb2⟩; (have HB2 := Lib.hid ((HB.out.dr n1).st hb2)); (have HP2 := Lib.hid ((HP.out.go (Below.of_dr W n1)).go hb2)); (have HX2 := Lib.hid ((HX.out.go (Below.of_dr W n1)).go hb2)); (have HW2 := Lib.hid ((Below.of_dr W n1).st hb2)); clear hb2; (obtain ⟨p0, -⟩ := (HP2).out 0 _ rfl); (obtain ⟨p1, -⟩ := (HP2).out 1 _ rfl); (obtain ⟨p2, -⟩ := (HP2).out 2 _ rfl); (obtain ⟨p3, -⟩ := (HP2).out 3 _ rfl); (obtain ⟨p4, -⟩ := (HP2).out 4 _ rfl); (obtain ⟨p5, -⟩ := (HP2).out 5 _ rfl); (obtain ⟨p6, -⟩ := (HP2).out 6 _ rfl); (obtain ⟨x0, -⟩ := (HX2).out 0 _ rfl); (obtain ⟨x1, -⟩ := (HX2).out 1 _ rfl); (obtain ⟨x2, -⟩ := (HX2).out 2 _ rfl); (obtain ⟨x3, -⟩ := (HX2).out 3 _ rfl); (obtain ⟨x4, -⟩ := (HX2).out 4 _ rfl); (obtain ⟨x5, -⟩ := (HX2).out 5 _ rfl); (obtain ⟨x6, -⟩ := (HX2).out 6 _ rfl))
  | (go_at_call_of 19 (#[.slice ak c.rank.length ck, .slice bk d.rank.length dk] : Array Value); refine (HK.out _ HW2.out).mono ?_; rintro e w3 ⟨rfl, n3, rfl⟩))
            go_ret
            exact ⟨rfl, HB2.out⟩
          | true =>
            rw [Bool.true_and]
            cases b3 with
            | false =>
              rw [Bool.and_false]
              go_enter Tryd.func8, Tryd.ntmps8
              go_upto_region 1 with (fail)
              rw [← hW]
              clear hW
              go_wp2_with (first
  | (go_at_call_of 19 (#[.slice ai c.ints.length ci, .slice bi d.ints.length di] : Array Value); refine (HI.out _ (Below.refl _ _)).mono ?_; rintro e w1 ⟨rfl, n1, rfl⟩)
  | (go_at_call 31; refine (HG.out _ (Below.of_dr W n1)).mono ?_; rintro e w2 ⟨rfl, hb2⟩; (have HB2 := Lib.hid ((HB.out.dr n1).st hb2)); (have HP2 := Lib.hid ((HP.out.go (Below.of_dr W n1)).go hb2)); (have HX2 := Lib.hid ((HX.out.go (Below.of_dr W n1)).go hb2)); (have HW2 := Lib.hid ((Below.of_dr W n1).st hb2)); clear hb2; (obtain ⟨p0, -⟩ := (HP2).out 0 _ rfl); (obtain ⟨p1, -⟩ := (HP2).out 1 _ rfl); (obtain ⟨p2, -⟩ := (HP2).out 2 _ rfl); (obtain ⟨p3, -⟩ := (HP2).out 3 _ rfl); (obtain ⟨p4, -⟩ := (HP2).out 4 _ rfl); (obtain ⟨p5, -⟩ := (HP2).out 5 _ rfl); (obtain ⟨p6, -⟩ := (HP2).out 6 _ rfl); (obtain ⟨x0, -⟩ := (HX2).out 0 _ rfl); (obtain ⟨x1, -⟩ := (HX2).out 1 _ rfl); (obtain ⟨x2, -⟩ := (HX2).out 2 _ rfl); (obtain ⟨x3, -⟩ := (HX2).out 3 _ rfl); (obtain ⟨x4, -⟩ := (HX2).out 4 _ rfl); (obtain ⟨x5, -⟩ := (HX2).out 5 _ rfl); (obtain ⟨x6, -⟩ := (HX2).out 6 _ rfl))
  | (go_at_call_of 19 (#[.slice ak c.rank.length ck, .slice bk d.rank.length dk] : Array Value); refine (HK.out _ HW2.out).mono ?_; rintro e w3 ⟨rfl, n3, rfl⟩))
              go_ret
              exact ⟨rfl, HB2.out.dr _⟩
            | true =>
              rw [Bool.and_true]
              have HD := Lib.hid (fun k (h1 : k < c.rats.length) (h2 : c.rats[k] ≠ d.rats[k]'(by have := HL.out; omega)) => (decide_eq_false (fun e => h2 (by simp only [e])) : decide (c.rats = d.rats) = false))
              have HE := Lib.hid (fun h : (∀ j (h : j < c.rats.length), c.rats[j] = d.rats[j]'(by have := HL.out; omega)) => (decide_eq_true (List.ext_getElem HL.out (fun i h1 h2 => h i h1)) : decide (c.rats = d.rats) = true))
              generalize decide (c.rats = d.rats) = r at *
              go_enter Tryd.func8, Tryd.ntmps8
              go_upto_region 1 with (fail)
              rw [← hW]
              clear hW
              go_wp2_with (first
  | (go_at_call_of 19 (#[.slice ai c.ints.length ci, .slice bi d.ints.length di] : Array Value); refine (HI.out _ (Below.refl _ _)).mono ?_; rintro e w1 ⟨rfl, n1, rfl⟩)
  | (go_at_call 31; refine (HG.out _ (Below.of_dr W n1)).mono ?_; rintro e w2 ⟨rfl, hb2⟩; (have HB2 := Lib.hid ((HB.out.dr n1).st hb2)); (have HP2 := Lib.hid ((HP.out.go (Below.of_dr W n1)).go hb2)); (have HX2 := Lib.hid ((HX.out.go (Below.of_dr W n1)).go hb2)); (have HW2 := Lib.hid ((Below.of_dr W n1).st hb2)); clear hb2; (obtain ⟨p0, -⟩ := (HP2).out 0 _ rfl); (obtain ⟨p1, -⟩ := (HP2).out 1 _ rfl); (obtain ⟨p2, -⟩ := (HP2).out 2 _ rfl); (obtain ⟨p3, -⟩ := (HP2).out 3 _ rfl); (obtain ⟨p4, -⟩ := (HP2).out 4 _ rfl); (obtain ⟨p5, -⟩ := (HP2).out 5 _ rfl); (obtain ⟨p6, -⟩ := (HP2).out 6 _ rfl); (obtain ⟨x0, -⟩ := (HX2).out 0 _ rfl); (obtain ⟨x1, -⟩ := (HX2).out 1 _ rfl); (obtain ⟨x2, -⟩ := (HX2).out 2 _ rfl); (obtain ⟨x3, -⟩ := (HX2).out 3 _ rfl); (obtain ⟨x4, -⟩ := (HX2).out 4 _ rfl); (obtain ⟨x5, -⟩ := (HX2).out 5 _ rfl); (obtain ⟨x6, -⟩ := (HX2).out 6 _ rfl))
  | (go_at_call_of 19 (#[.slice ak c.rank.length ck, .slice bk d.rank.length dk] : Array Value); refine (HK.out _ HW2.out).mono ?_; rintro e w3 ⟨rfl, n3, rfl⟩))
              have HQA := Lib.hid (HQ1.out.go HW2.out)
              have HQB := Lib.hid (HQ2.out.go HW2.out)
              clear HQ1 HQ2 HW2 HP HX HB HI HG HK
              go_loopg [5] c.rats.length (fun gq i wr => ∃ k q : Nat, k ≤ c.rats.length ∧ c.rats.length - k ≤ gq ∧ i = .int .i64 k ∧ wr = w2.drewN q ∧ Aside (∀ j (h : j < c.rats.length), j < k → c.rats[j] = d.rats[j]'(by have := HL.out; omega)))
              case atStart => exact ⟨0, n3, Nat.zero_le _, by omega, rfl, rfl, fun j _ h => absurd h (Nat.not_lt_zero _)⟩
              case round =>
                obtain ⟨k, q, hk, hg, rfl, rfl, HF⟩ := hrel
                by_cases hlt : k < c.rats.length
                · have hlt2 : k < d.rats.length := by have := HL.out; omega
                  obtain ⟨y1, o1, hao, f1, f2⟩ := flatP_at HQA.out hlt
                  obtain ⟨y2, o2, hbo, g1, g2⟩ := flatP_at HQB.out hlt2
                  subst hao hbo
                  have hlt3 : (k : Int) < (c.rats.length : Int) := by omega
                  have hlt4 : (k : Int) < (d.rats.length : Int) := by omega
                  have hk0 : (0 : Int) ≤ (k : Int) := by omega
                  have HD2 := Lib.hid (HD.out k hlt)
                  have HM := Lib.hid (fun h : c.rats[k] = d.rats[k] => (fun j (h1 : j < c.rats.length) (h2 : j < k + 1) => (by
                    by_cases e : j = k
                    · subst e; exact h
                    · exact HF.out j h1 (by omega) : c.rats[j] = d.rats[j]'(by have := HL.out; omega))))
                  generalize c.rats[k] = x at *
                  generalize d.rats[k] = y at *
                  obtain ⟨xf, xt⟩ := x
                  obtain ⟨yf, yt⟩ := y
                  simp only at f1 f2 g1 g2
                  by_cases hq : xf = yf ∧ xt = yt
                  · obtain ⟨rfl, rfl⟩ := hq
                    have HM2 := Lib.hid (HM.out rfl)
                    clear HD2 HM
                    go_wp2
                    go_quiet (fail)
                    go_wp2
                    go_roundg (c.rats.length - (k + 1))
                    case measure => omega
                    case rel => exact ⟨k + 1, q + nq, by omega, by omega, by go_num, by first | rfl | (rw [World.drewN_add]), HM2.out⟩
                  · have HM2 := Lib.hid (HD2.out (fun e => by cases e; exact hq ⟨rfl, rfl⟩))
                    clear HD2 HM
                    have h3 : ¬ xf = yf ∨ xf = yf ∧ ¬ xt = yt := by omega
                    clear hq
                    rcases h3 with h3 | ⟨rfl, h3⟩
                    all_goals
                      go_wp2
                      go_quiet (fail)
                      go_wp2
                      go_ret
                      exact ⟨by rw [HM2.out]; rfl, HB2.out.dr _ |>.dr _⟩
                · have ek : k = c.rats.length := by omega
                  subst ek
                  have HE2 := Lib.hid (HE.out (fun j h => HF.out j h h))
                  go_wp2
                  go_ret
                  exact ⟨by rw [HE2.out]; rfl, HB2.out.dr _⟩
        · have hl2 : ((c.rats.length : Int) != (d.rats.length : Int)) = true := by simp; omega
          rw [decide_eq_false (fun e => hl (by rw [e])), Bool.false_and]
          clear hl
          go_enter Tryd.func8, Tryd.ntmps8
          go_upto_region 1 with (fail)
          rw [← hW]
          clear hW
          go_wp2_with (first
  | (go_at_call_of 19 (#[.slice ai c.ints.length ci, .slice bi d.ints.length di] : Array Value); refine (HI.out _ (Below.refl _ _)).mono ?_; rintro e w1 ⟨rfl, n1, rfl⟩)
  | (go_at_call 31; refine (HG.out _ (Below.of_dr W n1)).mono ?_; rintro e w2 ⟨rfl, hb2⟩; (have HB2 := Lib.hid ((HB.out.dr n1).st hb2)); (have HP2 := Lib.hid ((HP.out.go (Below.of_dr W n1)).go hb2)); (have HX2 := Lib.hid ((HX.out.go (Below.of_dr W n1)).go hb2)); (have HW2 := Lib.hid ((Below.of_dr W n1).st hb2)); clear hb2; (obtain ⟨p0, -⟩ := (HP2).out 0 _ rfl); (obtain ⟨p1, -⟩ := (HP2).out 1 _ rfl); (obtain ⟨p2, -⟩ := (HP2).out 2 _ rfl); (obtain ⟨p3, -⟩ := (HP2).out 3 _ rfl); (obtain ⟨p4, -⟩ := (HP2).out 4 _ rfl); (obtain ⟨p5, -⟩ := (HP2).out 5 _ rfl); (obtain ⟨p6, -⟩ := (HP2).out 6 _ rfl); (obtain ⟨x0, -⟩ := (HX2).out 0 _ rfl); (obtain ⟨x1, -⟩ := (HX2).out 1 _ rfl); (obtain ⟨x2, -⟩ := (HX2).out 2 _ rfl); (obtain ⟨x3, -⟩ := (HX2).out 3 _ rfl); (obtain ⟨x4, -⟩ := (HX2).out 4 _ rfl); (obtain ⟨x5, -⟩ := (HX2).out 5 _ rfl); (obtain ⟨x6, -⟩ := (HX2).out 6 _ rfl))
  | (go_at_call_of 19 (#[.slice ak c.rank.length ck, .slice bk d.rank.length dk] : Array Value); refine (HK.out _ HW2.out).mono ?_; rintro e w3 ⟨rfl, n3, rfl⟩))
          go_ret
          exact ⟨rfl, HB.out.dr _⟩
      · rw [decide_eq_false hw, Bool.false_and]
        have hw2 : (c.w != d.w) = true := by simpa using hw
        clear hw
        go_enter Tryd.func8, Tryd.ntmps8
        go_upto_region 1 with (fail)
        rw [← hW]
        clear hW
        go_wp2_with (first
  | (go_at_call_of 19 (#[.slice ai c.ints.length ci, .slice bi d.ints.length di] : Array Value); refine (HI.out _ (Below.refl _ _)).mono ?_; rintro e w1 ⟨rfl, n1, rfl⟩)
  | (go_at_call 31; refine (HG.out _ (Below.of_dr W n1)).mono ?_; rintro e w2 ⟨rfl, hb2⟩; (have HB2 := Lib.hid ((HB.out.dr n1).st hb2)); (have HP2 := Lib.hid ((HP.out.go (Below.of_dr W n1)).go hb2)); (have HX2 := Lib.hid ((HX.out.go (Below.of_dr W n1)).go hb2)); (have HW2 := Lib.hid ((Below.of_dr W n1).st hb2)); clear hb2; (obtain ⟨p0, -⟩ := (HP2).out 0 _ rfl); (obtain ⟨p1, -⟩ := (HP2).out 1 _ rfl); (obtain ⟨p2, -⟩ := (HP2).out 2 _ rfl); (obtain ⟨p3, -⟩ := (HP2).out 3 _ rfl); (obtain ⟨p4, -⟩ := (HP2).out 4 _ rfl); (obtain ⟨p5, -⟩ := (HP2).out 5 _ rfl); (obtain ⟨p6, -⟩ := (HP2).out 6 _ rfl); (obtain ⟨x0, -⟩ := (HX2).out 0 _ rfl); (obtain ⟨x1, -⟩ := (HX2).out 1 _ rfl); (obtain ⟨x2, -⟩ := (HX2).out 2 _ rfl); (obtain ⟨x3, -⟩ := (HX2).out 3 _ rfl); (obtain ⟨x4, -⟩ := (HX2).out 4 _ rfl); (obtain ⟨x5, -⟩ := (HX2).out 5 _ rfl); (obtain ⟨x6, -⟩ := (HX2).out 6 _ rfl))
  | (go_at_call_of 19 (#[.slice ak c.rank.length ck, .slice bk d.rank.length dk] : Array Value); refine (HK.out _ HW2.out).mono ?_; rintro e w3 ⟨rfl, n3, rfl⟩))
        go_ret
        exact ⟨rfl, HB.out.dr _⟩
  · rw [decide_eq_false hn, Bool.false_and]
    have hn2 : (c.name.toList == d.name.toList) = false := by
      rw [beq_eq_false_iff_ne]
      intro e
      rw [ByteArray.toList_eq, ByteArray.toList_eq] at e
      exact hn (Go.WideShapes.bytes_inj e)
    clear hn
    go_enter Tryd.func8, Tryd.ntmps8
    go_upto_region 1 with (fail)
    rw [← hW]
    clear hW
    go_wp2
    go_ret
    exact ⟨rfl, HB.out⟩

end Go.Proofs.YtelcmkccfjdmjaaDoor
