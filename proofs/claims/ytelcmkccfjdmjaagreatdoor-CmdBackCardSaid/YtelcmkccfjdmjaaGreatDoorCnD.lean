/-
  Walks of package cmd: Print, and by the reference.
  Walks of package cmd: are two commands the same.
  Commands that are small: their words are, and the walk of what small is.
  The walk of the statement CmdPrints: whatever the commands, the law answers true.
-/
import Derived.Test.YtelcmkccfjdmjaaGreatDoorProg
import Derived.Test.YtelcmkccfjdmjaaGreatDoorCnB
import Derived.Test.YtelcmkccfjdmjaaGreatDoorTokJoin
import Derived.Test.YtelcmkccfjdmjaaGreatDoorCmP
import Derived.Test.YtelcmkccfjdmjaaGreatDoorRkC
import Derived.Lib.ItoaLen
namespace Go.Proofs.YtelcmkccfjdmjaaGreatDoor
open Go Go.Proofs Go.RowKit Go.Shelf Go.Sort

set_option maxHeartbeats 400000 in
theorem eqInts_any (ao bo : Option Addr) (ca cb : Nat) (la lb : List Int) (w : World) (hla : la.length ≤ 9223372036854775807) (hlb : lb.length ≤ 9223372036854775807)
    (ha : Cel w ao (la.map encI)) (hb : Cel w bo (lb.map encI)) :
    Calls Tryz.prog 65 #[.slice ao la.length ca, .slice bo lb.length cb] w fun e w' => e = .returned (.bool (decide (la = lb))) ∧ ∃ n, w' = w.drewN n := by
  have HA := Lib.hid ha
  have HB := Lib.hid hb
  clear ha hb
  by_cases hl : la.length = lb.length
  · have hn2 : ((la.length : Int) != (lb.length : Int)) = false := by simp; omega
    have HN := Lib.hid hl
    clear hl
    have HD := Lib.hid (fun k (h1 : k < la.length) (h2 : la[k] ≠ lb[k]'(by have := HN.out; omega)) => (decide_eq_false (fun e => h2 (by subst e; rfl)) : decide (la = lb) = false))
    have HE := Lib.hid (fun h : (∀ j (h : j < la.length), la[j] = lb[j]'(by have := HN.out; omega)) => (decide_eq_true (List.ext_getElem HN.out (fun i h1 h2 => h i h1)) : decide (la = lb) = true))
    generalize decide (la = lb) = r at *
    go_enter Tryz.func65, Tryz.ntmps65
    go_wp2
    go_loopg [13] la.length (fun g i wr => ∃ k q : Nat, k ≤ la.length ∧ la.length - k ≤ g ∧ i = .int .i64 k ∧ wr = w.drewN q ∧ Aside (∀ j (h : j < la.length), j < k → la[j] = lb[j]'(by have := HN.out; omega)))
    case atStart => exact ⟨0, 0, Nat.zero_le _, by omega, rfl, rfl, fun j _ h => absurd h (Nat.not_lt_zero _)⟩
    case round =>
      obtain ⟨k, q, hk, hg, rfl, rfl, HF⟩ := hrel
      by_cases hlt : k < la.length
      · have hlt2 : k < lb.length := by have := HN.out; omega
        have hlt3 : (k : Int) < (la.length : Int) := by omega
        have hlt4 : (k : Int) < (lb.length : Int) := by omega
        have hk0 : (0 : Int) ≤ (k : Int) := by omega
        obtain ⟨b1, o1, hao, hc1⟩ := HA.out.at hlt
        obtain ⟨b2, o2, hbo, hc2⟩ := HB.out.at hlt2
        subst hao hbo
        have HD2 := Lib.hid (HD.out k hlt)
        have HM := Lib.hid (fun h : la[k] = lb[k] => (fun j (h1 : j < la.length) (h2 : j < k + 1) => (by
          by_cases e : j = k
          · subst e; exact h
          · exact HF.out j h1 (by omega) : la[j] = lb[j]'(by have := HN.out; omega))))
        generalize la[k] = x at *
        generalize lb[k] = y at *
        go_wp2
        go_quiet (fail)
        go_wp2
        · have ht := ne_i (by assumption)
          go_ret
          exact ⟨by rw [HD2.out ht]; rfl, q + nq, World.drewN_drewN _ _ _⟩
        · have ht := eq_i (by assumption)
          go_roundg (la.length - (k + 1))
          case measure => omega
          case rel => exact ⟨k + 1, q + nq, by omega, by omega, by go_num, rfl, HM.out ht⟩
      · obtain rfl : k = la.length := by omega
        go_wp2
        go_ret
        exact ⟨by rw [HE.out (fun j h => HF.out j h h)]; rfl, q, rfl⟩
  · have hn2 : ((la.length : Int) != (lb.length : Int)) = true := by simp; omega
    have HN := Lib.hid (decide_eq_false (fun e => hl (by subst e; rfl)) : decide (la = lb) = false)
    clear hl
    go_enter Tryz.func65, Tryz.ntmps65
    go_wp2
    go_ret
    exact ⟨by rw [HN.out]; rfl, 0, rfl⟩
set_option maxHeartbeats 1000000 in
theorem eqRats_any (ao bo : Option Addr) (ca cb : Nat) (la lb : List (Int × Int)) (w : World) (hla : la.length ≤ 9223372036854775807) (hlb : lb.length ≤ 9223372036854775807)
    (ha : Cel w ao (flatP la)) (hb : Cel w bo (flatP lb)) :
    Calls Tryz.prog 66 #[.slice ao la.length ca, .slice bo lb.length cb] w fun e w' => e = .returned (.bool (decide (la = lb))) ∧ ∃ n, w' = w.drewN n := by
  have HA := Lib.hid ha
  have HB := Lib.hid hb
  clear ha hb
  by_cases hl : la.length = lb.length
  · have hn2 : ((la.length : Int) != (lb.length : Int)) = false := by simp; omega
    have HN := Lib.hid hl
    clear hl
    have HD := Lib.hid (fun k (h1 : k < la.length) (h2 : la[k] ≠ lb[k]'(by have := HN.out; omega)) => (decide_eq_false (fun e => h2 (by subst e; rfl)) : decide (la = lb) = false))
    have HE := Lib.hid (fun h : (∀ j (h : j < la.length), la[j] = lb[j]'(by have := HN.out; omega)) => (decide_eq_true (List.ext_getElem HN.out (fun i h1 h2 => h i h1)) : decide (la = lb) = true))
    generalize decide (la = lb) = r at *
    go_enter Tryz.func66, Tryz.ntmps66
    go_wp2
    go_loopg [13] la.length (fun g i wr => ∃ k q : Nat, k ≤ la.length ∧ la.length - k ≤ g ∧ i = .int .i64 k ∧ wr = w.drewN q ∧ Aside (∀ j (h : j < la.length), j < k → la[j] = lb[j]'(by have := HN.out; omega)))
    case atStart => exact ⟨0, 0, Nat.zero_le _, by omega, rfl, rfl, fun j _ h => absurd h (Nat.not_lt_zero _)⟩
    case round =>
      obtain ⟨k, q, hk, hg, rfl, rfl, HF⟩ := hrel
      by_cases hlt : k < la.length
      · have hlt2 : k < lb.length := by have := HN.out; omega
        have hlt3 : (k : Int) < (la.length : Int) := by omega
        have hlt4 : (k : Int) < (lb.length : Int) := by omega
        have hk0 : (0 : Int) ≤ (k : Int) := by omega
        obtain ⟨b1, o1, hao, f1, f2⟩ := flatP_at HA.out hlt
        obtain ⟨b2, o2, hbo, g1, g2⟩ := flatP_at HB.out hlt2
        subst hao hbo
        have HD2 := Lib.hid (HD.out k hlt)
        have HM := Lib.hid (fun h : la[k] = lb[k] => (fun j (h1 : j < la.length) (h2 : j < k + 1) => (by
          by_cases e : j = k
          · subst e; exact h
          · exact HF.out j h1 (by omega) : la[j] = lb[j]'(by have := HN.out; omega))))
        generalize la[k] = x at *
        generalize lb[k] = y at *
        obtain ⟨xf, xt⟩ := x
        obtain ⟨yf, yt⟩ := y
        simp only at f1 f2 g1 g2
        by_cases hq : xf = yf ∧ xt = yt
        · obtain ⟨rfl, rfl⟩ := hq
          have HM2 := Lib.hid (HM.out rfl)
          clear HD2 HM
          go_wp2
          go_quiet (fail)
          go_wp2
          go_roundg (la.length - (k + 1))
          case measure => omega
          case rel => exact ⟨k + 1, q + nq, by omega, by omega, by go_num, by first | rfl | (rw [World.drewN_add]), HM2.out⟩
        · have HM2 := Lib.hid (HD2.out (fun e => by cases e; exact hq ⟨rfl, rfl⟩))
          clear HD2 HM
          have h3 : ¬ xf = yf ∨ xf = yf ∧ ¬ xt = yt := by omega
          clear hq
          rcases h3 with h3 | ⟨rfl, h3⟩
          all_goals
            go_wp2
            go_quiet (fail)
            go_wp2
            go_ret
            exact ⟨by rw [HM2.out]; rfl, q + nq, World.drewN_drewN _ _ _⟩
      · have ek : k = la.length := by omega
        subst ek
        go_wp2
        go_ret
        exact ⟨by rw [HE.out (fun j h => HF.out j h h)]; rfl, q, rfl⟩
  · have hn2 : ((la.length : Int) != (lb.length : Int)) = true := by simp; omega
    have HN := Lib.hid (decide_eq_false (fun e => hl (by subst e; rfl)) : decide (la = lb) = false)
    clear hl
    go_enter Tryz.func66, Tryz.ntmps66
    go_wp2
    go_ret
    exact ⟨by rw [HN.out]; rfl, 0, rfl⟩
set_option maxHeartbeats 1000000 in
theorem eqEdges_any (ao bo : Option Addr) (ca cb : Nat) (la lb : List (EdgeD)) (w : World) (hla : la.length ≤ 9223372036854775807) (hlb : lb.length ≤ 9223372036854775807)
    (ha : Cel w ao (flat la)) (hb : Cel w bo (flat lb)) :
    Calls Tryz.prog 112 #[.slice ao la.length ca, .slice bo lb.length cb] w fun e w' => e = .returned (.bool (decide (la = lb))) ∧ ∃ n, w' = w.drewN n := by
  have HA := Lib.hid ha
  have HB := Lib.hid hb
  clear ha hb
  by_cases hl : la.length = lb.length
  · have hn2 : ((la.length : Int) != (lb.length : Int)) = false := by simp; omega
    have HN := Lib.hid hl
    clear hl
    have HD := Lib.hid (fun k (h1 : k < la.length) (h2 : la[k] ≠ lb[k]'(by have := HN.out; omega)) => (decide_eq_false (fun e => h2 (by subst e; rfl)) : decide (la = lb) = false))
    have HE := Lib.hid (fun h : (∀ j (h : j < la.length), la[j] = lb[j]'(by have := HN.out; omega)) => (decide_eq_true (List.ext_getElem HN.out (fun i h1 h2 => h i h1)) : decide (la = lb) = true))
    generalize decide (la = lb) = r at *
    go_enter Tryz.func112, Tryz.ntmps112
    go_wp2
    go_loopg [13] la.length (fun g i wr => ∃ k q : Nat, k ≤ la.length ∧ la.length - k ≤ g ∧ i = .int .i64 k ∧ wr = w.drewN q ∧ Aside (∀ j (h : j < la.length), j < k → la[j] = lb[j]'(by have := HN.out; omega)))
    case atStart => exact ⟨0, 0, Nat.zero_le _, by omega, rfl, rfl, fun j _ h => absurd h (Nat.not_lt_zero _)⟩
    case round =>
      obtain ⟨k, q, hk, hg, rfl, rfl, HF⟩ := hrel
      by_cases hlt : k < la.length
      · have hlt2 : k < lb.length := by have := HN.out; omega
        have hlt3 : (k : Int) < (la.length : Int) := by omega
        have hlt4 : (k : Int) < (lb.length : Int) := by omega
        have hk0 : (0 : Int) ≤ (k : Int) := by omega
        obtain ⟨b1, o1, hao, f1, f2, f3⟩ := HA.out.edge hlt
        obtain ⟨b2, o2, hbo, g1, g2, g3⟩ := HB.out.edge hlt2
        subst hao hbo
        have HD2 := Lib.hid (HD.out k hlt)
        have HM := Lib.hid (fun h : la[k] = lb[k] => (fun j (h1 : j < la.length) (h2 : j < k + 1) => (by
          by_cases e : j = k
          · subst e; exact h
          · exact HF.out j h1 (by omega) : la[j] = lb[j]'(by have := HN.out; omega))))
        generalize la[k] = x at *
        generalize lb[k] = y at *
        obtain ⟨xf, xt, xw⟩ := x
        obtain ⟨yf, yt, yw⟩ := y
        simp only at f1 f2 f3 g1 g2 g3
        by_cases hq : xf = yf ∧ xt = yt ∧ xw = yw
        · obtain ⟨rfl, rfl, rfl⟩ := hq
          have HM2 := Lib.hid (HM.out rfl)
          clear HD2 HM
          go_wp2
          go_quiet (fail)
          go_wp2
          go_roundg (la.length - (k + 1))
          case measure => omega
          case rel => exact ⟨k + 1, q + nq, by omega, by omega, by go_num, by first | rfl | (rw [World.drewN_add]), HM2.out⟩
        · have HM2 := Lib.hid (HD2.out (fun e => by cases e; exact hq ⟨rfl, rfl, rfl⟩))
          clear HD2 HM
          have h3 : ¬ xf = yf ∨ xf = yf ∧ ¬ xt = yt ∨ xf = yf ∧ xt = yt ∧ ¬ xw = yw := by omega
          clear hq
          rcases h3 with h3 | ⟨rfl, h3⟩ | ⟨rfl, rfl, h3⟩
          all_goals
            go_wp2
            go_quiet (fail)
            go_wp2
            go_ret
            exact ⟨by rw [HM2.out]; rfl, q + nq, World.drewN_drewN _ _ _⟩
      · have ek : k = la.length := by omega
        subst ek
        go_wp2
        go_ret
        exact ⟨by rw [HE.out (fun j h => HF.out j h h)]; rfl, q, rfl⟩
  · have hn2 : ((la.length : Int) != (lb.length : Int)) = true := by simp; omega
    have HN := Lib.hid (decide_eq_false (fun e => hl (by subst e; rfl)) : decide (la = lb) = false)
    clear hl
    go_enter Tryz.func112, Tryz.ntmps112
    go_wp2
    go_ret
    exact ⟨by rw [HN.out]; rfl, 0, rfl⟩

set_option maxHeartbeats 1000000 in
theorem graphSame_any (n m : Int) (es fs : List EdgeD) (ao bo : Option Addr) (ca cb : Nat) (w : World) (hl : es.length ≤ 9223372036854775807) (hl2 : fs.length ≤ 9223372036854775807) (ha : Cel w ao (flat es)) (hb : Cel w bo (flat fs)) :
    Calls Tryz.prog 67 #[.agg #[.int .i64 n, .slice ao es.length ca], .agg #[.int .i64 m, .slice bo fs.length cb]] w fun e w' => e = .returned (.bool (decide (n = m) && decide (es = fs))) ∧ Below w.heap.size w w' := by
  have HE := Lib.hid (fun W (h : Below w.heap.size w W) => eqEdges_any ao bo ca cb es fs W hl hl2 (ha.go h) (hb.go h))
  clear ha hb
  generalize decide (es = fs) = r at *
  by_cases hn : n = m
  · subst hn
    rw [decide_eq_true (rfl : n = n), Bool.true_and]
    have hn4 : (n == n) = true := by simp
    go_enter Tryz.func67, Tryz.ntmps67
    go_wp2_with (go_at_call 112; refine (HE.out _ ((Below.of_al _ _).al _)).mono ?_; rintro e w1 ⟨rfl, n1, rfl⟩)
    go_ret
    exact ⟨rfl, ((Below.of_al _ _).al _).dr _⟩
  · rw [decide_eq_false hn, Bool.false_and]
    have hn4 : (n == m) = false := by simpa using hn
    clear hn
    go_enter Tryz.func67, Tryz.ntmps67
    go_wp2
    go_ret
    exact ⟨rfl, (Below.of_al _ _).al _⟩

set_option maxRecDepth 100000 in
set_option maxHeartbeats 4000000 in
theorem cmdSame_any (c d : CmD) (v u : List Value) (w : World) (hc : CmV w c v) (hd : CmV w d u) (hs : SmallC c) (ht : SmallC d) :
    Calls Tryz.prog 26 #[.agg v.toArray, .agg u.toArray] w fun e w' => e = .returned (.bool (decide (c = d))) ∧ Below w.heap.size w w' := by
  obtain ⟨ai, ci, aq, cq, ag, cg, ak, ck, rfl, h1, h2, h3, h4⟩ := hc
  obtain ⟨bi, di, bq, dq, bg, dg, bk, dk, rfl, k1, k2, k3, k4⟩ := hd
  rw [sameC]
  obtain ⟨W, hW⟩ : ∃ W, W = (w.alloc (Obj.cells #[.string c.name, .slice ai c.ints.length ci, .int .u64 c.w, .slice aq c.rats.length cq, .int .i64 c.gn, .slice ag c.ge.length cg, .slice ak c.rank.length ck] 55)).alloc (Obj.cells #[.string d.name, .slice bi d.ints.length di, .int .u64 d.w, .slice bq d.rats.length dq, .int .i64 d.gn, .slice bg d.ge.length dg, .slice bk d.rank.length dk] 55) := ⟨_, rfl⟩
  have HP := Lib.hid (show PB W w.heap.size _ by rw [hW]; exact (PB.new7 _ _ _ _ _ _ _ _ _).go (Below.of_al _ _))
  have HX := Lib.hid (show PB W (w.heap.size + 1) _ by rw [hW]; exact PB.new7At _ _ _ _ _ _ _ _ _ (by simp))
  have HB := Lib.hid (show Below w.heap.size w W by rw [hW]; exact (Below.of_al _ _).al _)
  have HI := Lib.hid (fun W' (hb : Below W.heap.size W W') => eqInts_any ai bi ci di c.ints d.ints W' hs.1 ht.1 ((h1.go HB.out).go hb) ((k1.go HB.out).go hb))
  have HQ := Lib.hid (fun W' (hb : Below W.heap.size W W') => eqRats_any aq bq cq dq c.rats d.rats W' hs.2.1 ht.2.1 ((h2.go HB.out).go hb) ((k2.go HB.out).go hb))
  have HG := Lib.hid (fun W' (hb : Below W.heap.size W W') => graphSame_any c.gn d.gn c.ge d.ge ag bg cg dg W' hs.2.2.1 ht.2.2.1 ((h3.go HB.out).go hb) ((k3.go HB.out).go hb))
  have HK := Lib.hid (fun W' (hb : Below W.heap.size W W') => eqInts_any ak bk ck dk c.rank d.rank W' hs.2.2.2 ht.2.2.2 ((h4.go HB.out).go hb) ((k4.go HB.out).go hb))
  obtain ⟨hs1, hs2, hs3, hs4⟩ := hs
  obtain ⟨ht1, ht2, ht3, ht4⟩ := ht
  clear h1 h2 h3 h4 k1 k2 k3 k4 hs1 ht1 hs2 ht2 hs3 ht3 hs4 ht4
  generalize decide (c.ints = d.ints) = b1 at *
  generalize decide (c.rats = d.rats) = b4 at *
  generalize (decide (c.gn = d.gn) && decide (c.ge = d.ge)) = b2 at *
  generalize decide (c.rank = d.rank) = b3 at *
  (obtain ⟨p0, -⟩ := (HP).out 0 _ rfl); (obtain ⟨p1, -⟩ := (HP).out 1 _ rfl); (obtain ⟨p2, -⟩ := (HP).out 2 _ rfl); (obtain ⟨p3, -⟩ := (HP).out 3 _ rfl); (obtain ⟨p4, -⟩ := (HP).out 4 _ rfl); (obtain ⟨p5, -⟩ := (HP).out 5 _ rfl); (obtain ⟨p6, -⟩ := (HP).out 6 _ rfl)
  (obtain ⟨x0, -⟩ := (HX).out 0 _ rfl); (obtain ⟨x1, -⟩ := (HX).out 1 _ rfl); (obtain ⟨x2, -⟩ := (HX).out 2 _ rfl); (obtain ⟨x3, -⟩ := (HX).out 3 _ rfl); (obtain ⟨x4, -⟩ := (HX).out 4 _ rfl); (obtain ⟨x5, -⟩ := (HX).out 5 _ rfl); (obtain ⟨x6, -⟩ := (HX).out 6 _ rfl)
  by_cases hn : c.name = d.name
  · rw [decide_eq_true hn, Bool.true_and]
    rw [hn] at p0 hW ⊢
    generalize d.name = nm at *
    have hn2 : (nm.toList == nm.toList) = true := by simp
    clear hn
    cases b1 with
    | false =>
      rw [Bool.false_and]
      go_enter Tryz.func26, Tryz.ntmps26
      go_upto_region 1 with (fail)
      rw [← hW]
      clear hW
      go_wp2_with (first
  | (go_at_call_of 65 (#[.slice ai c.ints.length ci, .slice bi d.ints.length di] : Array Value); refine (HI.out _ (Below.refl _ _)).mono ?_; rintro e w1 ⟨rfl, n1, rfl⟩)
  | (go_at_call 66; refine (HQ.out _ (Below.of_dr W n1)).mono ?_; rintro e w4 ⟨rfl, n4, rfl⟩)
  | (go_at_call 67; refine (HG.out _ (by first | exact (Below.of_dr W n1).dr n4 | exact Below.of_dr W _)).mono ?_; rintro e w2 ⟨rfl, hb2⟩; (have HW2 := Lib.hid (Below.st (w := W) (by first | exact (Below.of_dr W n1).dr n4 | exact Below.of_dr W _) hb2)); (have HP2 := Lib.hid (HP.out.go HW2.out)); (have HX2 := Lib.hid (HX.out.go HW2.out)); clear hb2; (obtain ⟨p0, -⟩ := (HP2).out 0 _ rfl); (obtain ⟨p1, -⟩ := (HP2).out 1 _ rfl); (obtain ⟨p2, -⟩ := (HP2).out 2 _ rfl); (obtain ⟨p3, -⟩ := (HP2).out 3 _ rfl); (obtain ⟨p4, -⟩ := (HP2).out 4 _ rfl); (obtain ⟨p5, -⟩ := (HP2).out 5 _ rfl); (obtain ⟨p6, -⟩ := (HP2).out 6 _ rfl); (obtain ⟨x0, -⟩ := (HX2).out 0 _ rfl); (obtain ⟨x1, -⟩ := (HX2).out 1 _ rfl); (obtain ⟨x2, -⟩ := (HX2).out 2 _ rfl); (obtain ⟨x3, -⟩ := (HX2).out 3 _ rfl); (obtain ⟨x4, -⟩ := (HX2).out 4 _ rfl); (obtain ⟨x5, -⟩ := (HX2).out 5 _ rfl); (obtain ⟨x6, -⟩ := (HX2).out 6 _ rfl))
  | (go_at_call_of 65 (#[.slice ak c.rank.length ck, .slice bk d.rank.length dk] : Array Value); refine (HK.out _ HW2.out).mono ?_; rintro e w3 ⟨rfl, n3, rfl⟩))
      go_ret
      exact ⟨rfl, HB.out.dr _⟩
    | true =>
      rw [Bool.true_and]
      by_cases hw : c.w = d.w
      · rw [decide_eq_true hw, Bool.true_and]
        rw [hw] at p2 hW ⊢
        generalize d.w = wv at *
        have hw2 : (wv == wv) = true := by simp
        clear hw
        cases b4 with
        | false =>
          rw [Bool.false_and]
          go_enter Tryz.func26, Tryz.ntmps26
          go_upto_region 1 with (fail)
          rw [← hW]
          clear hW
          go_wp2_with (first
  | (go_at_call_of 65 (#[.slice ai c.ints.length ci, .slice bi d.ints.length di] : Array Value); refine (HI.out _ (Below.refl _ _)).mono ?_; rintro e w1 ⟨rfl, n1, rfl⟩)
  | (go_at_call 66; refine (HQ.out _ (Below.of_dr W n1)).mono ?_; rintro e w4 ⟨rfl, n4, rfl⟩)
  | (go_at_call 67; refine (HG.out _ (by first | exact (Below.of_dr W n1).dr n4 | exact Below.of_dr W _)).mono ?_; rintro e w2 ⟨rfl, hb2⟩; (have HW2 := Lib.hid (Below.st (w := W) (by first | exact (Below.of_dr W n1).dr n4 | exact Below.of_dr W _) hb2)); (have HP2 := Lib.hid (HP.out.go HW2.out)); (have HX2 := Lib.hid (HX.out.go HW2.out)); clear hb2; (obtain ⟨p0, -⟩ := (HP2).out 0 _ rfl); (obtain ⟨p1, -⟩ := (HP2).out 1 _ rfl); (obtain ⟨p2, -⟩ := (HP2).out 2 _ rfl); (obtain ⟨p3, -⟩ := (HP2).out 3 _ rfl); (obtain ⟨p4, -⟩ := (HP2).out 4 _ rfl); (obtain ⟨p5, -⟩ := (HP2).out 5 _ rfl); (obtain ⟨p6, -⟩ := (HP2).out 6 _ rfl); (obtain ⟨x0, -⟩ := (HX2).out 0 _ rfl); (obtain ⟨x1, -⟩ := (HX2).out 1 _ rfl); (obtain ⟨x2, -⟩ := (HX2).out 2 _ rfl); (obtain ⟨x3, -⟩ := (HX2).out 3 _ rfl); (obtain ⟨x4, -⟩ := (HX2).out 4 _ rfl); (obtain ⟨x5, -⟩ := (HX2).out 5 _ rfl); (obtain ⟨x6, -⟩ := (HX2).out 6 _ rfl))
  | (go_at_call_of 65 (#[.slice ak c.rank.length ck, .slice bk d.rank.length dk] : Array Value); refine (HK.out _ HW2.out).mono ?_; rintro e w3 ⟨rfl, n3, rfl⟩))
          go_ret
          exact ⟨rfl, by first | exact (HB.out.dr _).dr _ | exact HB.out.dr _⟩
        | true =>
          rw [Bool.true_and]
          cases b2 with
          | false =>
            rw [Bool.false_and]
            go_enter Tryz.func26, Tryz.ntmps26
            go_upto_region 1 with (fail)
            rw [← hW]
            clear hW
            go_wp2_with (first
  | (go_at_call_of 65 (#[.slice ai c.ints.length ci, .slice bi d.ints.length di] : Array Value); refine (HI.out _ (Below.refl _ _)).mono ?_; rintro e w1 ⟨rfl, n1, rfl⟩)
  | (go_at_call 66; refine (HQ.out _ (Below.of_dr W n1)).mono ?_; rintro e w4 ⟨rfl, n4, rfl⟩)
  | (go_at_call 67; refine (HG.out _ (by first | exact (Below.of_dr W n1).dr n4 | exact Below.of_dr W _)).mono ?_; rintro e w2 ⟨rfl, hb2⟩; (have HW2 := Lib.hid (Below.st (w := W) (by first | exact (Below.of_dr W n1).dr n4 | exact Below.of_dr W _) hb2)); (have HP2 := Lib.hid (HP.out.go HW2.out)); (have HX2 := Lib.hid (HX.out.go HW2.out)); clear hb2; (obtain ⟨p0, -⟩ := (HP2).out 0 _ rfl); (obtain ⟨p1, -⟩ := (HP2).out 1 _ rfl); (obtain ⟨p2, -⟩ := (HP2).out 2 _ rfl); (obtain ⟨p3, -⟩ := (HP2).out 3 _ rfl); (obtain ⟨p4, -⟩ := (HP2).out 4 _ rfl); (obtain ⟨p5, -⟩ := (HP2).out 5 _ rfl); (obtain ⟨p6, -⟩ := (HP2).out 6 _ rfl); (obtain ⟨x0, -⟩ := (HX2).out 0 _ rfl); (obtain ⟨x1, -⟩ := (HX2).out 1 _ rfl); (obtain ⟨x2, -⟩ := (HX2).out 2 _ rfl); (obtain ⟨x3, -⟩ := (HX2).out 3 _ rfl); (obtain ⟨x4, -⟩ := (HX2).out 4 _ rfl); (obtain ⟨x5, -⟩ := (HX2).out 5 _ rfl); (obtain ⟨x6, -⟩ := (HX2).out 6 _ rfl))
  | (go_at_call_of 65 (#[.slice ak c.rank.length ck, .slice bk d.rank.length dk] : Array Value); refine (HK.out _ HW2.out).mono ?_; rintro e w3 ⟨rfl, n3, rfl⟩))
            go_ret
            exact ⟨rfl, HB.out.st HW2.out⟩
          | true =>
            rw [Bool.true_and]
            cases b3 with
            | false =>
              go_enter Tryz.func26, Tryz.ntmps26
              go_upto_region 1 with (fail)
              rw [← hW]
              clear hW
              go_wp2_with (first
  | (go_at_call_of 65 (#[.slice ai c.ints.length ci, .slice bi d.ints.length di] : Array Value); refine (HI.out _ (Below.refl _ _)).mono ?_; rintro e w1 ⟨rfl, n1, rfl⟩)
  | (go_at_call 66; refine (HQ.out _ (Below.of_dr W n1)).mono ?_; rintro e w4 ⟨rfl, n4, rfl⟩)
  | (go_at_call 67; refine (HG.out _ (by first | exact (Below.of_dr W n1).dr n4 | exact Below.of_dr W _)).mono ?_; rintro e w2 ⟨rfl, hb2⟩; (have HW2 := Lib.hid (Below.st (w := W) (by first | exact (Below.of_dr W n1).dr n4 | exact Below.of_dr W _) hb2)); (have HP2 := Lib.hid (HP.out.go HW2.out)); (have HX2 := Lib.hid (HX.out.go HW2.out)); clear hb2; (obtain ⟨p0, -⟩ := (HP2).out 0 _ rfl); (obtain ⟨p1, -⟩ := (HP2).out 1 _ rfl); (obtain ⟨p2, -⟩ := (HP2).out 2 _ rfl); (obtain ⟨p3, -⟩ := (HP2).out 3 _ rfl); (obtain ⟨p4, -⟩ := (HP2).out 4 _ rfl); (obtain ⟨p5, -⟩ := (HP2).out 5 _ rfl); (obtain ⟨p6, -⟩ := (HP2).out 6 _ rfl); (obtain ⟨x0, -⟩ := (HX2).out 0 _ rfl); (obtain ⟨x1, -⟩ := (HX2).out 1 _ rfl); (obtain ⟨x2, -⟩ := (HX2).out 2 _ rfl); (obtain ⟨x3, -⟩ := (HX2).out 3 _ rfl); (obtain ⟨x4, -⟩ := (HX2).out 4 _ rfl); (obtain ⟨x5, -⟩ := (HX2).out 5 _ rfl); (obtain ⟨x6, -⟩ := (HX2).out 6 _ rfl))
  | (go_at_call_of 65 (#[.slice ak c.rank.length ck, .slice bk d.rank.length dk] : Array Value); refine (HK.out _ HW2.out).mono ?_; rintro e w3 ⟨rfl, n3, rfl⟩))
              go_ret
              exact ⟨rfl, (HB.out.st HW2.out).dr _⟩
            | true =>
              go_enter Tryz.func26, Tryz.ntmps26
              go_upto_region 1 with (fail)
              rw [← hW]
              clear hW
              go_wp2_with (first
  | (go_at_call_of 65 (#[.slice ai c.ints.length ci, .slice bi d.ints.length di] : Array Value); refine (HI.out _ (Below.refl _ _)).mono ?_; rintro e w1 ⟨rfl, n1, rfl⟩)
  | (go_at_call 66; refine (HQ.out _ (Below.of_dr W n1)).mono ?_; rintro e w4 ⟨rfl, n4, rfl⟩)
  | (go_at_call 67; refine (HG.out _ (by first | exact (Below.of_dr W n1).dr n4 | exact Below.of_dr W _)).mono ?_; rintro e w2 ⟨rfl, hb2⟩; (have HW2 := Lib.hid (Below.st (w := W) (by first | exact (Below.of_dr W n1).dr n4 | exact Below.of_dr W _) hb2)); (have HP2 := Lib.hid (HP.out.go HW2.out)); (have HX2 := Lib.hid (HX.out.go HW2.out)); clear hb2; (obtain ⟨p0, -⟩ := (HP2).out 0 _ rfl); (obtain ⟨p1, -⟩ := (HP2).out 1 _ rfl); (obtain ⟨p2, -⟩ := (HP2).out 2 _ rfl); (obtain ⟨p3, -⟩ := (HP2).out 3 _ rfl); (obtain ⟨p4, -⟩ := (HP2).out 4 _ rfl); (obtain ⟨p5, -⟩ := (HP2).out 5 _ rfl); (obtain ⟨p6, -⟩ := (HP2).out 6 _ rfl); (obtain ⟨x0, -⟩ := (HX2).out 0 _ rfl); (obtain ⟨x1, -⟩ := (HX2).out 1 _ rfl); (obtain ⟨x2, -⟩ := (HX2).out 2 _ rfl); (obtain ⟨x3, -⟩ := (HX2).out 3 _ rfl); (obtain ⟨x4, -⟩ := (HX2).out 4 _ rfl); (obtain ⟨x5, -⟩ := (HX2).out 5 _ rfl); (obtain ⟨x6, -⟩ := (HX2).out 6 _ rfl))
  | (go_at_call_of 65 (#[.slice ak c.rank.length ck, .slice bk d.rank.length dk] : Array Value); refine (HK.out _ HW2.out).mono ?_; rintro e w3 ⟨rfl, n3, rfl⟩))
              go_ret
              exact ⟨rfl, (HB.out.st HW2.out).dr _⟩
      · rw [decide_eq_false hw, Bool.false_and]
        have hw2 : (c.w == d.w) = false := by simpa using hw
        clear hw
        go_enter Tryz.func26, Tryz.ntmps26
        go_upto_region 1 with (fail)
        rw [← hW]
        clear hW
        go_wp2_with (first
  | (go_at_call_of 65 (#[.slice ai c.ints.length ci, .slice bi d.ints.length di] : Array Value); refine (HI.out _ (Below.refl _ _)).mono ?_; rintro e w1 ⟨rfl, n1, rfl⟩)
  | (go_at_call 66; refine (HQ.out _ (Below.of_dr W n1)).mono ?_; rintro e w4 ⟨rfl, n4, rfl⟩)
  | (go_at_call 67; refine (HG.out _ (by first | exact (Below.of_dr W n1).dr n4 | exact Below.of_dr W _)).mono ?_; rintro e w2 ⟨rfl, hb2⟩; (have HW2 := Lib.hid (Below.st (w := W) (by first | exact (Below.of_dr W n1).dr n4 | exact Below.of_dr W _) hb2)); (have HP2 := Lib.hid (HP.out.go HW2.out)); (have HX2 := Lib.hid (HX.out.go HW2.out)); clear hb2; (obtain ⟨p0, -⟩ := (HP2).out 0 _ rfl); (obtain ⟨p1, -⟩ := (HP2).out 1 _ rfl); (obtain ⟨p2, -⟩ := (HP2).out 2 _ rfl); (obtain ⟨p3, -⟩ := (HP2).out 3 _ rfl); (obtain ⟨p4, -⟩ := (HP2).out 4 _ rfl); (obtain ⟨p5, -⟩ := (HP2).out 5 _ rfl); (obtain ⟨p6, -⟩ := (HP2).out 6 _ rfl); (obtain ⟨x0, -⟩ := (HX2).out 0 _ rfl); (obtain ⟨x1, -⟩ := (HX2).out 1 _ rfl); (obtain ⟨x2, -⟩ := (HX2).out 2 _ rfl); (obtain ⟨x3, -⟩ := (HX2).out 3 _ rfl); (obtain ⟨x4, -⟩ := (HX2).out 4 _ rfl); (obtain ⟨x5, -⟩ := (HX2).out 5 _ rfl); (obtain ⟨x6, -⟩ := (HX2).out 6 _ rfl))
  | (go_at_call_of 65 (#[.slice ak c.rank.length ck, .slice bk d.rank.length dk] : Array Value); refine (HK.out _ HW2.out).mono ?_; rintro e w3 ⟨rfl, n3, rfl⟩))
        go_ret
        exact ⟨rfl, HB.out.dr _⟩
  · rw [decide_eq_false hn, Bool.false_and]
    have hn2 : (c.name.toList == d.name.toList) = false := by
      rw [beq_eq_false_iff_ne]
      intro e
      rw [ByteArray.toList_eq, ByteArray.toList_eq] at e
      exact hn (Go.WideShapes.bytes_inj e)
    clear hn
    go_enter Tryz.func26, Tryz.ntmps26
    go_upto_region 1 with (fail)
    rw [← hW]
    clear hW
    go_wp2
    go_ret
    exact ⟨rfl, HB.out⟩

end Go.Proofs.YtelcmkccfjdmjaaGreatDoor

namespace Go.Proofs.YtelcmkccfjdmjaaGreatDoor
open Go Go.Proofs Go.RowKit Go.Shelf Go.Sort

theorem joinF_size (l : List ByteArray) : (joinF l).1.size ≤ 65536 := by
  unfold joinF
  split
  · simp
  · split
    · simp
    · split
      · simp
      · rename_i h
        rw [Lib.size_eq]
        simp only [List.toList_toArray]
        omega
theorem join_found {l : List ByteArray} (h : (joinF l).2 = 0) : (wordsF (joinF l).1).1 = l := by
  have := wordsF_join (l := l) (s := (joinF l).1) (Prod.ext rfl h)
  rw [this]
theorem wordsBy_len {t : Int → ByteArray} {c : CmD} (ok : OkC c) : (wordsBy t c).length ≤ 1000000 := by
  have h1 := wordsG_len ⟨c.gn, c.ge⟩
  have h2 := ok.li
  have h3 := ok.lq
  unfold wordsBy
  split
  · simp; omega
  · split
    · simp
    · simp
      split <;> simp <;> omega

set_option maxRecDepth 100000 in
set_option maxHeartbeats 4000000 in
theorem cmdPrint_any (c : CmD) (v : List Value) (w : World) (hc : CmV w c v) (ok : OkC c) (sm : SmallC c) (hx : ∀ x ∈ wordsBy itoaT c, x.size ≤ 131072) (ht : Pow10 w) :
    Calls Tryz.prog 23 #[.agg v.toArray] w fun e w' => e = .returned (.tuple #[.string (printBy itoaT c).1, .int .i64 (printBy itoaT c).2]) ∧ Below w.heap.size w w' := by
  have HW := Lib.hid (fun W h hp => cmdWords_any c v W h ok hp)
  have hlen := wordsBy_len (t := itoaT) ok
  unfold WordsRow at HW
  have HT := Lib.hid ht
  have HC := Lib.hid hc
  unfold printBy
  generalize wordsBy itoaT c = ws at *
  have HJ := Lib.hid (fun ao cap W h1 h2 => Join_any ws ao cap W (by omega) hx h1 h2)
  have hjs := joinF_size ws
  generalize joinF ws = j at *
  obtain ⟨s, jf⟩ := j
  simp only at HJ hjs ⊢
  have HPA := Lib.hid (fun W => cmdParse_any s W hjs)
  have HSM := Lib.hid (parseC_small hjs)
  have HS := Lib.hid sm
  unfold CParsePost at HPA
  obtain ⟨ai, ci, aq, cq, ag, cg, ak, ck, rfl, -⟩ := hc
  clear hlen hx ht ok sm hjs
  by_cases hj : jf = 0
  · subst hj
    rw [if_neg (fun h => h rfl)]
    obtain ⟨r, hr⟩ : ∃ r, r = if parseC s = (c, 0) then ((s, 0) : ByteArray × Int) else (ByteArray.empty, 1) := ⟨_, rfl⟩
    rw [← hr]
    have HV := Lib.hid hr
    clear hr
    have HSA := Lib.hid (fun u W h1 h2 => cmdSame_any c (parseC s).1 [.string c.name, .slice ai c.ints.length ci, .int .u64 c.w, .slice aq c.rats.length cq, .int .i64 c.gn, .slice ag c.ge.length cg, .slice ak c.rank.length ck] u W h1 h2 HS.out HSM.out)
    generalize parseC s = q at *
    obtain ⟨d, f⟩ := q
    simp only at HPA HSM HSA HV
    go_enter Tryz.func23, Tryz.ntmps23
    go_upto_region 1 with (fail)
    obtain ⟨W, hW⟩ : ∃ W, W = w.alloc (Obj.cells #[.string c.name, .slice ai c.ints.length ci, .int .u64 c.w, .slice aq c.rats.length cq, .int .i64 c.gn, .slice ag c.ge.length cg, .slice ak c.rank.length ck] 55) := ⟨_, rfl⟩
    have HP := Lib.hid (show PB W w.heap.size _ by rw [hW]; exact PB.new7 _ _ _ _ _ _ _ _ _)
    have HB := Lib.hid (show Below w.heap.size w W by rw [hW]; exact Below.of_al _ _)
    rw [← hW]
    clear hW
    (obtain ⟨p0, -⟩ := (HP).out 0 _ rfl); (obtain ⟨p1, -⟩ := (HP).out 1 _ rfl); (obtain ⟨p2, -⟩ := (HP).out 2 _ rfl); (obtain ⟨p3, -⟩ := (HP).out 3 _ rfl); (obtain ⟨p4, -⟩ := (HP).out 4 _ rfl); (obtain ⟨p5, -⟩ := (HP).out 5 _ rfl); (obtain ⟨p6, -⟩ := (HP).out 6 _ rfl)
    go_wp2_with fail
    refine (HW.out _ (HC.out.go HB.out) (tabIs_go HT.out HB.out)).mono ?_
    rintro e w1 ⟨ao1, cap1, rfl, hc1, hb1, hcp1⟩
    have HC1 := Lib.hid hc1
    have HB1 := Lib.hid (HB.out.st hb1)
    have HP1 := Lib.hid (HP.out.go hb1)
    clear hc1 hb1 p0 p1 p2 p3 p4 p5 p6
    go_wp2_with fail
    refine (HJ.out _ _ _ hcp1 HC1.out).mono ?_
    rintro e w2 ⟨rfl, hb2⟩
    have HB2 := Lib.hid (HB1.out.st hb2)
    have HP2 := Lib.hid (HP1.out.go hb2)
    have hc2 := HC.out.go HB2.out
    have HC2 := Lib.hid hc2
    clear hb2 HB1 HP1 HC1
    go_wp2_with fail
    refine (HPA.out _).mono ?_
    rintro e w3 ⟨u, hu, rfl, hb3⟩
    have HU := Lib.hid hu
    have HC3 := Lib.hid (HC2.out.go hb3)
    have HB3 := Lib.hid (HB2.out.st hb3)
    have HP3 := Lib.hid (HP2.out.go hb3)
    obtain ⟨ei, fi, eq', fq, eg, fg, ek, fk, rfl, -⟩ := hu
    clear hb3 HC2 HB2 HP2 hc2
    by_cases hf : f = 0
    · subst hf
      by_cases hd : c = d
      · have hv := HV.out.trans (if_pos (by rw [hd]))
        have HV2 := Lib.hid hv
        rw [decide_eq_true hd] at HSA
        clear hv hd HV
        have HX4 := Lib.hid (PB.new7 w3 55 (.string d.name) (.slice ei d.ints.length fi) (.int .u64 d.w) (.slice eq' d.rats.length fq) (.int .i64 d.gn) (.slice eg d.ge.length fg) (.slice ek d.rank.length fk))
        go_upto_region 5 with (fail)
        obtain ⟨W4, hW4⟩ : ∃ W4, W4 = w3.alloc (Obj.cells #[.string d.name, .slice ei d.ints.length fi, .int .u64 d.w, .slice eq' d.rats.length fq, .int .i64 d.gn, .slice eg d.ge.length fg, .slice ek d.rank.length fk] 55) := ⟨_, rfl⟩
        have hb4 : Below w3.heap.size w3 W4 := by rw [hW4]; exact Below.of_al _ _
        rw [← hW4] at HX4 ⊢
        clear hW4
        have HP4 := Lib.hid (HP3.out.go hb4)
        have HC4 := Lib.hid (HC3.out.go hb4)
        have HU4 := Lib.hid (HU.out.go hb4)
        have HB4 := Lib.hid (HB3.out.st hb4)
        clear hb4 HP3 HC3 HU HB3
        (obtain ⟨p0, -⟩ := (HP4).out 0 _ rfl); (obtain ⟨p1, -⟩ := (HP4).out 1 _ rfl); (obtain ⟨p2, -⟩ := (HP4).out 2 _ rfl); (obtain ⟨p3, -⟩ := (HP4).out 3 _ rfl); (obtain ⟨p4, -⟩ := (HP4).out 4 _ rfl); (obtain ⟨p5, -⟩ := (HP4).out 5 _ rfl); (obtain ⟨p6, -⟩ := (HP4).out 6 _ rfl)
        (obtain ⟨x0, -⟩ := (HX4).out 0 _ rfl); (obtain ⟨x1, -⟩ := (HX4).out 1 _ rfl); (obtain ⟨x2, -⟩ := (HX4).out 2 _ rfl); (obtain ⟨x3, -⟩ := (HX4).out 3 _ rfl); (obtain ⟨x4, -⟩ := (HX4).out 4 _ rfl); (obtain ⟨x5, -⟩ := (HX4).out 5 _ rfl); (obtain ⟨x6, -⟩ := (HX4).out 6 _ rfl)
        go_wp2_with (go_at_call 26; refine (HSA.out _ _ HC4.out HU4.out).mono ?_; rintro e w5 ⟨rfl, hb5⟩)
        go_ret2
        exact ⟨by rw [HV2.out]; rfl, HB4.out.st hb5⟩
      · have hv := HV.out.trans (if_neg (fun e => hd (by cases e; rfl)))
        have HV2 := Lib.hid hv
        rw [decide_eq_false hd] at HSA
        clear hv hd HV
        have HX4 := Lib.hid (PB.new7 w3 55 (.string d.name) (.slice ei d.ints.length fi) (.int .u64 d.w) (.slice eq' d.rats.length fq) (.int .i64 d.gn) (.slice eg d.ge.length fg) (.slice ek d.rank.length fk))
        go_upto_region 5 with (fail)
        obtain ⟨W4, hW4⟩ : ∃ W4, W4 = w3.alloc (Obj.cells #[.string d.name, .slice ei d.ints.length fi, .int .u64 d.w, .slice eq' d.rats.length fq, .int .i64 d.gn, .slice eg d.ge.length fg, .slice ek d.rank.length fk] 55) := ⟨_, rfl⟩
        have hb4 : Below w3.heap.size w3 W4 := by rw [hW4]; exact Below.of_al _ _
        rw [← hW4] at HX4 ⊢
        clear hW4
        have HP4 := Lib.hid (HP3.out.go hb4)
        have HC4 := Lib.hid (HC3.out.go hb4)
        have HU4 := Lib.hid (HU.out.go hb4)
        have HB4 := Lib.hid (HB3.out.st hb4)
        clear hb4 HP3 HC3 HU HB3
        (obtain ⟨p0, -⟩ := (HP4).out 0 _ rfl); (obtain ⟨p1, -⟩ := (HP4).out 1 _ rfl); (obtain ⟨p2, -⟩ := (HP4).out 2 _ rfl); (obtain ⟨p3, -⟩ := (HP4).out 3 _ rfl); (obtain ⟨p4, -⟩ := (HP4).out 4 _ rfl); (obtain ⟨p5, -⟩ := (HP4).out 5 _ rfl); (obtain ⟨p6, -⟩ := (HP4).out 6 _ rfl)
        (obtain ⟨x0, -⟩ := (HX4).out 0 _ rfl); (obtain ⟨x1, -⟩ := (HX4).out 1 _ rfl); (obtain ⟨x2, -⟩ := (HX4).out 2 _ rfl); (obtain ⟨x3, -⟩ := (HX4).out 3 _ rfl); (obtain ⟨x4, -⟩ := (HX4).out 4 _ rfl); (obtain ⟨x5, -⟩ := (HX4).out 5 _ rfl); (obtain ⟨x6, -⟩ := (HX4).out 6 _ rfl)
        go_wp2_with (go_at_call 26; refine (HSA.out _ _ HC4.out HU4.out).mono ?_; rintro e w5 ⟨rfl, hb5⟩)
        go_ret2
        exact ⟨by rw [HV2.out]; rfl, HB4.out.st hb5⟩
    · have hv := HV.out.trans (if_neg (fun e => hf (by cases e; rfl)))
      have HV2 := Lib.hid hv
      have hf2 : (f != 0) = true := by simpa using hf
      clear hv hf HV
      go_wp2
      go_ret2
      exact ⟨by rw [HV2.out]; rfl, HB3.out.al _⟩
  · have hj2 : (jf != 0) = true := by simpa using hj
    rw [if_pos hj]
    clear hj
    go_enter Tryz.func23, Tryz.ntmps23
    go_upto_region 1 with (fail)
    obtain ⟨W, hW⟩ : ∃ W, W = w.alloc (Obj.cells #[.string c.name, .slice ai c.ints.length ci, .int .u64 c.w, .slice aq c.rats.length cq, .int .i64 c.gn, .slice ag c.ge.length cg, .slice ak c.rank.length ck] 55) := ⟨_, rfl⟩
    have HP := Lib.hid (show PB W w.heap.size _ by rw [hW]; exact PB.new7 _ _ _ _ _ _ _ _ _)
    have HB := Lib.hid (show Below w.heap.size w W by rw [hW]; exact Below.of_al _ _)
    rw [← hW]
    clear hW
    (obtain ⟨p0, -⟩ := (HP).out 0 _ rfl); (obtain ⟨p1, -⟩ := (HP).out 1 _ rfl); (obtain ⟨p2, -⟩ := (HP).out 2 _ rfl); (obtain ⟨p3, -⟩ := (HP).out 3 _ rfl); (obtain ⟨p4, -⟩ := (HP).out 4 _ rfl); (obtain ⟨p5, -⟩ := (HP).out 5 _ rfl); (obtain ⟨p6, -⟩ := (HP).out 6 _ rfl)
    go_wp2_with fail
    refine (HW.out _ (HC.out.go HB.out) (tabIs_go HT.out HB.out)).mono ?_
    rintro e w1 ⟨ao1, cap1, rfl, hc1, hb1, hcp1⟩
    have HC1 := Lib.hid hc1
    have HB1 := Lib.hid (HB.out.st hb1)
    have HP1 := Lib.hid (HP.out.go hb1)
    clear hc1 hb1 p0 p1 p2 p3 p4 p5 p6
    go_wp2_with fail
    refine (HJ.out _ _ _ hcp1 HC1.out).mono ?_
    rintro e w2 ⟨rfl, hb2⟩
    have HB2 := Lib.hid (HB1.out.st hb2)
    have HP2 := Lib.hid (HP1.out.go hb2)
    have hc2 := HC.out.go HB2.out
    have HC2 := Lib.hid hc2
    clear hb2 HB1 HP1 HC1
    go_wp2
    go_ret2
    exact ⟨rfl, HB2.out⟩

set_option maxRecDepth 100000 in
set_option maxHeartbeats 4000000 in
theorem refCmdPrint_any (c : CmD) (v : List Value) (w : World) (hc : CmV w c v) (ok : OkC c) (sm : SmallC c) (hx : ∀ x ∈ wordsBy refT c, x.size ≤ 4096) :
    Calls Tryz.prog 24 #[.agg v.toArray] w fun e w' => e = .returned (.tuple #[.string (printBy refT c).1, .int .i64 (printBy refT c).2]) ∧ Below w.heap.size w w' := by
  have HW := Lib.hid (fun W h => refWordsC_any c v W h ok)
  have hlen := wordsBy_len (t := refT) ok
  unfold WordsRow at HW
  have HC := Lib.hid hc
  unfold printBy
  generalize wordsBy refT c = ws at *
  have HJ := Lib.hid (fun ao cap W h2 => refJoinT_any ws ao cap W (by omega) (fun x h => Nat.le_trans (hx x h) (by omega)) h2)
  have hjs := joinF_size ws
  have hjw := fun h => join_found (l := ws) h
  generalize joinF ws = j at *
  obtain ⟨s, jf⟩ := j
  simp only at HJ hjs hjw ⊢
  have HPA := Lib.hid (fun (h : jf = 0) W => refCmdParse_any s W hjs (fun x hm => hx x (by rw [hjw h] at hm; exact hm)))
  have HSM := Lib.hid (parseC_small hjs)
  have HS := Lib.hid sm
  unfold CParsePost at HPA
  obtain ⟨ai, ci, aq, cq, ag, cg, ak, ck, rfl, -⟩ := hc
  clear hlen hx ok sm hjs hjw
  by_cases hj : jf = 0
  · subst hj
    rw [if_neg (fun h => h rfl)]
    have HPB := Lib.hid (HPA.out rfl)
    clear HPA
    obtain ⟨r, hr⟩ : ∃ r, r = if parseC s = (c, 0) then ((s, 0) : ByteArray × Int) else (ByteArray.empty, 1) := ⟨_, rfl⟩
    rw [← hr]
    have HV := Lib.hid hr
    clear hr
    have HSA := Lib.hid (fun u W h1 h2 => refCmSame_any c (parseC s).1 [.string c.name, .slice ai c.ints.length ci, .int .u64 c.w, .slice aq c.rats.length cq, .int .i64 c.gn, .slice ag c.ge.length cg, .slice ak c.rank.length ck] u W h1 h2 HS.out HSM.out)
    generalize parseC s = q at *
    obtain ⟨d, f⟩ := q
    simp only at HPB HSM HSA HV
    go_enter Tryz.func24, Tryz.ntmps24
    go_upto_region 1 with (fail)
    obtain ⟨W, hW⟩ : ∃ W, W = w.alloc (Obj.cells #[.string c.name, .slice ai c.ints.length ci, .int .u64 c.w, .slice aq c.rats.length cq, .int .i64 c.gn, .slice ag c.ge.length cg, .slice ak c.rank.length ck] 60) := ⟨_, rfl⟩
    have HP := Lib.hid (show PB W w.heap.size _ by rw [hW]; exact PB.new7 _ _ _ _ _ _ _ _ _)
    have HB := Lib.hid (show Below w.heap.size w W by rw [hW]; exact Below.of_al _ _)
    rw [← hW]
    clear hW
    (obtain ⟨p0, -⟩ := (HP).out 0 _ rfl); (obtain ⟨p1, -⟩ := (HP).out 1 _ rfl); (obtain ⟨p2, -⟩ := (HP).out 2 _ rfl); (obtain ⟨p3, -⟩ := (HP).out 3 _ rfl); (obtain ⟨p4, -⟩ := (HP).out 4 _ rfl); (obtain ⟨p5, -⟩ := (HP).out 5 _ rfl); (obtain ⟨p6, -⟩ := (HP).out 6 _ rfl)
    go_wp2_with fail
    refine (HW.out _ (HC.out.go HB.out)).mono ?_
    rintro e w1 ⟨ao1, cap1, rfl, hc1, hb1, hcp1⟩
    have HC1 := Lib.hid hc1
    have HB1 := Lib.hid (HB.out.st hb1)
    have HP1 := Lib.hid (HP.out.go hb1)
    clear hc1 hb1 p0 p1 p2 p3 p4 p5 p6
    go_wp2_with fail
    refine (HJ.out _ _ _ HC1.out).mono ?_
    rintro e w2 ⟨rfl, rfl⟩
    have HB2 := Lib.hid HB1.out
    have HP2 := Lib.hid HP1.out
    have hc2 := HC.out.go HB2.out
    have HC2 := Lib.hid hc2
    clear HB1 HP1 HC1
    go_wp2_with fail
    refine (HPB.out _).mono ?_
    rintro e w3 ⟨u, hu, rfl, hb3⟩
    have HU := Lib.hid hu
    have HC3 := Lib.hid (HC2.out.go hb3)
    have HB3 := Lib.hid (HB2.out.st hb3)
    have HP3 := Lib.hid (HP2.out.go hb3)
    obtain ⟨ei, fi, eq', fq, eg, fg, ek, fk, rfl, -⟩ := hu
    clear hb3 HC2 HB2 HP2 hc2
    by_cases hf : f = 0
    · subst hf
      by_cases hd : c = d
      · have hv := HV.out.trans (if_pos (by rw [hd]))
        have HV2 := Lib.hid hv
        rw [decide_eq_true hd] at HSA
        clear hv hd HV
        have HX4 := Lib.hid (PB.new7 w3 60 (.string d.name) (.slice ei d.ints.length fi) (.int .u64 d.w) (.slice eq' d.rats.length fq) (.int .i64 d.gn) (.slice eg d.ge.length fg) (.slice ek d.rank.length fk))
        go_upto_region 5 with (fail)
        obtain ⟨W4, hW4⟩ : ∃ W4, W4 = w3.alloc (Obj.cells #[.string d.name, .slice ei d.ints.length fi, .int .u64 d.w, .slice eq' d.rats.length fq, .int .i64 d.gn, .slice eg d.ge.length fg, .slice ek d.rank.length fk] 60) := ⟨_, rfl⟩
        have hb4 : Below w3.heap.size w3 W4 := by rw [hW4]; exact Below.of_al _ _
        rw [← hW4] at HX4 ⊢
        clear hW4
        have HP4 := Lib.hid (HP3.out.go hb4)
        have HC4 := Lib.hid (HC3.out.go hb4)
        have HU4 := Lib.hid (HU.out.go hb4)
        have HB4 := Lib.hid (HB3.out.st hb4)
        clear hb4 HP3 HC3 HU HB3
        (obtain ⟨p0, -⟩ := (HP4).out 0 _ rfl); (obtain ⟨p1, -⟩ := (HP4).out 1 _ rfl); (obtain ⟨p2, -⟩ := (HP4).out 2 _ rfl); (obtain ⟨p3, -⟩ := (HP4).out 3 _ rfl); (obtain ⟨p4, -⟩ := (HP4).out 4 _ rfl); (obtain ⟨p5, -⟩ := (HP4).out 5 _ rfl); (obtain ⟨p6, -⟩ := (HP4).out 6 _ rfl)
        (obtain ⟨x0, -⟩ := (HX4).out 0 _ rfl); (obtain ⟨x1, -⟩ := (HX4).out 1 _ rfl); (obtain ⟨x2, -⟩ := (HX4).out 2 _ rfl); (obtain ⟨x3, -⟩ := (HX4).out 3 _ rfl); (obtain ⟨x4, -⟩ := (HX4).out 4 _ rfl); (obtain ⟨x5, -⟩ := (HX4).out 5 _ rfl); (obtain ⟨x6, -⟩ := (HX4).out 6 _ rfl)
        go_wp2_with (go_at_call 27; refine (HSA.out _ _ HC4.out HU4.out).mono ?_; rintro e w5 ⟨rfl, hb5⟩)
        go_ret2
        exact ⟨by rw [HV2.out]; rfl, HB4.out.st hb5⟩
      · have hv := HV.out.trans (if_neg (fun e => hd (by cases e; rfl)))
        have HV2 := Lib.hid hv
        rw [decide_eq_false hd] at HSA
        clear hv hd HV
        have HX4 := Lib.hid (PB.new7 w3 60 (.string d.name) (.slice ei d.ints.length fi) (.int .u64 d.w) (.slice eq' d.rats.length fq) (.int .i64 d.gn) (.slice eg d.ge.length fg) (.slice ek d.rank.length fk))
        go_upto_region 5 with (fail)
        obtain ⟨W4, hW4⟩ : ∃ W4, W4 = w3.alloc (Obj.cells #[.string d.name, .slice ei d.ints.length fi, .int .u64 d.w, .slice eq' d.rats.length fq, .int .i64 d.gn, .slice eg d.ge.length fg, .slice ek d.rank.length fk] 60) := ⟨_, rfl⟩
        have hb4 : Below w3.heap.size w3 W4 := by rw [hW4]; exact Below.of_al _ _
        rw [← hW4] at HX4 ⊢
        clear hW4
        have HP4 := Lib.hid (HP3.out.go hb4)
        have HC4 := Lib.hid (HC3.out.go hb4)
        have HU4 := Lib.hid (HU.out.go hb4)
        have HB4 := Lib.hid (HB3.out.st hb4)
        clear hb4 HP3 HC3 HU HB3
        (obtain ⟨p0, -⟩ := (HP4).out 0 _ rfl); (obtain ⟨p1, -⟩ := (HP4).out 1 _ rfl); (obtain ⟨p2, -⟩ := (HP4).out 2 _ rfl); (obtain ⟨p3, -⟩ := (HP4).out 3 _ rfl); (obtain ⟨p4, -⟩ := (HP4).out 4 _ rfl); (obtain ⟨p5, -⟩ := (HP4).out 5 _ rfl); (obtain ⟨p6, -⟩ := (HP4).out 6 _ rfl)
        (obtain ⟨x0, -⟩ := (HX4).out 0 _ rfl); (obtain ⟨x1, -⟩ := (HX4).out 1 _ rfl); (obtain ⟨x2, -⟩ := (HX4).out 2 _ rfl); (obtain ⟨x3, -⟩ := (HX4).out 3 _ rfl); (obtain ⟨x4, -⟩ := (HX4).out 4 _ rfl); (obtain ⟨x5, -⟩ := (HX4).out 5 _ rfl); (obtain ⟨x6, -⟩ := (HX4).out 6 _ rfl)
        go_wp2_with (go_at_call 27; refine (HSA.out _ _ HC4.out HU4.out).mono ?_; rintro e w5 ⟨rfl, hb5⟩)
        go_ret2
        exact ⟨by rw [HV2.out]; rfl, HB4.out.st hb5⟩
    · have hv := HV.out.trans (if_neg (fun e => hf (by cases e; rfl)))
      have HV2 := Lib.hid hv
      have hf2 : (f != 0) = true := by simpa using hf
      clear hv hf HV
      go_wp2
      go_ret2
      exact ⟨by rw [HV2.out]; rfl, HB3.out.al _⟩
  · have hj2 : (jf != 0) = true := by simpa using hj
    rw [if_pos hj]
    clear hj
    go_enter Tryz.func24, Tryz.ntmps24
    go_upto_region 1 with (fail)
    obtain ⟨W, hW⟩ : ∃ W, W = w.alloc (Obj.cells #[.string c.name, .slice ai c.ints.length ci, .int .u64 c.w, .slice aq c.rats.length cq, .int .i64 c.gn, .slice ag c.ge.length cg, .slice ak c.rank.length ck] 60) := ⟨_, rfl⟩
    have HP := Lib.hid (show PB W w.heap.size _ by rw [hW]; exact PB.new7 _ _ _ _ _ _ _ _ _)
    have HB := Lib.hid (show Below w.heap.size w W by rw [hW]; exact Below.of_al _ _)
    rw [← hW]
    clear hW
    (obtain ⟨p0, -⟩ := (HP).out 0 _ rfl); (obtain ⟨p1, -⟩ := (HP).out 1 _ rfl); (obtain ⟨p2, -⟩ := (HP).out 2 _ rfl); (obtain ⟨p3, -⟩ := (HP).out 3 _ rfl); (obtain ⟨p4, -⟩ := (HP).out 4 _ rfl); (obtain ⟨p5, -⟩ := (HP).out 5 _ rfl); (obtain ⟨p6, -⟩ := (HP).out 6 _ rfl)
    go_wp2_with fail
    refine (HW.out _ (HC.out.go HB.out)).mono ?_
    rintro e w1 ⟨ao1, cap1, rfl, hc1, hb1, hcp1⟩
    have HC1 := Lib.hid hc1
    have HB1 := Lib.hid (HB.out.st hb1)
    have HP1 := Lib.hid (HP.out.go hb1)
    clear hc1 hb1 p0 p1 p2 p3 p4 p5 p6
    go_wp2_with fail
    refine (HJ.out _ _ _ HC1.out).mono ?_
    rintro e w2 ⟨rfl, rfl⟩
    have HB2 := Lib.hid HB1.out
    have HP2 := Lib.hid HP1.out
    have hc2 := HC.out.go HB2.out
    have HC2 := Lib.hid hc2
    clear HB1 HP1 HC1
    go_wp2
    go_ret2
    exact ⟨rfl, HB2.out⟩

end Go.Proofs.YtelcmkccfjdmjaaGreatDoor

namespace Go.Proofs.YtelcmkccfjdmjaaGreatDoor
open Go Go.Proofs Go.RowKit Go.Shelf Go.Sort

theorem itoaT_size {n : Int} (h0 : -9223372036854775808 ≤ n) (h1 : n ≤ 9223372036854775807) : (itoaT n).size ≤ 21 := by
  have := Lib.itoa_length_le n h0 h1
  unfold itoaT
  rw [Lib.size_eq]
  simpa using this
theorem refT_size {n : Int} (h1 : n ≤ 9223372036854775807) : (refT n).size ≤ 21 := by
  unfold refT
  exact Nat.le_trans (printI_size_le (n := max n 0) (by omega) (by omega)) (by omega)
def lightG (n : Int) (es : List EdgeD) : Bool := (decide (n ≤ 100) || decide (4096 < n)) && decide ((es.length : Int) ≤ 300)
def lightC (c : CmD) : Bool := decide ((c.name.size : Int) ≤ 100) && (decide ((c.ints.length : Int) ≤ 60) && (decide ((c.rats.length : Int) ≤ 60) && (lightG c.gn c.ge && decide ((c.rank.length : Int) ≤ 60))))
theorem wordsG_size {g : GD} : ∀ x ∈ (wordsG g).1, x.size ≤ 20 := by
  unfold wordsG
  split
  · simp
  · rename_i h
    split
    · simp
    · have h : rightG g = 0 := Classical.byContradiction h
      obtain ⟨n0, n1, m0, hes⟩ := gright_of h
      show ∀ x ∈ wordsK g g.es.length, x.size ≤ 20
      intro x hx
      unfold wordsK at hx
      rcases List.mem_append.1 hx with hx | hx
      · simp only [List.mem_cons, List.not_mem_nil, or_false] at hx
        rcases hx with rfl | rfl
        · exact printI_size_le (by omega) (by omega)
        · exact printI_size_le (by omega) (by omega)
      · obtain ⟨e, he, hx⟩ := List.mem_flatMap.1 hx
        have hb := hes e (List.mem_of_mem_take he)
        simp only [ofE, List.mem_cons, List.not_mem_nil, or_false] at hx
        rcases hx with rfl | rfl | rfl
        · exact printI_size_le (by omega) (by omega)
        · exact printI_size_le (by omega) (by omega)
        · exact printI_size_le (by omega) (by omega)
theorem ratioT_size {n d : Int} (h0 : 0 ≤ n) (h1 : n < 18446744073709551616) (h2 : 0 ≤ d) (h3 : d < 18446744073709551616) : (ratioT n d).size ≤ 41 := by
  unfold ratioT
  split
  · rw [ByteArray.size_append, ByteArray.size_append]
    have a := printI_size_le h0 h1
    have b := printI_size_le h2 h3
    have e : (⟨#[47]⟩ : ByteArray).size = 1 := rfl
    omega
  · simp
theorem wordsBy_size {t : Int → ByteArray} {c : CmD} (ht : ∀ n ∈ c.ints, (t n).size ≤ 21) (hn : c.name.size ≤ 100) (hk : c.rank.length ≤ 60) (hq : ∀ q ∈ c.rats, 0 ≤ q.1 ∧ q.1 < 18446744073709551616 ∧ 0 ≤ q.2 ∧ q.2 < 18446744073709551616) (hw : 0 ≤ c.w ∧ c.w < 18446744073709551616) :
    ∀ x ∈ wordsBy t c, x.size ≤ 4096 := by
  intro x hx
  unfold wordsBy at hx
  split at hx
  · rcases List.mem_cons.1 hx with rfl | hx
    · omega
    · have := wordsG_size x hx
      omega
  · split at hx
    · simp only [List.mem_cons, List.not_mem_nil, or_false] at hx
      rcases hx with rfl | rfl
      · omega
      · cases hr : rankB c.rank with
        | true =>
          have := textL_size hr (by omega)
          omega
        | false =>
          unfold textL
          rw [if_neg (by rw [hr]; decide)]
          simp
    · rcases List.mem_cons.1 hx with rfl | hx
      · omega
      · rcases List.mem_append.1 hx with hx | hx
        · obtain ⟨n, hm, rfl⟩ := List.mem_map.1 hx
          have := ht n hm
          omega
        · rcases List.mem_append.1 hx with hx | hx
          · obtain ⟨q, hm, rfl⟩ := List.mem_map.1 hx
            obtain ⟨a, b, d, e⟩ := hq q hm
            have := ratioT_size a b d e
            omega
          · split at hx
            · rw [List.mem_singleton] at hx
              subst hx
              have := printI_size_le hw.1 hw.2
              omega
            · simp at hx

set_option maxHeartbeats 1000000 in
theorem light05_any (n : Int) (es : List EdgeD) (ao : Option Addr) (cap : Nat) (w : World) :
    Calls Tryz.prog 59 #[.agg #[.int .i64 n, .slice ao es.length cap]] w fun e w' => e = .returned (.bool (lightG n es)) ∧ Below w.heap.size w w' := by
  unfold lightG
  by_cases h1 : n ≤ 100
  · rw [decide_eq_true h1, Bool.true_or, Bool.true_and]
    have g1 : decide (n ≤ 100) = true := decide_eq_true h1
    go_enter Tryz.func59, Tryz.ntmps59
    go_wp2
    go_ret
    exact ⟨rfl, Below.of_al _ _⟩
  · rw [decide_eq_false h1, Bool.false_or]
    have g1 : decide (n ≤ 100) = false := decide_eq_false h1
    by_cases h2 : 4096 < n
    · rw [decide_eq_true h2, Bool.true_and]
      have g2 : decide (n > 4096) = true := decide_eq_true h2
      go_enter Tryz.func59, Tryz.ntmps59
      go_wp2
      go_ret
      exact ⟨rfl, Below.of_al _ _⟩
    · rw [decide_eq_false h2, Bool.false_and]
      have g2 : decide (n > 4096) = false := decide_eq_false h2
      go_enter Tryz.func59, Tryz.ntmps59
      go_wp2
      go_ret
      exact ⟨rfl, Below.of_al _ _⟩

set_option maxRecDepth 100000 in
set_option maxHeartbeats 2000000 in
theorem light40_any (c : CmD) (v : List Value) (w : World) (hc : CmV w c v) :
    Calls Tryz.prog 21 #[.agg v.toArray] w fun e w' => e = .returned (.bool (lightC c)) ∧ Below w.heap.size w w' := by
  obtain ⟨ai, ci, aq, cq, ag, cg, ak, ck, rfl, -⟩ := hc
  have HL := Lib.hid (fun W => light05_any c.gn c.ge ag cg W)
  unfold lightC
  generalize lightG c.gn c.ge = b at *
  cases h1 : decide ((c.name.size : Int) ≤ 100) with
  | false =>
    rw [Bool.false_and]
    go_enter Tryz.func21, Tryz.ntmps21
    go_wp2
    go_ret
    exact ⟨rfl, Below.of_al _ _⟩
  | true =>
    rw [Bool.true_and]
    cases h2 : decide ((c.ints.length : Int) ≤ 60) with
    | false =>
      rw [Bool.false_and]
      go_enter Tryz.func21, Tryz.ntmps21
      go_wp2
      go_ret
      exact ⟨rfl, Below.of_al _ _⟩
    | true =>
      rw [Bool.true_and]
      cases h3 : decide ((c.rats.length : Int) ≤ 60) with
      | false =>
        rw [Bool.false_and]
        go_enter Tryz.func21, Tryz.ntmps21
        go_wp2
        go_ret
        exact ⟨rfl, Below.of_al _ _⟩
      | true =>
        rw [Bool.true_and]
        cases b with
        | false =>
          rw [Bool.false_and]
          go_enter Tryz.func21, Tryz.ntmps21
          go_wp2_with (go_at_call 59; refine (HL.out _).mono ?_; rintro e w1 ⟨rfl, hb1⟩)
          go_ret
          exact ⟨rfl, (Below.of_al _ _).st hb1⟩
        | true =>
          rw [Bool.true_and]
          go_enter Tryz.func21, Tryz.ntmps21
          go_wp2_with (go_at_call 59; refine (HL.out _).mono ?_; rintro e w1 ⟨rfl, hb1⟩; have p6 := cell_later hb1 (a := ⟨w.heap.size, 6, none⟩) (v := .slice ak c.rank.length ck) (by go_simp))
          go_ret
          exact ⟨rfl, (Below.of_al _ _).st hb1⟩

end Go.Proofs.YtelcmkccfjdmjaaGreatDoor

namespace Go.Proofs.YtelcmkccfjdmjaaGreatDoor
open Go Go.Proofs Go.RowKit Go.Shelf Go.Sort

/-- a command as its types have it -/
structure TyC (c : CmD) : Prop where
  sm : SmallC c
  bi : ∀ n ∈ c.ints, -9223372036854775808 ≤ n ∧ n ≤ 9223372036854775807
  bq : ∀ q ∈ c.rats, 0 ≤ q.1 ∧ q.1 < 18446744073709551616 ∧ 0 ≤ q.2 ∧ q.2 < 18446744073709551616
  bw : 0 ≤ c.w ∧ c.w < 18446744073709551616
theorem lightC_of {c : CmD} (h : lightC c = true) : c.name.size ≤ 100 ∧ c.ints.length ≤ 60 ∧ c.rats.length ≤ 60 ∧ c.rank.length ≤ 60 := by
  unfold lightC at h
  simp only [Bool.and_eq_true, decide_eq_true_eq] at h
  obtain ⟨h1, h2, h3, -, h4⟩ := h
  omega
theorem TyC.ok {c : CmD} (h : TyC c) (hl : lightC c = true) : OkC c := by
  obtain ⟨h1, h2, h3, h4⟩ := lightC_of hl
  exact ⟨by omega, by omega, h.sm.2.2.1, by omega, h.bi, fun q hq => (h.bq q hq).1, h.bw⟩
theorem TyC.words {c : CmD} (h : TyC c) (hl : lightC c = true) : (∀ x ∈ wordsBy itoaT c, x.size ≤ 4096) ∧ ∀ x ∈ wordsBy refT c, x.size ≤ 4096 := by
  obtain ⟨h1, h2, h3, h4⟩ := lightC_of hl
  exact ⟨wordsBy_size (fun n hn => itoaT_size (h.bi n hn).1 (h.bi n hn).2) h1 h4 h.bq h.bw, wordsBy_size (fun n hn => refT_size (h.bi n hn).2) h1 h4 h.bq h.bw⟩

set_option maxRecDepth 100000 in
set_option maxHeartbeats 8000000 in
theorem CmdPrints_any (c d : CmD) (v u : List Value) (w : World) (hc : CmV w c v) (hd : CmV w d u) (tc : TyC c) (td : TyC d) (ht : Pow10 w) :
    Calls Tryz.prog 6 #[.agg v.toArray, .agg u.toArray] w fun e w' => e = .returned (.bool true) ∧ Below w.heap.size w w' := by
  have HAL := Lib.hid (fun W => alive40_any W)
  have HLC := Lib.hid (fun W h => light40_any c v W h)
  have HLD := Lib.hid (fun W h => light40_any d u W h)
  have HC := Lib.hid hc
  have HD := Lib.hid hd
  have HT := Lib.hid ht
  have HP1 := Lib.hid (fun (h : lightC c = true) W h1 h2 => cmdPrint_any c v W h1 (tc.ok h) tc.sm (fun x hx => Nat.le_trans ((tc.words h).1 x hx) (by omega)) h2)
  have HP2 := Lib.hid (fun (h : lightC c = true) W h1 => refCmdPrint_any c v W h1 (tc.ok h) tc.sm (tc.words h).2)
  rw [← printBy_eq] at HP2
  have HOC := Lib.hid (fun W (h : CmV W c v) => cmOf_any c v W h)
  have HOD := Lib.hid (fun W (h : CmV W d u) => cmOf_any d u W h)
  have HS1 := Lib.hid (fun W h1 h2 => cmdSame_any c d v u W h1 h2 tc.sm td.sm)
  have HS2 := Lib.hid (fun W h1 h2 => refCmSame_any c d v u W h1 h2 tc.sm td.sm)
  generalize printBy itoaT c = q at *
  generalize decide (c = d) = sb at *
  obtain ⟨s, f⟩ := q
  simp only at HP1 HP2
  obtain ⟨ai, ci, aq, cq, ag, cg, ak, ck, rfl, -⟩ := hc
  obtain ⟨bi, di, bq, dq, bg, dg, bk, dk, rfl, -⟩ := hd
  clear tc td ht
  cases hl : lightC c with
  | false =>
    rw [hl] at HLC
    clear HP1 HP2 hl
    go_enter Tryz.func6, Tryz.ntmps6
    go_upto_region 1 with (fail)
    obtain ⟨W, hW⟩ : ∃ W, W = (w.alloc (Obj.cells #[.string c.name, .slice ai c.ints.length ci, .int .u64 c.w, .slice aq c.rats.length cq, .int .i64 c.gn, .slice ag c.ge.length cg, .slice ak c.rank.length ck] 55)).alloc (Obj.cells #[.string d.name, .slice bi d.ints.length di, .int .u64 d.w, .slice bq d.rats.length dq, .int .i64 d.gn, .slice bg d.ge.length dg, .slice bk d.rank.length dk] 55) := ⟨_, rfl⟩
    have HP := Lib.hid (show PB W w.heap.size _ by rw [hW]; exact (PB.new7 _ _ _ _ _ _ _ _ _).go (Below.of_al _ _))
    have HX := Lib.hid (show PB W (w.heap.size + 1) _ by rw [hW]; exact PB.new7At _ _ _ _ _ _ _ _ _ (by simp))
    have HB := Lib.hid (show Below w.heap.size w W by rw [hW]; exact (Below.of_al _ _).al _)
    rw [← hW]
    clear hW
    (obtain ⟨p0, -⟩ := (HP).out 0 _ rfl); (obtain ⟨p1, -⟩ := (HP).out 1 _ rfl); (obtain ⟨p2, -⟩ := (HP).out 2 _ rfl); (obtain ⟨p3, -⟩ := (HP).out 3 _ rfl); (obtain ⟨p4, -⟩ := (HP).out 4 _ rfl); (obtain ⟨p5, -⟩ := (HP).out 5 _ rfl); (obtain ⟨p6, -⟩ := (HP).out 6 _ rfl)
    (obtain ⟨x0, -⟩ := (HX).out 0 _ rfl); (obtain ⟨x1, -⟩ := (HX).out 1 _ rfl); (obtain ⟨x2, -⟩ := (HX).out 2 _ rfl); (obtain ⟨x3, -⟩ := (HX).out 3 _ rfl); (obtain ⟨x4, -⟩ := (HX).out 4 _ rfl); (obtain ⟨x5, -⟩ := (HX).out 5 _ rfl); (obtain ⟨x6, -⟩ := (HX).out 6 _ rfl)
    go_wp2_with (first
      | (go_at_call 21; refine (HLC.out _ (HC.out.go HB.out)).mono ?_; rintro e w1 ⟨rfl, hb1⟩)
      | (go_at_call 22; refine (HAL.out _).mono ?_; rintro e w2 ⟨rfl, hb2⟩))
    go_ret
    exact ⟨rfl, (HB.out.st hb1).st hb2⟩
  | true =>
    rw [hl] at HLC
    have HQ1 := Lib.hid (HP1.out hl)
    have HQ2 := Lib.hid (HP2.out hl)
    clear HP1 HP2 hl
    cases hm : lightC d with
    | false =>
      rw [hm] at HLD
      clear hm
      go_enter Tryz.func6, Tryz.ntmps6
      go_upto_region 1 with (fail)
      obtain ⟨W, hW⟩ : ∃ W, W = (w.alloc (Obj.cells #[.string c.name, .slice ai c.ints.length ci, .int .u64 c.w, .slice aq c.rats.length cq, .int .i64 c.gn, .slice ag c.ge.length cg, .slice ak c.rank.length ck] 55)).alloc (Obj.cells #[.string d.name, .slice bi d.ints.length di, .int .u64 d.w, .slice bq d.rats.length dq, .int .i64 d.gn, .slice bg d.ge.length dg, .slice bk d.rank.length dk] 55) := ⟨_, rfl⟩
      have HP := Lib.hid (show PB W w.heap.size _ by rw [hW]; exact (PB.new7 _ _ _ _ _ _ _ _ _).go (Below.of_al _ _))
      have HX := Lib.hid (show PB W (w.heap.size + 1) _ by rw [hW]; exact PB.new7At _ _ _ _ _ _ _ _ _ (by simp))
      have HB := Lib.hid (show Below w.heap.size w W by rw [hW]; exact (Below.of_al _ _).al _)
      rw [← hW]
      clear hW
      (obtain ⟨p0, -⟩ := (HP).out 0 _ rfl); (obtain ⟨p1, -⟩ := (HP).out 1 _ rfl); (obtain ⟨p2, -⟩ := (HP).out 2 _ rfl); (obtain ⟨p3, -⟩ := (HP).out 3 _ rfl); (obtain ⟨p4, -⟩ := (HP).out 4 _ rfl); (obtain ⟨p5, -⟩ := (HP).out 5 _ rfl); (obtain ⟨p6, -⟩ := (HP).out 6 _ rfl)
      (obtain ⟨x0, -⟩ := (HX).out 0 _ rfl); (obtain ⟨x1, -⟩ := (HX).out 1 _ rfl); (obtain ⟨x2, -⟩ := (HX).out 2 _ rfl); (obtain ⟨x3, -⟩ := (HX).out 3 _ rfl); (obtain ⟨x4, -⟩ := (HX).out 4 _ rfl); (obtain ⟨x5, -⟩ := (HX).out 5 _ rfl); (obtain ⟨x6, -⟩ := (HX).out 6 _ rfl)
      go_wp2_with fail
      refine (HLC.out _ (HC.out.go HB.out)).mono ?_
      rintro e w1 ⟨rfl, hb1⟩
      have HB1 := Lib.hid (HB.out.st hb1)
      have HP1 := Lib.hid (HP.out.go hb1)
      have HX1 := Lib.hid (HX.out.go hb1)
      clear hb1 HP HX HB p0 p1 p2 p3 p4 p5 p6 x0 x1 x2 x3 x4 x5 x6
      (obtain ⟨p0, -⟩ := (HP1).out 0 _ rfl); (obtain ⟨p1, -⟩ := (HP1).out 1 _ rfl); (obtain ⟨p2, -⟩ := (HP1).out 2 _ rfl); (obtain ⟨p3, -⟩ := (HP1).out 3 _ rfl); (obtain ⟨p4, -⟩ := (HP1).out 4 _ rfl); (obtain ⟨p5, -⟩ := (HP1).out 5 _ rfl); (obtain ⟨p6, -⟩ := (HP1).out 6 _ rfl)
      (obtain ⟨x0, -⟩ := (HX1).out 0 _ rfl); (obtain ⟨x1, -⟩ := (HX1).out 1 _ rfl); (obtain ⟨x2, -⟩ := (HX1).out 2 _ rfl); (obtain ⟨x3, -⟩ := (HX1).out 3 _ rfl); (obtain ⟨x4, -⟩ := (HX1).out 4 _ rfl); (obtain ⟨x5, -⟩ := (HX1).out 5 _ rfl); (obtain ⟨x6, -⟩ := (HX1).out 6 _ rfl)
      go_wp2_with fail
      refine (HLD.out _ (HD.out.go HB1.out)).mono ?_
      rintro e w2 ⟨rfl, hb2⟩
      go_wp2_with (go_at_call 22; refine (HAL.out _).mono ?_; rintro e w3 ⟨rfl, hb3⟩)
      go_ret
      exact ⟨rfl, (HB1.out.st hb2).st hb3⟩
    | true =>
      rw [hm] at HLD
      clear hm
      go_enter Tryz.func6, Tryz.ntmps6
      go_upto_region 1 with (fail)
      obtain ⟨W, hW⟩ : ∃ W, W = (w.alloc (Obj.cells #[.string c.name, .slice ai c.ints.length ci, .int .u64 c.w, .slice aq c.rats.length cq, .int .i64 c.gn, .slice ag c.ge.length cg, .slice ak c.rank.length ck] 55)).alloc (Obj.cells #[.string d.name, .slice bi d.ints.length di, .int .u64 d.w, .slice bq d.rats.length dq, .int .i64 d.gn, .slice bg d.ge.length dg, .slice bk d.rank.length dk] 55) := ⟨_, rfl⟩
      have HP := Lib.hid (show PB W w.heap.size _ by rw [hW]; exact (PB.new7 _ _ _ _ _ _ _ _ _).go (Below.of_al _ _))
      have HX := Lib.hid (show PB W (w.heap.size + 1) _ by rw [hW]; exact PB.new7At _ _ _ _ _ _ _ _ _ (by simp))
      have HB := Lib.hid (show Below w.heap.size w W by rw [hW]; exact (Below.of_al _ _).al _)
      rw [← hW]
      clear hW
      (obtain ⟨p0, -⟩ := (HP).out 0 _ rfl); (obtain ⟨p1, -⟩ := (HP).out 1 _ rfl); (obtain ⟨p2, -⟩ := (HP).out 2 _ rfl); (obtain ⟨p3, -⟩ := (HP).out 3 _ rfl); (obtain ⟨p4, -⟩ := (HP).out 4 _ rfl); (obtain ⟨p5, -⟩ := (HP).out 5 _ rfl); (obtain ⟨p6, -⟩ := (HP).out 6 _ rfl)
      (obtain ⟨x0, -⟩ := (HX).out 0 _ rfl); (obtain ⟨x1, -⟩ := (HX).out 1 _ rfl); (obtain ⟨x2, -⟩ := (HX).out 2 _ rfl); (obtain ⟨x3, -⟩ := (HX).out 3 _ rfl); (obtain ⟨x4, -⟩ := (HX).out 4 _ rfl); (obtain ⟨x5, -⟩ := (HX).out 5 _ rfl); (obtain ⟨x6, -⟩ := (HX).out 6 _ rfl)
      go_wp2_with fail
      refine (HLC.out _ (HC.out.go HB.out)).mono ?_
      rintro e w1 ⟨rfl, hb1⟩
      have HB1 := Lib.hid (HB.out.st hb1)
      have HP1 := Lib.hid (HP.out.go hb1)
      have HX1 := Lib.hid (HX.out.go hb1)
      clear hb1 HP HX HB p0 p1 p2 p3 p4 p5 p6 x0 x1 x2 x3 x4 x5 x6
      (obtain ⟨p0, -⟩ := (HP1).out 0 _ rfl); (obtain ⟨p1, -⟩ := (HP1).out 1 _ rfl); (obtain ⟨p2, -⟩ := (HP1).out 2 _ rfl); (obtain ⟨p3, -⟩ := (HP1).out 3 _ rfl); (obtain ⟨p4, -⟩ := (HP1).out 4 _ rfl); (obtain ⟨p5, -⟩ := (HP1).out 5 _ rfl); (obtain ⟨p6, -⟩ := (HP1).out 6 _ rfl)
      (obtain ⟨x0, -⟩ := (HX1).out 0 _ rfl); (obtain ⟨x1, -⟩ := (HX1).out 1 _ rfl); (obtain ⟨x2, -⟩ := (HX1).out 2 _ rfl); (obtain ⟨x3, -⟩ := (HX1).out 3 _ rfl); (obtain ⟨x4, -⟩ := (HX1).out 4 _ rfl); (obtain ⟨x5, -⟩ := (HX1).out 5 _ rfl); (obtain ⟨x6, -⟩ := (HX1).out 6 _ rfl)
      go_wp2_with fail
      refine (HLD.out _ (HD.out.go HB1.out)).mono ?_
      rintro e w2 ⟨rfl, hb2⟩
      have HB2 := Lib.hid (HB1.out.st hb2)
      have HP2 := Lib.hid (HP1.out.go hb2)
      have HX2 := Lib.hid (HX1.out.go hb2)
      clear hb2 HB1 HP1 HX1 p0 p1 p2 p3 p4 p5 p6 x0 x1 x2 x3 x4 x5 x6
      (obtain ⟨p0, -⟩ := (HP2).out 0 _ rfl); (obtain ⟨p1, -⟩ := (HP2).out 1 _ rfl); (obtain ⟨p2, -⟩ := (HP2).out 2 _ rfl); (obtain ⟨p3, -⟩ := (HP2).out 3 _ rfl); (obtain ⟨p4, -⟩ := (HP2).out 4 _ rfl); (obtain ⟨p5, -⟩ := (HP2).out 5 _ rfl); (obtain ⟨p6, -⟩ := (HP2).out 6 _ rfl)
      (obtain ⟨x0, -⟩ := (HX2).out 0 _ rfl); (obtain ⟨x1, -⟩ := (HX2).out 1 _ rfl); (obtain ⟨x2, -⟩ := (HX2).out 2 _ rfl); (obtain ⟨x3, -⟩ := (HX2).out 3 _ rfl); (obtain ⟨x4, -⟩ := (HX2).out 4 _ rfl); (obtain ⟨x5, -⟩ := (HX2).out 5 _ rfl); (obtain ⟨x6, -⟩ := (HX2).out 6 _ rfl)
      go_wp2_with fail
      refine (HQ1.out _ (HC.out.go HB2.out) (tabIs_go HT.out HB2.out)).mono ?_
      rintro e w3 ⟨rfl, hb3⟩
      have HB3 := Lib.hid (HB2.out.st hb3)
      have HP3 := Lib.hid (HP2.out.go hb3)
      have HX3 := Lib.hid (HX2.out.go hb3)
      clear hb3 HB2 HP2 HX2 p0 p1 p2 p3 p4 p5 p6 x0 x1 x2 x3 x4 x5 x6
      (obtain ⟨p0, -⟩ := (HP3).out 0 _ rfl); (obtain ⟨p1, -⟩ := (HP3).out 1 _ rfl); (obtain ⟨p2, -⟩ := (HP3).out 2 _ rfl); (obtain ⟨p3, -⟩ := (HP3).out 3 _ rfl); (obtain ⟨p4, -⟩ := (HP3).out 4 _ rfl); (obtain ⟨p5, -⟩ := (HP3).out 5 _ rfl); (obtain ⟨p6, -⟩ := (HP3).out 6 _ rfl)
      (obtain ⟨x0, -⟩ := (HX3).out 0 _ rfl); (obtain ⟨x1, -⟩ := (HX3).out 1 _ rfl); (obtain ⟨x2, -⟩ := (HX3).out 2 _ rfl); (obtain ⟨x3, -⟩ := (HX3).out 3 _ rfl); (obtain ⟨x4, -⟩ := (HX3).out 4 _ rfl); (obtain ⟨x5, -⟩ := (HX3).out 5 _ rfl); (obtain ⟨x6, -⟩ := (HX3).out 6 _ rfl)
      go_wp2_with fail
      refine (HOC.out _ (HC.out.go HB3.out)).mono ?_
      rintro e w4 ⟨rfl, hb4⟩
      have HB4 := Lib.hid (HB3.out.st hb4)
      have HP4 := Lib.hid (HP3.out.go hb4)
      have HX4 := Lib.hid (HX3.out.go hb4)
      clear hb4 HB3 HP3 HX3 p0 p1 p2 p3 p4 p5 p6 x0 x1 x2 x3 x4 x5 x6
      (obtain ⟨p0, -⟩ := (HP4).out 0 _ rfl); (obtain ⟨p1, -⟩ := (HP4).out 1 _ rfl); (obtain ⟨p2, -⟩ := (HP4).out 2 _ rfl); (obtain ⟨p3, -⟩ := (HP4).out 3 _ rfl); (obtain ⟨p4, -⟩ := (HP4).out 4 _ rfl); (obtain ⟨p5, -⟩ := (HP4).out 5 _ rfl); (obtain ⟨p6, -⟩ := (HP4).out 6 _ rfl)
      (obtain ⟨x0, -⟩ := (HX4).out 0 _ rfl); (obtain ⟨x1, -⟩ := (HX4).out 1 _ rfl); (obtain ⟨x2, -⟩ := (HX4).out 2 _ rfl); (obtain ⟨x3, -⟩ := (HX4).out 3 _ rfl); (obtain ⟨x4, -⟩ := (HX4).out 4 _ rfl); (obtain ⟨x5, -⟩ := (HX4).out 5 _ rfl); (obtain ⟨x6, -⟩ := (HX4).out 6 _ rfl)
      go_wp2_with fail
      refine (HQ2.out _ (HC.out.go HB4.out)).mono ?_
      rintro e w5 ⟨rfl, hb5⟩
      have HB5 := Lib.hid (HB4.out.st hb5)
      have HP5 := Lib.hid (HP4.out.go hb5)
      have HX5 := Lib.hid (HX4.out.go hb5)
      clear hb5 HB4 HP4 HX4 p0 p1 p2 p3 p4 p5 p6 x0 x1 x2 x3 x4 x5 x6
      (obtain ⟨p0, -⟩ := (HP5).out 0 _ rfl); (obtain ⟨p1, -⟩ := (HP5).out 1 _ rfl); (obtain ⟨p2, -⟩ := (HP5).out 2 _ rfl); (obtain ⟨p3, -⟩ := (HP5).out 3 _ rfl); (obtain ⟨p4, -⟩ := (HP5).out 4 _ rfl); (obtain ⟨p5, -⟩ := (HP5).out 5 _ rfl); (obtain ⟨p6, -⟩ := (HP5).out 6 _ rfl)
      (obtain ⟨x0, -⟩ := (HX5).out 0 _ rfl); (obtain ⟨x1, -⟩ := (HX5).out 1 _ rfl); (obtain ⟨x2, -⟩ := (HX5).out 2 _ rfl); (obtain ⟨x3, -⟩ := (HX5).out 3 _ rfl); (obtain ⟨x4, -⟩ := (HX5).out 4 _ rfl); (obtain ⟨x5, -⟩ := (HX5).out 5 _ rfl); (obtain ⟨x6, -⟩ := (HX5).out 6 _ rfl)
      go_wp2_with fail
      have hss : (s.toList == s.toList) = true := by simp
      have hff : (f == f) = true := by simp
      have hbb : (sb == sb) = true := by simp
      have HC5 := Lib.hid (HC.out.go HB5.out)
      have HD5 := Lib.hid (HD.out.go HB5.out)
      clear HQ1 HQ2 HLC HLD
      go_region_held3 (fun w' => w'.cell? ⟨w.heap.size, 0, none⟩ = some (.string c.name) ∧ w'.cell? ⟨w.heap.size, 1, none⟩ = some (.slice ai c.ints.length ci) ∧ w'.cell? ⟨w.heap.size, 2, none⟩ = some (.int .u64 c.w) ∧ w'.cell? ⟨w.heap.size, 3, none⟩ = some (.slice aq c.rats.length cq) ∧ w'.cell? ⟨w.heap.size, 4, none⟩ = some (.int .i64 c.gn) ∧ w'.cell? ⟨w.heap.size, 5, none⟩ = some (.slice ag c.ge.length cg) ∧ w'.cell? ⟨w.heap.size, 6, none⟩ = some (.slice ak c.rank.length ck) ∧ w'.cell? ⟨w.heap.size + 1, 0, none⟩ = some (.string d.name) ∧ w'.cell? ⟨w.heap.size + 1, 1, none⟩ = some (.slice bi d.ints.length di) ∧ w'.cell? ⟨w.heap.size + 1, 2, none⟩ = some (.int .u64 d.w) ∧ w'.cell? ⟨w.heap.size + 1, 3, none⟩ = some (.slice bq d.rats.length dq) ∧ w'.cell? ⟨w.heap.size + 1, 4, none⟩ = some (.int .i64 d.gn) ∧ w'.cell? ⟨w.heap.size + 1, 5, none⟩ = some (.slice bg d.ge.length dg) ∧ w'.cell? ⟨w.heap.size + 1, 6, none⟩ = some (.slice bk d.rank.length dk) ∧ Below w5.heap.size w5 w') (first
                                | assumption
                                | exact ⟨p0, p1, p2, p3, p4, p5, p6, x0, x1, x2, x3, x4, x5, x6, Below.of_dr w5 1⟩
                                | exact s15_next (by assumption) (by assumption)) (first
                                | (go_at_call_of 25 (#[.agg #[.string c.name, .slice ai c.ints.length ci, .int .u64 c.w, .slice aq c.rats.length cq, .int .i64 c.gn, .slice ag c.ge.length cg, .slice ak c.rank.length ck]] : Array Value); refine (HOC.out _ (HC5.out.go (by go_split_ands; assumption))).mono ?_; rintro e w6 ⟨rfl, hb6⟩)
                                | (go_at_call 25; refine (HOD.out _ (HD5.out.go (by go_split_ands; assumption))).mono ?_; rintro e w7 ⟨rfl, hb7⟩)
                                | (go_at_call 27; refine (HS2.out _ (HC5.out.go (by go_split_ands; assumption)) (HD5.out.go (by go_split_ands; assumption))).mono ?_; rintro e w8 ⟨rfl, hb8⟩)
                                | (go_at_call 26; refine (HS1.out _ (HC5.out.go (by go_split_ands; assumption)) (HD5.out.go (by go_split_ands; assumption))).mono ?_; rintro e w9 ⟨rfl, hb9⟩)
                                | (go_at_call 22; refine (HAL.out _).mono ?_; rintro e wA ⟨rfl, hbA⟩))
      all_goals
        rename_i hHeld
        obtain ⟨-, -, -, -, -, -, -, -, -, -, -, -, -, -, hbz⟩ := hHeld
        go_wp2
        go_ret
        exact ⟨rfl, HB5.out.st hbz⟩

end Go.Proofs.YtelcmkccfjdmjaaGreatDoor
