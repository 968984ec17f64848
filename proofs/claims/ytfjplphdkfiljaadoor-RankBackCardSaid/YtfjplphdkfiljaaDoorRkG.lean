/-
  The walk of the statement RankLooks: whatever the list and the text, the law answers true.
-/
import Derived.Test.YtfjplphdkfiljaaDoorProg
import Derived.Test.YtfjplphdkfiljaaDoorRkE
import Derived.Test.YtfjplphdkfiljaaDoorByW
import Derived.Test.YtfjplphdkfiljaaDoorGtG
namespace Go.Proofs.YtfjplphdkfiljaaDoor
open Go Go.Proofs Go.RowKit Go.Shelf Go.Sort
set_option maxHeartbeats 400000 in
theorem sameInts_any (ao bo : Option Addr) (ca cb : Nat) (la lb : List Int) (w : World) (hla : la.length ≤ 9223372036854775807) (hlb : lb.length ≤ 9223372036854775807)
    (ha : Cel w ao (la.map encI)) (hb : Cel w bo (lb.map encI)) :
    Calls Tryd.prog 64 #[.slice ao la.length ca, .slice bo lb.length cb] w fun e w' => e = .returned (.bool (decide (la = lb))) ∧ ∃ n, w' = w.drewN n := by
  have HA := Lib.hid ha
  have HB := Lib.hid hb
  clear ha hb
  by_cases hl : la.length = lb.length
  · have hn2 : ((la.length : Int) != (lb.length : Int)) = false := by simp; omega
    have HN := Lib.hid hl
    clear hl
    have HD := Lib.hid (fun k (h1 : k < la.length) (h2 : la[k] ≠ lb[k]'(by have := HN.out; omega)) => (decide_eq_false (fun e => h2 (by subst e; rfl)) : decide (la = lb) = false))
    have HE := Lib.hid (fun h : (∀ j (h : j < la.length), la[j] = lb[j]'(by have := HN.out; omega)) => (decide_eq_true (List.ext_getElem HN.out (fun i h1 h2 => h i h1)) : decide (la = lb) = true))
    generalize decide (la = lb) = r at *
    go_enter Tryd.func64, Tryd.ntmps64
    go_wp2
    go_loopg [5] la.length (fun g i wr => ∃ k q : Nat, k ≤ la.length ∧ la.length - k ≤ g ∧ i = .int .i64 k ∧ wr = w.drewN q ∧ Aside (∀ j (h : j < la.length), j < k → la[j] = lb[j]'(by have := HN.out; omega)))
    case atStart => exact ⟨0, 0, Nat.zero_le _, by omega, rfl, rfl, fun j _ h => absurd h (Nat.not_lt_zero _)⟩
    case round =>
      obtain ⟨k, q, hk, hg, rfl, rfl, HF⟩ := hrel
      by_cases hlt : k < la.length
      · have hlt2 : k < lb.length := by have := HN.out; omega
        have hlt3 : (k : Int) < (la.length : Int) := by omega
        have hlt4 : (k : Int) < (lb.length : Int) := by omega
        have hk0 : (0 : Int) ≤ (k : Int) := by omega
        obtain ⟨b1, o1, hao, hc1⟩ := HA.out.at hlt
        obtain ⟨b2, o2, hbo, hc2⟩ := HB.out.at hlt2
        subst hao hbo
        have HD2 := Lib.hid (HD.out k hlt)
        have HM := Lib.hid (fun h : la[k] = lb[k] => (fun j (h1 : j < la.length) (h2 : j < k + 1) => (by
          by_cases e : j = k
          · subst e; exact h
          · exact HF.out j h1 (by omega) : la[j] = lb[j]'(by have := HN.out; omega))))
        generalize la[k] = x at *
        generalize lb[k] = y at *
        go_wp2
        go_quiet (fail)
        go_wp2
        · have ht := ne_i (by assumption)
          go_ret
          exact ⟨by rw [HD2.out ht]; rfl, q + nq, World.drewN_drewN _ _ _⟩
        · have ht := eq_i (by assumption)
          go_roundg (la.length - (k + 1))
          case measure => omega
          case rel => exact ⟨k + 1, q + nq, by omega, by omega, by go_num, rfl, HM.out ht⟩
      · obtain rfl : k = la.length := by omega
        go_wp2
        go_ret
        exact ⟨by rw [HE.out (fun j h => HF.out j h h)]; rfl, q, rfl⟩
  · have hn2 : ((la.length : Int) != (lb.length : Int)) = true := by simp; omega
    have HN := Lib.hid (decide_eq_false (fun e => hl (by subst e; rfl)) : decide (la = lb) = false)
    clear hl
    go_enter Tryd.func64, Tryd.ntmps64
    go_wp2
    go_ret
    exact ⟨by rw [HN.out]; rfl, 0, rfl⟩

theorem const_by : byL [5, 3, 5] = [1, 0, 2] := by decide
theorem const_text : textL [1, 0] = ⟨#[49, 44, 48]⟩ := by
  have h0 : printI 0 = ⟨#[48]⟩ := printI_one (d := 0) (by decide)
  have h1 : printI 1 = ⟨#[49]⟩ := printI_one (d := 1) (by decide)
  unfold textL
  rw [show rankB [1, 0] = true by decide]
  simp only [if_true, List.map_cons, List.map_nil, h0, h1]
  rfl

set_option maxRecDepth 100000 in
set_option maxHeartbeats 1000000 in
theorem alive18_any (w : World) (hp : Pow10 w) : Calls Tryd.prog 63 #[] w fun e w' => e = .returned (.bool true) ∧ Below w.heap.size w w' := by
  have HT := Lib.hid hp
  have H1 := Lib.hid (fun ao W h => By_few [5, 3, 5] ao 3 W (by decide) (by decide) h)
  have H2 := Lib.hid (fun ao W h h' => rkText_any [1, 0] ao 2 W (by decide) h h')
  rw [const_by] at H1
  rw [const_text] at H2
  clear hp
  go_enter Tryd.func63, Tryd.ntmps63
  go_wp2_with fail
  obtain ⟨W1, hW1⟩ : ∃ W1, W1 = w.alloc (Obj.cells #[.int .u64 5, .int .u64 3, .int .u64 5] 22) := ⟨_, rfl⟩
  have HC0 := Lib.hid (show Cel W1 (some ⟨w.heap.size, 0, none⟩) ([5, 3, 5].map encW) by rw [hW1]; exact cel_new _ _ _ _)
  have HB0 := Lib.hid (show Below w.heap.size w W1 by rw [hW1]; exact Below.of_al _ _)
  rw [← hW1]
  clear hW1
  refine (H1.out _ W1 HC0.out).mono ?_
  rintro e w1 ⟨a1, p1, rfl, hc1, hb1⟩
  have HC1 := Lib.hid hc1
  have HB1 := Lib.hid (HB0.out.st hb1)
  clear hc1 hb1 H1 HB0 HC0
  go_wp2_with fail
  obtain ⟨W2, hW2⟩ : ∃ W2, W2 = w1.alloc (Obj.cells #[.int .i64 1, .int .i64 0, .int .i64 2] 3) := ⟨_, rfl⟩
  have HC2 := Lib.hid (show Cel W2 (some ⟨w1.heap.size, 0, none⟩) ([1, 0, 2].map encI) by rw [hW2]; exact cel_new _ _ _ _)
  have HD2 := Lib.hid (show Cel W2 a1 ([1, 0, 2].map encI) by rw [hW2]; exact HC1.out.go (Below.of_al _ _))
  have HB2 := Lib.hid (show Below w.heap.size w W2 by rw [hW2]; exact HB1.out.al _)
  rw [← hW2]
  clear hW2 HC1 HB1
  refine (sameInts_any a1 (some ⟨w1.heap.size, 0, none⟩) p1 3 [1, 0, 2] [1, 0, 2] W2 (by simp) (by simp) HD2.out HC2.out).mono ?_
  rintro e w3 ⟨rfl, n3, rfl⟩
  rw [decide_eq_true (rfl : ([1, 0, 2] : List Int) = [1, 0, 2])]
  have HB3 := Lib.hid (HB2.out.dr n3)
  clear HC2 HD2 HB2
  generalize W2.drewN n3 = W3 at *
  go_wp2_with fail
  obtain ⟨W4, hW4⟩ : ∃ W4, W4 = W3.alloc (Obj.cells #[.int .i64 1, .int .i64 0] 3) := ⟨_, rfl⟩
  have HC4 := Lib.hid (show Cel W4 (some ⟨W3.heap.size, 0, none⟩) ([1, 0].map encI) by rw [hW4]; exact cel_new _ _ _ _)
  have HB4 := Lib.hid (show Below w.heap.size w W4 by rw [hW4]; exact HB3.out.al _)
  rw [← hW4]
  clear hW4 HB3
  refine (H2.out _ W4 HC4.out (tabIs_go HT.out HB4.out)).mono ?_
  rintro e w5 ⟨rfl, hb5⟩
  go_wp2
  go_ret
  exact ⟨by first | rfl | simp, HB4.out.st hb5⟩

set_option maxRecDepth 100000 in
set_option maxHeartbeats 4000000 in
theorem RankLooks_any (l : List Int) (ao : Option Addr) (cap : Nat) (s : ByteArray) (w : World) (hl : l.length ≤ 9223372036854775807) (hs : s.size ≤ 140737488355328) (hc : Cel w ao (l.map encI)) (hp : Pow10 w) :
    Calls Tryd.prog 15 #[.slice ao l.length cap, .string s] w fun e w' => e = .returned (.bool true) ∧ Below w.heap.size w w' := by
  have HC := Lib.hid hc
  have HT := Lib.hid hp
  have HA := Lib.hid (fun W h => alive18_any W h)
  clear hc hp
  by_cases h1 : (100 : Int) < (l.length : Int)
  · go_enter Tryd.func15, Tryd.ntmps15
    go_wp2_with (go_at_call 63; refine (HA.out _ HT.out).mono ?_; rintro e w1 ⟨rfl, hb1⟩)
    go_ret
    exact ⟨rfl, hb1⟩
  · by_cases h2 : (300 : Int) < (s.size : Int)
    · go_enter Tryd.func15, Tryd.ntmps15
      go_wp2_with (go_at_call 63; refine (HA.out _ HT.out).mono ?_; rintro e w1 ⟨rfl, hb1⟩)
      go_ret
      exact ⟨rfl, hb1⟩
    · have P1 := Lib.hid (fun W => rkParse_any s W (by omega))
      have P2 := Lib.hid (fun W => refRkParse_any s W (by omega))
      have R1 := Lib.hid (fun W h => rkRight_any l ao cap W (by omega) h)
      have R2 := Lib.hid (fun W h => refRkRight_any l ao cap W (by omega) h)
      have I1 := Lib.hid (fun W h => rkInverse_any l ao cap W (by omega) h)
      have I2 := Lib.hid (fun W h => refRkInverse_any l ao cap W (by omega) h)
      have T1 := Lib.hid (fun W h h' => rkText_any l ao cap W (by omega) h h')
      have T2 := Lib.hid (fun W h => refRkText_any l ao cap W (by omega) h)
      have hil : (invL l).length ≤ 9223372036854775807 := by
        unfold invL
        split
        · rw [invK_length]; exact hl
        · simp
      have hpl : (rankP s).1.length ≤ 9223372036854775807 := by
        unfold rankP
        have := @partsS_count 44 s
        split
        · simp
        · split
          · simp
          · split
            · simp
            · unfold valsK
              simp only [List.length_map]
              omega
      generalize rankP s = r at *
      generalize rankB l = rb at *
      generalize invL l = il at *
      generalize textL l = tx at *
      obtain ⟨rl, rf⟩ := r
      simp only at hpl
      go_enter Tryd.func15, Tryd.ntmps15
      go_wp2_with (first
        | (go_at_call 73; refine (P1.out _).mono ?_; rintro e w1 ⟨a1, p1, rfl, hc1, hb1⟩; (have HB1 := Lib.hid hb1; have HC1 := Lib.hid hc1; clear hb1 hc1))
        | (go_at_call 74; refine (P2.out _).mono ?_; rintro e w2 ⟨a2, p2, rfl, hc2, hb2⟩; (have HB2 := Lib.hid (HB1.out.st hb2); have HC2 := Lib.hid hc2; have HD2 := Lib.hid (HC1.out.go hb2); clear hb2 hc2))
        | (go_at_call 75; refine (R1.out _ (HC.out.go HB2.out)).mono ?_; rintro e w3 ⟨rfl, hb3⟩; (have HB3 := Lib.hid (HB2.out.st hb3); have HC3 := Lib.hid (HC2.out.go hb3); have HD3 := Lib.hid (HD2.out.go hb3); clear hb3))
        | (go_at_call 76; refine (R2.out _ (HC.out.go HB3.out)).mono ?_; rintro e w4 ⟨rfl, rfl⟩)
        | (go_at_call 77; refine (I1.out _ (HC.out.go HB3.out)).mono ?_; rintro e w5 ⟨a5, p5, rfl, hc5, hb5⟩; (have HB5 := Lib.hid (HB3.out.st hb5); have HC5 := Lib.hid (HC3.out.go hb5); have HD5 := Lib.hid (HD3.out.go hb5); have HE5 := Lib.hid hc5; clear hb5 hc5))
        | (go_at_call 78; refine (I2.out _ (HC.out.go HB5.out)).mono ?_; rintro e w6 ⟨a6, p6, rfl, hc6, hb6⟩; (have HB6 := Lib.hid (HB5.out.st hb6); have HC6 := Lib.hid (HC5.out.go hb6); have HD6 := Lib.hid (HD5.out.go hb6); have HE6 := Lib.hid (HE5.out.go hb6); have HF6 := Lib.hid hc6; clear hb6 hc6))
        | (go_at_call 79; refine (T1.out _ (HC.out.go (HB6.out.dr n7)) (tabIs_go HT.out (HB6.out.dr n7))).mono ?_; rintro e w8 ⟨rfl, hb8⟩; (have HB8 := Lib.hid ((HB6.out.dr n7).st hb8); have HC8 := Lib.hid ((HC6.out.go (Below.of_dr _ n7)).go hb8); have HD8 := Lib.hid ((HD6.out.go (Below.of_dr _ n7)).go hb8); clear hb8))
        | (go_at_call 80; refine (T2.out _ (HC.out.go HB8.out)).mono ?_; rintro e w9 ⟨rfl, hb9⟩; (have HB9 := Lib.hid (HB8.out.st hb9); have HC9 := Lib.hid (HC8.out.go hb9); have HD9 := Lib.hid (HD8.out.go hb9); clear hb9))
        | (go_at_call_of 64 (Value.slice a5 il.length p5); refine (sameInts_any a5 a6 p5 p6 il il _ hil hil HE6.out HF6.out).mono ?_; rintro e w7 ⟨rfl, n7, rfl⟩; rw [decide_eq_true (rfl : il = il)])
        | (go_at_call 64; refine (sameInts_any a1 a2 p1 p2 rl rl _ hpl hpl HD9.out HC9.out).mono ?_; rintro e w10 ⟨rfl, n10, rfl⟩; rw [decide_eq_true (rfl : rl = rl)])
        | (go_at_call 63; refine (HA.out _ (tabIs_go HT.out (HB9.out.dr n10))).mono ?_; rintro e w11 ⟨rfl, hb11⟩))
      go_ret
      exact ⟨by first | rfl | simp, (HB9.out.dr n10).st hb11⟩

end Go.Proofs.YtfjplphdkfiljaaDoor
