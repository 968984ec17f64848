/-
  The walk of the statement RankMakes: whatever the keys, the number and the seed, the law answers true.
-/
import Derived.Test.YtfjplphdkfiljaaDoorProg
import Derived.Test.YtfjplphdkfiljaaDoorRkG
import Derived.Test.YtfjplphdkfiljaaDoorRkQ
import Derived.Test.YtfjplphdkfiljaaDoorByG
import Derived.Test.YtfjplphdkfiljaaDoorShufC
namespace Go.Proofs.YtfjplphdkfiljaaDoor
open Go Go.Proofs Go.RowKit Go.Shelf Go.Sort

set_option maxRecDepth 100000 in
set_option maxHeartbeats 4000000 in
theorem RankMakes_any (keys : List Int) (ko : Option Addr) (kc : Nat) (n s : Int) (w : World) (hl : keys.length ≤ 9223372036854775807) (hs : 0 ≤ s ∧ s < 18446744073709551616) (hc : Cel w ko (keys.map encW)) (hp : Pow10 w) :
    Calls Tryd.prog 13 #[.slice ko keys.length kc, .int .i64 n, .int .u64 s] w fun e w' => e = .returned (.bool true) ∧ Below w.heap.size w w' := by
  have HC := Lib.hid hc
  have HT := Lib.hid hp
  have HA := Lib.hid (fun W h => alive18_any W h)
  clear hc hp
  by_cases h1 : (100 : Int) < (keys.length : Int)
  · go_enter Tryd.func13, Tryd.ntmps13
    go_wp2_with (go_at_call 63; refine (HA.out _ HT.out).mono ?_; rintro e w1 ⟨rfl, hb1⟩)
    go_ret
    exact ⟨rfl, hb1⟩
  · have B1 := Lib.hid (fun W h => By_any keys ko kc W (by omega) h)
    have B2 := Lib.hid (fun W h => refBy_any keys ko kc W (by omega) h)
    have P1 := Lib.hid (fun W => (Plain_any n W).mono fun e w' h => OwnPost.ints h)
    have P2 := Lib.hid (fun W => (refPlain_any n W).mono fun e w' h => OwnPost.ints h)
    have S1 := Lib.hid (fun W => Shuffle_any n s W hs)
    have S2 := Lib.hid (fun W => refShuffle_any n s W hs)
    have hbl : (byL keys).length ≤ 9223372036854775807 := by rw [byL_length]; omega
    have hpl : (plainL n).length ≤ 9223372036854775807 := by have := plainL_le n; omega
    have hsl : (shufL n s).length ≤ 9223372036854775807 := by unfold shufL; rw [shufK_length]; exact hpl
    generalize byL keys = lb at *
    generalize plainL n = lp at *
    generalize shufL n s = ls at *
    clear hs
    by_cases h2 : 200 < n
    · by_cases h3 : n ≤ 4096
      · go_enter Tryd.func13, Tryd.ntmps13
        go_wp2_with (go_at_call 63; refine (HA.out _ HT.out).mono ?_; rintro e w1 ⟨rfl, hb1⟩)
        go_ret
        exact ⟨rfl, hb1⟩
      · go_enter Tryd.func13, Tryd.ntmps13
        go_wp2_with (first
          | (go_at_call 65; refine (B1.out _ HC.out).mono ?_; rintro e w1 ⟨a1, p1, rfl, hc1, hb1⟩; (have HB1 := Lib.hid hb1; have HC1 := Lib.hid hc1; clear hb1 hc1))
          | (go_at_call 66; refine (B2.out _ (HC.out.go HB1.out)).mono ?_; rintro e w2 ⟨a2, p2, rfl, hc2, hb2⟩; (have HB2 := Lib.hid (HB1.out.st hb2); have HC2 := Lib.hid hc2; have HD2 := Lib.hid (HC1.out.go hb2); clear hb2 hc2))
          | (go_at_call 67; refine (P1.out _).mono ?_; rintro e w4 ⟨a4, p4, rfl, hc4, hb4⟩; (have HB4 := Lib.hid ((HB2.out.dr n3).st hb4); have HC4 := Lib.hid hc4; clear hb4 hc4))
          | (go_at_call 68; refine (P2.out _).mono ?_; rintro e w5 ⟨a5, p5, rfl, hc5, hb5⟩; (have HB5 := Lib.hid (HB4.out.st hb5); have HC5 := Lib.hid hc5; have HD5 := Lib.hid (HC4.out.go hb5); clear hb5 hc5))
          | (go_at_call 69; refine (S1.out _).mono ?_; rintro e w7 ⟨a7, p7, rfl, hc7, hb7⟩; (have HB7 := Lib.hid ((HB5.out.dr n6).st hb7); have HC7 := Lib.hid hc7; clear hb7 hc7))
          | (go_at_call 70; refine (S2.out _).mono ?_; rintro e w8 ⟨a8, p8, rfl, hc8, hb8⟩; (have HB8 := Lib.hid (HB7.out.st hb8); have HC8 := Lib.hid hc8; have HD8 := Lib.hid (HC7.out.go hb8); clear hb8 hc8))
          | (go_at_call_of 64 (Value.slice a1 lb.length p1); refine (sameInts_any a1 a2 p1 p2 lb lb _ hbl hbl HD2.out HC2.out).mono ?_; rintro e w3 ⟨rfl, n3, rfl⟩; rw [decide_eq_true (rfl : lb = lb)])
          | (go_at_call_of 64 (Value.slice a4 lp.length p4); refine (sameInts_any a4 a5 p4 p5 lp lp _ hpl hpl HD5.out HC5.out).mono ?_; rintro e w6 ⟨rfl, n6, rfl⟩; rw [decide_eq_true (rfl : lp = lp)])
          | (go_at_call_of 64 (Value.slice a7 ls.length p7); refine (sameInts_any a7 a8 p7 p8 ls ls _ hsl hsl HD8.out HC8.out).mono ?_; rintro e w9 ⟨rfl, n9, rfl⟩; rw [decide_eq_true (rfl : ls = ls)])
          | (go_at_call 63; refine (HA.out _ (tabIs_go HT.out (HB8.out.dr n9))).mono ?_; rintro e w11 ⟨rfl, hb11⟩))
        go_ret
        exact ⟨by first | rfl | simp, (HB8.out.dr n9).st hb11⟩
    · go_enter Tryd.func13, Tryd.ntmps13
      go_wp2_with (first
        | (go_at_call 65; refine (B1.out _ HC.out).mono ?_; rintro e w1 ⟨a1, p1, rfl, hc1, hb1⟩; (have HB1 := Lib.hid hb1; have HC1 := Lib.hid hc1; clear hb1 hc1))
        | (go_at_call 66; refine (B2.out _ (HC.out.go HB1.out)).mono ?_; rintro e w2 ⟨a2, p2, rfl, hc2, hb2⟩; (have HB2 := Lib.hid (HB1.out.st hb2); have HC2 := Lib.hid hc2; have HD2 := Lib.hid (HC1.out.go hb2); clear hb2 hc2))
        | (go_at_call 67; refine (P1.out _).mono ?_; rintro e w4 ⟨a4, p4, rfl, hc4, hb4⟩; (have HB4 := Lib.hid ((HB2.out.dr n3).st hb4); have HC4 := Lib.hid hc4; clear hb4 hc4))
        | (go_at_call 68; refine (P2.out _).mono ?_; rintro e w5 ⟨a5, p5, rfl, hc5, hb5⟩; (have HB5 := Lib.hid (HB4.out.st hb5); have HC5 := Lib.hid hc5; have HD5 := Lib.hid (HC4.out.go hb5); clear hb5 hc5))
        | (go_at_call 69; refine (S1.out _).mono ?_; rintro e w7 ⟨a7, p7, rfl, hc7, hb7⟩; (have HB7 := Lib.hid ((HB5.out.dr n6).st hb7); have HC7 := Lib.hid hc7; clear hb7 hc7))
        | (go_at_call 70; refine (S2.out _).mono ?_; rintro e w8 ⟨a8, p8, rfl, hc8, hb8⟩; (have HB8 := Lib.hid (HB7.out.st hb8); have HC8 := Lib.hid hc8; have HD8 := Lib.hid (HC7.out.go hb8); clear hb8 hc8))
        | (go_at_call_of 64 (Value.slice a1 lb.length p1); refine (sameInts_any a1 a2 p1 p2 lb lb _ hbl hbl HD2.out HC2.out).mono ?_; rintro e w3 ⟨rfl, n3, rfl⟩; rw [decide_eq_true (rfl : lb = lb)])
        | (go_at_call_of 64 (Value.slice a4 lp.length p4); refine (sameInts_any a4 a5 p4 p5 lp lp _ hpl hpl HD5.out HC5.out).mono ?_; rintro e w6 ⟨rfl, n6, rfl⟩; rw [decide_eq_true (rfl : lp = lp)])
        | (go_at_call_of 64 (Value.slice a7 ls.length p7); refine (sameInts_any a7 a8 p7 p8 ls ls _ hsl hsl HD8.out HC8.out).mono ?_; rintro e w9 ⟨rfl, n9, rfl⟩; rw [decide_eq_true (rfl : ls = ls)])
        | (go_at_call 63; refine (HA.out _ (tabIs_go HT.out (HB8.out.dr n9))).mono ?_; rintro e w11 ⟨rfl, hb11⟩))
      go_ret
      exact ⟨by first | rfl | simp, (HB8.out.dr n9).st hb11⟩

end Go.Proofs.YtfjplphdkfiljaaDoor
