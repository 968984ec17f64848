/-
  The walk of the statement RankBack: whatever the list, the keys, the number and the seed, the law answers true.
-/
import Derived.Test.YtfjplphdkfiljaaDoorProg
import Derived.Test.YtfjplphdkfiljaaDoorRkM
import Derived.Test.YtfjplphdkfiljaaDoorRkLaw
namespace Go.Proofs.YtfjplphdkfiljaaDoor
open Go Go.Proofs Go.RowKit Go.Shelf Go.Sort

set_option maxRecDepth 100000 in
set_option maxHeartbeats 8000000 in
theorem RankBack_any (l keys : List Int) (ao ko : Option Addr) (cap kc : Nat) (n s : Int) (w : World) (hl : l.length ≤ 9223372036854775807) (hk : keys.length ≤ 9223372036854775807) (hs : 0 ≤ s ∧ s < 18446744073709551616)
    (hc : Cel w ao (l.map encI)) (hkc : Cel w ko (keys.map encW)) (hp : Pow10 w) :
    Calls Tryd.prog 16 #[.slice ao l.length cap, .slice ko keys.length kc, .int .i64 n, .int .u64 s] w fun e w' => e = .returned (.bool true) ∧ Below w.heap.size w w' := by
  have HC := Lib.hid hc
  have HK := Lib.hid hkc
  have HT := Lib.hid hp
  have HA := Lib.hid (fun W h => alive18_any W h)
  clear hc hp hkc
  by_cases h1 : (100 : Int) < (l.length : Int)
  · go_enter Tryd.func16, Tryd.ntmps16
    go_wp2_with (go_at_call 63; refine (HA.out _ HT.out).mono ?_; rintro e w1 ⟨rfl, hb1⟩)
    go_ret
    exact ⟨rfl, hb1⟩
  by_cases h2 : (100 : Int) < (keys.length : Int)
  · go_enter Tryd.func16, Tryd.ntmps16
    go_wp2_with (go_at_call 63; refine (HA.out _ HT.out).mono ?_; rintro e w1 ⟨rfl, hb1⟩)
    go_ret
    exact ⟨rfl, hb1⟩
  by_cases h3 : 200 < n
  · go_enter Tryd.func16, Tryd.ntmps16
    go_wp2_with (go_at_call 63; refine (HA.out _ HT.out).mono ?_; rintro e w1 ⟨rfl, hb1⟩)
    go_ret
    exact ⟨rfl, hb1⟩
  have B1 := Lib.hid (fun W h => By_any keys ko kc W (by omega) h)
  have S1 := Lib.hid (fun W => Shuffle_any n s W hs)
  have HLB := Lib.hid (byL_length keys)
  have HRB := Lib.hid (fun a p W h => rkRight_any (byL keys) a p W (by rw [byL_length]; omega) h)
  rw [byL_rank] at HRB
  have HORD := Lib.hid (fun k i (hki : k < i) (hi : i < keys.length) (x y : Int) hx hy => byL_order hki hi x y hx hy)
  have hsl2 : (shufL n s).length ≤ 1000000 := by unfold shufL; rw [shufK_length]; have := plainL_le n; omega
  have HRS := Lib.hid (fun a p W h => rkRight_any (shufL n s) a p W hsl2 h)
  rw [shufL_rank n s hs.1] at HRS
  have hmx : (((shufL n s).length : Int) == max n 0) = true := by rw [beq_iff_eq]; exact shufL_length s (by omega)
  have hlb : (((byL keys).length : Int) == (keys.length : Int)) = true := by rw [beq_iff_eq, byL_length]
  have HKD := Lib.hid (fun i (h : i < keys.length) => getD_in h)
  generalize byL keys = lb at *
  generalize shufL n s = ls at *
  clear hs
  cases hr : rankB l with
  | false =>
    have R1 := Lib.hid (fun W h => rkRight_any l ao cap W (by omega) h)
    rw [hr] at R1
    clear hr
    go_enter Tryd.func16, Tryd.ntmps16
    go_wp2_with (first
      | (go_at_call 75; refine (R1.out _ HC.out).mono ?_; rintro e w0 ⟨rfl, hb0⟩; (have HB0 := Lib.hid hb0; clear hb0))
      | (first
  | (go_at_call 65; refine (B1.out _ (HK.out.go HB0.out)).mono ?_; rintro e w1 ⟨a1, p1, rfl, hc1, hb1⟩; (have HB1 := Lib.hid (HB0.out.st hb1); have HC1 := Lib.hid hc1; clear hb1 hc1))
  | (go_at_call 69; refine (S1.out _).mono ?_; rintro e w2 ⟨a2, p2, rfl, hc2, hb2⟩; (have HB2 := Lib.hid (HB1.out.st hb2); have HC2 := Lib.hid hc2; have HD2 := Lib.hid (HC1.out.go hb2); clear hb2 hc2))))
    clear B1 S1
    go_loopg [15] keys.length (fun gg v15 wr => ∃ i : Nat, i ≤ keys.length ∧ keys.length - i ≤ gg ∧ v15 = .int .i64 i ∧ Aside (Below w2.heap.size w2 wr))
    case atStart => exact ⟨0, Nat.zero_le _, by omega, rfl, Below.refl _ _⟩
    case round =>
      obtain ⟨i, hi, hg, rfl, HW⟩ := hrel
      by_cases hlt : i < keys.length
      · have hlt3 : (i : Int) < (keys.length : Int) := by omega
        have hi0 : (0 : Int) ≤ (i : Int) := by omega
        go_wp2
        go_loopg [16] i (fun gg v16 wr => ∃ k : Nat, k ≤ i ∧ i - k ≤ gg ∧ v16 = .int .i64 k ∧ Aside (Below w2.heap.size w2 wr))
        case atStart => exact ⟨0, Nat.zero_le _, by omega, rfl, HW.out⟩
        case round =>
          clear HW
          obtain ⟨k, hk, hg2, rfl, HW⟩ := hrel
          by_cases hkl : k < i
          · have hkl3 : (k : Int) < (i : Int) := by omega
            have hk0 : (0 : Int) ≤ (k : Int) := by omega
            have hlb2 := HLB.out
            have hkk3 : (k : Int) < (keys.length : Int) := by omega
            have hkb3 : (k : Int) < (lb.length : Int) := by omega
            have hib3 : (i : Int) < (lb.length : Int) := by omega
            have hkb : k < lb.length := by omega
            have hib : i < lb.length := by omega
            have hkk : k < keys.length := by omega
            clear hlb2
            have HO := HORD.out k i hkl hlt lb[k] lb[i] (List.getElem?_eq_getElem _) (List.getElem?_eq_getElem _)
            rw [HKD.out k hkk, HKD.out i hlt] at HO
            obtain ⟨b1, o1, rfl, c1⟩ := (HD2.out.go HW.out).at hkb
            obtain ⟨b2, o2, e2, c2⟩ := (HD2.out.go HW.out).at hib
            cases e2
            obtain ⟨b3, o3, rfl, c3⟩ := (HK.out.go (HB2.out.st HW.out)).at hkk
            obtain ⟨b4, o4, e4, c4⟩ := (HK.out.go (HB2.out.st HW.out)).at hlt
            cases e4
            have HW2 := Lib.hid (fun m => HW.out.dr m)
            generalize lb[k] = x at *
            generalize lb[i] = y at *
            generalize keys[k] = kx at *
            generalize keys[i] = ky at *
            clear hkb hib hkk
            by_cases hxy : x < y
            · have hkxy := HO.1 hxy
              have q1 : decide (x < y) = true := decide_eq_true hxy
              have q2 : decide (kx ≤ ky) = true := decide_eq_true hkxy
              clear HO
              go_wp2
              go_quiet (fail)
              go_wp2
              go_roundg (i - (k + 1))
              case measure => omega
              case rel => exact ⟨k + 1, by omega, by omega, by go_num, by first | exact HW.out | exact HW2.out 1 | exact HW.out.dr _⟩
            · have hkxy : ¬ kx ≤ ky := fun h => hxy (HO.2 h)
              have q1 : decide (x < y) = false := decide_eq_false hxy
              have q2 : decide (kx ≤ ky) = false := decide_eq_false hkxy
              clear HO
              go_wp2
              go_quiet (fail)
              go_wp2
              go_roundg (i - (k + 1))
              case measure => omega
              case rel => exact ⟨k + 1, by omega, by omega, by go_num, by first | exact HW.out | exact HW2.out 1 | exact HW.out.dr _⟩
          · obtain rfl : k = i := by omega
            go_wp2
            go_roundg (keys.length - (k + 1))
            case measure => omega
            case rel => exact ⟨k + 1, by omega, by omega, by go_num, HW.out⟩
      · obtain rfl : i = keys.length := by omega
        have HBW := Lib.hid (HB2.out.st HW.out)
        go_wp2_with (first
          | (go_at_call_of 75 (Value.slice a1 lb.length p1); refine (HRB.out _ _ _ (HD2.out.go HW.out)).mono ?_; rintro e w11 ⟨rfl, hb11⟩; (have HB11 := Lib.hid (HBW.out.st hb11); have HC11 := Lib.hid ((HC2.out.go HW.out).go hb11); clear hb11))
          | (go_at_call_of 75 (Value.slice a2 ls.length p2); refine (HRS.out _ _ _ HC11.out).mono ?_; rintro e w12 ⟨rfl, hb12⟩; (have HB12 := Lib.hid (HB11.out.st hb12); clear hb12))
          | (go_at_call 63; refine (HA.out _ (tabIs_go HT.out HB12.out)).mono ?_; rintro e w13 ⟨rfl, hb13⟩))
        go_ret
        exact ⟨by first | rfl | simp, HB12.out.st hb13⟩
  | true =>
    have R1 := Lib.hid (fun W h => rkRight_any l ao cap W (by omega) h)
    rw [hr] at R1
    have hil : (invL l).length = l.length := invL_length hr
    have I1 := Lib.hid (fun W h => rkInverse_any l ao cap W (by omega) h)
    have R2 := Lib.hid (fun a p W h => rkRight_any (invL l) a p W (by omega) h)
    rw [invL_rank hr] at R2
    have I2 := Lib.hid (fun a p W h => rkInverse_any (invL l) a p W (by omega) h)
    rw [invL_invL hr] at I2
    have HAT := Lib.hid (fun p (hp : p < l.length) => invL_at hr hp)
    have HIN := Lib.hid (rankB_in hr)
    have T1 := Lib.hid (fun W h h' => rkText_any l ao cap W (by omega) h h')
    have P1 := Lib.hid (fun W => rkParse_any (textL l) W (textL_size hr (by omega)))
    rw [rankP_text hr (by omega)] at P1
    generalize invL l = il at *
    generalize textL l = tx at *
    have HIL := Lib.hid hil
    clear hr hil
    go_enter Tryd.func16, Tryd.ntmps16
    go_wp2_with (first
      | (go_at_call_of 75 (Value.slice ao l.length cap); refine (R1.out _ HC.out).mono ?_; rintro e w3 ⟨rfl, hb3⟩; (have HB3 := Lib.hid hb3; clear hb3))
      | (go_at_call_of 77 (Value.slice ao l.length cap); refine (I1.out _ (HC.out.go HB3.out)).mono ?_; rintro e w4 ⟨a4, p4, rfl, hc4, hb4⟩; (have HB4 := Lib.hid (HB3.out.st hb4); have HC4 := Lib.hid hc4; clear hb4 hc4))
      | (go_at_call_of 75 (Value.slice a4 il.length p4); refine (R2.out _ _ _ HC4.out).mono ?_; rintro e w5 ⟨rfl, hb5⟩; (have HB5 := Lib.hid (HB4.out.st hb5); have HC5 := Lib.hid (HC4.out.go hb5); clear hb5))
      | (go_at_call_of 77 (Value.slice a4 il.length p4); refine (I2.out _ _ _ HC5.out).mono ?_; rintro e w6 ⟨a6, p6, rfl, hc6, hb6⟩; (have HB6 := Lib.hid (HB5.out.st hb6); have HC6 := Lib.hid (HC5.out.go hb6); have HD6 := Lib.hid hc6; clear hb6 hc6))
      | (go_at_call 64; refine (sameInts_any a6 ao p6 cap l l _ (by omega) (by omega) HD6.out (HC.out.go HB6.out)).mono ?_; rintro e w7 ⟨rfl, n7, rfl⟩; rw [decide_eq_true (rfl : l = l)]; (have HB7 := Lib.hid (HB6.out.dr n7); have HC7 := Lib.hid (HC6.out.go (Below.of_dr _ n7)); generalize w6.drewN n7 = w7 at HB7 HC7 ⊢)))
    go_loopg [10] l.length (fun gg v10 wr => ∃ i : Nat, i ≤ l.length ∧ l.length - i ≤ gg ∧ v10 = .int .i64 i ∧ wr = w7)
    case atStart => exact ⟨0, Nat.zero_le _, by omega, rfl, rfl⟩
    case round =>
      obtain ⟨i, hi, hg, rfl, rfl⟩ := hrel
      by_cases hlt : i < l.length
      · have hlt3 : (i : Int) < (l.length : Int) := by omega
        have hi0 : (0 : Int) ≤ (i : Int) := by omega
        obtain ⟨b, o, rfl, c1⟩ := (HC.out.go HB7.out).at hlt
        have hin := HIN.out l[i] (List.getElem_mem hlt)
        have hat := HAT.out i hlt
        obtain ⟨j, hj⟩ := Int.eq_ofNat_of_zero_le hin.1
        rw [hj] at hat c1 hin
        rw [Int.toNat_natCast] at hat
        have hjl : j < il.length := (List.getElem?_eq_some_iff.1 hat).1
        have hjl3 : (j : Int) < (il.length : Int) := by omega
        have hj0 : (0 : Int) ≤ (j : Int) := by omega
        obtain ⟨b2, o2, rfl, c2⟩ := HC7.out.at hjl
        rw [(List.getElem?_eq_some_iff.1 hat).2] at c2
        clear hat hin hj
        go_wp2
        go_roundg (l.length - (i + 1))
        case measure => omega
        case rel => exact ⟨i + 1, by omega, by omega, by go_num, rfl⟩
      · obtain rfl : i = l.length := by omega
        go_wp2_with (first
          | (go_at_call 79; refine (T1.out _ (HC.out.go HB7.out) (tabIs_go HT.out HB7.out)).mono ?_; rintro e w8 ⟨rfl, hb8⟩; (have HB8 := Lib.hid (HB7.out.st hb8); clear hb8))
          | (go_at_call 73; refine (P1.out _).mono ?_; rintro e w9 ⟨a9, p9, rfl, hc9, hb9⟩; (have HB9 := Lib.hid (HB8.out.st hb9); have HC9 := Lib.hid hc9; clear hb9 hc9))
          | (go_at_call 64; refine (sameInts_any a9 ao p9 cap l l _ (by omega) (by omega) HC9.out (HC.out.go HB9.out)).mono ?_; rintro e w0 ⟨rfl, n0, rfl⟩; rw [decide_eq_true (rfl : l = l)]; (have HB0 := Lib.hid (HB9.out.dr n0); generalize w9.drewN n0 = w0 at HB0 ⊢))
          | (first
  | (go_at_call 65; refine (B1.out _ (HK.out.go HB0.out)).mono ?_; rintro e w1 ⟨a1, p1, rfl, hc1, hb1⟩; (have HB1 := Lib.hid (HB0.out.st hb1); have HC1 := Lib.hid hc1; clear hb1 hc1))
  | (go_at_call 69; refine (S1.out _).mono ?_; rintro e w2 ⟨a2, p2, rfl, hc2, hb2⟩; (have HB2 := Lib.hid (HB1.out.st hb2); have HC2 := Lib.hid hc2; have HD2 := Lib.hid (HC1.out.go hb2); clear hb2 hc2))))
        clear B1 S1
        go_loopg [15] keys.length (fun gg v15 wr => ∃ i : Nat, i ≤ keys.length ∧ keys.length - i ≤ gg ∧ v15 = .int .i64 i ∧ Aside (Below w2.heap.size w2 wr))
        case atStart => exact ⟨0, Nat.zero_le _, by omega, rfl, Below.refl _ _⟩
        case round =>
          obtain ⟨i, hi, hg, rfl, HW⟩ := hrel
          by_cases hlt : i < keys.length
          · have hlt3 : (i : Int) < (keys.length : Int) := by omega
            have hi0 : (0 : Int) ≤ (i : Int) := by omega
            go_wp2
            go_loopg [16] i (fun gg v16 wr => ∃ k : Nat, k ≤ i ∧ i - k ≤ gg ∧ v16 = .int .i64 k ∧ Aside (Below w2.heap.size w2 wr))
            case atStart => exact ⟨0, Nat.zero_le _, by omega, rfl, HW.out⟩
            case round =>
              clear HW
              obtain ⟨k, hk, hg2, rfl, HW⟩ := hrel
              by_cases hkl : k < i
              · have hkl3 : (k : Int) < (i : Int) := by omega
                have hk0 : (0 : Int) ≤ (k : Int) := by omega
                have hlb2 := HLB.out
                have hkk3 : (k : Int) < (keys.length : Int) := by omega
                have hkb3 : (k : Int) < (lb.length : Int) := by omega
                have hib3 : (i : Int) < (lb.length : Int) := by omega
                have hkb : k < lb.length := by omega
                have hib : i < lb.length := by omega
                have hkk : k < keys.length := by omega
                clear hlb2
                have HO := HORD.out k i hkl hlt lb[k] lb[i] (List.getElem?_eq_getElem _) (List.getElem?_eq_getElem _)
                rw [HKD.out k hkk, HKD.out i hlt] at HO
                obtain ⟨b1, o1, rfl, c1⟩ := (HD2.out.go HW.out).at hkb
                obtain ⟨b2, o2, e2, c2⟩ := (HD2.out.go HW.out).at hib
                cases e2
                obtain ⟨b3, o3, rfl, c3⟩ := (HK.out.go (HB2.out.st HW.out)).at hkk
                obtain ⟨b4, o4, e4, c4⟩ := (HK.out.go (HB2.out.st HW.out)).at hlt
                cases e4
                have HW2 := Lib.hid (fun m => HW.out.dr m)
                generalize lb[k] = x at *
                generalize lb[i] = y at *
                generalize keys[k] = kx at *
                generalize keys[i] = ky at *
                clear hkb hib hkk
                by_cases hxy : x < y
                · have hkxy := HO.1 hxy
                  have q1 : decide (x < y) = true := decide_eq_true hxy
                  have q2 : decide (kx ≤ ky) = true := decide_eq_true hkxy
                  clear HO
                  go_wp2
                  go_quiet (fail)
                  go_wp2
                  go_roundg (i - (k + 1))
                  case measure => omega
                  case rel => exact ⟨k + 1, by omega, by omega, by go_num, by first | exact HW.out | exact HW2.out 1 | exact HW.out.dr _⟩
                · have hkxy : ¬ kx ≤ ky := fun h => hxy (HO.2 h)
                  have q1 : decide (x < y) = false := decide_eq_false hxy
                  have q2 : decide (kx ≤ ky) = false := decide_eq_false hkxy
                  clear HO
                  go_wp2
                  go_quiet (fail)
                  go_wp2
                  go_roundg (i - (k + 1))
                  case measure => omega
                  case rel => exact ⟨k + 1, by omega, by omega, by go_num, by first | exact HW.out | exact HW2.out 1 | exact HW.out.dr _⟩
              · obtain rfl : k = i := by omega
                go_wp2
                go_roundg (keys.length - (k + 1))
                case measure => omega
                case rel => exact ⟨k + 1, by omega, by omega, by go_num, HW.out⟩
          · obtain rfl : i = keys.length := by omega
            have HBW := Lib.hid (HB2.out.st HW.out)
            go_wp2_with (first
              | (go_at_call_of 75 (Value.slice a1 lb.length p1); refine (HRB.out _ _ _ (HD2.out.go HW.out)).mono ?_; rintro e w11 ⟨rfl, hb11⟩; (have HB11 := Lib.hid (HBW.out.st hb11); have HC11 := Lib.hid ((HC2.out.go HW.out).go hb11); clear hb11))
              | (go_at_call_of 75 (Value.slice a2 ls.length p2); refine (HRS.out _ _ _ HC11.out).mono ?_; rintro e w12 ⟨rfl, hb12⟩; (have HB12 := Lib.hid (HB11.out.st hb12); clear hb12))
              | (go_at_call 63; refine (HA.out _ (tabIs_go HT.out HB12.out)).mono ?_; rintro e w13 ⟨rfl, hb13⟩))
            go_ret
            exact ⟨by first | rfl | simp, HB12.out.st hb13⟩

end Go.Proofs.YtfjplphdkfiljaaDoor
