/-
  The walks of the statements NumReckons, NumSums, NumTexts, NumBack: whatever the numbers, the laws answer true.
-/
import Derived.Test.YtfjplphdkfiljaaDoorProg
import Derived.Test.YtfjplphdkfiljaaDoorNumPrintR
namespace Go.Proofs.YtfjplphdkfiljaaDoor
open Go.Proofs Go.RowKit Go.Shelf

abbrev pairI (p : Int × Int) : Value := .tuple #[.int .i64 p.1, .int .i64 p.2]

theorem intI_bad {s : ByteArray} {f most : Int} (h : parseI s = (0, f)) (hf : f ≠ 0) : intI s most = (0, f) := by unfold intI; rw [h]; simp [hf]
theorem intI_neg {s : ByteArray} {v most : Int} (h : parseI s = (v, 0)) (hm : most < 0 ∨ most < v) : intI s most = (0, 2) := by unfold intI; rw [h]; simp [hm]
theorem intI_ok {s : ByteArray} {v most : Int} (h : parseI s = (v, 0)) (hm : ¬ (most < 0 ∨ most < v)) : intI s most = (v, 0) := by
  unfold intI
  rw [h]
  simp only [ne_eq, not_true, if_false]
  rw [if_neg hm]

set_option maxHeartbeats 400000 in
theorem Int_any (s : ByteArray) (most : Int) (w : World) (hs : s.size ≤ 140737488355328) (h0 : -9223372036854775808 ≤ most ∧ most ≤ 9223372036854775807) :
    Calls Tryd.prog 25 #[.string s, .int .i64 most] w fun e w' => e = .returned (pairI (intI s most)) ∧ Below w.heap.size w w' := by
  have HP := Lib.hid (Parse_any s w hs)
  rcases parseI_cases s with h | h | ⟨v, h, v0, v1⟩
  · have HR := Lib.hid (intI_bad (most := most) h (by decide))
    rw [h] at HP
    clear h
    generalize intI s most = r at *
    go_enter Tryd.func25, Tryd.ntmps25
    go_wp2_with (go_at_call 18; refine HP.out.mono ?_; rintro e w1 ⟨rfl, hb1⟩)
    go_ret2
    exact ⟨by rw [HR.out]; rfl, hb1⟩
  · have HR := Lib.hid (intI_bad (most := most) h (by decide))
    rw [h] at HP
    clear h
    generalize intI s most = r at *
    go_enter Tryd.func25, Tryd.ntmps25
    go_wp2_with (go_at_call 18; refine HP.out.mono ?_; rintro e w1 ⟨rfl, hb1⟩)
    go_ret2
    exact ⟨by rw [HR.out]; rfl, hb1⟩
  · rw [h] at HP
    by_cases hm : most < 0
    · have HR := Lib.hid (intI_neg (most := most) h (.inl hm))
      clear h
      generalize intI s most = r at *
      go_enter Tryd.func25, Tryd.ntmps25
      go_wp2_with (go_at_call 18; refine HP.out.mono ?_; rintro e w1 ⟨rfl, hb1⟩)
      go_ret2
      exact ⟨by rw [HR.out]; rfl, hb1⟩
    · have hw : IntKind.u64.wrap most = most := IntWalk.u64_in _ (by omega)
      by_cases hv : most < v
      · have HR := Lib.hid (intI_neg (most := most) h (.inr hv))
        clear h
        generalize intI s most = r at *
        go_enter Tryd.func25, Tryd.ntmps25
        go_wp2_with (go_at_call 18; refine HP.out.mono ?_; rintro e w1 ⟨rfl, hb1⟩)
        go_ret2
        exact ⟨by rw [HR.out]; rfl, hb1⟩
      · have HR := Lib.hid (intI_ok (most := most) h (by omega))
        clear h
        generalize intI s most = r at *
        go_enter Tryd.func25, Tryd.ntmps25
        go_wp2_with (go_at_call 18; refine HP.out.mono ?_; rintro e w1 ⟨rfl, hb1⟩)
        go_ret2
        exact ⟨by rw [HR.out]; first | done | rfl, hb1⟩

set_option maxHeartbeats 400000 in
theorem refInt_any (s : ByteArray) (most : Int) (w : World) (hs : s.size ≤ 140737488355328) (h0 : -9223372036854775808 ≤ most ∧ most ≤ 9223372036854775807) :
    Calls Tryd.prog 26 #[.string s, .int .i64 most] w fun e w' => e = .returned (pairI (intI s most)) ∧ Below w.heap.size w w' := by
  have HP := Lib.hid ((refParse_any s w hs).mono fun e w' ⟨h1, h2⟩ => (⟨h1, h2 ▸ Below.refl _ _⟩ : e = Ending.returned (pairV (parseI s)) ∧ Below w.heap.size w w'))
  rcases parseI_cases s with h | h | ⟨v, h, v0, v1⟩
  · have HR := Lib.hid (intI_bad (most := most) h (by decide))
    rw [h] at HP
    clear h
    generalize intI s most = r at *
    go_enter Tryd.func26, Tryd.ntmps26
    go_wp2_with (go_at_call 24; refine HP.out.mono ?_; rintro e w1 ⟨rfl, hb1⟩)
    go_ret2
    exact ⟨by rw [HR.out]; rfl, hb1⟩
  · have HR := Lib.hid (intI_bad (most := most) h (by decide))
    rw [h] at HP
    clear h
    generalize intI s most = r at *
    go_enter Tryd.func26, Tryd.ntmps26
    go_wp2_with (go_at_call 24; refine HP.out.mono ?_; rintro e w1 ⟨rfl, hb1⟩)
    go_ret2
    exact ⟨by rw [HR.out]; rfl, hb1⟩
  · rw [h] at HP
    by_cases hm : most < 0
    · have HR := Lib.hid (intI_neg (most := most) h (.inl hm))
      clear h
      generalize intI s most = r at *
      go_enter Tryd.func26, Tryd.ntmps26
      go_wp2_with (go_at_call 24; refine HP.out.mono ?_; rintro e w1 ⟨rfl, hb1⟩)
      go_ret2
      exact ⟨by rw [HR.out]; rfl, hb1⟩
    · have hw : IntKind.u64.wrap most = most := IntWalk.u64_in _ (by omega)
      by_cases hv : most < v
      · have HR := Lib.hid (intI_neg (most := most) h (.inr hv))
        clear h
        generalize intI s most = r at *
        go_enter Tryd.func26, Tryd.ntmps26
        go_wp2_with (go_at_call 24; refine HP.out.mono ?_; rintro e w1 ⟨rfl, hb1⟩)
        go_ret2
        exact ⟨by rw [HR.out]; rfl, hb1⟩
      · have HR := Lib.hid (intI_ok (most := most) h (by omega))
        clear h
        generalize intI s most = r at *
        go_enter Tryd.func26, Tryd.ntmps26
        go_wp2_with (go_at_call 24; refine HP.out.mono ?_; rintro e w1 ⟨rfl, hb1⟩)
        go_ret2
        exact ⟨by rw [HR.out]; first | done | rfl, hb1⟩

theorem const_p1 : parseI ⟨#[48, 48, 55]⟩ = (0, 3) := by decide +kernel
theorem const_p2 : parseI ⟨#[55, 48]⟩ = (70, 0) := by decide +kernel
theorem const_p3 : printI 70 = ⟨#[55, 48]⟩ := by
  unfold printI
  rw [show (70 : Int).toNat = 70 from rfl, Lib.decDigits_two (by decide) (by decide)]
  rfl

set_option maxHeartbeats 1000000 in
theorem alive01_any (w : World) (ht : Pow10 w) : Calls Tryd.prog 17 #[] w fun e w' => e = .returned (.bool true) ∧ Below w.heap.size w w' := by
  have HA := Lib.hid (fun W => Add_any 18446744073709551615 1 ⟨by decide, by decide⟩ ⟨by decide, by decide⟩ W)
  rw [show addI 18446744073709551615 1 = (0, 6) from rfl] at HA
  have H1 := Lib.hid (fun W => Parse_any ⟨#[48, 48, 55]⟩ W (by decide))
  rw [const_p1] at H1
  have H2 := Lib.hid (fun W => Parse_any ⟨#[55, 48]⟩ W (by decide))
  rw [const_p2] at H2
  have H3 := Lib.hid (fun W h => Print_any 70 (by decide) (by decide) W h)
  rw [const_p3] at H3
  have HT := Lib.hid ht
  clear ht
  go_enter Tryd.func17, Tryd.ntmps17
  go_wp2_with (first
    | (go_at_call 20; refine (HA.out _).mono ?_; rintro e w1 ⟨rfl, rfl⟩)
    | (go_at_call_of 18 (Value.string ⟨#[48, 48, 55]⟩); refine (H1.out _).mono ?_; rintro e w2 ⟨rfl, hb2⟩; (have HB2 := Lib.hid hb2; clear hb2))
    | (go_at_call_of 18 (Value.string ⟨#[55, 48]⟩); refine (H2.out _).mono ?_; rintro e w3 ⟨rfl, hb3⟩; (have HB3 := Lib.hid (HB2.out.st hb3); clear hb3))
    | (go_at_call 19; refine (H3.out _ (tabIs_go HT.out HB3.out)).mono ?_; rintro e w4 ⟨rfl, hb4⟩))
  go_ret
  exact ⟨rfl, HB3.out.st hb4⟩

set_option maxHeartbeats 1000000 in
theorem NumReckons_any (a b i n : Int) (w : World) (ha : W64 a) (hb : W64 b) (hi : -9223372036854775808 ≤ i ∧ i ≤ 9223372036854775807) (hn : -9223372036854775808 ≤ n ∧ n ≤ 9223372036854775807) (ht : Pow10 w) :
    Calls Tryd.prog 6 #[.int .u64 a, .int .u64 b, .int .i64 i, .int .i64 n] w fun e w' => e = .returned (.bool true) ∧ Below w.heap.size w w' := by
  have HA := Lib.hid (alive01_any w ht)
  clear ht
  by_cases h : 4611686018427387904 < n
  · go_enter Tryd.func6, Tryd.ntmps6
    go_wp2_with (go_at_call 17; refine HA.out.mono ?_; rintro e w1 ⟨rfl, hb1⟩)
    go_ret
    exact ⟨rfl, hb1⟩
  · have H1 := Lib.hid (fun W => Add_any a b ha hb W)
    have H2 := Lib.hid (fun W => refAdd_any a b ha hb W)
    have H3 := Lib.hid (fun W => Sub_any a b ha hb W)
    have H4 := Lib.hid (fun W => refSub_any a b ha hb W)
    have H5 := Lib.hid (fun W => Mul_any a b ha hb W)
    have H6 := Lib.hid (fun W => refMul_any a b ha hb W)
    have H7 := Lib.hid (fun W => Cap_any a b W)
    have H8 := Lib.hid (fun W => Mod_num i n W (by omega))
    have H9 := Lib.hid (fun W => refMod_num i n W (by omega))
    generalize addI a b = p1 at *
    generalize subI a b = p2 at *
    generalize mulI a b = p3 at *
    generalize modN i n = p4 at *
    clear ha hb
    go_enter Tryd.func6, Tryd.ntmps6
    go_wp2_with (first
      | (go_at_call 20; refine (H1.out _).mono ?_; rintro e w1 ⟨rfl, rfl⟩)
      | (go_at_call 28; refine (H2.out _).mono ?_; rintro e w1 ⟨rfl, rfl⟩)
      | (go_at_call 21; refine (H3.out _).mono ?_; rintro e w1 ⟨rfl, rfl⟩)
      | (go_at_call 29; refine (H4.out _).mono ?_; rintro e w1 ⟨rfl, rfl⟩)
      | (go_at_call 30; refine (H5.out _).mono ?_; rintro e w1 ⟨rfl, rfl⟩)
      | (go_at_call 31; refine (H6.out _).mono ?_; rintro e w1 ⟨rfl, rfl⟩)
      | (go_at_call 32; refine (H7.out _).mono ?_; rintro e w1 ⟨rfl, rfl⟩)
      | (go_at_call 33; refine (H8.out _).mono ?_; rintro e w1 ⟨rfl, rfl⟩)
      | (go_at_call 34; refine (H9.out _).mono ?_; rintro e w1 ⟨rfl, rfl⟩)
      | (go_at_call 17; refine HA.out.mono ?_; rintro e w1 ⟨rfl, hb1⟩))
    go_ret
    exact ⟨rfl, hb1⟩

set_option maxHeartbeats 1000000 in
theorem NumSums_any (l : List Int) (ao : Option Addr) (cap : Nat) (w : World) (hb : ∀ x ∈ l, W64 x) (hc : Cel w ao (l.map encW)) (ht : Pow10 w) :
    Calls Tryd.prog 4 #[.slice ao l.length cap] w fun e w' => e = .returned (.bool true) ∧ Below w.heap.size w w' := by
  have HA := Lib.hid (alive01_any w ht)
  clear ht
  by_cases h : 200 < l.length
  · go_enter Tryd.func4, Tryd.ntmps4
    go_wp2_with (go_at_call 17; refine HA.out.mono ?_; rintro e w1 ⟨rfl, hb1⟩)
    go_ret
    exact ⟨rfl, hb1⟩
  · have H1 := Lib.hid (Sum_any l ao cap w hb (by omega) hc)
    have H2 := Lib.hid (refSum_any l ao cap w hb (by omega) hc)
    generalize sumI 0 l = p1 at *
    clear hb hc
    go_enter Tryd.func4, Tryd.ntmps4
    go_wp2_with (first
      | (go_at_call 22; refine H1.out.mono ?_; rintro e w1 ⟨rfl, rfl⟩)
      | (go_at_call 23; refine H2.out.mono ?_; rintro e w1 ⟨rfl, rfl⟩)
      | (go_at_call 17; refine HA.out.mono ?_; rintro e w1 ⟨rfl, hb1⟩))
    go_ret
    exact ⟨rfl, hb1⟩

set_option maxHeartbeats 1000000 in
theorem NumTexts_any (n : Int) (s : ByteArray) (most : Int) (w : World) (hn : W64 n) (hm : -9223372036854775808 ≤ most ∧ most ≤ 9223372036854775807) (ht : Pow10 w) :
    Calls Tryd.prog 5 #[.int .u64 n, .string s, .int .i64 most] w fun e w' => e = .returned (.bool true) ∧ Below w.heap.size w w' := by
  have HA := Lib.hid (fun W h => alive01_any W h)
  have HT := Lib.hid ht
  by_cases h : 100 < s.size
  · go_enter Tryd.func5, Tryd.ntmps5
    go_wp2_with (go_at_call 17; refine (HA.out _ HT.out).mono ?_; rintro e w1 ⟨rfl, hb1⟩)
    go_ret
    exact ⟨rfl, hb1⟩
  · have H1 := Lib.hid (fun W => Parse_any s W (by omega))
    have H2 := Lib.hid (fun W => refParse_any s W (by omega))
    have H3 := Lib.hid (fun W => Int_any s most W (by omega) hm)
    have H4 := Lib.hid (fun W => refInt_any s most W (by omega) hm)
    have H5 := Lib.hid (fun W h => Print_any n hn.1 hn.2 W h)
    have H6 := Lib.hid (fun W => refPrint_any n hn.1 hn.2 W)
    generalize parseI s = p1 at *
    generalize intI s most = p2 at *
    generalize printI n = p3 at *
    clear hn ht
    go_enter Tryd.func5, Tryd.ntmps5
    go_wp2_with (first
      | (go_at_call 18; refine (H1.out _).mono ?_; rintro e w1 ⟨rfl, hb1⟩; (have HB1 := Lib.hid hb1; clear hb1))
      | (go_at_call 24; refine (H2.out _).mono ?_; rintro e w2 ⟨rfl, rfl⟩)
      | (go_at_call 25; refine (H3.out _).mono ?_; rintro e w3 ⟨rfl, hb3⟩; (have HB3 := Lib.hid (HB1.out.st hb3); clear hb3))
      | (go_at_call 26; refine (H4.out _).mono ?_; rintro e w4 ⟨rfl, hb4⟩; (have HB4 := Lib.hid (HB3.out.st hb4); clear hb4))
      | (go_at_call 19; refine (H5.out _ (tabIs_go HT.out HB4.out)).mono ?_; rintro e w5 ⟨rfl, hb5⟩; (have HB5 := Lib.hid (HB4.out.st hb5); clear hb5))
      | (go_at_call 27; refine (H6.out _).mono ?_; rintro e w6 ⟨rfl, hb6⟩; (have HB6 := Lib.hid (HB5.out.st hb6); clear hb6))
      | (go_at_call 17; refine (HA.out _ (tabIs_go HT.out HB6.out)).mono ?_; rintro e w7 ⟨rfl, hb7⟩))
    go_ret
    exact ⟨rfl, HB6.out.st hb7⟩

set_option maxHeartbeats 2000000 in
theorem NumBack_any (n y : Int) (s : ByteArray) (w : World) (hn : W64 n) (hy : W64 y) (ht : Pow10 w) :
    Calls Tryd.prog 3 #[.int .u64 n, .int .u64 y, .string s] w fun e w' => e = .returned (.bool true) ∧ Below w.heap.size w w' := by
  have HA := Lib.hid (fun W h => alive01_any W h)
  have HT := Lib.hid ht
  by_cases h : 100 < s.size
  · go_enter Tryd.func3, Tryd.ntmps3
    go_wp2_with (go_at_call 17; refine (HA.out _ HT.out).mono ?_; rintro e w1 ⟨rfl, hb1⟩)
    go_ret
    exact ⟨rfl, hb1⟩
  have HP := Lib.hid (fun W h => Print_any n hn.1 hn.2 W h)
  have hpz := printI_size_le hn.1 hn.2
  have H2 := Lib.hid (fun W => Parse_any (printI n) W (by omega))
  rw [parse_print hn.1 hn.2] at H2
  have H3 := Lib.hid (fun W => Add_any n y hn hy W)
  have H5 := Lib.hid (fun W => Parse_any s W (by omega))
  have hcases := parseI_cases s
  by_cases ha : n + y < 18446744073709551616
  · rw [show addI n y = (n + y, 0) from if_pos ha] at H3
    have H4 := Lib.hid (fun W => Sub_any (n + y) y ⟨by have := hn.1; have := hy.1; omega, ha⟩ hy W)
    rw [show subI (n + y) y = (n, 0) by unfold subI; rw [if_pos (by have := hn.1; omega)]; congr 1; omega] at H4
    generalize n + y = ny at *
    rcases hcases with h | h | ⟨v, h, v0, v1⟩
    · rw [h] at H5
      generalize printI n = pn at *
      clear h hn hy ht ha
      go_enter Tryd.func3, Tryd.ntmps3
      go_wp2_with (first
        | (go_at_call_of 19 (Value.int IntKind.u64 n); refine (HP.out _ HT.out).mono ?_; rintro e w1 ⟨rfl, hb1⟩; (have HB1 := Lib.hid hb1; clear hb1))
        | (go_at_call_of 18 (Value.string pn); refine (H2.out _).mono ?_; rintro e w2 ⟨rfl, hb2⟩; (have HB2 := Lib.hid (HB1.out.st hb2); clear hb2))
        | (go_at_call 20; refine (H3.out _).mono ?_; rintro e w3 ⟨rfl, rfl⟩)
        | (go_at_call 21; refine (H4.out _).mono ?_; rintro e w4 ⟨rfl, rfl⟩)
        | (go_at_call_of 18 (Value.string s); refine (H5.out _).mono ?_; rintro e w5 ⟨rfl, hb5⟩; (have HB5 := Lib.hid (HB2.out.st hb5); clear hb5))
        | (go_at_call_of 19 (Value.int IntKind.u64 v); refine (H6.out _ (tabIs_go HT.out HB5.out)).mono ?_; rintro e w6 ⟨rfl, hb6⟩; (have HB6 := Lib.hid (HB5.out.st hb6); clear hb6))
        | (go_at_call 17; first | (refine (HA.out _ (tabIs_go HT.out HB6.out)).mono ?_; rintro e w7 ⟨rfl, hb7⟩; have HB7 := Lib.hid (HB6.out.st hb7)) | (refine (HA.out _ (tabIs_go HT.out HB5.out)).mono ?_; rintro e w7 ⟨rfl, hb7⟩; have HB7 := Lib.hid (HB5.out.st hb7))))
      go_ret
      exact ⟨rfl, HB7.out⟩
    · rw [h] at H5
      generalize printI n = pn at *
      clear h hn hy ht ha
      go_enter Tryd.func3, Tryd.ntmps3
      go_wp2_with (first
        | (go_at_call_of 19 (Value.int IntKind.u64 n); refine (HP.out _ HT.out).mono ?_; rintro e w1 ⟨rfl, hb1⟩; (have HB1 := Lib.hid hb1; clear hb1))
        | (go_at_call_of 18 (Value.string pn); refine (H2.out _).mono ?_; rintro e w2 ⟨rfl, hb2⟩; (have HB2 := Lib.hid (HB1.out.st hb2); clear hb2))
        | (go_at_call 20; refine (H3.out _).mono ?_; rintro e w3 ⟨rfl, rfl⟩)
        | (go_at_call 21; refine (H4.out _).mono ?_; rintro e w4 ⟨rfl, rfl⟩)
        | (go_at_call_of 18 (Value.string s); refine (H5.out _).mono ?_; rintro e w5 ⟨rfl, hb5⟩; (have HB5 := Lib.hid (HB2.out.st hb5); clear hb5))
        | (go_at_call_of 19 (Value.int IntKind.u64 v); refine (H6.out _ (tabIs_go HT.out HB5.out)).mono ?_; rintro e w6 ⟨rfl, hb6⟩; (have HB6 := Lib.hid (HB5.out.st hb6); clear hb6))
        | (go_at_call 17; first | (refine (HA.out _ (tabIs_go HT.out HB6.out)).mono ?_; rintro e w7 ⟨rfl, hb7⟩; have HB7 := Lib.hid (HB6.out.st hb7)) | (refine (HA.out _ (tabIs_go HT.out HB5.out)).mono ?_; rintro e w7 ⟨rfl, hb7⟩; have HB7 := Lib.hid (HB5.out.st hb7))))
      go_ret
      exact ⟨rfl, HB7.out⟩
    · rw [h] at H5
      have H6 := Lib.hid (fun W h => Print_any v v0 v1 W h)
      rw [print_parse h] at H6
      generalize printI n = pn at *
      clear h hn hy ht ha
      go_enter Tryd.func3, Tryd.ntmps3
      go_wp2_with (first
        | (go_at_call_of 19 (Value.int IntKind.u64 n); refine (HP.out _ HT.out).mono ?_; rintro e w1 ⟨rfl, hb1⟩; (have HB1 := Lib.hid hb1; clear hb1))
        | (go_at_call_of 18 (Value.string pn); refine (H2.out _).mono ?_; rintro e w2 ⟨rfl, hb2⟩; (have HB2 := Lib.hid (HB1.out.st hb2); clear hb2))
        | (go_at_call 20; refine (H3.out _).mono ?_; rintro e w3 ⟨rfl, rfl⟩)
        | (go_at_call 21; refine (H4.out _).mono ?_; rintro e w4 ⟨rfl, rfl⟩)
        | (go_at_call_of 18 (Value.string s); refine (H5.out _).mono ?_; rintro e w5 ⟨rfl, hb5⟩; (have HB5 := Lib.hid (HB2.out.st hb5); clear hb5))
        | (go_at_call_of 19 (Value.int IntKind.u64 v); refine (H6.out _ (tabIs_go HT.out HB5.out)).mono ?_; rintro e w6 ⟨rfl, hb6⟩; (have HB6 := Lib.hid (HB5.out.st hb6); clear hb6))
        | (go_at_call 17; first | (refine (HA.out _ (tabIs_go HT.out HB6.out)).mono ?_; rintro e w7 ⟨rfl, hb7⟩; have HB7 := Lib.hid (HB6.out.st hb7)) | (refine (HA.out _ (tabIs_go HT.out HB5.out)).mono ?_; rintro e w7 ⟨rfl, hb7⟩; have HB7 := Lib.hid (HB5.out.st hb7))))
      go_ret
      exact ⟨rfl, HB7.out⟩
  · rw [show addI n y = (0, 6) from if_neg ha] at H3
    rcases hcases with h | h | ⟨v, h, v0, v1⟩
    · rw [h] at H5
      generalize printI n = pn at *
      clear h hn hy ht ha
      go_enter Tryd.func3, Tryd.ntmps3
      go_wp2_with (first
        | (go_at_call_of 19 (Value.int IntKind.u64 n); refine (HP.out _ HT.out).mono ?_; rintro e w1 ⟨rfl, hb1⟩; (have HB1 := Lib.hid hb1; clear hb1))
        | (go_at_call_of 18 (Value.string pn); refine (H2.out _).mono ?_; rintro e w2 ⟨rfl, hb2⟩; (have HB2 := Lib.hid (HB1.out.st hb2); clear hb2))
        | (go_at_call 20; refine (H3.out _).mono ?_; rintro e w3 ⟨rfl, rfl⟩)
        | (go_at_call 21; refine (H4.out _).mono ?_; rintro e w4 ⟨rfl, rfl⟩)
        | (go_at_call_of 18 (Value.string s); refine (H5.out _).mono ?_; rintro e w5 ⟨rfl, hb5⟩; (have HB5 := Lib.hid (HB2.out.st hb5); clear hb5))
        | (go_at_call_of 19 (Value.int IntKind.u64 v); refine (H6.out _ (tabIs_go HT.out HB5.out)).mono ?_; rintro e w6 ⟨rfl, hb6⟩; (have HB6 := Lib.hid (HB5.out.st hb6); clear hb6))
        | (go_at_call 17; first | (refine (HA.out _ (tabIs_go HT.out HB6.out)).mono ?_; rintro e w7 ⟨rfl, hb7⟩; have HB7 := Lib.hid (HB6.out.st hb7)) | (refine (HA.out _ (tabIs_go HT.out HB5.out)).mono ?_; rintro e w7 ⟨rfl, hb7⟩; have HB7 := Lib.hid (HB5.out.st hb7))))
      go_ret
      exact ⟨rfl, HB7.out⟩
    · rw [h] at H5
      generalize printI n = pn at *
      clear h hn hy ht ha
      go_enter Tryd.func3, Tryd.ntmps3
      go_wp2_with (first
        | (go_at_call_of 19 (Value.int IntKind.u64 n); refine (HP.out _ HT.out).mono ?_; rintro e w1 ⟨rfl, hb1⟩; (have HB1 := Lib.hid hb1; clear hb1))
        | (go_at_call_of 18 (Value.string pn); refine (H2.out _).mono ?_; rintro e w2 ⟨rfl, hb2⟩; (have HB2 := Lib.hid (HB1.out.st hb2); clear hb2))
        | (go_at_call 20; refine (H3.out _).mono ?_; rintro e w3 ⟨rfl, rfl⟩)
        | (go_at_call 21; refine (H4.out _).mono ?_; rintro e w4 ⟨rfl, rfl⟩)
        | (go_at_call_of 18 (Value.string s); refine (H5.out _).mono ?_; rintro e w5 ⟨rfl, hb5⟩; (have HB5 := Lib.hid (HB2.out.st hb5); clear hb5))
        | (go_at_call_of 19 (Value.int IntKind.u64 v); refine (H6.out _ (tabIs_go HT.out HB5.out)).mono ?_; rintro e w6 ⟨rfl, hb6⟩; (have HB6 := Lib.hid (HB5.out.st hb6); clear hb6))
        | (go_at_call 17; first | (refine (HA.out _ (tabIs_go HT.out HB6.out)).mono ?_; rintro e w7 ⟨rfl, hb7⟩; have HB7 := Lib.hid (HB6.out.st hb7)) | (refine (HA.out _ (tabIs_go HT.out HB5.out)).mono ?_; rintro e w7 ⟨rfl, hb7⟩; have HB7 := Lib.hid (HB5.out.st hb7))))
      go_ret
      exact ⟨rfl, HB7.out⟩
    · rw [h] at H5
      have H6 := Lib.hid (fun W h => Print_any v v0 v1 W h)
      rw [print_parse h] at H6
      generalize printI n = pn at *
      clear h hn hy ht ha
      go_enter Tryd.func3, Tryd.ntmps3
      go_wp2_with (first
        | (go_at_call_of 19 (Value.int IntKind.u64 n); refine (HP.out _ HT.out).mono ?_; rintro e w1 ⟨rfl, hb1⟩; (have HB1 := Lib.hid hb1; clear hb1))
        | (go_at_call_of 18 (Value.string pn); refine (H2.out _).mono ?_; rintro e w2 ⟨rfl, hb2⟩; (have HB2 := Lib.hid (HB1.out.st hb2); clear hb2))
        | (go_at_call 20; refine (H3.out _).mono ?_; rintro e w3 ⟨rfl, rfl⟩)
        | (go_at_call 21; refine (H4.out _).mono ?_; rintro e w4 ⟨rfl, rfl⟩)
        | (go_at_call_of 18 (Value.string s); refine (H5.out _).mono ?_; rintro e w5 ⟨rfl, hb5⟩; (have HB5 := Lib.hid (HB2.out.st hb5); clear hb5))
        | (go_at_call_of 19 (Value.int IntKind.u64 v); refine (H6.out _ (tabIs_go HT.out HB5.out)).mono ?_; rintro e w6 ⟨rfl, hb6⟩; (have HB6 := Lib.hid (HB5.out.st hb6); clear hb6))
        | (go_at_call 17; first | (refine (HA.out _ (tabIs_go HT.out HB6.out)).mono ?_; rintro e w7 ⟨rfl, hb7⟩; have HB7 := Lib.hid (HB6.out.st hb7)) | (refine (HA.out _ (tabIs_go HT.out HB5.out)).mono ?_; rintro e w7 ⟨rfl, hb7⟩; have HB7 := Lib.hid (HB5.out.st hb7))))
      go_ret
      exact ⟨rfl, HB7.out⟩

end Go.Proofs.YtfjplphdkfiljaaDoor
