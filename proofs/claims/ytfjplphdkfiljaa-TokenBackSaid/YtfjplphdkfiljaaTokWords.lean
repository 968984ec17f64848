/-
  The walk of the statement TokenWords: whatever the line, the law answers true.
-/
import Derived.Test.YtfjplphdkfiljaaProg
import Derived.Test.YtfjplphdkfiljaaWords
import Derived.Test.YtfjplphdkfiljaaTokC
import Derived.Test.YtfjplphdkfiljaaSame
namespace Go.Proofs.Ytfjplphdkfiljaa
open Go.Proofs Go.RowKit Go.Shelf

theorem const_words : wordsF ⟨#[32, 97, 9, 32, 98]⟩ = ([⟨#[97]⟩, ⟨#[98]⟩], 0) := by decide +kernel
theorem const_upper : upS ⟨#[97, 90]⟩ = ⟨#[65, 90]⟩ := by decide +kernel

set_option maxHeartbeats 1000000 in
theorem alive03_any (w : World) : Calls Try.prog 11 #[] w fun e w' => e = .returned (.bool true) ∧ Below w.heap.size w w' := by
  have HW := Lib.hid (fun W => Words_any ⟨#[32, 97, 9, 32, 98]⟩ W (by decide))
  rw [const_words] at HW
  have HU := Lib.hid (fun W => Upper_any ⟨#[97, 90]⟩ W (by decide))
  rw [const_upper] at HU
  go_enter Try.func11, Try.ntmps11
  go_wp2_with (first
    | (go_at_call 12; refine (HW.out _).mono ?_; rintro e w1 ⟨ao, cap, rfl, hc1, hb1⟩; (have HC1 := Lib.hid hc1; have HB1 := Lib.hid hb1; clear hc1 hb1))
    | (go_at_call 14; go_must (refine (sameWords_any _ _ _ _ [⟨#[97]⟩, ⟨#[98]⟩] [⟨#[97]⟩, ⟨#[98]⟩] _ (by decide) (by decide) (HC1.out.go (Below.of_al _ _)) (cel_new _ _ _ _)).mono ?_); rintro e w2 ⟨rfl, n2, rfl⟩)
    | (go_at_call 15; refine (HU.out _).mono ?_; rintro e w3 ⟨rfl, hb3⟩))
  go_ret
  exact ⟨rfl, ((HB1.out.al _).dr _).st hb3⟩

set_option maxHeartbeats 1000000 in
theorem TokenWords_any (s : ByteArray) (w : World) (hs : s.size ≤ 140737488351232) :
    Calls Try.prog 3 #[.string s] w fun e w' => e = .returned (.bool true) ∧ Below w.heap.size w w' := by
  by_cases hg : 3000 < s.size ∧ s.size ≤ 65536
  · obtain ⟨h1, h2⟩ := hg
    go_enter Try.func3, Try.ntmps3
    go_wp2_with (go_at_call 11; refine (alive03_any _).mono ?_; rintro e w1 ⟨rfl, hb1⟩)
    go_ret
    exact ⟨rfl, hb1⟩
  · have HW := Lib.hid (fun W => Words_any s W (by omega))
    have HV := Lib.hid (fun W => refWords_any s W (by omega))
    have HL := Lib.hid (wordsF_len s)
    generalize wordsF s = r at *
    by_cases h1 : 3000 < s.size
    · have h2 : 65536 < s.size := by omega
      clear hg
      go_enter Try.func3, Try.ntmps3
      go_wp2_with (first
        | (go_at_call 12; refine (HW.out _).mono ?_; rintro e w1 ⟨ao1, cap1, rfl, hc1, hb1⟩; (have HC1 := Lib.hid hc1; have HB1 := Lib.hid hb1; clear hc1 hb1))
        | (go_at_call 13; refine (HV.out _).mono ?_; rintro e w2 ⟨ao2, cap2, rfl, hc2, hb2⟩; (have HC2 := Lib.hid hc2; have HB2 := Lib.hid hb2; clear hc2 hb2))
        | (go_at_call 14; go_must (refine (sameWords_any _ _ _ _ r.1 r.1 _ (by have := HL.out; omega) (by have := HL.out; omega) (HC1.out.go HB2.out) HC2.out).mono ?_); rintro e w3 ⟨rfl, n3, rfl⟩)
        | (go_at_call 15; refine (Upper_any s _ (by omega)).mono ?_; rintro e w4 ⟨rfl, hb4⟩; (have HB4 := Lib.hid hb4; clear hb4))
        | (go_at_call 16; refine (refUpper_any s _ hs).mono ?_; rintro e w5 ⟨rfl, hb5⟩; (have HB5 := Lib.hid hb5; clear hb5))
        | (go_at_call 17; refine (Right_any s _ (by omega)).mono ?_; rintro e w6 ⟨rfl, hb6⟩; (have HB6 := Lib.hid hb6; clear hb6))
        | (go_at_call 18; refine (refRight_any s _ (by omega)).mono ?_; rintro e w7 ⟨rfl, rfl⟩)
        | (go_at_call 11; refine (alive03_any _).mono ?_; rintro e w8 ⟨rfl, hb8⟩))
      go_ret
      exact ⟨rfl, (((((HB1.out.st HB2.out).dr _).st HB4.out).st HB5.out).st HB6.out).st hb8⟩
    · clear hg
      go_enter Try.func3, Try.ntmps3
      go_wp2_with (first
        | (go_at_call 12; refine (HW.out _).mono ?_; rintro e w1 ⟨ao1, cap1, rfl, hc1, hb1⟩; (have HC1 := Lib.hid hc1; have HB1 := Lib.hid hb1; clear hc1 hb1))
        | (go_at_call 13; refine (HV.out _).mono ?_; rintro e w2 ⟨ao2, cap2, rfl, hc2, hb2⟩; (have HC2 := Lib.hid hc2; have HB2 := Lib.hid hb2; clear hc2 hb2))
        | (go_at_call 14; go_must (refine (sameWords_any _ _ _ _ r.1 r.1 _ (by have := HL.out; omega) (by have := HL.out; omega) (HC1.out.go HB2.out) HC2.out).mono ?_); rintro e w3 ⟨rfl, n3, rfl⟩)
        | (go_at_call 15; refine (Upper_any s _ (by omega)).mono ?_; rintro e w4 ⟨rfl, hb4⟩; (have HB4 := Lib.hid hb4; clear hb4))
        | (go_at_call 16; refine (refUpper_any s _ hs).mono ?_; rintro e w5 ⟨rfl, hb5⟩; (have HB5 := Lib.hid hb5; clear hb5))
        | (go_at_call 17; refine (Right_any s _ (by omega)).mono ?_; rintro e w6 ⟨rfl, hb6⟩; (have HB6 := Lib.hid hb6; clear hb6))
        | (go_at_call 18; refine (refRight_any s _ (by omega)).mono ?_; rintro e w7 ⟨rfl, rfl⟩)
        | (go_at_call 11; refine (alive03_any _).mono ?_; rintro e w8 ⟨rfl, hb8⟩))
      go_ret
      exact ⟨rfl, (((((HB1.out.st HB2.out).dr _).st HB4.out).st HB5.out).st HB6.out).st hb8⟩

end Go.Proofs.Ytfjplphdkfiljaa
