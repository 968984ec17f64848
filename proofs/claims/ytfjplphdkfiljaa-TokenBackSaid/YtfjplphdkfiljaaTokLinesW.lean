/-
  The walk of the statement TokenLines: whatever the text and the words, the law answers true.
-/
import Derived.Test.YtfjplphdkfiljaaProg
import Derived.Test.YtfjplphdkfiljaaTokWords
import Derived.Test.YtfjplphdkfiljaaTokLines
import Derived.Test.YtfjplphdkfiljaaTokJoinR
namespace Go.Proofs.Ytfjplphdkfiljaa
open Go.Proofs Go.RowKit Go.Shelf

theorem bytes_le {l : List ByteArray} (h : ∀ j (h : j < l.length), j < l.length → l[j].size ≤ 100) : ∀ x ∈ l, x.size ≤ 100 := by
  intro x hx
  obtain ⟨j, hj, rfl⟩ := List.getElem_of_mem hx
  exact h j hj hj

set_option maxHeartbeats 2000000 in
theorem TokenLines_any (s : ByteArray) (l : List ByteArray) (ao : Option Addr) (cap : Nat) (w : World) (hcap : l.length ≤ cap) (hc : Cel w ao (l.map encS)) :
    Calls Try.prog 9 #[.string s, .slice ao l.length cap] w fun e w' => e = .returned (.bool true) ∧ Below w.heap.size w w' := by
  have HC := Lib.hid hc
  clear hc
  by_cases h1 : 3000 < s.size
  · go_enter Try.func9, Try.ntmps9
    go_wp2_with (go_at_call 11; refine (alive03_any _).mono ?_; rintro e w1 ⟨rfl, hb1⟩)
    go_ret
    exact ⟨rfl, hb1⟩
  by_cases h2 : 100 < l.length
  · go_enter Try.func9, Try.ntmps9
    go_wp2_with (go_at_call 11; refine (alive03_any _).mono ?_; rintro e w1 ⟨rfl, hb1⟩)
    go_ret
    exact ⟨rfl, hb1⟩
  have HL := Lib.hid (fun W => Lines_any s W (by omega))
  have HM := Lib.hid (fun W => refLines_any s W (by omega))
  have HCU := Lib.hid (fun W => Cut_any s W (by omega))
  have HCR := Lib.hid (fun W => refCut_any s W (by omega))
  have HJ := Lib.hid (fun W h3 h4 => Join_any l ao cap W (by omega) h3 hcap h4)
  have HK := Lib.hid (fun W h3 h4 => refJoinT_any l ao cap W (by omega) h3 h4)
  generalize linesF s = r at *
  generalize joinF l = q at *
  have hcv : ∃ a b c, cutV s = .tuple #[.string a, .string b, .bool c] := by
    cases h : cutF s with
    | none => exact ⟨_, _, _, cutV_none h⟩
    | some p => exact ⟨_, _, _, cutV_some h⟩
  obtain ⟨xa, xb, xc, hcv⟩ := hcv
  rw [hcv] at HCU HCR
  clear hcv
  go_enter Try.func9, Try.ntmps9
  go_wp2
  go_loop [5] (fun i => ∃ k : Nat, k ≤ l.length ∧ i = .int .i64 k ∧ Aside (∀ j (h : j < l.length), j < k → l[j].size ≤ 100)) (fun i => l.length - (intOf i).toNat)
  case atStart => exact ⟨0, Nat.zero_le _, rfl, fun j _ h => absurd h (Nat.not_lt_zero _)⟩
  case round =>
    obtain ⟨k, hk, rfl, HA⟩ := hrel
    by_cases hlt : k < l.length
    · obtain ⟨b, o, hao, f1⟩ := HC.out.at hlt
      subst hao
      by_cases hb : l[k].size ≤ 100
      · have HT := Lib.hid (fun j (h : j < l.length) (h2 : j < k + 1) => (by
          by_cases e : j = k
          · subst e; exact hb
          · exact HA.out j h (by omega) : l[j].size ≤ 100))
        obtain ⟨x, hxe⟩ : ∃ x, l[k] = x := ⟨_, rfl⟩
        rw [hxe] at f1 hb
        clear hxe HJ HK
        go_wp2
        go_round
        case rel => exact ⟨k + 1, by omega, by go_num, HT.out⟩
        case measure => simp [intOf]; omega
      · obtain ⟨x, hxe⟩ : ∃ x, l[k] = x := ⟨_, rfl⟩
        rw [hxe] at f1 hb
        clear hxe HJ HK
        go_wp2_with (go_at_call 11; refine (alive03_any _).mono ?_; rintro e w1 ⟨rfl, hb1⟩)
        go_ret
        exact ⟨rfl, hb1⟩
    · obtain rfl : k = l.length := by omega
      have HX := Lib.hid (bytes_le HA.out)
      clear HA
      go_wp2_with (first
        | (go_at_call 45; refine (HL.out _).mono ?_; rintro e w1 ⟨a1, p1, rfl, hc1, hb1, hn1, -⟩; (have HC1 := Lib.hid hc1; have HB1 := Lib.hid hb1; clear hc1 hb1))
        | (go_at_call 46; refine (HM.out _).mono ?_; rintro e w2 ⟨a2, p2, rfl, hc2, hb2, -, -⟩; (have HC2 := Lib.hid hc2; have HB2 := Lib.hid hb2; clear hc2 hb2))
        | (go_at_call 47; refine (HCU.out _).mono ?_; rintro e w3 ⟨rfl, hb3⟩; (have HB3 := Lib.hid hb3; clear hb3))
        | (go_at_call 48; refine (HCR.out _).mono ?_; rintro e w4 ⟨rfl, hb4⟩; (have HB4 := Lib.hid (((HB1.out.st HB2.out).st HB3.out).st hb4); have HB5 := Lib.hid ((HB2.out.st HB3.out).st hb4); have HB6 := Lib.hid (HB3.out.st hb4)); clear hb4)
        | (go_at_call 34; refine (HJ.out _ (fun x hx => by have := HX.out x hx; omega) (HC.out.go HB4.out)).mono ?_; rintro e w5 ⟨rfl, hb5⟩; (have HB7 := Lib.hid hb5; clear hb5))
        | (go_at_call 49; refine (HK.out _ (fun x hx => by have := HX.out x hx; omega) (HC.out.go (HB4.out.st HB7.out))).mono ?_; rintro e w6 ⟨rfl, rfl⟩)
        | (go_at_call 14; go_must (refine (sameWords_any _ _ _ _ r.1 r.1 _ (by omega) (by omega) (HC1.out.go (HB5.out.st HB7.out)) (HC2.out.go (HB6.out.st HB7.out))).mono ?_); rintro e w7 ⟨rfl, n7, rfl⟩)
        | (go_at_call 11; refine (alive03_any _).mono ?_; rintro e w8 ⟨rfl, hb8⟩))
      go_ret
      exact ⟨rfl, ((HB4.out.st HB7.out).dr _).st hb8⟩

end Go.Proofs.Ytfjplphdkfiljaa
