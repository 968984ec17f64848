/-
  Walks: the line of some words, token.Join and its reference.
-/
import Derived.Test.YtelcmkccfjdmjaaDoorProg
import Derived.Test.YtelcmkccfjdmjaaDoorTokB
import Derived.Test.YtelcmkccfjdmjaaDoorTokC
import Derived.Test.YtelcmkccfjdmjaaDoorLinesLaw
import Derived.Test.YtelcmkccfjdmjaaDoorShelf
namespace Go.Proofs.YtelcmkccfjdmjaaDoor
open Go.Proofs Go.RowKit Go.Shelf

set_option maxHeartbeats 400000 in
theorem IndexFunc_str (g : Nat) (cb : Array Value) (p : ByteArray → Bool) (ao : Option Addr) (cap : Nat) (l : List ByteArray) (w : World) (hen : Enters Tryd.prog g)
    (hp : PredOn Tryd.prog g cb encS p l w) (hl : l.length ≤ 9223372036854775807) (hc : Cel w ao (l.map encS)) :
    Calls Tryd.prog 121 #[.slice ao l.length cap, .func (.func g) #[] cb] w fun e w' => e = .returned (.int .i64 (idxI p l)) ∧ Below w.heap.size w w' := by
  have HP := Lib.hid hp
  have HC := Lib.hid hc
  clear hp hc
  unfold Enters at hen
  go_enter Tryd.func121, Tryd.ntmps121
  go_wp2
  go_loopg [8] l.length (fun g i wr => ∃ k : Nat, k ≤ l.length ∧ l.length - k ≤ g ∧ i = .int .i64 k ∧ Aside (Below w.heap.size w wr) ∧ Aside (∀ j (h : j < l.length), j < k → p l[j] = false))
  case atStart => exact ⟨0, Nat.zero_le _, by omega, rfl, Below.refl _ _, fun j _ h => absurd h (Nat.not_lt_zero _)⟩
  case round =>
    obtain ⟨k, hk, hg, rfl, HB, HA⟩ := hrel
    by_cases hlt : k < l.length
    · obtain ⟨b, o, hao, hcell⟩ := (HC.out.below HB.out (Nat.le_refl _)).at hlt
      have HQ := Lib.hid (HP.out wr l[k] HB.out (List.getElem_mem hlt))
      have HN := Lib.hid (fun h : p l[k] = true => idxI_hit p l k hlt h (fun j h1 h2 => HA.out j h1 h2))
      have HM := Lib.hid (fun h : p l[k] = false => (fun j (h1 : j < l.length) (h2 : j < k + 1) => (by
        by_cases e : j = k
        · subst e; exact h
        · exact HA.out j h1 (by omega) : p l[j] = false)))
      generalize hx : l[k] = x at *
      clear hx
      subst hao
      cases hq : p x with
      | true =>
        have HN2 := Lib.hid (HN.out hq)
        have HQ2 := Lib.hid (hq ▸ HQ.out)
        clear hq
        go_wp2_with (go_at_fn g; refine HQ2.out.mono ?_; rintro e w1 ⟨rfl, hb1⟩)
        go_ret
        exact ⟨by rw [HN2.out]; rfl, HB.out.trans (hb1.mono (by have := HB.out.size; omega))⟩
      | false =>
        have HN2 := Lib.hid (HM.out hq)
        have HQ2 := Lib.hid (hq ▸ HQ.out)
        clear hq
        go_wp2_with (go_at_fn g; refine HQ2.out.mono ?_; rintro e w1 ⟨rfl, hb1⟩)
        go_roundg (l.length - (k + 1))
        case measure => omega
        case rel => exact ⟨k + 1, by omega, by omega, by go_num, HB.out.trans (hb1.mono (by have := HB.out.size; omega)), HN2.out⟩
    · obtain rfl : k = l.length := by omega
      have HN := Lib.hid (idxI_miss p l (fun j h => HA.out j h h))
      go_wp2
      go_ret
      exact ⟨by rw [HN.out]; rfl, HB.out⟩

theorem ContainsFunc_str (g : Nat) (cb : Array Value) (p : ByteArray → Bool) (ao : Option Addr) (cap : Nat) (l : List ByteArray) (w : World) (hen : Enters Tryd.prog g)
    (hp : PredOn Tryd.prog g cb encS p l w) (hl : l.length ≤ 9223372036854775807) (hc : Cel w ao (l.map encS)) :
    Calls Tryd.prog 99 #[.slice ao l.length cap, .func (.func g) #[] cb] w fun e w' => e = .returned (.bool (l.any p)) ∧ Below w.heap.size w w' := by
  have HC := Lib.hid (IndexFunc_str g cb p ao cap l w hen hp hl hc)
  have HI := Lib.hid (idxI_any p l)
  clear hp hc hen
  generalize idxI p l = r at *
  go_enter Tryd.func99, Tryd.ntmps99
  go_wp2_with (go_at_call 121; refine HC.out.mono ?_; rintro e w1 ⟨rfl, hb1⟩)
  go_ret
  exact ⟨by rw [← HI.out]; rfl, hb1⟩

theorem cell_lt {w : World} {a : Addr} {v : Value} (h : w.cell? a = some v) : a.block < w.heap.size := by
  unfold World.cell? at h
  rcases Nat.lt_or_ge a.block w.heap.size with h1 | h1
  · exact h1
  · rw [Array.getElem?_eq_none h1] at h
    simp at h

/-- strings.Join with a blank, at some words -/
theorem sJoin_any (l : List ByteArray) (ao : Option Addr) (cap : Nat) (w : World) (hl : l.length ≤ 140737488355328) (hcap : l.length ≤ cap) (hlen : (Lib.join (tl l) [32]).length ≤ 140737488355328) (hc : Cel w ao (l.map encS)) :
    Calls Tryd.prog 46 #[.slice ao l.length cap, .string ⟨#[32]⟩] w fun e w' => e = .returned (.string ⟨(Lib.join (tl l) [32]).toArray⟩) ∧ Below w.heap.size w w' := by
  cases l with
  | nil => exact (Tryd.strings_Join_none ao cap ⟨#[32]⟩ w).mono fun e w' ⟨he, hw⟩ => ⟨he, hw ▸ Below.refl _ _⟩
  | cons x r =>
    obtain ⟨b, o, e, h0⟩ := hc 0 (encS x) rfl
    subst e
    refine Tryd.strings_Join b o cap (x :: r) ⟨#[32]⟩ w ?_ ?_ hl hcap hlen
    · intro j y hj
      obtain ⟨b', o', e', h'⟩ := hc j (encS y) (by rw [List.getElem?_map, hj]; rfl)
      cases e'
      exact h'
    · exact cell_lt h0

end Go.Proofs.YtelcmkccfjdmjaaDoor
