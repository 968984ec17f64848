/-
  Walks: the line of some words, token.Join and its reference.
  Walks: the reference's line of some words.
-/
import Derived.Test.YtelcmkccfjdmjaaGreatDoorProg
import Derived.Test.YtelcmkccfjdmjaaGreatDoorTokB
import Derived.Test.YtelcmkccfjdmjaaGreatDoorLinesSpec
import Derived.Test.YtelcmkccfjdmjaaGreatDoorShelf
namespace Go.Proofs.YtelcmkccfjdmjaaGreatDoor
open Go.Proofs Go.RowKit Go.Shelf

set_option maxHeartbeats 400000 in
theorem IndexFunc_str (g : Nat) (cb : Array Value) (p : ByteArray → Bool) (ao : Option Addr) (cap : Nat) (l : List ByteArray) (w : World) (hen : Enters Tryz.prog g)
    (hp : PredOn Tryz.prog g cb encS p l w) (hl : l.length ≤ 9223372036854775807) (hc : Cel w ao (l.map encS)) :
    Calls Tryz.prog 94 #[.slice ao l.length cap, .func (.func g) #[] cb] w fun e w' => e = .returned (.int .i64 (idxI p l)) ∧ Below w.heap.size w w' := by
  have HP := Lib.hid hp
  have HC := Lib.hid hc
  clear hp hc
  unfold Enters at hen
  go_enter Tryz.func94, Tryz.ntmps94
  go_wp2
  go_loopg [8] l.length (fun g i wr => ∃ k : Nat, k ≤ l.length ∧ l.length - k ≤ g ∧ i = .int .i64 k ∧ Aside (Below w.heap.size w wr) ∧ Aside (∀ j (h : j < l.length), j < k → p l[j] = false))
  case atStart => exact ⟨0, Nat.zero_le _, by omega, rfl, Below.refl _ _, fun j _ h => absurd h (Nat.not_lt_zero _)⟩
  case round =>
    obtain ⟨k, hk, hg, rfl, HB, HA⟩ := hrel
    by_cases hlt : k < l.length
    · obtain ⟨b, o, hao, hcell⟩ := (HC.out.below HB.out (Nat.le_refl _)).at hlt
      have HQ := Lib.hid (HP.out wr l[k] HB.out (List.getElem_mem hlt))
      have HN := Lib.hid (fun h : p l[k] = true => idxI_hit p l k hlt h (fun j h1 h2 => HA.out j h1 h2))
      have HM := Lib.hid (fun h : p l[k] = false => (fun j (h1 : j < l.length) (h2 : j < k + 1) => (by
        by_cases e : j = k
        · subst e; exact h
        · exact HA.out j h1 (by omega) : p l[j] = false)))
      generalize hx : l[k] = x at *
      clear hx
      subst hao
      cases hq : p x with
      | true =>
        have HN2 := Lib.hid (HN.out hq)
        have HQ2 := Lib.hid (hq ▸ HQ.out)
        clear hq
        go_wp2_with (go_at_fn g; refine HQ2.out.mono ?_; rintro e w1 ⟨rfl, hb1⟩)
        go_ret
        exact ⟨by rw [HN2.out]; rfl, HB.out.trans (hb1.mono (by have := HB.out.size; omega))⟩
      | false =>
        have HN2 := Lib.hid (HM.out hq)
        have HQ2 := Lib.hid (hq ▸ HQ.out)
        clear hq
        go_wp2_with (go_at_fn g; refine HQ2.out.mono ?_; rintro e w1 ⟨rfl, hb1⟩)
        go_roundg (l.length - (k + 1))
        case measure => omega
        case rel => exact ⟨k + 1, by omega, by omega, by go_num, HB.out.trans (hb1.mono (by have := HB.out.size; omega)), HN2.out⟩
    · obtain rfl : k = l.length := by omega
      have HN := Lib.hid (idxI_miss p l (fun j h => HA.out j h h))
      go_wp2
      go_ret
      exact ⟨by rw [HN.out]; rfl, HB.out⟩

theorem ContainsFunc_str (g : Nat) (cb : Array Value) (p : ByteArray → Bool) (ao : Option Addr) (cap : Nat) (l : List ByteArray) (w : World) (hen : Enters Tryz.prog g)
    (hp : PredOn Tryz.prog g cb encS p l w) (hl : l.length ≤ 9223372036854775807) (hc : Cel w ao (l.map encS)) :
    Calls Tryz.prog 50 #[.slice ao l.length cap, .func (.func g) #[] cb] w fun e w' => e = .returned (.bool (l.any p)) ∧ Below w.heap.size w w' := by
  have HC := Lib.hid (IndexFunc_str g cb p ao cap l w hen hp hl hc)
  have HI := Lib.hid (idxI_any p l)
  clear hp hc hen
  generalize idxI p l = r at *
  go_enter Tryz.func50, Tryz.ntmps50
  go_wp2_with (go_at_call 94; refine HC.out.mono ?_; rintro e w1 ⟨rfl, hb1⟩)
  go_ret
  exact ⟨by rw [← HI.out]; rfl, hb1⟩

theorem Join1_any (s : ByteArray) (w : World) (hs : s.size ≤ 140737488355328) :
    Calls Tryz.prog 98 #[.string s] w fun e w' => e = .returned (.bool (!wordB s)) ∧ Below w.heap.size w w' := by
  have HR := Lib.hid (Right_any s w hs)
  generalize wordB s = r at *
  go_enter Tryz.func98, Tryz.ntmps98
  go_wp2_with (go_at_call 32; refine HR.out.mono ?_; rintro e w1 ⟨rfl, hb1⟩)
  all_goals
    go_ret
    exact ⟨rfl, hb1⟩

theorem cell_lt {w : World} {a : Addr} {v : Value} (h : w.cell? a = some v) : a.block < w.heap.size := by
  unfold World.cell? at h
  rcases Nat.lt_or_ge a.block w.heap.size with h1 | h1
  · exact h1
  · rw [Array.getElem?_eq_none h1] at h
    simp at h

/-- strings.Join with a blank, at some words -/
theorem sJoin_any (l : List ByteArray) (ao : Option Addr) (cap : Nat) (w : World) (hl : l.length ≤ 140737488355328) (hcap : l.length ≤ cap) (hlen : (Lib.join (tl l) [32]).length ≤ 140737488355328) (hc : Cel w ao (l.map encS)) :
    Calls Tryz.prog 44 #[.slice ao l.length cap, .string ⟨#[32]⟩] w fun e w' => e = .returned (.string ⟨(Lib.join (tl l) [32]).toArray⟩) ∧ Below w.heap.size w w' := by
  cases l with
  | nil => exact (Tryz.strings_Join_none ao cap ⟨#[32]⟩ w).mono fun e w' ⟨he, hw⟩ => ⟨he, hw ▸ Below.refl _ _⟩
  | cons x r =>
    obtain ⟨b, o, e, h0⟩ := hc 0 (encS x) rfl
    subst e
    refine Tryz.strings_Join b o cap (x :: r) ⟨#[32]⟩ w ?_ ?_ hl hcap hlen
    · intro j y hj
      obtain ⟨b', o', e', h'⟩ := hc j (encS y) (by rw [List.getElem?_map, hj]; rfl)
      cases e'
      exact h'
    · exact cell_lt h0

set_option maxHeartbeats 1000000 in
theorem Join_any (l : List ByteArray) (ao : Option Addr) (cap : Nat) (w : World) (hl : l.length ≤ 140737488355328) (hx : ∀ x ∈ l, x.size ≤ 131072) (hcap : l.length ≤ cap) (hc : Cel w ao (l.map encS)) :
    Calls Tryz.prog 60 #[.slice ao l.length cap] w fun e w' => e = .returned (.tuple #[.string (joinF l).1, .int .i64 (joinF l).2]) ∧ Below w.heap.size w w' := by
  have HC := Lib.hid hc
  have HX := Lib.hid hx
  have HP := Lib.hid (ContainsFunc_str 98 #[] (fun x => !wordB x) ao cap l w (enters_of Tryz.func98 (by kernel_rfl) rfl)
    (fun W x _ hm => Join1_any x W (by have := hx x hm; omega)) (by omega) hc)
  have HJ := Lib.hid (fun W h1 h2 => sJoin_any l ao cap W hl hcap h1 h2)
  clear hc hx
  by_cases hb : (l.any fun x => !wordB x) = true
  · have HR := Lib.hid (joinF_bad hb)
    rw [hb] at HP
    clear hb HJ
    generalize joinF l = r at *
    go_enter Tryz.func60, Tryz.ntmps60
    go_wp2_with (go_at_call 50; refine HP.out.mono ?_; rintro e w1 ⟨rfl, hb1⟩)
    go_ret2
    exact ⟨by rw [HR.out]; rfl, hb1⟩
  · have HLONG := Lib.hid (joinF_long hb)
    have HMANY := Lib.hid (joinF_many hb)
    have HOK := Lib.hid (joinF_ok hb)
    rw [Bool.eq_false_iff.2 hb] at HP
    clear hb
    have HLE := Lib.hid (joinSz_le l)
    have HS := Lib.hid (joinSz_step l)
    have hz := joinSz_zero l
    have HZ := Lib.hid (join_len l)
    generalize joinF l = r at *
    generalize Lib.join (tl l) [32] = jl at *
    generalize joinSz l = J at *
    by_cases hm : 16384 < l.length
    · have HR := Lib.hid (HMANY.out hm)
      go_enter Tryz.func60, Tryz.ntmps60
      go_wp2_with (go_at_call 50; refine HP.out.mono ?_; rintro e w1 ⟨rfl, hb1⟩)
      go_ret2
      exact ⟨by rw [HR.out]; rfl, hb1⟩
    · have hmx : max ((l.length : Int) - 1) 0 = (J 0 : Int) := by omega
      have hj0 : J 0 ≤ 16384 := by omega
      go_enter Tryz.func60, Tryz.ntmps60
      go_wp2_with (go_at_call 50; refine HP.out.mono ?_; rintro e w1 ⟨rfl, hb1⟩; (have HB1 := Lib.hid hb1; clear hb1))
      go_loopg [4, 20] l.length (fun g sz i wr => ∃ k : Nat, k ≤ l.length ∧ l.length - k ≤ g ∧ i = .int .i64 k ∧ sz = .int .i64 (J k) ∧ J k ≤ 65536 ∧ Aside (Below w.heap.size w wr))
      case atStart => exact ⟨0, Nat.zero_le _, by omega, rfl, by first | rfl | (rw [hz]), by omega, HB1.out⟩
      case round =>
        obtain ⟨k, hk, hg, rfl, rfl, hJ, HA⟩ := hrel
        by_cases hlt : k < l.length
        · obtain ⟨b, o, hao, f1⟩ := (HC.out.go HA.out).at hlt
          subst hao
          have hS := HS.out k hlt
          have hxs := HX.out l[k] (List.getElem_mem hlt)
          have hle := HLE.out (k + 1)
          obtain ⟨x, hxe⟩ : ∃ x, l[k] = x := ⟨_, rfl⟩
          rw [hxe] at f1 hS hxs
          by_cases hbig : 65536 < J (k + 1)
          · have HR := Lib.hid (HLONG.out (by omega))
            rw [hS] at hbig
            go_wp2
            go_ret2
            exact ⟨by rw [HR.out]; rfl, HA.out⟩
          · rw [hS] at hbig
            go_wp2
            go_roundg (l.length - (k + 1))
            case measure => omega
            case rel => exact ⟨k + 1, by omega, by omega, by go_num, by rw [hS]; go_num, by omega, HA.out⟩
        · obtain rfl : k = l.length := by omega
          have HR := Lib.hid (HOK.out hm (by rw [HZ.out]; omega))
          have HJ2 := Lib.hid (HJ.out wr (by rw [HZ.out]; omega) (HC.out.go HA.out))
          go_wp2_with (go_at_call 44; refine HJ2.out.mono ?_; rintro e w2 ⟨rfl, hb2⟩)
          go_ret2
          exact ⟨by rw [HR.out]; rfl, HA.out.st hb2⟩

end Go.Proofs.YtelcmkccfjdmjaaGreatDoor

namespace Go.Proofs.YtelcmkccfjdmjaaGreatDoor
open Go.Proofs Go.RowKit Go.Shelf

set_option maxHeartbeats 1000000 in
theorem refJoinT_any (l : List ByteArray) (ao : Option Addr) (cap : Nat) (w : World) (hl : l.length ≤ 140737488355328) (hx : ∀ x ∈ l, x.size ≤ 131072) (hc : Cel w ao (l.map encS)) :
    Calls Tryz.prog 62 #[.slice ao l.length cap] w fun e w' => e = .returned (.tuple #[.string (joinF l).1, .int .i64 (joinF l).2]) ∧ w' = w := by
  have HC := Lib.hid hc
  have HX := Lib.hid hx
  clear hc hx
  have HBAD := Lib.hid (joinF_bad (l := l))
  have HLONG := Lib.hid (joinF_long (l := l))
  have HMANY := Lib.hid (joinF_many (l := l))
  have HOK := Lib.hid (joinF_ok (l := l))
  have HSZ := Lib.hid (joinT_size l)
  have H0 := Lib.hid (joinT_zero l)
  have H1 := Lib.hid (joinT_one l)
  have HST := Lib.hid (joinT_step l)
  have HALL := Lib.hid (joinT_all l)
  have HAN := Lib.hid (fun (h : ∀ j (h : j < l.length), j < l.length → wordB l[j] = true) => (show ¬ (l.any fun x => !wordB x) = true by
    rw [List.any_eq_true]
    rintro ⟨x, hx, h2⟩
    obtain ⟨j, hj, rfl⟩ := List.getElem_of_mem hx
    rw [h j hj hj] at h2
    cases h2))
  have HAB := Lib.hid (fun k (hk : k < l.length) (h : wordB l[k] = false) => (List.any_eq_true.2 ⟨l[k], List.getElem_mem hk, by rw [h]; rfl⟩ : (l.any fun x => !wordB x) = true))
  generalize joinF l = r at *
  generalize Lib.join (tl l) [32] = jl at *
  generalize joinT l = T at *
  go_enter Tryz.func62, Tryz.ntmps62
  go_wp2
  go_loop [4] (fun i => ∃ k : Nat, k ≤ l.length ∧ i = .int .i64 k ∧ Aside (∀ j (h : j < l.length), j < k → wordB l[j] = true)) (fun i => l.length - (intOf i).toNat)
  case atStart => exact ⟨0, Nat.zero_le _, rfl, fun j _ h => absurd h (Nat.not_lt_zero _)⟩
  case round =>
    obtain ⟨k, hk, rfl, HA⟩ := hrel
    by_cases hlt : k < l.length
    · obtain ⟨b, o, hao, f1⟩ := HC.out.at hlt
      subst hao
      have HXS := HX.out l[k] (List.getElem_mem hlt)
      have HB := Lib.hid (HAB.out k hlt)
      have HT := Lib.hid (fun (hq : wordB l[k] = true) j (h : j < l.length) (h2 : j < k + 1) => (by
        by_cases e : j = k
        · subst e; exact hq
        · exact HA.out j h (by omega) : wordB l[j] = true))
      obtain ⟨x, hxe⟩ : ∃ x, l[k] = x := ⟨_, rfl⟩
      rw [hxe] at f1 HXS HB HT
      clear hxe
      have HQ := Lib.hid (fun W => refRight_any x W (by omega))
      cases hq : wordB x with
      | true =>
        have HT2 := Lib.hid (HT.out hq)
        rw [hq] at HQ
        clear hq HB HT
        go_wp2_with (go_at_call 54; refine (HQ.out _).mono ?_; rintro e w1 ⟨rfl, rfl⟩)
        go_round
        case rel => exact ⟨k + 1, by omega, by go_num, HT2.out⟩
        case measure => simp [intOf]; omega
      | false =>
        have HR := Lib.hid (HBAD.out (HB.out hq))
        rw [hq] at HQ
        clear hq HB HT
        go_wp2_with (go_at_call 54; refine (HQ.out _).mono ?_; rintro e w1 ⟨rfl, rfl⟩)
        go_ret2
        exact ⟨by rw [HR.out]; rfl, rfl⟩
    · obtain rfl : k = l.length := by omega
      have HNO := Lib.hid (HAN.out HA.out)
      clear HAB
      by_cases hm : 16384 < l.length
      · have HR := Lib.hid (HMANY.out HNO.out hm)
        go_wp2
        go_ret2
        exact ⟨by rw [HR.out]; rfl, rfl⟩
      · go_wp2
        go_loop [5, 6] (fun s i => ∃ k : Nat, k ≤ l.length ∧ i = .int .i64 k ∧ s = .string (T k) ∧ (T k).size ≤ 65536) (fun s i => l.length - (intOf i).toNat)
        case atStart => exact ⟨0, Nat.zero_le _, rfl, by rw [H0.out]; rfl, by rw [H0.out]; decide⟩
        case round =>
          obtain ⟨k, hk, rfl, rfl, hT⟩ := hrel
          by_cases hlt : k < l.length
          · obtain ⟨b, o, hao, f1⟩ := HC.out.at hlt
            subst hao
            have HXS := HX.out l[k] (List.getElem_mem hlt)
            have hle := HSZ.out (k + 1)
            have HS1 := Lib.hid (fun h => H1.out h)
            have HS2 := Lib.hid (HST.out k hlt)
            obtain ⟨x, hxe⟩ : ∃ x, l[k] = x := ⟨_, rfl⟩
            rw [hxe] at f1 HXS HS2
            by_cases h0 : k = 0
            · subst h0
              have e1 := H1.out hlt
              rw [hxe] at e1
              have e2 : T 1 = x := by rw [e1]; simp
              simp only [Nat.add_zero] at f1
              rw [H0.out] at hT ⊢
              rw [show T (0 + 1) = T 1 from rfl, e2] at hle
              clear hxe HS1 HS2 e1
              by_cases hbig : 65536 < x.size
              · have HR := Lib.hid (HLONG.out HNO.out (by omega))
                go_wp2
                go_ret2
                exact ⟨by rw [HR.out]; rfl, rfl⟩
              · go_wp2
                go_round
                case rel => exact ⟨1, by omega, by go_num, by rw [e2], by rw [e2]; omega⟩
                case measure => simp [intOf]; omega
            · have E2 := Lib.hid (HS2.out (by omega))
              have e3 : (T (k + 1)).size = (T k).size + 1 + x.size := by rw [E2.out, ByteArray.size_append, ByteArray.size_append]; rfl
              rw [e3] at hle
              clear hxe HS1 HS2
              by_cases hbig : 65536 < (T k).size + 1 + x.size
              · have HR := Lib.hid (HLONG.out HNO.out (by omega))
                go_wp2
                go_ret2
                exact ⟨by rw [HR.out]; rfl, rfl⟩
              · go_wp2
                go_round
                case rel => exact ⟨k + 1, by omega, by go_num, by rw [E2.out], by rw [e3]; omega⟩
                case measure => simp [intOf]; omega
          · obtain rfl : k = l.length := by omega
            rw [HALL.out] at hT ⊢
            have HR := Lib.hid (HOK.out HNO.out hm (by rw [Lib.size_eq] at hT; simpa using hT))
            go_wp2
            go_ret2
            exact ⟨by rw [HR.out]; rfl, rfl⟩

end Go.Proofs.YtelcmkccfjdmjaaGreatDoor
