/-
  Walks: slices.IndexFunc and ContainsFunc at bytes; token.Right and its reference.
  Walks: the reference's Right; are rows of texts the same.
-/
import Derived.Test.YtelcmkccfjdmjaaGreatDoorProg
import Derived.Test.YtelcmkccfjdmjaaGreatDoorBase
import Derived.Test.YtelcmkccfjdmjaaGreatDoorWordsSpec
namespace Go.Proofs.YtelcmkccfjdmjaaGreatDoor
open Go.Proofs Go.RowKit Go.Shelf

set_option maxHeartbeats 400000 in
theorem IndexFunc_u8 (g : Nat) (cb : Array Value) (p : UInt8 → Bool) (ao : Option Addr) (cap : Nat) (l : List UInt8) (w : World) (hen : Enters Tryz.prog g)
    (hp : PredOn Tryz.prog g cb encU8 p l w) (hl : l.length ≤ 9223372036854775807) (hc : Cel w ao (l.map encU8)) :
    Calls Tryz.prog 121 #[.slice ao l.length cap, .func (.func g) #[] cb] w fun e w' => e = .returned (.int .i64 (idxI p l)) ∧ Below w.heap.size w w' := by
  have HP := Lib.hid hp
  have HC := Lib.hid hc
  clear hp hc
  unfold Enters at hen
  go_enter Tryz.func121, Tryz.ntmps121
  go_wp2
  go_loopg [8] l.length (fun g i wr => ∃ k : Nat, k ≤ l.length ∧ l.length - k ≤ g ∧ i = .int .i64 k ∧ Aside (Below w.heap.size w wr) ∧ Aside (∀ j (h : j < l.length), j < k → p l[j] = false))
  case atStart => exact ⟨0, Nat.zero_le _, by omega, rfl, Below.refl _ _, fun j _ h => absurd h (Nat.not_lt_zero _)⟩
  case round =>
    obtain ⟨k, hk, hg, rfl, HB, HA⟩ := hrel
    by_cases hlt : k < l.length
    · obtain ⟨b, o, hao, hcell⟩ := (HC.out.below HB.out (Nat.le_refl _)).at hlt
      have HQ := Lib.hid (HP.out wr l[k] HB.out (List.getElem_mem hlt))
      have HN := Lib.hid (fun h : p l[k] = true => idxI_hit p l k hlt h (fun j h1 h2 => HA.out j h1 h2))
      have HM := Lib.hid (fun h : p l[k] = false => (fun j (h1 : j < l.length) (h2 : j < k + 1) => (by
        by_cases e : j = k
        · subst e; exact h
        · exact HA.out j h1 (by omega) : p l[j] = false)))
      generalize hx : l[k] = x at *
      clear hx
      subst hao
      cases hq : p x with
      | true =>
        have HN2 := Lib.hid (HN.out hq)
        have HQ2 := Lib.hid (hq ▸ HQ.out)
        clear hq
        go_wp2_with (go_at_fn g; refine HQ2.out.mono ?_; rintro e w1 ⟨rfl, hb1⟩)
        go_ret
        exact ⟨by rw [HN2.out]; rfl, HB.out.trans (hb1.mono (by have := HB.out.size; omega))⟩
      | false =>
        have HN2 := Lib.hid (HM.out hq)
        have HQ2 := Lib.hid (hq ▸ HQ.out)
        clear hq
        go_wp2_with (go_at_fn g; refine HQ2.out.mono ?_; rintro e w1 ⟨rfl, hb1⟩)
        go_roundg (l.length - (k + 1))
        case measure => omega
        case rel => exact ⟨k + 1, by omega, by omega, by go_num, HB.out.trans (hb1.mono (by have := HB.out.size; omega)), HN2.out⟩
    · obtain rfl : k = l.length := by omega
      have HN := Lib.hid (idxI_miss p l (fun j h => HA.out j h h))
      go_wp2
      go_ret
      exact ⟨by rw [HN.out]; rfl, HB.out⟩

theorem ContainsFunc_u8 (g : Nat) (cb : Array Value) (p : UInt8 → Bool) (ao : Option Addr) (cap : Nat) (l : List UInt8) (w : World) (hen : Enters Tryz.prog g)
    (hp : PredOn Tryz.prog g cb encU8 p l w) (hl : l.length ≤ 9223372036854775807) (hc : Cel w ao (l.map encU8)) :
    Calls Tryz.prog 77 #[.slice ao l.length cap, .func (.func g) #[] cb] w fun e w' => e = .returned (.bool (l.any p)) ∧ Below w.heap.size w w' := by
  have HC := Lib.hid (IndexFunc_u8 g cb p ao cap l w hen hp hl hc)
  have HI := Lib.hid (idxI_any p l)
  clear hp hc hen
  generalize idxI p l = r at *
  go_enter Tryz.func77, Tryz.ntmps77
  go_wp2_with (go_at_call 121; refine HC.out.mono ?_; rintro e w1 ⟨rfl, hb1⟩)
  go_ret
  exact ⟨by rw [← HI.out]; rfl, hb1⟩

theorem sign_any (c : UInt8) (w : World) :
    Calls Tryz.prog 79 #[.int .u8 (c.toNat : Int)] w fun e w' => e = .returned (.bool (signB c)) ∧ w = w' := by
  unfold signB
  go_enter Tryz.func79, Tryz.ntmps79
  go_wp2
  all_goals
    go_ret
    exact ⟨by simp [*] <;> omega, rfl⟩

theorem refsign_any (c : UInt8) (w : World) :
    Calls Tryz.prog 96 #[.int .u8 (c.toNat : Int)] w fun e w' => e = .returned (.bool (signB c)) ∧ w = w' := by
  unfold signB
  go_enter Tryz.func96, Tryz.ntmps96
  go_wp2
  all_goals
    go_ret
    exact ⟨by simp [*] <;> omega, rfl⟩

theorem Right1_any (c : UInt8) (w : World) :
    Calls Tryz.prog 78 #[.int .u8 (c.toNat : Int)] w fun e w' => e = .returned (.bool (!signB c)) ∧ w = w' := by
  go_enter Tryz.func78, Tryz.ntmps78
  go_wp2_with (go_at_call 79; refine (sign_any c _).mono ?_; rintro e w1 ⟨rfl, rfl⟩)
  all_goals
    go_ret
    exact ⟨by simp [*] <;> omega, rfl⟩

/-- a word: some letters, all of them signs -/
def wordB (s : ByteArray) : Bool := !s.toList.isEmpty && !(s.data.toList.any fun c => !signB c)

theorem wp_guard_call {P : Program} {w : World} {ops : Array Oper} {rest : List Oper} {o : Oper} {a : Act} {Q : Exit → Act → World → Prop}
    (hw : Region.wanted o (yielded ops a.tmps) = true) (h : wpList P ops Q ({ o with guard := none } :: rest) a w) : wpList P ops Q (o :: rest) a w := by
  have e : o.wp P a w = ({ o with guard := none } : Oper).wp P a w := rfl
  simp only [wpList, hw, if_true] at h ⊢
  have : Region.wanted { o with guard := none } (yielded ops a.tmps) = true := rfl
  rw [this] at h
  exact h

set_option maxHeartbeats 400000 in
theorem Right_any (s : ByteArray) (w : World) (hs : s.size ≤ 140737488355328) :
    Calls Tryz.prog 32 #[.string s] w fun e w' => e = .returned (.bool (wordB s)) ∧ Below w.heap.size w w' := by
  have HL := Lib.hid (show s.data.toList.length = s.size by simp)
  have hp : ∀ W, PredOn Tryz.prog 78 #[] encU8 (fun c => !signB c) s.data.toList W := fun W W' x _ _ => (Right1_any x W').mono fun e w' ⟨h1, h2⟩ => ⟨h1, h2 ▸ Below.refl _ _⟩
  have HP := Lib.hid (fun W cap hc => ContainsFunc_u8 78 #[] (fun c => !signB c) (some ⟨w.heap.size, 0, none⟩) cap s.data.toList W (enters_of Tryz.func78 (by kernel_rfl) rfl) (hp W) (by rw [HL.out]; omega) hc)
  rw [HL.out] at HP
  clear hp
  unfold wordB
  generalize (s.data.toList.any fun c => !signB c) = r at *
  cases he : (!s.toList.isEmpty) with
  | false =>
    go_enter Tryz.func32, Tryz.ntmps32
    go_wp2
    go_ret
    exact ⟨rfl, Below.refl _ _⟩
  | true =>
    go_enter Tryz.func32, Tryz.ntmps32
    go_wp2_with (first
      | (((with_reducible refine wp_guard_call ?_ ?_); (· rfl)); ((with_reducible refine wpList_bytes_of 5 s ?_ Tryz.underlying9 Tryz.underlying113 Tryz.underlying5 ?_); (· rfl); intro cap1 w1 hown hb hsz1; (have HO1 := Lib.hid hown; have HB1 := Lib.hid hb; clear hown hb)))
      | (go_at_call 77; refine (HP.out _ cap1 HO1.out.cel).mono ?_; rintro e w2 ⟨rfl, hb2⟩))
    go_ret
    exact ⟨rfl, HB1.out.trans (hb2.mono (by omega))⟩

end Go.Proofs.YtelcmkccfjdmjaaGreatDoor

namespace Go.Proofs.YtelcmkccfjdmjaaGreatDoor
open Go.Proofs Go.RowKit Go.Shelf

theorem any_take_succ {α : Type} (p : α → Bool) (l : List α) (k : Nat) (h : k < l.length) : (l.take (k + 1)).any p = ((l.take k).any p || p l[k]) := by
  rw [List.take_succ_eq_append_getElem h, List.any_append]; simp

set_option maxHeartbeats 400000 in
theorem refRight_any (s : ByteArray) (w : World) (hs : s.size ≤ 140737488355328) :
    Calls Tryz.prog 54 #[.string s] w fun e w' => e = .returned (.bool (wordB s)) ∧ w' = w := by
  have HL := Lib.hid (show s.data.toList.length = s.size by simp)
  have HW := Lib.hid (show wordB s = (decide (0 < s.size) && !(s.data.toList.any fun c => !signB c)) by
    unfold wordB; congr 1; rw [ByteArray.toList_eq]; cases s with | mk d => cases d with | mk l => cases l <;> simp [ByteArray.size])
  generalize wordB s = r at *
  go_enter Tryz.func54, Tryz.ntmps54
  go_wp2
  go_loop [3] (fun i => ∃ k : Nat, k ≤ s.size ∧ i = .int .i64 k ∧ Aside (((s.data.toList.take k).any fun c => !signB c) = false)) (fun i => s.size - (intOf i).toNat)
  case atStart => exact ⟨0, Nat.zero_le _, rfl, rfl⟩
  case round =>
    obtain ⟨k, hk, rfl, HA⟩ := hrel
    by_cases hlt : k < s.size
    · have HT := Lib.hid (any_take_succ (fun c => !signB c) s.data.toList k (by rw [HL.out]; exact hlt))
      have HF := Lib.hid (fun h : signB s[k] = false => (List.any_eq_true.2 ⟨s[k], (by show s.data[k] ∈ _; simp), by simp [h]⟩ : (s.data.toList.any fun c => !signB c) = true))
      have HC := Lib.hid (refsign_any s[k])
      have HE := Lib.hid (show s.data.toList[k]'(by rw [HL.out]; exact hlt) = s[k] from rfl)
      cases hq : signB s[k] with
      | true =>
        have HQ := Lib.hid hq
        rw [hq] at HC
        clear hq
        go_wp2_with (go_at_call 96; refine (HC.out _).mono ?_; rintro e w1 ⟨rfl, rfl⟩)
        go_round
        case rel => exact ⟨k + 1, by omega, by go_num, by show _ = false; rw [HT.out, HA.out, HE.out, HQ.out]; rfl⟩
        case measure => simp [intOf]; omega
      | false =>
        have HQ := Lib.hid hq
        rw [hq] at HC
        clear hq
        go_wp2_with (go_at_call 96; refine (HC.out _).mono ?_; rintro e w1 ⟨rfl, rfl⟩)
        go_ret
        exact ⟨by rw [HW.out, HF.out HQ.out]; simp, rfl⟩
    · obtain rfl : k = s.size := by omega
      go_wp2
      go_ret
      exact ⟨by rw [HW.out]; have := HA.out; rw [List.take_of_length_le (by rw [HL.out]; omega)] at this; simp [this], rfl⟩

end Go.Proofs.YtelcmkccfjdmjaaGreatDoor
