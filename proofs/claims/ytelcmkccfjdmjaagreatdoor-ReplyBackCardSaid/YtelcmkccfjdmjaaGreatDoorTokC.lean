/-
  Walks: the reference's Right; are rows of texts the same.
-/
import Derived.Test.YtelcmkccfjdmjaaGreatDoorProg
import Derived.Test.YtelcmkccfjdmjaaGreatDoorTokB
namespace Go.Proofs.YtelcmkccfjdmjaaGreatDoor
open Go.Proofs Go.RowKit Go.Shelf

theorem any_take_succ {α : Type} (p : α → Bool) (l : List α) (k : Nat) (h : k < l.length) : (l.take (k + 1)).any p = ((l.take k).any p || p l[k]) := by
  rw [List.take_succ_eq_append_getElem h, List.any_append]; simp

set_option maxHeartbeats 400000 in
theorem refRight_any (s : ByteArray) (w : World) (hs : s.size ≤ 140737488355328) :
    Calls Tryz.prog 54 #[.string s] w fun e w' => e = .returned (.bool (wordB s)) ∧ w' = w := by
  have HL := Lib.hid (show s.data.toList.length = s.size by simp)
  have HW := Lib.hid (show wordB s = (decide (0 < s.size) && !(s.data.toList.any fun c => !signB c)) by
    unfold wordB; congr 1; rw [ByteArray.toList_eq]; cases s with | mk d => cases d with | mk l => cases l <;> simp [ByteArray.size])
  generalize wordB s = r at *
  go_enter Tryz.func54, Tryz.ntmps54
  go_wp2
  go_loop [3] (fun i => ∃ k : Nat, k ≤ s.size ∧ i = .int .i64 k ∧ Aside (((s.data.toList.take k).any fun c => !signB c) = false)) (fun i => s.size - (intOf i).toNat)
  case atStart => exact ⟨0, Nat.zero_le _, rfl, rfl⟩
  case round =>
    obtain ⟨k, hk, rfl, HA⟩ := hrel
    by_cases hlt : k < s.size
    · have HT := Lib.hid (any_take_succ (fun c => !signB c) s.data.toList k (by rw [HL.out]; exact hlt))
      have HF := Lib.hid (fun h : signB s[k] = false => (List.any_eq_true.2 ⟨s[k], (by show s.data[k] ∈ _; simp), by simp [h]⟩ : (s.data.toList.any fun c => !signB c) = true))
      have HC := Lib.hid (refsign_any s[k])
      have HE := Lib.hid (show s.data.toList[k]'(by rw [HL.out]; exact hlt) = s[k] from rfl)
      cases hq : signB s[k] with
      | true =>
        have HQ := Lib.hid hq
        rw [hq] at HC
        clear hq
        go_wp2_with (go_at_call 96; refine (HC.out _).mono ?_; rintro e w1 ⟨rfl, rfl⟩)
        go_round
        case rel => exact ⟨k + 1, by omega, by go_num, by show _ = false; rw [HT.out, HA.out, HE.out, HQ.out]; rfl⟩
        case measure => simp [intOf]; omega
      | false =>
        have HQ := Lib.hid hq
        rw [hq] at HC
        clear hq
        go_wp2_with (go_at_call 96; refine (HC.out _).mono ?_; rintro e w1 ⟨rfl, rfl⟩)
        go_ret
        exact ⟨by rw [HW.out, HF.out HQ.out]; simp, rfl⟩
    · obtain rfl : k = s.size := by omega
      go_wp2
      go_ret
      exact ⟨by rw [HW.out]; have := HA.out; rw [List.take_of_length_le (by rw [HL.out]; omega)] at this; simp [this], rfl⟩

end Go.Proofs.YtelcmkccfjdmjaaGreatDoor
