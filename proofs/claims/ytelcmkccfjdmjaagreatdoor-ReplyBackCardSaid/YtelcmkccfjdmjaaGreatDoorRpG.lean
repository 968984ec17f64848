/-
  Walks of package codes: the fault of a word.
-/
import Derived.Test.YtelcmkccfjdmjaaGreatDoorProg
import Derived.Test.YtelcmkccfjdmjaaGreatDoorRpF
namespace Go.Proofs.YtelcmkccfjdmjaaGreatDoor
open Go.Proofs Go.RowKit Go.Shelf Go.Sort

theorem slicesIndex_any (l : List ByteArray) (s : ByteArray) (ao : Option Addr) (cap : Nat) (w : World) (hl : l.length ≤ 9223372036854775807) (hc : Cel w ao (l.map encS)) :
    Calls Tryz.prog 76 #[.slice ao l.length cap, .string s] w fun e w' => e = .returned (.int .i64 (idxI (fun x => decide (x = s)) l)) ∧ w' = w := by
  have HC := Lib.hid hc
  have HN := Lib.hid (fun k (hlt : k < l.length) (h : l[k] = s) hm => idxI_hit (fun x => decide (x = s)) l k hlt (by simpa using h) hm)
  have HM := Lib.hid (fun hm => idxI_miss (fun x => decide (x = s)) l hm)
  clear hc
  generalize idxI (fun x => decide (x = s)) l = r at *
  go_enter Tryz.func76, Tryz.ntmps76
  go_wp2
  go_loopg [8] l.length (fun g i wr => ∃ k : Nat, k ≤ l.length ∧ l.length - k ≤ g ∧ i = .int .i64 k ∧ wr = w ∧ Aside (∀ j (h : j < l.length), j < k → decide (l[j] = s) = false))
  case atStart => exact ⟨0, Nat.zero_le _, by omega, rfl, rfl, fun j _ h => absurd h (Nat.not_lt_zero _)⟩
  case round =>
    obtain ⟨k, hk, hg, rfl, rfl, HA⟩ := hrel
    by_cases hlt : k < l.length
    · have hlt3 : (k : Int) < (l.length : Int) := by omega
      have hk0 : (0 : Int) ≤ (k : Int) := by omega
      obtain ⟨b, o, hao, hcell⟩ := HC.out.at hlt
      subst hao
      by_cases hq : l[k] = s
      · have HR := Lib.hid (HN.out k hlt hq (fun j h1 h2 => by have := HA.out j h1 h2; simpa using this))
        rw [hq] at hcell
        have hb : (s.toList == s.toList) = true := by simp
        clear hq
        go_wp2
        go_ret
        exact ⟨by rw [HR.out]; rfl, rfl⟩
      · have HA2 := Lib.hid (fun j (h1 : j < l.length) (h2 : j < k + 1) => (by
          by_cases e : j = k
          · subst e; simpa using hq
          · have := HA.out j h1 (by omega); simpa using this : decide (l[j] = s) = false))
        have hb : (s.toList == (l[k]).toList) = false := by
          rw [beq_eq_false_iff_ne]
          intro e
          rw [ByteArray.toList_eq, ByteArray.toList_eq] at e
          exact hq (Go.WideShapes.bytes_inj e.symm)
        clear hq
        generalize l[k] = x at *
        go_wp2
        go_roundg (l.length - (k + 1))
        case measure => omega
        case rel => exact ⟨k + 1, by omega, by omega, by go_num, rfl, fun j h1 h2 => by have := HA2.out j h1 h2; simpa using this⟩
    · obtain rfl : k = l.length := by omega
      have HR := Lib.hid (HM.out (fun j h => by have := HA.out j h h; simpa using this))
      go_wp2
      go_ret
      exact ⟨by rw [HR.out]; rfl, rfl⟩

set_option maxRecDepth 100000 in
set_option maxHeartbeats 1000000 in
theorem codesOf_any (s : ByteArray) (w : World) : Calls Tryz.prog 31 #[.string s] w fun e w' => e = .returned (.tuple #[.int .i64 (ofW s).1, .bool (ofW s).2]) ∧ Below w.heap.size w w' := by
  have HW := Lib.hid (fun W => codesWords_any W)
  have HI := Lib.hid (fun b W h => slicesIndex_any faultL s (some ⟨b, 0, none⟩) 15 W (by decide) h)
  have hge := idxI_ge (fun x => decide (x = s)) faultL
  have HV := Lib.hid (show ofW s = (max (idxI (fun x => decide (x = s)) faultL) 0, decide (0 ≤ idxI (fun x => decide (x = s)) faultL)) by
    unfold ofW
    split
    · rename_i h
      rw [show max (idxI (fun x => decide (x = s)) faultL) 0 = 0 by omega, decide_eq_false (by omega)]
    · rename_i h
      rw [show max (idxI (fun x => decide (x = s)) faultL) 0 = idxI (fun x => decide (x = s)) faultL by omega, decide_eq_true (by omega)])
  generalize ofW s = r at *
  generalize idxI (fun x => decide (x = s)) faultL = i at *
  unfold faultA at HW
  go_enter Tryz.func31, Tryz.ntmps31
  go_wp2_with (first
    | (go_at_call 75; refine (HW.out _).mono ?_; rintro e w1 ⟨rfl, hb1⟩)
    | (go_at_call 76; refine (HI.out w1.heap.size _ (cel_at rfl faultA_list)).mono ?_; rintro e w2 ⟨rfl, rfl⟩))
  refine bodyPost_ret (v := .tuple #[.int .i64 (max i 0), .bool (decide (0 ≤ i))]) (by simp [results, Tryz.results31, go_sem]; try rfl) rfl ?_
  exact ⟨by rw [HV.out], hb1.al _⟩

end Go.Proofs.YtelcmkccfjdmjaaGreatDoor
