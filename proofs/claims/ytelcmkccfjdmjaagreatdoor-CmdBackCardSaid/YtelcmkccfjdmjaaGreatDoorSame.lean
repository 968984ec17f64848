/-
  Walks: are two rows the same (numbers, wide numbers, texts).
-/
import Derived.Test.YtelcmkccfjdmjaaGreatDoorProg
import Derived.Test.YtelcmkccfjdmjaaGreatDoorBase
namespace Go.Proofs.YtelcmkccfjdmjaaGreatDoor
open Go.Proofs Go.RowKit Go.Shelf
set_option maxHeartbeats 400000 in
theorem sameWords_any (ao bo : Option Addr) (ca cb : Nat) (la lb : List ByteArray) (w : World) (hla : la.length ≤ 9223372036854775807) (hlb : lb.length ≤ 9223372036854775807)
    (ha : Cel w ao (la.map encS)) (hb : Cel w bo (lb.map encS)) :
    Calls Tryz.prog 38 #[.slice ao la.length ca, .slice bo lb.length cb] w fun e w' => e = .returned (.bool (decide (la = lb))) ∧ ∃ n, w' = w.drewN n := by
  have HA := Lib.hid ha
  have HB := Lib.hid hb
  clear ha hb
  by_cases hl : la.length = lb.length
  · have hn2 : ((la.length : Int) != (lb.length : Int)) = false := by simp; omega
    have HN := Lib.hid hl
    clear hl
    have HD := Lib.hid (fun k (h1 : k < la.length) (h2 : la[k] ≠ lb[k]'(by have := HN.out; omega)) => (decide_eq_false (fun e => h2 (by subst e; rfl)) : decide (la = lb) = false))
    have HE := Lib.hid (fun h : (∀ j (h : j < la.length), la[j] = lb[j]'(by have := HN.out; omega)) => (decide_eq_true (List.ext_getElem HN.out (fun i h1 h2 => h i h1)) : decide (la = lb) = true))
    generalize decide (la = lb) = r at *
    go_enter Tryz.func38, Tryz.ntmps38
    go_wp2
    go_loopg [5] la.length (fun g i wr => ∃ k q : Nat, k ≤ la.length ∧ la.length - k ≤ g ∧ i = .int .i64 k ∧ wr = w.drewN q ∧ Aside (∀ j (h : j < la.length), j < k → la[j] = lb[j]'(by have := HN.out; omega)))
    case atStart => exact ⟨0, 0, Nat.zero_le _, by omega, rfl, rfl, fun j _ h => absurd h (Nat.not_lt_zero _)⟩
    case round =>
      obtain ⟨k, q, hk, hg, rfl, rfl, HF⟩ := hrel
      by_cases hlt : k < la.length
      · have hlt2 : k < lb.length := by have := HN.out; omega
        have hlt3 : (k : Int) < (la.length : Int) := by omega
        have hlt4 : (k : Int) < (lb.length : Int) := by omega
        have hk0 : (0 : Int) ≤ (k : Int) := by omega
        obtain ⟨b1, o1, hao, hc1⟩ := HA.out.at hlt
        obtain ⟨b2, o2, hbo, hc2⟩ := HB.out.at hlt2
        subst hao hbo
        have HD2 := Lib.hid (HD.out k hlt)
        have HM := Lib.hid (fun h : la[k] = lb[k] => (fun j (h1 : j < la.length) (h2 : j < k + 1) => (by
          by_cases e : j = k
          · subst e; exact h
          · exact HF.out j h1 (by omega) : la[j] = lb[j]'(by have := HN.out; omega))))
        generalize la[k] = x at *
        generalize lb[k] = y at *
        go_wp2
        go_quiet (fail)
        go_wp2
        · have ht := ne_s (by assumption)
          go_ret
          exact ⟨by rw [HD2.out ht]; rfl, q + nq, World.drewN_drewN _ _ _⟩
        · have ht := eq_s (by assumption)
          go_roundg (la.length - (k + 1))
          case measure => omega
          case rel => exact ⟨k + 1, q + nq, by omega, by omega, by go_num, rfl, HM.out ht⟩
      · obtain rfl : k = la.length := by omega
        go_wp2
        go_ret
        exact ⟨by rw [HE.out (fun j h => HF.out j h h)]; rfl, q, rfl⟩
  · have hn2 : ((la.length : Int) != (lb.length : Int)) = true := by simp; omega
    have HN := Lib.hid (decide_eq_false (fun e => hl (by subst e; rfl)) : decide (la = lb) = false)
    clear hl
    go_enter Tryz.func38, Tryz.ntmps38
    go_wp2
    go_ret
    exact ⟨by rw [HN.out]; rfl, 0, rfl⟩
set_option maxHeartbeats 400000 in
theorem sameInts_any (ao bo : Option Addr) (ca cb : Nat) (la lb : List Int) (w : World) (hla : la.length ≤ 9223372036854775807) (hlb : lb.length ≤ 9223372036854775807)
    (ha : Cel w ao (la.map encI)) (hb : Cel w bo (lb.map encI)) :
    Calls Tryz.prog 29 #[.slice ao la.length ca, .slice bo lb.length cb] w fun e w' => e = .returned (.bool (decide (la = lb))) ∧ ∃ n, w' = w.drewN n := by
  have HA := Lib.hid ha
  have HB := Lib.hid hb
  clear ha hb
  by_cases hl : la.length = lb.length
  · have hn2 : ((la.length : Int) != (lb.length : Int)) = false := by simp; omega
    have HN := Lib.hid hl
    clear hl
    have HD := Lib.hid (fun k (h1 : k < la.length) (h2 : la[k] ≠ lb[k]'(by have := HN.out; omega)) => (decide_eq_false (fun e => h2 (by subst e; rfl)) : decide (la = lb) = false))
    have HE := Lib.hid (fun h : (∀ j (h : j < la.length), la[j] = lb[j]'(by have := HN.out; omega)) => (decide_eq_true (List.ext_getElem HN.out (fun i h1 h2 => h i h1)) : decide (la = lb) = true))
    generalize decide (la = lb) = r at *
    go_enter Tryz.func29, Tryz.ntmps29
    go_wp2
    go_loopg [5] la.length (fun g i wr => ∃ k q : Nat, k ≤ la.length ∧ la.length - k ≤ g ∧ i = .int .i64 k ∧ wr = w.drewN q ∧ Aside (∀ j (h : j < la.length), j < k → la[j] = lb[j]'(by have := HN.out; omega)))
    case atStart => exact ⟨0, 0, Nat.zero_le _, by omega, rfl, rfl, fun j _ h => absurd h (Nat.not_lt_zero _)⟩
    case round =>
      obtain ⟨k, q, hk, hg, rfl, rfl, HF⟩ := hrel
      by_cases hlt : k < la.length
      · have hlt2 : k < lb.length := by have := HN.out; omega
        have hlt3 : (k : Int) < (la.length : Int) := by omega
        have hlt4 : (k : Int) < (lb.length : Int) := by omega
        have hk0 : (0 : Int) ≤ (k : Int) := by omega
        obtain ⟨b1, o1, hao, hc1⟩ := HA.out.at hlt
        obtain ⟨b2, o2, hbo, hc2⟩ := HB.out.at hlt2
        subst hao hbo
        have HD2 := Lib.hid (HD.out k hlt)
        have HM := Lib.hid (fun h : la[k] = lb[k] => (fun j (h1 : j < la.length) (h2 : j < k + 1) => (by
          by_cases e : j = k
          · subst e; exact h
          · exact HF.out j h1 (by omega) : la[j] = lb[j]'(by have := HN.out; omega))))
        generalize la[k] = x at *
        generalize lb[k] = y at *
        go_wp2
        go_quiet (fail)
        go_wp2
        · have ht := ne_i (by assumption)
          go_ret
          exact ⟨by rw [HD2.out ht]; rfl, q + nq, World.drewN_drewN _ _ _⟩
        · have ht := eq_i (by assumption)
          go_roundg (la.length - (k + 1))
          case measure => omega
          case rel => exact ⟨k + 1, q + nq, by omega, by omega, by go_num, rfl, HM.out ht⟩
      · obtain rfl : k = la.length := by omega
        go_wp2
        go_ret
        exact ⟨by rw [HE.out (fun j h => HF.out j h h)]; rfl, q, rfl⟩
  · have hn2 : ((la.length : Int) != (lb.length : Int)) = true := by simp; omega
    have HN := Lib.hid (decide_eq_false (fun e => hl (by subst e; rfl)) : decide (la = lb) = false)
    clear hl
    go_enter Tryz.func29, Tryz.ntmps29
    go_wp2
    go_ret
    exact ⟨by rw [HN.out]; rfl, 0, rfl⟩
set_option maxHeartbeats 400000 in
theorem sameWide_any (ao bo : Option Addr) (ca cb : Nat) (la lb : List Int) (w : World) (hla : la.length ≤ 9223372036854775807) (hlb : lb.length ≤ 9223372036854775807)
    (ha : Cel w ao (la.map encW)) (hb : Cel w bo (lb.map encW)) :
    Calls Tryz.prog 36 #[.slice ao la.length ca, .slice bo lb.length cb] w fun e w' => e = .returned (.bool (decide (la = lb))) ∧ ∃ n, w' = w.drewN n := by
  have HA := Lib.hid ha
  have HB := Lib.hid hb
  clear ha hb
  by_cases hl : la.length = lb.length
  · have hn2 : ((la.length : Int) != (lb.length : Int)) = false := by simp; omega
    have HN := Lib.hid hl
    clear hl
    have HD := Lib.hid (fun k (h1 : k < la.length) (h2 : la[k] ≠ lb[k]'(by have := HN.out; omega)) => (decide_eq_false (fun e => h2 (by subst e; rfl)) : decide (la = lb) = false))
    have HE := Lib.hid (fun h : (∀ j (h : j < la.length), la[j] = lb[j]'(by have := HN.out; omega)) => (decide_eq_true (List.ext_getElem HN.out (fun i h1 h2 => h i h1)) : decide (la = lb) = true))
    generalize decide (la = lb) = r at *
    go_enter Tryz.func36, Tryz.ntmps36
    go_wp2
    go_loopg [5] la.length (fun g i wr => ∃ k q : Nat, k ≤ la.length ∧ la.length - k ≤ g ∧ i = .int .i64 k ∧ wr = w.drewN q ∧ Aside (∀ j (h : j < la.length), j < k → la[j] = lb[j]'(by have := HN.out; omega)))
    case atStart => exact ⟨0, 0, Nat.zero_le _, by omega, rfl, rfl, fun j _ h => absurd h (Nat.not_lt_zero _)⟩
    case round =>
      obtain ⟨k, q, hk, hg, rfl, rfl, HF⟩ := hrel
      by_cases hlt : k < la.length
      · have hlt2 : k < lb.length := by have := HN.out; omega
        have hlt3 : (k : Int) < (la.length : Int) := by omega
        have hlt4 : (k : Int) < (lb.length : Int) := by omega
        have hk0 : (0 : Int) ≤ (k : Int) := by omega
        obtain ⟨b1, o1, hao, hc1⟩ := HA.out.at hlt
        obtain ⟨b2, o2, hbo, hc2⟩ := HB.out.at hlt2
        subst hao hbo
        have HD2 := Lib.hid (HD.out k hlt)
        have HM := Lib.hid (fun h : la[k] = lb[k] => (fun j (h1 : j < la.length) (h2 : j < k + 1) => (by
          by_cases e : j = k
          · subst e; exact h
          · exact HF.out j h1 (by omega) : la[j] = lb[j]'(by have := HN.out; omega))))
        generalize la[k] = x at *
        generalize lb[k] = y at *
        go_wp2
        go_quiet (fail)
        go_wp2
        · have ht := ne_i (by assumption)
          go_ret
          exact ⟨by rw [HD2.out ht]; rfl, q + nq, World.drewN_drewN _ _ _⟩
        · have ht := eq_i (by assumption)
          go_roundg (la.length - (k + 1))
          case measure => omega
          case rel => exact ⟨k + 1, q + nq, by omega, by omega, by go_num, rfl, HM.out ht⟩
      · obtain rfl : k = la.length := by omega
        go_wp2
        go_ret
        exact ⟨by rw [HE.out (fun j h => HF.out j h h)]; rfl, q, rfl⟩
  · have hn2 : ((la.length : Int) != (lb.length : Int)) = true := by simp; omega
    have HN := Lib.hid (decide_eq_false (fun e => hl (by subst e; rfl)) : decide (la = lb) = false)
    clear hl
    go_enter Tryz.func36, Tryz.ntmps36
    go_wp2
    go_ret
    exact ⟨by rw [HN.out]; rfl, 0, rfl⟩
end Go.Proofs.YtelcmkccfjdmjaaGreatDoor
