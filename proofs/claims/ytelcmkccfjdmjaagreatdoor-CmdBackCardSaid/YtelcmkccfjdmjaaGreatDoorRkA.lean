/-
  Walks of package rank: which lists are ranks, and their inverse.
  Walks of package rank: the inverse of a rank.
-/
import Derived.Test.YtelcmkccfjdmjaaGreatDoorProg
import Derived.Test.YtelcmkccfjdmjaaGreatDoorRkSpec
import Derived.Deep.RegionLaw
namespace Go.Proofs.YtelcmkccfjdmjaaGreatDoor
open Go.Proofs Go.RowKit Go.Shelf

theorem Has_any (ao : Option Addr) (cap : Nat) (l : List Int) (x : Int) (w : World) (hl : l.length ≤ 9223372036854775807) (hc : Cel w ao (l.map encI)) :
    Calls Tryz.prog 183 #[.slice ao l.length cap, .int .i64 x] w fun e w' => e = .returned (.bool (decide (x ∈ l))) ∧ w = w' := by
  have HC := Lib.hid hc
  clear hc
  have HT := Lib.hid (fun k (h : k < l.length) (e : l[k] = x) => (decide_eq_true (e ▸ List.getElem_mem h) : decide (x ∈ l) = true))
  have HF := Lib.hid (fun (h : ∀ j (hj : j < l.length), l[j] ≠ x) => (decide_eq_false (fun hm => by obtain ⟨j, hj, e⟩ := List.getElem_of_mem hm; exact h j hj e) : decide (x ∈ l) = false))
  generalize decide (x ∈ l) = r at *
  go_enter Tryz.func183, Tryz.ntmps183
  go_wp2
  go_loopg [5] l.length (fun g i wr => ∃ k : Nat, k ≤ l.length ∧ l.length - k ≤ g ∧ i = .int .i64 k ∧ wr = w ∧ Aside (∀ j (hj : j < l.length), j < k → l[j] ≠ x))
  case atStart => exact ⟨0, Nat.zero_le _, by omega, rfl, rfl, fun j _ h => absurd h (Nat.not_lt_zero _)⟩
  case round =>
    obtain ⟨k, hk, hg, rfl, rfl, HA⟩ := hrel
    by_cases hlt : k < l.length
    · have hlt3 : (k : Int) < (l.length : Int) := by omega
      have hk0 : (0 : Int) ≤ (k : Int) := by omega
      obtain ⟨b, o, hao, hcell⟩ := HC.out.at hlt
      subst hao
      have H1 := Lib.hid (HT.out k hlt)
      have H2 := Lib.hid (fun h : l[k] ≠ x => (fun j (h1 : j < l.length) (h2 : j < k + 1) => (by
        by_cases e : j = k
        · subst e; exact h
        · exact HA.out j h1 (by omega) : l[j] ≠ x)))
      generalize l[k] = y at *
      by_cases e : y = x
      · have he : (y == x) = true := by simp [e]
        have HR := Lib.hid (H1.out e)
        clear e
        go_wp2
        go_ret
        exact ⟨by rw [HR.out]; rfl, rfl⟩
      · have he : (y == x) = false := by simp [e]
        have HR := Lib.hid (H2.out e)
        clear e
        go_wp2
        go_roundg (l.length - (k + 1))
        case measure => omega
        case rel => exact ⟨k + 1, by omega, by omega, by go_num, rfl, HR.out⟩
    · obtain rfl : k = l.length := by omega
      have HR := Lib.hid (HF.out fun j hj => HA.out j hj hj)
      go_wp2
      go_ret
      exact ⟨by rw [HR.out]; rfl, rfl⟩

theorem elem_bool : Elem Tryz.prog 4 (.bool false) 1 1 := ⟨by kernel_rfl, rfl, by decide⟩
theorem elem_int : Elem Tryz.prog 3 (.int .i64 0) 1 8 := ⟨by kernel_rfl, rfl, by decide⟩
abbrev encB (b : Bool) : Value := .bool b

set_option maxHeartbeats 1000000 in
theorem rkRight_any (l : List Int) (ao : Option Addr) (cap : Nat) (w : World) (hl : l.length ≤ 1000000) (hc : Cel w ao (l.map encI)) :
    Calls Tryz.prog 142 #[.slice ao l.length cap] w fun e w' => e = .returned (.bool (rankB l)) ∧ Below w.heap.size w w' := by
  have HC := Lib.hid hc
  clear hc
  have HOK := Lib.hid (@rankB_ok l)
  have HOUT := Lib.hid (fun k (hk : k < l.length) (h : l[k] < 0 ∨ (l.length : Int) ≤ l[k]) => rankB_out (List.getElem_mem hk) h)
  have HYES := Lib.hid (fun (k v : Nat) (hk : k < l.length) h1 h2 => @metL_yes l k v hk h1 h2)
  generalize rankB l = r at *
  go_enter Tryz.func142, Tryz.ntmps142
  go_wp2_with (at_make; go_must ((with_reducible refine wpList_mk w.heap.size 4 _ 1 1 elem_bool Tryz.underlying213 l.length ?_ ?_ ?_ ?_ ?_ ?_ ?_ ?_); rotate_left 4; (· rfl); (· rfl); (· exact ⟨by simp, by simp, by omega, by omega, by simp⟩); intro wm hown hbl hszm; (have Hmo := Lib.hid hown; have Hmb := Lib.hid hbl; clear hown hbl)))
  have HZ0 := Lib.hid (show (madeCells (Value.bool false).cells (l.length * 1)).toList = (metL l 0).map encB by
    show (madeCells #[Value.bool false] (l.length * 1)).toList = _
    rw [Nat.mul_one, toList_madeCells_one, metL_zero, List.map_replicate])
  go_loopg [11] l.length (fun gg i wr => ∃ k : Nat, k ≤ l.length ∧ l.length - k ≤ gg ∧ i = .int .i64 k ∧ Aside (okPre l k) ∧ Aside (w.heap.size < wr.heap.size) ∧
    Aside (wr.ownsRow w.heap.size 4 1 (.slice (some ⟨w.heap.size, 0, none⟩) l.length l.length) l.length ((metL l k).map encB)) ∧ Aside (Below w.heap.size w wr))
  case atStart => exact ⟨0, Nat.zero_le _, by omega, rfl, okPre_zero l, hszm, by have := Hmo.out; rw [HZ0.out] at this; exact this, Hmb.out⟩
  case round =>
    obtain ⟨k, hk, hg, rfl, HP, HZ, HO, HB⟩ := hrel
    clear HZ0
    by_cases hlt : k < l.length
    · obtain ⟨b, o, hao, hcell⟩ := (HC.out.go HB.out).at hlt
      subst hao
      have hlt3 : (k : Int) < (l.length : Int) := by omega
      have hk0 : (0 : Int) ≤ (k : Int) := by omega
      have HOUT2 := Lib.hid (HOUT.out k hlt)
      have HYES2 := Lib.hid (fun v h1 h2 => HYES.out k v hlt h1 h2)
      have HPS := Lib.hid (fun h0 h1 h2 => okPre_succ HP.out hlt h0 h1 h2)
      have HNO := Lib.hid (fun v h1 h2 => @metL_no l k v hlt h1 h2)
      have HST := Lib.hid (fun v h1 h2 => @metL_set l k v hlt h1 h2)
      have HGT := Lib.hid (fun v h => @metL_get l k v h)
      generalize hx : l[k] = x at *
      by_cases h0 : x < 0
      · have HR := Lib.hid (HOUT2.out (.inl h0))
        go_wp2
        go_ret
        exact ⟨by rw [HR.out]; rfl, by have := HB.out; repeat (first | exact Below.refl _ _ | refine Below.al ?_ _ | refine Below.dr ?_ _ | refine Below.drew ?_ | assumption | (refine Below.st ?_ (by assumption)))⟩
      · by_cases h1 : (l.length : Int) ≤ x
        · have HR := Lib.hid (HOUT2.out (.inr h1))
          go_wp2
          go_ret
          exact ⟨by rw [HR.out]; rfl, by have := HB.out; repeat (first | exact Below.refl _ _ | refine Below.al ?_ _ | refine Below.dr ?_ _ | refine Below.drew ?_ | assumption | (refine Below.st ?_ (by assumption)))⟩
        · obtain ⟨v, rfl⟩ : ∃ v : Nat, x = (v : Int) := ⟨x.toNat, by omega⟩
          have hv : v < l.length := by omega
          have hv3 : (v : Int) < (l.length : Int) := by omega
          have hv0 : (0 : Int) ≤ (v : Int) := by omega
          have j4 : wr.cell? ⟨w.heap.size, v, none⟩ = some (.bool ((l.take k).contains (v : Int))) := by
            rw [HO.out.cellAt v (by omega), List.getElem?_map, HGT.out v hv]; rfl
          have j6 := HO.out.frozenAt v
          cases hq : (l.take k).contains (v : Int) with
          | true =>
            have HR := Lib.hid (HYES2.out v rfl hq)
            rw [hq] at j4
            clear hq
            go_wp2
            go_ret
            exact ⟨by rw [HR.out]; rfl, by have := HB.out; repeat (first | exact Below.refl _ _ | refine Below.al ?_ _ | refine Below.dr ?_ _ | refine Below.drew ?_ | assumption | (refine Below.st ?_ (by assumption)))⟩
          | false =>
            have HPS2 := Lib.hid (HPS.out hv0 hv3 (HNO.out v rfl hq))
            have HO2 := Lib.hid (show (wr.setCell ⟨w.heap.size, v, none⟩ (encB true)).ownsRow w.heap.size 4 1 (.slice (some ⟨w.heap.size, 0, none⟩) l.length l.length) l.length ((metL l (k + 1)).map encB) by
              have := (HO.out.stored v (encB true)).1
              rw [← List.map_set, HST.out v rfl hv] at this
              exact this)
            rw [hq] at j4
            clear hq hx
            go_wp2
            go_roundg (l.length - (k + 1))
            case measure => omega
            case rel => exact ⟨k + 1, by omega, by omega, by go_num, HPS2.out, (show w.heap.size < (wr.setCell ⟨w.heap.size, v, none⟩ (encB true)).heap.size by have := HZ.out; simpa [World.setCell] using this), HO2.out, HB.out.setCell (Nat.le_refl _) _⟩
    · obtain rfl : k = l.length := by omega
      have HR := Lib.hid (HOK.out HP.out)
      go_wp2
      go_ret
      exact ⟨by rw [HR.out]; rfl, HB.out⟩

set_option maxHeartbeats 1000000 in
theorem refRkRight_any (l : List Int) (ao : Option Addr) (cap : Nat) (w : World) (hl : l.length ≤ 1000000) (hc : Cel w ao (l.map encI)) :
    Calls Tryz.prog 146 #[.slice ao l.length cap] w fun e w' => e = .returned (.bool (rankB l)) ∧ w = w' := by
  have HH := Lib.hid (fun k => Has_any ao cap l (k : Int) w (by omega) hc)
  have HF := Lib.hid (show ∀ k, k < l.length → ¬ (k : Int) ∈ l → rankB l = false by
    intro k hk h
    cases e : rankB l with
    | false => rfl
    | true => exact absurd (rankB_sub e _ (mem_rngI.2 ⟨by omega, by omega⟩)) h)
  have HT := Lib.hid (show (∀ j, j < l.length → (j : Int) ∈ l) → rankB l = true from fun h => rankB_true fun x hx => by
    obtain ⟨h0, h1⟩ := mem_rngI.1 hx
    have := h x.toNat (by omega)
    rwa [Int.toNat_of_nonneg h0] at this)
  clear hc
  generalize rankB l = r at *
  go_enter Tryz.func146, Tryz.ntmps146
  go_wp2
  go_loopg [3] l.length (fun gg i wr => ∃ k : Nat, k ≤ l.length ∧ l.length - k ≤ gg ∧ i = .int .i64 k ∧ wr = w ∧ Aside (∀ j, j < k → (j : Int) ∈ l))
  case atStart => exact ⟨0, Nat.zero_le _, by omega, rfl, rfl, fun j h => absurd h (Nat.not_lt_zero _)⟩
  case round =>
    obtain ⟨k, hk, hg, rfl, rfl, HA⟩ := hrel
    by_cases hlt : k < l.length
    · have HX := Lib.hid (HH.out k)
      have hlt3 : (k : Int) < (l.length : Int) := by omega
      by_cases hm : (k : Int) ∈ l
      · rw [decide_eq_true hm] at HX
        have HA2 := Lib.hid (show ∀ j, j < k + 1 → (j : Int) ∈ l by
          intro j hj
          by_cases e : j = k
          · subst e; exact hm
          · exact HA.out j (by omega))
        clear hm
        go_wp2_with (go_at_call 183; refine HX.out.mono ?_; rintro e w1 ⟨rfl, rfl⟩)
        go_roundg (l.length - (k + 1))
        case measure => omega
        case rel => exact ⟨k + 1, by omega, by omega, by go_num, rfl, HA2.out⟩
      · rw [decide_eq_false hm] at HX
        have HR := Lib.hid (HF.out k hlt hm)
        clear hm
        go_wp2_with (go_at_call 183; refine HX.out.mono ?_; rintro e w1 ⟨rfl, rfl⟩)
        go_ret
        exact ⟨by rw [HR.out]; rfl, rfl⟩
    · obtain rfl : k = l.length := by omega
      have HR := Lib.hid (HT.out HA.out)
      go_wp2
      go_ret
      exact ⟨by rw [HR.out]; rfl, rfl⟩

end Go.Proofs.YtelcmkccfjdmjaaGreatDoor

namespace Go.Proofs.YtelcmkccfjdmjaaGreatDoor
open Go.Proofs Go.RowKit Go.Shelf

/-- a row of numbers is handed back -/
def IntsPost (w : World) (r : List Int) (e : Ending) (w' : World) : Prop :=
  ∃ ao cap, e = .returned (.slice ao r.length cap) ∧ Cel w' ao (r.map encI) ∧ Below w.heap.size w w'

end Go.Proofs.YtelcmkccfjdmjaaGreatDoor
