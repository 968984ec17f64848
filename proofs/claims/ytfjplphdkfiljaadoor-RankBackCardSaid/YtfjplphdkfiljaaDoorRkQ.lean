/-
  Walks of package rank: the rank of keys, as the document has it.
-/
import Derived.Test.YtfjplphdkfiljaaDoorProg
import Derived.Test.YtfjplphdkfiljaaDoorRkP
import Derived.Test.YtfjplphdkfiljaaDoorByW
namespace Go.Proofs.YtfjplphdkfiljaaDoor
open Go.Proofs Go.RowKit Go.Shelf

def cntA (keys : List Int) (i k : Nat) : Nat := (List.range k).countP fun k => aheadB keys k i
theorem cntA_zero (keys : List Int) (i : Nat) : cntA keys i 0 = 0 := rfl
theorem cntA_yes {keys : List Int} {i k : Nat} (h : aheadB keys k i = true) : cntA keys i (k + 1) = cntA keys i k + 1 := by unfold cntA; rw [List.range_succ, List.countP_append]; simp [h]
theorem cntA_no {keys : List Int} {i k : Nat} (h : aheadB keys k i = false) : cntA keys i (k + 1) = cntA keys i k := by unfold cntA; rw [List.range_succ, List.countP_append]; simp [h]
theorem cntA_le (keys : List Int) (i k : Nat) : cntA keys i k ≤ k := by
  have := List.countP_le_length (p := fun k => aheadB keys k i) (l := List.range k)
  rw [List.length_range] at this
  exact this
theorem byL_take {keys : List Int} {i : Nat} (h : i < keys.length) : (byL keys).take (i + 1) = (byL keys).take i ++ [(cntA keys i keys.length : Int)] := by
  rw [List.take_succ_eq_append_getElem (by rw [byL_length]; exact h)]
  congr 1
  simp [byL, cntA]

set_option maxHeartbeats 2000000 in
theorem refBy_any (keys : List Int) (ko : Option Addr) (kc : Nat) (w : World) (hN : keys.length ≤ 1000000) (hc : Cel w ko (keys.map encW)) :
    Calls Tryd.prog 66 #[.slice ko keys.length kc] w (IntsPost w (byL keys)) := by
  have HC := Lib.hid hc
  have HLN := Lib.hid (byL_length keys)
  have HT := Lib.hid (fun i => @byL_take keys i)
  have HTA := Lib.hid (show (byL keys).take keys.length = byL keys by rw [← byL_length, List.take_length])
  generalize byL keys = r at *
  clear hc
  go_enter Tryd.func66, Tryd.ntmps66
  go_wp2
  go_loopg [3, 4] keys.length (fun gg v vi wr => ∃ i : Nat, i ≤ keys.length ∧ keys.length - i ≤ gg ∧ vi = .int .i64 i ∧ Aside (wr.ownsRow w.heap.size 3 1 v i ((r.take i).map encI)) ∧ Aside (Below w.heap.size w wr))
  case atStart => exact ⟨0, Nat.zero_le _, by omega, rfl, by rw [List.take_zero]; exact World.ownsRow_nil _ _ _ _, Below.refl _ _⟩
  case round =>
    obtain ⟨i, hi, hg, rfl, HO, HB⟩ := hrel
    by_cases hlt : i < keys.length
    · have hlt3 : (i : Int) < (keys.length : Int) := by omega
      have hi0 : (0 : Int) ≤ (i : Int) := by omega
      have HT2 := Lib.hid (HT.out i hlt)
      have HZ := Lib.hid (cntA_zero keys i)
      have HY := Lib.hid (fun k => @cntA_yes keys i k)
      have HNO := Lib.hid (fun k => @cntA_no keys i k)
      have HLE := Lib.hid (cntA_le keys i)
      generalize cntA keys i = C at *
      go_wp2
      go_loopg [5, 6] keys.length (fun gg vn vk wr => ∃ k : Nat, k ≤ keys.length ∧ keys.length - k ≤ gg ∧ vk = .int .i64 k ∧ vn = .int .i64 (C k) ∧ Aside (wr.ownsRow w.heap.size 3 1 u3 i ((r.take i).map encI)) ∧ Aside (Below w.heap.size w wr))
      case atStart => exact ⟨0, Nat.zero_le _, by omega, rfl, by rw [HZ.out]; rfl, HO.out, HB.out⟩
      case round =>
        clear HO HB HZ
        obtain ⟨k, hk, hg2, rfl, rfl, HO, HB⟩ := hrel
        by_cases hkl : k < keys.length
        · have hkl3 : (k : Int) < (keys.length : Int) := by omega
          have hk0 : (0 : Int) ≤ (k : Int) := by omega
          have hck := HLE.out k
          obtain ⟨b, o, rfl, c1⟩ := (HC.out.go HB.out).at hkl
          obtain ⟨b', o', e, c2⟩ := (HC.out.go HB.out).at hlt
          cases e
          have HAH := Lib.hid (show aheadB keys k i = (decide (keys[k] < keys[i]) || (decide (keys[k] = keys[i]) && decide (k < i))) by unfold aheadB; simp [List.getD, hkl, hlt])
          have HYK := Lib.hid (HY.out k)
          have HNK := Lib.hid (HNO.out k)
          generalize keys[k] = x at *
          generalize keys[i] = y at *
          by_cases h1 : x < y
          · have HQ := Lib.hid (HYK.out (by rw [HAH.out]; simp [h1]))
            go_wp2
            go_quiet (fail)
            go_wp2
            go_roundg (keys.length - (k + 1))
            case measure => omega
            case rel => exact ⟨k + 1, by omega, by omega, by go_num, by first | (rw [HQ.out]; done) | (rw [HQ.out]; go_num), owns_goD HO.out (below_drewN (Below.refl _ _) _), below_drewN HB.out _⟩
          · by_cases h2 : x = y
            · subst h2
              have h2b : (x == x) = true := by simp
              by_cases h3 : k < i
              · have h3i : (k : Int) < (i : Int) := by omega
                have HQ := Lib.hid (HYK.out (by rw [HAH.out]; simp [h3]))
                go_wp2
                go_quiet (fail)
                go_wp2
                go_roundg (keys.length - (k + 1))
                case measure => omega
                case rel => exact ⟨k + 1, by omega, by omega, by go_num, by first | (rw [HQ.out]; done) | (rw [HQ.out]; go_num), owns_goD HO.out (below_drewN (Below.refl _ _) _), below_drewN HB.out _⟩
              · have h3i : ¬ (k : Int) < (i : Int) := by omega
                have HQ := Lib.hid (HNK.out (by rw [HAH.out]; simp [h3]))
                go_wp2
                go_quiet (fail)
                go_wp2
                go_roundg (keys.length - (k + 1))
                case measure => omega
                case rel => exact ⟨k + 1, by omega, by omega, by go_num, by first | (rw [HQ.out]; done) | (rw [HQ.out]; go_num), owns_goD HO.out (below_drewN (Below.refl _ _) _), below_drewN HB.out _⟩
            · have h2b : (x == y) = false := by simp [h2]
              have HQ := Lib.hid (HNK.out (by rw [HAH.out]; simp [h1, h2]))
              go_wp2
              go_quiet (fail)
              go_wp2
              go_roundg (keys.length - (k + 1))
              case measure => omega
              case rel => exact ⟨k + 1, by omega, by omega, by go_num, by first | (rw [HQ.out]; done) | (rw [HQ.out]; go_num), owns_goD HO.out (below_drewN (Below.refl _ _) _), below_drewN HB.out _⟩
        · obtain rfl : k = keys.length := by omega
          have hcn := HLE.out keys.length
          go_wp2_with (at_builtin; go_must ((with_reducible refine wpList_app w.heap.size 3 _ 1 8 elem_int Tryd.underlying69 _ i _ ⟨wr.heap.size, 0, none⟩ 1 1 [encI (C keys.length)] ?_ ?_ (HO.out.alloc _) (one_cell _ _ _) (one_int _) ⟨rfl, by decide, by omega, by omega, by have := HB.out.size; simp; omega⟩ ?_); (· rfl); (· rfl); intro g6 cap6 w6 hown hgrow hbl hat hlt6; (have HO6 := Lib.hid hown; have HB6 := Lib.hid hbl; clear hown hgrow hbl hat)))
          go_roundg (keys.length - (i + 1))
          case measure => omega
          case rel => exact ⟨i + 1, by omega, by omega, by go_num, by rw [HT2.out, List.map_append]; exact HO6.out, (HB.out.al _).trans HB6.out⟩
    · obtain rfl : i = keys.length := by omega
      have HO2 := Lib.hid (show wr.ownsRow w.heap.size 3 1 u3 r.length (r.map encI) by have := HO.out; rw [HTA.out] at this; rw [HLN.out]; exact this)
      obtain ⟨ao, cap, e, hc⟩ := Cel.of_owns HO2.out
      have HC2 := Lib.hid hc
      clear hc
      cases e
      go_wp2
      go_ret
      exact ⟨ao, cap, by first | rfl | (rw [HLN.out]; rfl) | (simp; done), HC2.out, HB.out⟩

end Go.Proofs.YtfjplphdkfiljaaDoor
