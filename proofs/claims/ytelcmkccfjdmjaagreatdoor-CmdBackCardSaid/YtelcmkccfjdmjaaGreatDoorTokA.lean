/-
  Walks of package token and its reference: letters, Upper, Right.
-/
import Derived.Test.YtelcmkccfjdmjaaGreatDoorProg
import Derived.Test.YtelcmkccfjdmjaaGreatDoorBase
namespace Go.Proofs.YtelcmkccfjdmjaaGreatDoor
open Go.Proofs Go.RowKit Go.Shelf

theorem elem_u8 : Elem Tryz.prog 5 (.int .u8 0) 1 1 := ⟨by kernel_rfl, rfl, by decide⟩
theorem elem_string : Elem Tryz.prog 9 (.string ByteArray.empty) 1 16 := ⟨by kernel_rfl, rfl, by decide⟩

def upB (c : UInt8) : UInt8 := if 97 ≤ c.toNat ∧ c.toNat ≤ 122 then c - 32 else c
def upS (s : ByteArray) : ByteArray := ⟨(s.data.toList.map upB).toArray⟩

theorem upB_in (c : UInt8) (h : 97 ≤ c.toNat ∧ c.toNat ≤ 122) : (((upB c).toNat : Int)) = (c.toNat : Int) - 32 := by
  unfold upB
  rw [if_pos h, UInt8.toNat_sub_of_le]
  · simp; omega
  · rw [UInt8.le_iff_toNat_le]; simp; omega
theorem upB_out (c : UInt8) (h : ¬ (97 ≤ c.toNat ∧ c.toNat ≤ 122)) : upB c = c := by
  unfold upB
  rw [if_neg h]

set_option maxHeartbeats 400000 in
theorem Upper_any (s : ByteArray) (w : World) (hs : s.size ≤ 140737488355328) :
    Calls Tryz.prog 70 #[.string s] w fun e w' => e = .returned (.string (upS s)) ∧ Below w.heap.size w w' := by
  have HL := Lib.hid (show s.data.toList.length = s.size by simp)
  go_enter Tryz.func70, Tryz.ntmps70
  go_wp2_with (((with_reducible refine wpList_bytes_of 5 s ?_ Tryz.underlying9 Tryz.underlying113 Tryz.underlying5 ?_); · rfl); intro cap w1 hown hb hsz; (have HO := Lib.hid hown; have HB := Lib.hid hb; clear hown hb))
  go_loopg [10] s.size (fun g i wr => ∃ k : Nat, k ≤ s.size ∧ s.size - k ≤ g ∧ i = .int .i64 k ∧ w.heap.size < wr.heap.size ∧ Aside (Own wr w.heap.size 5 ((mid upB s.data.toList k).map encU8) ∧ Below w.heap.size w wr))
  case atStart => exact ⟨0, Nat.zero_le _, by omega, rfl, hsz, by rw [mid_zero]; exact HO.out, HB.out⟩
  case round =>
    obtain ⟨k, hk, hg, rfl, hsz1, HA⟩ := hrel
    clear HO HB hsz
    by_cases hlt : k < s.size
    · have hkl : k < s.data.toList.length := by rw [HL.out]; exact hlt
      have hcell : wr.cell? ⟨w.heap.size, k, none⟩ = some (.int .u8 (s.data.toList[k].toNat : Int)) := by
        refine HA.out.1.cell ?_
        rw [List.getElem?_map, mid_get _ _ _ hkl]; rfl
      have hfr : wr.frozen? ⟨w.heap.size, k, none⟩ = false := HA.out.1.free (by rw [List.length_map, mid_length, HL.out]; omega)
      have H1 : Aside (Own (wr.setCell ⟨w.heap.size, k, none⟩ (encU8 (upB s.data.toList[k]))) w.heap.size 5 ((mid upB s.data.toList (k + 1)).map encU8)) := by
        have := HA.out.1.set k (encU8 (upB s.data.toList[k]))
        rw [← List.map_set, mid_set _ _ _ hkl] at this
        exact this
      have H2 : Aside (upB s.data.toList[k] = s.data.toList[k] → Own wr w.heap.size 5 ((mid upB s.data.toList (k + 1)).map encU8)) := by
        intro h
        rw [← mid_same _ _ _ hkl h]
        exact HA.out.1
      generalize s.data.toList[k] = c at hcell H1 H2
      have hc0 : (0 : Int) ≤ (c.toNat : Int) := by omega
      have hc1 : (c.toNat : Int) ≤ 255 := by have := c.toNat_lt; omega
      go_wp2
      · go_roundg (s.size - (k + 1))
        case measure => omega
        case rel =>
          refine ⟨k + 1, by omega, by omega, by go_num, by simpa using hsz1, ?_, HA.out.2.setCell (by simp) _⟩
          rw [encU8, upB_in c (by omega)] at H1
          exact H1.out
      all_goals
        go_roundg (s.size - (k + 1))
        case measure => omega
        case rel => exact ⟨k + 1, by omega, by omega, by go_num, hsz1, H2.out (upB_out c (by omega)), HA.out.2⟩
    · obtain rfl : k = s.size := by omega
      go_wp2_with ((with_reducible refine wpList_string_of 5 (s.data.toList.map upB) (some ⟨w.heap.size, 0, none⟩) s.size cap ?_ ?_ ?_ Tryz.underlying113 Tryz.underlying9 Tryz.underlying5 ?_); (· rw [List.length_map, HL.out]); (· rfl); (· have h1 := HA.out.1.cel; rw [mid_all _ _ _ (by rw [HL.out]; omega)] at h1; exact h1))
      go_ret
      exact ⟨rfl, HA.out.2⟩

set_option maxHeartbeats 400000 in
theorem refUpper_any (s : ByteArray) (w : World) (hs : s.size ≤ 140737488351232) :
    Calls Tryz.prog 106 #[.string s] w fun e w' => e = .returned (.string (upS s)) ∧ Below w.heap.size w w' := by
  have HL := Lib.hid (show s.data.toList.length = s.size by simp)
  go_enter Tryz.func106, Tryz.ntmps106
  go_wp2
  go_loopg [3, 4] s.size (fun g v i wr => ∃ (k : Nat) (ao : Option Addr) (cap : Nat), k ≤ s.size ∧ s.size - k ≤ g ∧ i = .int .i64 k ∧ v = .slice ao k cap ∧ Aside (wr.ownsRow w.heap.size 5 1 (.slice ao k cap) k (((s.data.toList.take k).map upB).map encU8) ∧ Below w.heap.size w wr))
  case atStart => exact ⟨0, none, 0, Nat.zero_le _, by omega, rfl, rfl, World.ownsRow_nil _ _ _ _, Below.refl _ _⟩
  case round =>
    obtain ⟨k, ao, cap, hk, hg, rfl, rfl, HA⟩ := hrel
    by_cases hlt : k < s.size
    · have hc0 : (0 : Int) ≤ (s[k].toNat : Int) := by omega
      have hc1 : (s[k].toNat : Int) ≤ 255 := by have := s[k].toNat_lt; omega
      have hkl : k < s.data.toList.length := by rw [HL.out]; exact hlt
      have HT := Lib.hid (show (s.data.toList.take (k + 1)).map upB = (s.data.toList.take k).map upB ++ [upB s[k]] by rw [List.take_succ_eq_append_getElem hkl, List.map_append]; rfl)
      have HU := Lib.hid (show 97 ≤ s[k].toNat ∧ s[k].toNat ≤ 122 → encU8 (upB s[k]) = .int .u8 ((s[k].toNat : Int) - 32) from fun h => by rw [encU8, upB_in _ h])
      have HV := Lib.hid (show ¬ (97 ≤ s[k].toNat ∧ s[k].toNat ≤ 122) → encU8 (upB s[k]) = .int .u8 (s[k].toNat : Int) from fun h => by rw [encU8, upB_out _ h])
      go_wp2_with (at_builtin; go_must ((with_reducible refine wpList_app w.heap.size 5 _ 1 1 elem_u8 Tryz.underlying113 (.slice ao k cap) k _ ⟨wr.heap.size, 0, none⟩ 1 1 ?_ ?_ ?_ (World.ownsRow.alloc HA.out.1 _) ?_ ?_ ?_ ?_); rotate_left 1; (· rfl); (· rfl); (· exact cell_one_new _ _ _); (· exact one_cells rfl); (· exact ⟨rfl, by decide, by omega, by omega, by have := HA.out.2.size; simp; omega⟩); intro g' cap' w1 hown1 hgrow hb1 hat hlt1; (have H1 := Lib.hid hown1; have H2 := Lib.hid hb1; clear hown1 hgrow hb1 hat hlt1)))
      all_goals
        go_roundg (s.size - (k + 1))
        case measure => omega
        case rel =>
          refine ⟨k + 1, some ⟨g', 0, none⟩, cap', by omega, by omega, by go_num, rfl, ?_, HA.out.2.trans ((Below.alloc (Below.refl _ _) (by have := HA.out.2.size; omega) _).trans H2.out)⟩
          rw [HT.out, List.map_append, List.map_singleton]
          first | (rw [HU.out (by omega)]; exact H1.out) | (rw [HV.out (by omega)]; exact H1.out)
    · obtain rfl : k = s.size := by omega
      go_wp2_with ((with_reducible refine wpList_string_of 5 (s.data.toList.map upB) ao s.size cap ?_ ?_ ?_ Tryz.underlying113 Tryz.underlying9 Tryz.underlying5 ?_); (· rw [List.length_map, HL.out]); (· rfl); (· obtain ⟨ao', cap', e, h1⟩ := Cel.of_owns HA.out.1; cases e; rw [List.take_of_length_le (by rw [HL.out]; omega)] at h1; exact h1))
      go_ret
      exact ⟨rfl, HA.out.2⟩

end Go.Proofs.YtelcmkccfjdmjaaGreatDoor
