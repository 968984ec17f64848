/-
  Walk of the document's parts of a line.
-/
import Derived.Test.YtelcmkccfjdmjaaGreatDoorProg
import Derived.Test.YtelcmkccfjdmjaaGreatDoorRpT
namespace Go.Proofs.YtelcmkccfjdmjaaGreatDoor
open Go Go.Proofs Go.RowKit Go.Shelf Go.Sort

theorem splitB_snoc (c x : UInt8) : ∀ l : List UInt8, splitB c (l ++ [x]) = if x = c then splitB c l ++ [[]] else (splitB c l).dropLast ++ [((splitB c l).getLast (splitB_ne c l)) ++ [x]]
  | [] => by
    by_cases h : x = c
    · rw [if_pos h]
      simp [splitB, h]
    · rw [if_neg h]
      simp [splitB, h]
  | y :: l => by
    have ih := splitB_snoc c x l
    obtain ⟨a, t, e⟩ := splitB_cons c l
    by_cases hy : y = c
    · subst hy
      by_cases h : x = y
      · rw [if_pos h] at ih ⊢
        rw [List.cons_append, splitB, if_pos rfl, ih, splitB, if_pos rfl]
        rfl
      · rw [if_neg h] at ih ⊢
        rw [List.cons_append, splitB, if_pos rfl, ih]
        have e2 : splitB y (y :: l) = [] :: splitB y l := by rw [splitB, if_pos rfl]
        simp only [e2]
        rw [List.dropLast_cons_of_ne_nil (splitB_ne y l), List.getLast_cons (splitB_ne y l)]
        rfl
    · by_cases h : x = c
      · rw [if_pos h] at ih ⊢
        rw [List.cons_append, splitB, if_neg hy, ih, splitB, if_neg hy, e]
        rfl
      · rw [if_neg h] at ih ⊢
        rw [List.cons_append, splitB, if_neg hy, ih]
        have e2 : splitB c (y :: l) = (y :: a) :: t := by rw [splitB, if_neg hy, e]; rfl
        simp only [e2, e]
        cases t with
        | nil => rfl
        | cons b t => rfl
theorem ext_succ {s : ByteArray} {i : Nat} (h : i < s.size) : (s.extract 0 (i + 1)).data.toList = (s.extract 0 i).data.toList ++ [s[i]] := by
  rw [ext_data, ext_data, List.drop_zero, List.drop_zero]
  have e : i < s.data.toList.length := by simpa using h
  rw [List.take_succ_eq_append_getElem e]
  rfl
theorem parts_snoc_at {c : UInt8} {s : ByteArray} {i : Nat} (h : i < s.size) (hc : s[i] = c) : partsS c (s.extract 0 (i + 1)) = partsS c (s.extract 0 i) ++ [ByteArray.empty] := by
  unfold partsS
  rw [ext_succ h, splitB_snoc, if_pos hc, List.map_append]
  rfl
theorem snoc_parts {L : List (List UInt8)} (hne : L ≠ []) (y : UInt8) {pre : List ByteArray} {x : ByteArray} (hp : L.map (fun l => (⟨l.toArray⟩ : ByteArray)) = pre ++ [x]) :
    (L.dropLast ++ [L.getLast hne ++ [y]]).map (fun l => (⟨l.toArray⟩ : ByteArray)) = pre ++ [⟨(x.data.toList ++ [y]).toArray⟩] := by
  have hd := List.dropLast_concat_getLast hne
  rw [← hd, List.map_append] at hp
  obtain ⟨h1, h2⟩ := List.append_inj' hp (by simp)
  have h3 : x = ⟨(L.getLast hne).toArray⟩ := by simpa using h2.symm
  rw [List.map_append, h1, h3]
  simp
theorem parts_snoc_not {c : UInt8} {s : ByteArray} {i : Nat} {pre : List ByteArray} {x : ByteArray} (h : i < s.size) (hc : s[i] ≠ c) (hp : partsS c (s.extract 0 i) = pre ++ [x]) : partsS c (s.extract 0 (i + 1)) = pre ++ [x ++ s.extract i (i + 1)] := by
  unfold partsS at hp ⊢
  rw [ext_succ h, splitB_snoc, if_neg hc, snoc_parts (splitB_ne _ _) _ hp]
  congr 2
  apply Go.WideShapes.bytes_inj
  rw [ByteArray.data_append, Array.toList_append, ext_data]
  have e : i < s.data.toList.length := by simpa using h
  rw [List.take_succ_eq_append_getElem e, List.drop_append_of_le_length (by simp; omega)]
  rw [List.drop_of_length_le (by simp; omega)]
  rfl

set_option maxRecDepth 100000 in
set_option maxHeartbeats 4000000 in
theorem refParts_any (s : ByteArray) (w : World) (hs : s.size ≤ 100000) : Calls Tryz.prog 35 #[.string s] w fun e w' => ∃ ao cap, e = .returned (.slice ao (partsS 32 s).length cap) ∧ Cel w' ao ((partsS 32 s).map encS) ∧ Below w.heap.size w w' := by
  have HP0 := Lib.hid (show partsS 32 (s.extract 0 0) = [] ++ [ByteArray.empty] by
    unfold partsS
    rw [ext_data]
    rfl)
  go_enter Tryz.func35, Tryz.ntmps35
  go_wp2
  obtain ⟨W0, hW0, hO0, hB0⟩ : ∃ W0, W0 = w.alloc (Obj.cells #[.string ⟨#[]⟩] 9) ∧ W0.ownsRow w.heap.size 9 1 (.slice (some ⟨w.heap.size, 0, none⟩) 1 1) 1 [.string ⟨#[]⟩] ∧ Below w.heap.size w W0 :=
    ⟨_, rfl, World.ownsRow_lit w #[.string ⟨#[]⟩] 1 (Nat.le_refl _) (by unfold maxLen; omega) rfl, Below.of_al _ _⟩
  rw [← hW0]
  clear hW0
  go_loopg [3, 4] s.size (fun g v3 v4 wr => ∃ (i : Nat) (pre : List ByteArray) (x : ByteArray) (gb cap : Nat), i ≤ s.size ∧ s.size - i ≤ g ∧ v4 = .int .i64 i ∧ v3 = .slice (some ⟨gb, 0, none⟩) (pre.length + 1) cap ∧ Aside (partsS 32 (s.extract 0 i) = pre ++ [x]) ∧
    Aside (wr.ownsRow w.heap.size 9 1 (.slice (some ⟨gb, 0, none⟩) (pre.length + 1) cap) (pre.length + 1) ((pre ++ [x]).map encS)) ∧ Aside (Below w.heap.size w wr))
  case atStart => exact ⟨0, [], ByteArray.empty, w.heap.size, 1, Nat.zero_le _, by omega, by go_num, rfl, HP0.out, hO0, hB0⟩
  case round =>
    obtain ⟨i, pre, x, gb, cap, hi, hg, rfl, rfl, HPS, HO, HB⟩ := hrel
    have hi0 : (0 : Int) ≤ (i : Int) := by omega
    by_cases hlt : i < s.size
    · have hlt3 : (i : Int) < (s.size : Int) := by omega
      have hpl : pre.length ≤ i := by
        have := @partsS_count 32 (s.extract 0 i)
        rw [HPS.out, ByteArray.size_extract, List.length_append] at this
        simp at this
        omega
      have hxz : x.size ≤ s.size := by
        have := @partsS_size 32 (s.extract 0 i) x (by rw [HPS.out]; simp)
        rw [ByteArray.size_extract] at this
        omega
      by_cases hc : s[i] = 32
      · have hb : ((s[i].toNat : Int) == 32) = true := by rw [hc]; rfl
        have HP2 := Lib.hid (show partsS 32 (s.extract 0 (i + 1)) = (pre ++ [x]) ++ [ByteArray.empty] by rw [parts_snoc_at hlt hc, HPS.out])
        clear hc
        go_wp2_with (at_builtin; go_must ((with_reducible refine wpList_app w.heap.size 9 _ 1 16 rt_elem Tryz.underlying26 (.slice (some ⟨gb, 0, none⟩) (pre.length + 1) cap) (pre.length + 1) _ ⟨wr.heap.size, 0, none⟩ 1 1 [encS ⟨#[]⟩] ?_ ?_ (HO.out.alloc _) (rt_one _ _ _) (rt_ones _) ⟨rfl, by decide, by omega, by omega, by have := HB.out.size; simp; omega⟩ ?_); (· rfl); (· rfl); intro g6 cap6 w6 hown hgrow hbl hat hlt6; (have HO6 := Lib.hid hown; have HB6 := Lib.hid ((HB.out.al _).trans hbl); clear hown hgrow hbl hat)))
        go_roundg (s.size - (i + 1))
        case measure => omega
        case rel => exact ⟨i + 1, pre ++ [x], ByteArray.empty, g6, cap6, by omega, by omega, by go_num, by simp, HP2.out, (show w6.ownsRow w.heap.size 9 1 (.slice (some ⟨g6, 0, none⟩) ((pre ++ [x]).length + 1) cap6) ((pre ++ [x]).length + 1) (((pre ++ [x]) ++ [ByteArray.empty]).map encS) by rw [List.map_append, List.length_append]; exact HO6.out), HB6.out⟩
      · have hb : ((s[i].toNat : Int) == 32) = false := by
          rw [beq_eq_false_iff_ne]
          intro e
          exact hc (UInt8.toNat_inj.1 (show s[i].toNat = 32 by omega))
        have HP2 := Lib.hid (parts_snoc_not hlt hc HPS.out)
        have hcell : wr.cell? ⟨gb, pre.length, none⟩ = some (.string x) := by rw [HO.out.cellAt pre.length (by omega)]; simp [encS]
        have hfr := HO.out.frozenAt pre.length
        clear hc
        go_wp2
        go_region
        go_wp2
        go_roundg (s.size - (i + 1))
        case measure => omega
        case rel => exact ⟨i + 1, pre, x ++ s.extract i (i + 1), gb, cap, by omega, by omega, by go_num, rfl, HP2.out, by
          have h := (HO.out.stored pre.length (.string (x ++ s.extract i (i + 1)))).1
          rw [show (pre ++ [x ++ s.extract i (i + 1)]).map encS = ((pre ++ [x]).map encS).set pre.length (.string (x ++ s.extract i (i + 1))) by simp [encS]]
          exact owns_dr h 1, (HB.out.setCell (show w.heap.size ≤ gb from (HO.out.lt gb rfl).1) _).drew⟩
    · obtain rfl : i = s.size := by omega
      have HE := Lib.hid (show partsS 32 s = pre ++ [x] by
        rw [← HPS.out]
        congr 1
        apply Go.WideShapes.bytes_inj
        rw [ext_data]
        simp
        exact (List.take_of_length_le (by simp)).symm)
      go_wp2
      go_ret
      obtain ⟨ao9, cap9, e9, hc9⟩ := Cel.of_owns HO.out
      cases e9
      rw [HE.out]
      exact ⟨some ⟨gb, 0, none⟩, cap, by simp, hc9, HB.out⟩

end Go.Proofs.YtelcmkccfjdmjaaGreatDoor
