/-
  Walks of the document's package of faults: the words, which numbers are faults, the word of a fault and the fault of a word.
-/
import Derived.Test.YtelcmkccfjdmjaaGreatDoorProg
import Derived.Test.YtelcmkccfjdmjaaGreatDoorRpG
namespace Go.Proofs.YtelcmkccfjdmjaaGreatDoor
open Go.Proofs Go.RowKit Go.Shelf Go.Sort

theorem ref04Words_any (w : World) : Calls Tryz.prog 39 #[] w fun e w' => e = .returned (.slice (some ⟨w.heap.size, 0, none⟩) 15 15) ∧ Cel w' (some ⟨w.heap.size, 0, none⟩) (faultL.map encS) ∧ Below w.heap.size w w' := by
  go_enter Tryz.func39, Tryz.ntmps39
  go_wp2
  go_ret
  exact ⟨rfl, cel_at rfl faultA_list, Below.of_al _ _⟩

theorem ref04Is_any (f : Int) (w : World) : Calls Tryz.prog 14 #[.int .i64 f] w fun e w' => e = .returned (.bool (isF f)) ∧ Below w.heap.size w w' := by
  have HW := Lib.hid (fun W => ref04Words_any W)
  unfold isF
  by_cases h0 : 0 ≤ f
  · by_cases h1 : f < 15
    · go_enter Tryz.func14, Tryz.ntmps14
      go_wp2_with (go_at_call 39; refine (HW.out _).mono ?_; rintro e w1 ⟨rfl, hc1, hb1⟩)
      go_ret
      exact ⟨by simp [h0, h1], hb1⟩
    · go_enter Tryz.func14, Tryz.ntmps14
      go_wp2_with (go_at_call 39; refine (HW.out _).mono ?_; rintro e w1 ⟨rfl, hc1, hb1⟩)
      go_ret
      exact ⟨by simp [h0, h1], hb1⟩
  · go_enter Tryz.func14, Tryz.ntmps14
    go_wp2
    go_ret
    exact ⟨by rw [decide_eq_false (show ¬ 0 ≤ f by omega)]; rfl, Below.refl _ _⟩

set_option maxRecDepth 100000 in
theorem ref04Word_any (f : Int) (w : World) : Calls Tryz.prog 45 #[.int .i64 f] w fun e w' => e = .returned (.string (wordOf f)) ∧ Below w.heap.size w w' := by
  have HW := Lib.hid (fun W => ref04Words_any W)
  have HI := Lib.hid (fun W => ref04Is_any f W)
  cases hi : isF f with
  | false =>
    have HV := Lib.hid (show wordOf f = ByteArray.empty by unfold wordOf; rw [hi]; rfl)
    rw [hi] at HI
    generalize wordOf f = v at *
    clear hi
    go_enter Tryz.func45, Tryz.ntmps45
    go_wp2_with (go_at_call 14; refine (HI.out _).mono ?_; rintro e w1 ⟨rfl, hb1⟩)
    go_ret
    exact ⟨by rw [HV.out]; rfl, hb1⟩
  | true =>
    have hb : 0 ≤ f ∧ f < 15 := by unfold isF at hi; simpa using hi
    obtain ⟨k, rfl⟩ := Int.eq_ofNat_of_zero_le hb.1
    have hk : k < faultL.length := by have : faultL.length = 15 := rfl; omega
    have hk2 : (k : Int) < 15 := hb.2
    have hk0 : (0 : Int) ≤ (k : Int) := hb.1
    have HG := Lib.hid (show faultL[k] = wordOf (k : Int) by
      unfold wordOf
      rw [hi, if_pos rfl, Int.toNat_natCast, List.getD_eq_getElem?_getD, List.getElem?_eq_getElem hk]
      rfl)
    have HC := Lib.hid (fun W b (h : Cel W (some ⟨b, 0, none⟩) (faultL.map encS)) => (by
      obtain ⟨b', o', e, hc⟩ := h.at hk
      cases e
      rw [HG.out, Nat.zero_add] at hc
      exact hc : W.cell? ⟨b, k, none⟩ = some (encS (wordOf (k : Int)))))
    rw [hi] at HI
    generalize wordOf (k : Int) = v at *
    clear hi hb HG
    go_enter Tryz.func45, Tryz.ntmps45
    go_wp2_with (first
      | (go_at_call 14; refine (HI.out _).mono ?_; rintro e w1 ⟨rfl, hb1⟩)
      | (go_at_call 39; refine (HW.out _).mono ?_; rintro e w2 ⟨rfl, hc2, hb2⟩; have hcell := HC.out _ _ hc2))
    go_ret
    exact ⟨rfl, hb1.st hb2⟩

end Go.Proofs.YtelcmkccfjdmjaaGreatDoor
