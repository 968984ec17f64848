/-
  Walks of package codes: the word of a fault (draft: Op.index on an aggregate at a variable place is where it stands: split k into its 15 cases).
-/
import Derived.Test.YtelcmkccfjdmjaaGreatDoorProg
import Derived.Test.YtelcmkccfjdmjaaGreatDoorRpE
namespace Go.Proofs.YtelcmkccfjdmjaaGreatDoor
open Go.Proofs Go.RowKit Go.Shelf Go.Sort

theorem run_idx_words {cs : Array Value} {k : Nat} {v : Value} {w : World} (hk : k < 15) (hv : cs[k]? = some v) :
    (Instr.index 109 (.agg cs) (.int .i64 (k : Int))).run Tryz.prog w = .ok v w := by
  have h : Tryz.prog.underlying 109 = some (.array 15 9) := by kernel_rfl
  have z := Tryz.sizeOf9
  have a := Tryz.isAgg9
  simp [Instr.index, run_underlying h, asIntOf, hk, go_sem, z, a]
  rw [hv]
  rfl

set_option maxRecDepth 100000 in
theorem codesWord_any (f : Int) (w : World) : Calls Tryz.prog 40 #[.int .i64 f] w fun e w' => e = .returned (.string (wordOf f)) ∧ Below w.heap.size w w' := by
  have HW := Lib.hid (fun W => codesWords_any W)
  have HI := Lib.hid (fun W => codesIs_any f W)
  cases hi : isF f with
  | false =>
    have HV := Lib.hid (show wordOf f = ByteArray.empty by unfold wordOf; rw [hi]; rfl)
    rw [hi] at HI
    generalize wordOf f = v at *
    clear hi
    go_enter Tryz.func40, Tryz.ntmps40
    go_wp2_with (go_at_call 48; refine (HI.out _).mono ?_; rintro e w1 ⟨rfl, hb1⟩)
    go_ret
    exact ⟨by rw [HV.out]; rfl, hb1⟩
  | true =>
    have hb : 0 ≤ f ∧ f < 15 := by unfold isF at hi; simpa using hi
    obtain ⟨k, rfl⟩ := Int.eq_ofNat_of_zero_le hb.1
    have hk : k < 15 := by omega
    have HG := show faultA[k]? = some (.string (wordOf (k : Int))) by
      unfold wordOf
      rw [hi, if_pos rfl, Int.toNat_natCast, ← Array.getElem?_toList, faultA_list, List.getElem?_map, List.getD_eq_getElem?_getD, List.getElem?_eq_getElem (show k < faultL.length from hk)]
      rfl
    have hrun := fun W => run_idx_words (w := W) hk HG
    rw [hi] at HI
    generalize wordOf (k : Int) = v at *
    generalize faultA = fa at *
    clear hi hb HG
    go_enter Tryz.func40, Tryz.ntmps40
    go_wp2_with (first
      | (go_at_call 48; refine (HI.out _).mono ?_; rintro e w1 ⟨rfl, hb1⟩)
      | (go_at_call 75; refine (HW.out _).mono ?_; rintro e w2 ⟨rfl, hb2⟩))
    go_ret
    exact ⟨rfl, hb1.st hb2⟩

end Go.Proofs.YtelcmkccfjdmjaaGreatDoor
