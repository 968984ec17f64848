/-
  The condition of the rows that list five tables: what it gives a walk, and a world that meets it.
-/
import Derived.Test.YtelcmkccfjdmjaaGreatDoorRows
import Derived.Test.YtelcmkccfjdmjaaGreatDoorNumPrint
import Derived.ProofKit
import Derived.LaidMore
import Derived.LaidHandle
import Derived.Stop.LaidErr
import Derived.Stop.Joined
import Derived.Lay
namespace Go.Proofs.YtelcmkccfjdmjaaGreatDoor
open Go.ChangeShapes Go.WideShapes Go.ChangeAt Go.RowKit

set_option maxRecDepth 100000 in
theorem door_met5 (os : Os) (args : Array Value) : laidMetH Tryz.prog Rows.replyParsesRow.laid ((World.laidAll Tryz.prog os Rows.replyParsesRow.laid).forCall (fun _ _ => 0) ⟨#[], args, []⟩).memory := by
  rw [MakeChecks.laidMetH_plain _ _ _ (by kernel_rfl)]
  exact laidMet_laidAll _ (by kernel_rfl) (by kernel_rfl)

set_option maxRecDepth 100000 in
theorem pow10_of5 {W : World} (h : laidMetH Tryz.prog Rows.replyParsesRow.laid W) : Pow10 W := by
  rw [MakeChecks.laidMetH_plain _ _ _ (by kernel_rfl)] at h
  obtain ⟨n1, d1, n2, d2, rest, e⟩ : ∃ n1 d1 n2 d2 rest, Rows.replyParsesRow.laid = (n1, d1) :: (n2, d2) :: (Tryz.pow10N, Lib.tabData .u64 Lib.pow10Tab) :: rest := ⟨_, _, _, _, _, rfl⟩
  rw [e] at h
  exact Lib.tabIs_of_head (g := 1) (t := 226) (e := 46) (n := 20) (by kernel_rfl) (by kernel_rfl) Tryz.underlying226 Tryz.underlying46 (by kernel_rfl) (by kernel_rfl) h.tail.tail

end Go.Proofs.YtelcmkccfjdmjaaGreatDoor
