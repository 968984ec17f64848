/-
  The condition of the rows: the listed tables are as the program's text lays them; what it gives a walk, and a world that meets it.
-/
import Derived.Test.YtfjplphdkfiljaaDoorRows
import Derived.Test.YtfjplphdkfiljaaDoorNumPrint
import Derived.ProofKit
import Derived.LaidMore
import Derived.LaidHandle
import Derived.Stop.LaidErr
import Derived.Stop.Joined
namespace Go.Proofs.YtfjplphdkfiljaaDoor
open Go.ChangeShapes Go.WideShapes Go.ChangeAt Go.RowKit

set_option maxRecDepth 100000 in
theorem door_met (os : Os) (args : Array Value) : laidMetH Tryd.prog Rows.numBackRow.laid ((World.doorLaid Tryd.prog 400 os).forCall (fun _ _ => 0) ⟨#[], args, []⟩).memory :=
  laidMetH_of_parts3 (fuel := 8) (laidMet_of_run' 8 (by kernel_rfl) (by kernel_rfl)) (by kernel_rfl) (by kernel_rfl)

theorem pow10_of {W : World} (h : laidMetH Tryd.prog Rows.numBackRow.laid W) : Pow10 W := by
  rw [MakeChecks.laidMetH_plain _ _ _ (by kernel_rfl)] at h
  obtain ⟨n1, d1, n2, d2, e⟩ : ∃ n1 d1 n2 d2, Rows.numBackRow.laid = (n1, d1) :: (n2, d2) :: (Tryd.pow10N, Lib.tabData .u64 Lib.pow10Tab) :: [] := ⟨_, _, _, _, rfl⟩
  rw [e] at h
  exact Lib.tabIs_of_head (g := 2) (t := 173) (e := 22) (n := 20) (by kernel_rfl) (by kernel_rfl) Tryd.underlying173 Tryd.underlying22 (by kernel_rfl) (by kernel_rfl) h.tail.tail

theorem start_shaped (os : Os) : True := trivial

end Go.Proofs.YtfjplphdkfiljaaDoor
