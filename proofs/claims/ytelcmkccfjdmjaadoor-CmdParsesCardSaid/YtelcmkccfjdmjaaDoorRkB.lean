/-
  Walks of package rank: the inverse of a rank.
-/
import Derived.Test.YtelcmkccfjdmjaaDoorProg
import Derived.Test.YtelcmkccfjdmjaaDoorRkA
import Derived.Deep.RegionLaw
namespace Go.Proofs.YtelcmkccfjdmjaaDoor
open Go.Proofs Go.RowKit Go.Shelf

/-- a row of numbers is handed back -/
def IntsPost (w : World) (r : List Int) (e : Ending) (w' : World) : Prop :=
  ∃ ao cap, e = .returned (.slice ao r.length cap) ∧ Cel w' ao (r.map encI) ∧ Below w.heap.size w w'

end Go.Proofs.YtelcmkccfjdmjaaDoor
