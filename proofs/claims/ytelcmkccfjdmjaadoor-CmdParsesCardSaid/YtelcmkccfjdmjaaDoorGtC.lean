/-
  Walks of the references of package gtext: the words of a graph.
-/
import Derived.Test.YtelcmkccfjdmjaaDoorProg
import Derived.Test.YtelcmkccfjdmjaaDoorGtA
import Derived.Test.YtelcmkccfjdmjaaDoorGraphRD
import Derived.Test.YtelcmkccfjdmjaaDoorQTail
namespace Go.Proofs.YtelcmkccfjdmjaaDoor
open Go.Proofs Go.RowKit Go.Shelf Go.Sort

theorem below_app {w1 wr w5 w6 : World} (h1 : Below w1.heap.size w1 wr) (h2 : Below wr.heap.size wr w5) (o : Obj) (h3 : Below w1.heap.size (w5.alloc o) w6) : Below w1.heap.size wr w6 := by
  have h4 : Below w1.heap.size wr w5 := h2.mono h1.size
  exact (h4.trans ((Below.of_al w5 o).mono (by have := h1.size; have := h2.size; omega))).trans h3

end Go.Proofs.YtelcmkccfjdmjaaDoor
