/- A region whose operations come in any order, each of which changes memory in its own way, with a tail that comes in one order, the frame unseen. -/
import Derived.Test.YteaaapdjplbljaaVa12
import Derived.Test.YteaaapdjplbljaaVa08
set_option linter.unusedVariables false
set_option linter.unusedSimpArgs false
set_option linter.unnecessarySimpa false
namespace Go.Proofs.Yteaaapdjplbljaa
open Go Go.Proofs Go.RowKit
section
variable {a:Act} {P:Program} {Q:Exit→Act→World→Prop} {w:World}
def stepX (X:Nat→Prop) (m i:Nat) (w w':World):Prop:=if i=m then OffX X w w' else Below w.heap.size w w'
def stepY (X:Nat→Prop) (b:Bool) (w w':World):Prop:=if b=true then OffX X w w' else Below w.heap.size w w'
theorem stepY.b {X:Nat→Prop} {b:Bool} {w w':World} (h:stepY X b w w'):OffX X w w':=by
 unfold stepY at h
 cases b with
 |true=>exact h
 |false=>exact .of_below h
end
end Go.Proofs.Yteaaapdjplbljaa
