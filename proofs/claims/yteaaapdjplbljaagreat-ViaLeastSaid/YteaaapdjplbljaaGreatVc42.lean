/- Parts; no condition. -/
import Derived.Test.YteaaapdjplbljaaGreatVc41
set_option linter.unusedVariables false
set_option linter.unusedSimpArgs false
set_option linter.unnecessarySimpa false
set_option maxRecDepth 100000
set_option maxHeartbeats 8000000
namespace Go.Proofs.YteaaapdjplbljaaGreat
open Go Go.Proofs Go.RowKit Go.Shelf Hp Ch Ro
theorem Dr (w:World) (b o:Nat) (v:Value) (h:w.cell? ⟨b,o,none⟩=some v):w.setCell ⟨b,o,none⟩ v=w:=by
 rw [Go.Sort.setCell_eq];refine Go.Sort.mapBlock_id _ _ _ ?_;intro c e fr hb;have hc:c[o]? =some v:=by simpa [World.cell?,hb] using h
 apply Array.ext_getElem?
 intro k;rw [Array.getElem?_setIfInBounds]
 split
 ·rename_i e
  subst e;rw [if_pos (Bj2.1 hc).1,hc]
 ·rfl
theorem Az6 (w:World) (o1 o2 o3:Obj):(((w.alloc o1).alloc o2).alloc o3).heap[w.heap.size+1+1]? =some o3:=by
 have e:w.heap.size+1+1=((w.alloc o1).alloc o2).heap.size:=by simp
 rw [e]
 show (((w.alloc o1).alloc o2).heap.push o3)[((w.alloc o1).alloc o2).heap.size]? =some o3
 rw [Array.getElem?_push_size]
section
variable {w5 wr w4 w7:World} {rb n:Nat} {x s v:Int} {es:List EdgeD} {D:Int->Int} {l:List Int} {vr v':Value}
end
end Go.Proofs.YteaaapdjplbljaaGreat
