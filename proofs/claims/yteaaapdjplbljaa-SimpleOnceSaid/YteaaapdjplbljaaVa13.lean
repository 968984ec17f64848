/- Rows that forget at once, in memory, and the walk of package stamp. Ways, how far nodes are, peaks, and hierarchies, in plain Lean: nodes go one by one and leave shortcuts. The search on the way up a hierarchy, in plain Lean: what its labels are. Spaces of both ends, and how far nodes are, in plain Lean. The core of a contraction, in plain Lean: shortcuts that are added, ways that are kept, a node that goes. The search for a lighter way round, in plain Lean: what is found is some way. Walk of package witness: the search for a lighter way round. Walk of package witness: the search itself. The lightest arcs to a node and from it, and the ways by it that are kept, in plain Lean. A map of weights by numbers, as it lies in memory: what it says, what a reading and a writing give. Walk of package contract: the lightest arcs to a node and from it. append of a row that may be empty onto a row of one's own. Walk of slices.IndexFunc and slices.DeleteFunc at arcs, as package contract calls them. Walk of package contract: the ways by a node that are kept. A map of places by pairs of numbers, as it lies in memory. The core of a contraction as it lies in memory. -/
import Derived.Test.YteaaapdjplbljaaProg
import Derived.Test.YteaaapdjplbljaaVa08
import Derived.Laws.EntriesVeiled
import Derived.Test.YteaaapdjplbljaaVa01
import Derived.Maps.Own
import Derived.Maps.OwnSet
import Derived.Maps.OwnOps
import Derived.Maps.RangeWalk
import Derived.Laws.OwnMore
import Derived.Below
import Derived.Lib.SliceRun
import Derived.WalkSpells
import Derived.WideKeyPair
set_option linter.unusedVariables false
set_option linter.unusedSimpArgs false
set_option linter.unnecessarySimpa false
section
namespace Go.Proofs.Yteaaapdjplbljaa
open Go Go.Proofs Go.RowKit Go.Shelf
end Go.Proofs.Yteaaapdjplbljaa
end
section
namespace Go.Proofs.Yteaaapdjplbljaa.Ch
variable {A B:Int→Int→Int→Prop} {p q:Int→Prop} {u v m s t:Int} {d e:Int}
abbrev Any:Int→Prop:=fun _=>True
end Go.Proofs.Yteaaapdjplbljaa.Ch
end
section
namespace Go.Proofs.Yteaaapdjplbljaa.Ch
structure Lab where
 v:Int
 d:Int
 b:Int
 deriving DecidableEq
abbrev Nums:=Int→Int→Int→Int→Prop
abbrev Nums.rel (X:Nums):Int→Int→Int→Prop:=fun u v w=>∃i,X i u v w
variable {A:Int→Int→Int→Prop} {X:Nums} {r:Int→Int} {N:Int→Prop} {s:Int} {far:Int→Option Int} {by':Int→Int} {l:List (Int×Int)} {cur:Int} {out:List Lab} {done:Int→Int→Prop}
end Go.Proofs.Yteaaapdjplbljaa.Ch
end
section
namespace Go.Proofs.Yteaaapdjplbljaa.Ch
variable {A:Int→Int→Int→Prop} {X:Nums} {r:Int→Int} {N:Int→Prop} {s t:Int} {out la lb:List Lab}
end Go.Proofs.Yteaaapdjplbljaa.Ch
end
section
namespace Go.Proofs.Yteaaapdjplbljaa.Ch
structure SC where
 f:Int
 t:Int
 w:Int
 e:Int
 a:Int
 b:Int
 deriving DecidableEq
structure CoreD where
 O:List (List (Int×Int))
 p:Int→Int→Option Nat
 S:List SC
abbrev nodeN (n:Nat) (v:Int):Prop:=0≤v∧v<(n:Int)
variable {A:Int→Int→Int→Prop} {E:Int→Int→Int→Int→Prop} {n:Nat} {out:List Int} {c:CoreD} {z:Int}
end Go.Proofs.Yteaaapdjplbljaa.Ch
end
section
namespace Go.Proofs.Yteaaapdjplbljaa.Ch
open Go.Proofs.Yteaaapdjplbljaa.Hp
variable {O:List (List (Int×Int))} {gone:List Bool} {B M:Int} {s:Int} {far:List (Option Int)} {l:List IK} {p:List Int}
end Go.Proofs.Yteaaapdjplbljaa.Ch
end
section
namespace Go.Proofs.Yteaaapdjplbljaa
open Go Go.Proofs Go.RowKit Go.Shelf Go.Proofs.Yteaaapdjplbljaa.Hp Go.Proofs.Yteaaapdjplbljaa.Ch
variable {w0 W W':World} {sb rb fb hb:Nat} {va v:Value} {far:List (Option Int)} {st:List Int} {l:List IK} {p:List Int}
end Go.Proofs.Yteaaapdjplbljaa
end
section
namespace Go.Proofs.Yteaaapdjplbljaa
open Go Go.Proofs Go.RowKit Go.Shelf Go.Proofs.Yteaaapdjplbljaa.Hp Go.Proofs.Yteaaapdjplbljaa.Ch
theorem run_mk_int (n:Nat) (hn:n≤60000) (W:World):(Instr.makeSlice 25 (.int .i64 (n:Int)) (.int .i64 (n:Int))).run Try.prog W=.ok (.slice (some ⟨W.heap.size,0,none⟩) n n) (W.alloc (.cells (madeCells #[.int .i64 0] n) 3)):=by
 obtain ⟨i,hi,hz,hsz,hby⟩:=info_parts hp_elemi.1
 have hr:=run_make (P:=Try.prog) W 25 3 i (.int .i64 0) Try.underlying25 hi hz .i64 .i64 n n (by omega) (Int.le_refl _) (by rw [hby];omega) (by omega)
 simp only [Int.toNat_natCast,hsz,Nat.mul_one] at hr
 exact hr
theorem own_mk (n:Nat) (hn:n≤60000) (W:World):(W.alloc (.cells (madeCells #[.int .i64 0] n) 3)).ownsRow 0 3 1 (.slice (some ⟨W.heap.size,0,none⟩) n n) n (List.replicate n (.int .i64 0)):=by
 have:=World.ownsRow_lit (base:=0) (e:=3) (size:=1) W (madeCells #[.int .i64 0] n) n (Nat.zero_le _) (by unfold maxLen;omega) (by rw [size_madeCells];simp)
 rw [toList_madeCells_one] at this
 exact this
end Go.Proofs.Yteaaapdjplbljaa
end
section
namespace Go.Proofs.Yteaaapdjplbljaa.Ch
variable {A B:Int→Int→Prop} {gone:List Bool} {v:Int} {m:Int→Option Int}
abbrev MM:=(Int→Option Int)×(Int→Option Int)
variable {O:List (List (Int×Int))} {mm:MM} {i j:Nat} {l:List (Int×Int×Int)}
end Go.Proofs.Yteaaapdjplbljaa.Ch
end
section
namespace Go.Proofs.Yteaaapdjplbljaa
open Go Go.Proofs Go.RowKit Go.Shelf Go.Proofs.Yteaaapdjplbljaa.Ch
variable {w w':World} {b n:Nat} {f:Int→Option Int}
end Go.Proofs.Yteaaapdjplbljaa
end
section
namespace Go.Proofs.Yteaaapdjplbljaa
open Go Go.Proofs Go.RowKit Go.Shelf Go.Proofs.Yteaaapdjplbljaa.Hp Go.Proofs.Yteaaapdjplbljaa.Ch
end Go.Proofs.Yteaaapdjplbljaa
end
section
namespace Go.Proofs.Yteaaapdjplbljaa
open Go Go.Proofs Go.RowKit Go.Shelf
end Go.Proofs.Yteaaapdjplbljaa
end
section
namespace Go.Proofs.Yteaaapdjplbljaa
open Go Go.Proofs Go.RowKit Go.Shelf Go.Proofs.Yteaaapdjplbljaa.Hp
end Go.Proofs.Yteaaapdjplbljaa
end
section
namespace Go.Proofs.Yteaaapdjplbljaa
open Go Go.Proofs Go.RowKit Go.Shelf Go.Proofs.Yteaaapdjplbljaa.Hp Go.Proofs.Yteaaapdjplbljaa.Ch
theorem elem_bool:Elem Try.prog 4 (.bool false) 1 1:=⟨by kernel_rfl,rfl,by decide⟩
end Go.Proofs.Yteaaapdjplbljaa
end
section
namespace Go.Proofs.Yteaaapdjplbljaa
open Go Go.Proofs Go.RowKit Go.Shelf Go.Proofs.Yteaaapdjplbljaa.Ch
end Go.Proofs.Yteaaapdjplbljaa
end
section
namespace Go.Proofs.Yteaaapdjplbljaa
open Go Go.Proofs Go.RowKit Go.Shelf Go.Proofs.Yteaaapdjplbljaa.Hp Go.Proofs.Yteaaapdjplbljaa.Ch
structure CS where
 cb:Nat
 ob:Nat
 gb:Nat
 mb:Nat
 db:Nat
 cO:Nat
 cG:Nat
 cD:Nat
 hops:Int
 settles:Int
 vr:Value
 vS:Value
 rows:List Value
 c:CoreD
 gone:List Bool
 dep:List Int
 nb:Nat
abbrev nilV:Value:=.slice none 0 0
def CS.blk (s:CS):Nat→Option Nat
 |0=>some s.cb
 |1=>some s.ob
 |2=>some s.gb
 |3=>some s.mb
 |4=>some s.db
 |5=>s.vS.ownBlock
 |i+6=>(s.rows.getD i nilV).ownBlock
def CS.X (s:CS) (k:Nat):Prop:=∃i,s.blk i=some k
abbrev CS.n (s:CS):Nat:=s.c.O.length
def CS.cells (s:CS):List Value:=[.slice (some ⟨s.ob,0,none⟩) s.n s.cO,.slice (some ⟨s.gb,0,none⟩) s.n s.cG,.map (some s.mb),s.vS,.int .i64 s.hops,.int .i64 s.settles,s.vr,.slice (some ⟨s.db,0,none⟩) s.n s.cD]
end Go.Proofs.Yteaaapdjplbljaa
end
