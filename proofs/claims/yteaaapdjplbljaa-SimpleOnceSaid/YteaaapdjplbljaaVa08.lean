/- A row that is sorted by insertion, in plain Lean; which places are nearest, in plain Lean. A heap of numbers with keys, in plain Lean: rising, sinking, putting, taking out. A range over a function whose iterator keeps a cell of its own: what is asked of the iterator, and the law of the statement. A heap as it lies in memory: its record, its row of items, its row of places. What stores and calls leave of it. Walk of package heap: which item is ahead, an item at a place, rising, sinking. Walk of package heap: rising and sinking. Walk of package heap: a new one, what comes first, putting, taking out. Walk of package heap: popping, putting. Walks of the library's stable sort, at rows of at most 20 numbers: the sort by insertion. -/
import Derived.Test.YteaaapdjplbljaaVa01
import Derived.RangeFuncIn
import Derived.RangeFuncBox
import Derived.RangeFuncRecord
import Derived.RangeFuncLeaves
import Derived.RangeFuncCalls
import Derived.Test.YteaaapdjplbljaaProg
import Derived.Laws.OwnMore
import Derived.WalkSmall
import Derived.OneCell
import Derived.Deep.Cut
import Derived.Deep.RegionLaw
import Derived.Laws.EntriesVeiled
import Derived.Deep.CutRange
set_option linter.unusedVariables false
set_option linter.unusedSimpArgs false
set_option linter.unnecessarySimpa false
section
namespace Go.Proofs.Yteaaapdjplbljaa.Ns
end Go.Proofs.Yteaaapdjplbljaa.Ns
end
section
namespace Go.Proofs.Yteaaapdjplbljaa.Hp
abbrev IK:=Int×Int
end Go.Proofs.Yteaaapdjplbljaa.Hp
end
section
namespace Go.Proofs.Yteaaapdjplbljaa
open Go Go.Proofs Go.RowKit
structure OffX (X:Nat→Prop) (w w':World):Prop where
 os:w'.os=w.os
 tape:w'.tape=w.tape
 output:w'.output=w.output
 size:w.heap.size≤w'.heap.size
 block:∀k,k<w.heap.size→¬X k→w'.heap[k]? =w.heap[k]?
theorem OffX.refl (X:Nat→Prop) (w:World):OffX X w w:=⟨rfl,rfl,rfl,Nat.le_refl _,fun _ _ _=>rfl⟩
theorem OffX.trans {X:Nat→Prop} {a b c:World} (h:OffX X a b) (k:OffX X b c):OffX X a c:=
 ⟨k.os.trans h.os,k.tape.trans h.tape,k.output.trans h.output,Nat.le_trans h.size k.size,fun i hi hn=>(k.block i (by have:=h.size;omega) hn).trans (h.block i hi hn)⟩
theorem OffX.mono {X Y:Nat→Prop} {a b:World} (h:OffX X a b) (hs:∀k,X k→Y k):OffX Y a b:=⟨h.os,h.tape,h.output,h.size,fun k hk hn=>h.block k hk (fun e=>hn (hs k e))⟩
theorem OffX.of_below {X:Nat→Prop} {a b:World} (h:Below a.heap.size a b):OffX X a b:=⟨h.os,h.tape,h.output,h.size,fun k hk _=>h.block k hk⟩
theorem OffX.put {X:Nat→Prop} {a:World} {l:Nat} (o:Obj) (hX:X l):OffX X a (a.putObj l o):=
 have h:=grownBy_putObj' a l o
 ⟨h.os,h.tape,h.output,h.size,fun k hk hn=>h.block k hk (fun e=>hn (by cases e;exact hX))⟩
theorem OffX.set {X:Nat→Prop} {a:World} {b j:Nat} (v:Value) (hX:X b):OffX X a (a.setCell ⟨b,j,none⟩ v):=
 ⟨rfl,rfl,rfl,by simp [World.setCell],fun k _ hn=>Below.heap_setCell _ _ _ _ (fun e=>hn (by cases e;exact hX))⟩
theorem OffX.below {X:Nat→Prop} {a b:World} {B:Nat} (h:OffX X a b) (hB:B≤a.heap.size) (hX:∀k,X k→B≤k):Below B a b:=
 ⟨h.os,h.tape,h.output,h.size,fun k hk=>h.block k (by omega) (fun e=>by have:=hX k e;omega)⟩
theorem OffX.cell {X:Nat→Prop} {a b:World} {p:Addr} {v:Value} (h:OffX X a b) (hc:a.cell? p=some v) (hn:¬X p.block):b.cell? p=some v:=
 (World.cell?_of_block (w:=a) (h.block p.block (World.block_lt_of_cell? _ _ hc) hn)).trans hc
theorem OffX.frozen {X:Nat→Prop} {a b:World} {p:Addr} (h:OffX X a b) (hl:p.block<a.heap.size) (hn:¬X p.block):b.frozen? p=a.frozen? p:=
 World.frozen?_of_block (w:=a) (h.block p.block hl hn)
def KeepX (X:Nat→Prop) (w w':World):Prop:=w.heap.size≤w'.heap.size∧∀k,X k→w'.heap[k]? =w.heap[k]?
theorem KeepX.trans {X:Nat→Prop} {a b c:World} (h:KeepX X a b) (k:KeepX X b c):KeepX X a c:=⟨Nat.le_trans h.1 k.1,fun i hi=>(k.2 i hi).trans (h.2 i hi)⟩
theorem KeepX.mono {X Y:Nat→Prop} {a b:World} (h:KeepX Y a b) (hs:∀k,X k→Y k):KeepX X a b:=⟨h.1,fun k hk=>h.2 k (hs k hk)⟩
variable {F:Fence} {n:Nat} {P:Program}
end Go.Proofs.Yteaaapdjplbljaa
end
section
namespace Go.Proofs.Yteaaapdjplbljaa
open Go Go.Proofs Go.RowKit Go.Shelf Go.Proofs.Yteaaapdjplbljaa.Hp
theorem hp_owns_go {w w':World} {base:Nat} {e:TypeId} {size n:Nat} {v:Value} {xs:List Value} (h:w.ownsRow base e size v n xs) (hb:Below w.heap.size w w'):w'.ownsRow base e size v n xs:=by
 refine ⟨h.1,?_⟩
 rcases h.2 with h2|⟨g,cap,cur,hv,hbg,hg,r⟩
 ·exact .inl h2
 ·exact .inr ⟨g,cap,cur,hv,hbg,by rw [hb.block g (Array.getElem?_eq_some_iff.1 hg).1];exact hg,r⟩
def HX (b:Nat) (v va:Value) (k:Nat):Prop:=k=b∨v.ownBlock=some k∨va.ownBlock=some k
end Go.Proofs.Yteaaapdjplbljaa
end
section
namespace Go.Proofs.Yteaaapdjplbljaa
open Go Go.Proofs Go.RowKit Go.Shelf Go.Proofs.Yteaaapdjplbljaa.Hp
theorem own_form {w:World} {base size n:Nat} {e:TypeId} {v:Value} {xs:List Value} (h:w.ownsRow base e size v n xs) (hn:0<n):∃g cap,v=.slice (some ⟨g,0,none⟩) n cap:=by
 rcases h.2 with ⟨_,e⟩|⟨g,cap,cur,e,_⟩
 ·omega
 ·exact ⟨g,cap,e⟩
end Go.Proofs.Yteaaapdjplbljaa
end
section
namespace Go.Proofs.Yteaaapdjplbljaa
open Go Go.Proofs Go.RowKit Go.Shelf Go.Proofs.Yteaaapdjplbljaa.Hp
end Go.Proofs.Yteaaapdjplbljaa
end
section
namespace Go.Proofs.Yteaaapdjplbljaa
open Go Go.Proofs Go.RowKit Go.Shelf Go.Proofs.Yteaaapdjplbljaa.Hp
theorem hp_elemi:Elem Try.prog 3 (.int .i64 0) 1 8:=⟨by kernel_rfl,rfl,by decide⟩
end Go.Proofs.Yteaaapdjplbljaa
end
section
namespace Go.Proofs.Yteaaapdjplbljaa
open Go Go.Proofs Go.RowKit Go.Shelf Go.Proofs.Yteaaapdjplbljaa.Hp
end Go.Proofs.Yteaaapdjplbljaa
end
section
namespace Go.Proofs.Yteaaapdjplbljaa.Ns
open Go Go.Proofs Go.RowKit Go.Shelf Go.Proofs.Yteaaapdjplbljaa Go.Proofs.Yteaaapdjplbljaa.Hp
def cmpI (a b:Int):Int:=if a<b then -1 else if b<a then 1 else 0
abbrev RowI (w:World) (base g N cp:Nat) (l:List Int):Prop:=w.ownsRow base 3 1 (.slice (some ⟨g,0,none⟩) N cp) N (l.map encI)
theorem RowI.len {w:World} {base g N cp:Nat} {l:List Int} (h:RowI w base g N cp l):l.length=N:=by have:=h.1;simpa using this
theorem RowI.cell {w:World} {base g N cp:Nat} {l:List Int} (h:RowI w base g N cp l) {i:Nat} {x:Int} (hx:l[i]? =some x):w.cell? ⟨g,i,none⟩=some (.int .i64 x):=by
 have hi:=(List.getElem?_eq_some_iff.1 hx).1
 rw [h.cellAt i (by have:=h.len;omega),List.getElem?_map,hx]
 rfl
theorem RowI.put {w:World} {base g N cp:Nat} {l:List Int} (h:RowI w base g N cp l) (i:Nat) (x:Int):RowI (w.setCell ⟨g,i,none⟩ (.int .i64 x)) base g N cp (l.set i x):=by
 have:=(h.stored i (.int .i64 x)).1
 rw [←List.map_set (f:=encI)] at this
 exact this
theorem RowI.base {w:World} {base g N cp:Nat} {l:List Int} (h:RowI w base g N cp l):base≤g∧g<w.heap.size:=h.lt g rfl
end Go.Proofs.Yteaaapdjplbljaa.Ns
end
