/- What my walks use of every function: rows of cells that are read, rows that are owned, what a call leaves. No program in sight. -/
import Derived.WalkKit
import Derived.WalkLawsBesides
import Derived.WalkSpells
import Derived.Outline
import Derived.Lib.Hide
import Derived.Shelf.Abstract
import Derived.Deep.LoopGhost
import Derived.Deep.Quiet
import Derived.Deep.QuietTactic
import Derived.BigQuiet
import Derived.Deep.AppendLies
import Derived.Deep.RegionWith
import Derived.Deep.RegionHeld3
import Derived.ScopeJumps
set_option linter.unusedVariables false
set_option linter.unusedSimpArgs false
set_option linter.unnecessarySimpa false
namespace Go.Proofs.Yteaaapdjplbljaa
open Go.Proofs Go.RowKit Go.Shelf
def Cel (w:World) (ao:Option Addr) (cs:List Value):Prop:=
 ∀i u,cs[i]? =some u→∃b o,ao=some ⟨b,o,none⟩∧w.cell? ⟨b,o+i,none⟩=some u
theorem _root_.Go.RowKit.Below.st {w a b:World} (h:Below w.heap.size w a) (k:Below a.heap.size a b):Below w.heap.size w b:=h.trans (k.mono h.size)
theorem _root_.Go.RowKit.Below.al {w a:World} (h:Below w.heap.size w a) (o:Obj):Below w.heap.size w (a.alloc o):=h.alloc h.size o
theorem _root_.Go.RowKit.Below.dr {w a:World} (h:Below w.heap.size w a) (n:Nat):Below w.heap.size w (a.drewN n):=below_drewN h n
theorem _root_.Go.RowKit.Below.of_al (w:World) (o:Obj):Below w.heap.size w (w.alloc o):=(Below.refl _ _).al o
theorem Cel.nil (w:World) (ao:Option Addr):Cel w ao []:=fun i u h=>by simp at h
theorem Cel.below {w w':World} {ao:Option Addr} {cs:List Value} {B:Nat} (h:Cel w ao cs) (hb:Below B w w') (hB:w.heap.size≤B):Cel w' ao cs:=by
 intro i u hu
 obtain ⟨b,o,e,hc⟩:=h i u hu
 exact ⟨b,o,e,cell_later (hb.mono hB) hc⟩
theorem Cel.at {α:Type} {w:World} {ao:Option Addr} {l:List α} {enc:α→Value} (h:Cel w ao (l.map enc)) {i:Nat} (hi:i<l.length):
  ∃b o,ao=some ⟨b,o,none⟩∧w.cell? ⟨b,o+i,none⟩=some (enc l[i]):=
 h i _ (by simp [hi])
theorem Cel.go {w w':World} {ao:Option Addr} {cs:List Value} (h:Cel w ao cs) (hb:Below w.heap.size w w'):Cel w' ao cs:=h.below hb (Nat.le_refl _)
theorem Cel.of_owns {w:World} {base:Nat} {e:TypeId} {size n:Nat} {v:Value} {xs:List Value} (h:w.ownsRow base e size v n xs):
  ∃ao cap,v=.slice ao n cap∧Cel w ao xs:=by
 have h2:=h.2
 rcases h2 with ⟨rfl,rfl⟩|⟨g,cap,cur,rfl,hb,hg,rest⟩
 ·refine ⟨none,0,rfl,?_⟩
  have:xs=[]:=List.eq_nil_of_length_eq_zero (by simpa using h.1)
  subst this
  exact Cel.nil _ _
 ·refine ⟨_,cap,rfl,fun i u hu=>⟨g,0,rfl,?_⟩⟩
  have:=h.cells (g:=g) rfl i u hu
  rw [Addr.add_lit] at this
  exact this
def PredOn {α:Type} (P:Program) (g:Nat) (cb:Array Value) (enc:α→Value) (p:α→Bool) (l:List α) (w:World):Prop:=
 ∀(W:World) (x:α),Below w.heap.size w W→x∈l→Calls P g (#[enc x]++cb) W fun e w'=>e=.returned (.bool (p x))∧Below W.heap.size W w'
def idxI {α:Type} (p:α→Bool):List α→Int
 |[]=>-1
 |x::r=>if p x then 0 else if idxI p r<0 then -1 else idxI p r+1
theorem idxI_ge {α:Type} (p:α→Bool):∀l:List α,-1≤idxI p l
 |[]=>by simp [idxI]
 |x::r=>by
  have:=idxI_ge p r
  unfold idxI
  split
  ·omega
  ·split<;>omega
theorem idxI_any {α:Type} (p:α→Bool):∀l:List α,decide (0≤idxI p l)=l.any p
 |[]=>by simp [idxI]
 |x::r=>by
  have h:=idxI_any p r
  unfold idxI
  by_cases hp:p x=true
  ·simp [hp]
  ·rw [Bool.eq_false_iff.2 hp,List.any_cons,←h]
   have:=idxI_ge p r
   rw [Bool.eq_false_iff.2 hp,Bool.false_or]
   simp only [Bool.false_eq_true,if_false]
   split<;>(congr 1;apply propext;omega)
theorem idxI_miss {α:Type} (p:α→Bool):∀l:List α,(∀j (h:j<l.length),p l[j]=false)→idxI p l= -1
 |[],_=>rfl
 |x::r,h=>by
  unfold idxI
  rw [show p x=false from h 0 (by simp),idxI_miss p r (fun j hj=>h (j+1) (by simpa using hj))]
  simp
theorem idxI_hit {α:Type} (p:α→Bool):∀(l:List α) (k:Nat) (hk:k<l.length),p l[k]=true→(∀j (h:j<l.length),j<k→p l[j]=false)→idxI p l=(k:Int)
 |x::r,0,_,h,_=>by unfold idxI;rw [show p x=true from h];rfl
 |x::r,k+1,hk,h,hb=>by
  unfold idxI
  rw [show p x=false from hb 0 (by simp) (by omega),idxI_hit p r k (by simpa using hk) h (fun j hj h2=>hb (j+1) (by simpa using hj) (by omega))]
  simp
  omega
abbrev encI (n:Int):Value:=.int .i64 n
abbrev encW (n:Int):Value:=.int .u64 n
structure EP where
 d:Nat
 os:Array Obj
 deriving Inhabited
def ext (w:World) (p:EP):World:={ w with heap:=w.heap++p.os,drawn:=p.d }
theorem below_ext (w:World) (p:EP):Below w.heap.size w (ext w p):=
 ⟨rfl,rfl,rfl,by simp [ext],fun k hk=>by simp [ext,Array.getElem?_append,hk]⟩
theorem ext_of_below {w w':World} (h:Below w.heap.size w w'):∃p,w'=ext w p:=by
 refine ⟨⟨w'.drawn,w'.heap.extract w.heap.size w'.heap.size⟩,?_⟩
 have hh:w'.heap=w.heap++w'.heap.extract w.heap.size w'.heap.size:=by
  apply Array.ext_getElem?
  intro i
  rw [Array.getElem?_append]
  split
  ·rename_i hi;exact h.block i hi
  ·rename_i hi
   rw [Array.getElem?_extract]
   have hs:=h.size
   split
   ·congr 1;omega
   ·rename_i h2
    rw [Array.getElem?_eq_none (by omega)]
 cases w' with
 |mk hp tp dr os out=>
  obtain ⟨h1,h2,h3,h4,h5⟩:=h
  simp only at h1 h2 h3 hh
  subst h1 h2 h3
  unfold ext
  simp only
  rw [←hh]
theorem cell_ext {w:World} {a:Addr} {v:Value} (p:EP) (h:w.cell? a=some v):(ext w p).cell? a=some v:=cell_later (below_ext w p) h
theorem Calls.ext_of {P:Program} {f:FuncId} {args:Array Value} {w:World} {p:EP} {v:Value}
  (h:Calls P f args (ext w p) fun e w'=>e=.returned v∧Below (ext w p).heap.size (ext w p) w'):Calls P f args (ext w p) fun e w''=>e=.returned v∧∃p':EP,w''=ext w p':=
 h.mono fun _ _ ⟨he,hb⟩=>⟨he,ext_of_below ((below_ext w p).st hb)⟩
theorem Calls.ext_of_same {P:Program} {f:FuncId} {args:Array Value} {w:World} {p:EP} {v:Value}
  (h:Calls P f args (ext w p) fun e w'=>e=.returned v∧ext w p=w'):Calls P f args (ext w p) fun e w''=>e=.returned v∧∃p':EP,w''=ext w p':=
 h.mono fun _ _ ⟨he,hb⟩=>⟨he,p,hb.symm⟩
theorem wp_region_ext {P:Program} {id:Nat} {Q:Exit→Act→World→Prop} {a:Act} {w:World} {l:List Oper} (hm:P.follows .mixedOrders=true) (hB:Region.lexB .any l.toArray=true)
  (h:wpQuiet P l.toArray (fun w'=>∃p:EP,w'=ext w p) (fun a'=>∀w',(∃p:EP,w'=ext w p)→Q .normal a' w') l a):(Code.region id l.toArray true).wp P Q a w:=
 wp_region_quiet (C:=fun w'=>∃p:EP,w'=ext w p) hm hB (ext_of_below (below_drewN (Below.refl _ w) 1)) (by simpa using h)
section
variable {P:Program} {a:Act} {w:World} {Q:Exit→Act→World→Prop} {J:Nat→Act→World→Prop}
end
def Elem (P:Program) (E:TypeId) (z:Value) (size bytes:Nat):Prop:=
 (P.info? E).map (fun i=>(i.zero,i.size,i.bytes))=some (some z,size,bytes)∧z.cells.size=size∧0<size
theorem owns_dr {w:World} {base:Nat} {e:TypeId} {size:Nat} {v:Value} {n:Nat} {xs:List Value} (h:w.ownsRow base e size v n xs) (q:Nat):(w.drewN q).ownsRow base e size v n xs:=h
theorem one_cells {u:Value} (h:u.oneCell'=true):∀x∈[u],x.oneCell'=true:=fun x hx=>by
 rw [List.mem_singleton.1 hx];exact h
theorem wpList_app {P:Program} {w:World} {ops:Array Oper} {rest:List Oper} {a:Act} {Q:Exit→Act→World→Prop} {d:Option Tmp} {t ty:TypeId} {s x:Operand} {pos:String} {aft:Array Edge}
  (base:Nat) (E:TypeId) (z:Value) (size bytes:Nat) (hE:Elem P E z size bytes) (ht:P.underlying t=some (.slice E))
  (v:Value) (n:Nat) (xs:List Value) (ad:Addr) (m c:Nat) (news:List Value) (hs:a.eval s=v) (hx:a.eval x=.slice (some ad) m c)
  (hown:w.ownsRow base E size v n xs) (hnews:∀j u,news[j]? =some u→w.cell? (ad.add j)=some u) (h1:∀u∈news,u.oneCell'=true)
  (hl:news.length=m*size∧0<m∧n+m≤9223372036854775807∧(n+m)*bytes≤140737488355328∧base≤w.heap.size)
  (hK:∀g cap w',w'.ownsRow base E size (.slice (some ⟨g,0,none⟩) (n+m) cap) (n+m) (xs++news)→w.grownBy w' v.ownBlock→Below base w w'→
   (v.ownBlock=some g∨g=w.heap.size)→g<w'.heap.size→wpList P ops Q rest (a.put d (.slice (some ⟨g,0,none⟩) (n+m) cap)) w'):
  wpList P ops Q (⟨d,.call { callee:=.builtin .append,args:=#[s,x],argTypes:=#[t,t] },ty,pos,aft,none⟩::rest) a w:=by
 obtain ⟨hE,hz1,hz2⟩:=hE
 obtain ⟨i,hi,hz,hsz,hby⟩:=info_parts hE
 obtain ⟨l1,l2,l3,l4,l5⟩:=hl
 refine wpList_append_lies w rfl s x t rfl base E i z size bytes ht hi hz hsz hby hz1 hz2 v n xs hs hown ad m c news hx l1 hnews h1 l2 (by unfold maxLen;omega) l4 l5 _ rfl ?_
 intro g cap w' ho hg hat hlt
 exact hK g cap w' ho hg ((Below.refl _ w).grown hg l5 (fun k hk=>(hown.lt k hk).1)) hat hlt
theorem wpList_mk {P:Program} {w:World} {ops:Array Oper} {rest:List Oper} {a:Act} {Q:Exit→Act→World→Prop} {d:Option Tmp} {t ty:TypeId} {l c:Operand} {pos:String} {aft:Array Edge}
  (base:Nat) (E:TypeId) (z:Value) (size bytes:Nat) (hE:Elem P E z size bytes) (ht:P.underlying t=some (.slice E))
  (n:Nat) (kl kc:IntKind) (L C:Int) (hl:a.eval l=.int kl L) (hc:a.eval c=.int kc C)
  (h:L=(n:Int)∧C=(n:Int)∧bytes*n≤281474976710656∧n≤9223372036854775807∧base≤w.heap.size)
  (hK:∀w',w'.ownsRow base E size (.slice (some ⟨w.heap.size,0,none⟩) n n) n (madeCells z.cells (n*size)).toList→Below w.heap.size w w'→w.heap.size<w'.heap.size→
   wpList P ops Q rest (a.put d (.slice (some ⟨w.heap.size,0,none⟩) n n)) w'):
  wpList P ops Q (⟨d,.makeSlice t l c,ty,pos,aft,none⟩::rest) a w:=by
 obtain ⟨hE,hz1,hz2⟩:=hE
 obtain ⟨i,hi,hz,hsz,hby⟩:=info_parts hE
 obtain ⟨h1,h2,h3,h4,h5⟩:=h
 refine wpList_make_full w rfl l c t rfl base E i z size ht hi hz hsz kl kc L C n hl hc h1 h2 (by rw [hby];exact h3) (by unfold maxLen;omega) h5 ?_
 intro w' ho hg
 refine hK w' ho ((Below.refl _ w).grown hg (Nat.le_refl _) (fun k hk=>by cases hk)) ?_
 rcases ho.2 with ⟨e,_⟩|⟨g,cap,cur,e,_,hgg,_⟩
 ·cases e
 ·cases e
  exact (Array.getElem?_eq_some_iff.1 hgg).1
end Go.Proofs.Yteaaapdjplbljaa
