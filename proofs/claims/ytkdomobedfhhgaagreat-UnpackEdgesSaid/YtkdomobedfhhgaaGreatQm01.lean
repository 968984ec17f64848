/- What my walks use of every function: rows of cells that are read, rows that are owned, what a call leaves. No program in sight. -/
import Derived.WalkKit
import Derived.WalkLawsBesides
import Derived.WalkSpells
import Derived.Outline
import Derived.Lib.Hide
import Derived.Shelf.Abstract
import Derived.Deep.LoopGhost
import Derived.Deep.Quiet
import Derived.Deep.QuietTactic
import Derived.BigQuiet
import Derived.Deep.AppendLies
import Derived.Deep.RegionWith
import Derived.Deep.RegionHeld3
import Derived.ScopeJumps
set_option linter.unusedVariables false
set_option linter.unusedSimpArgs false
set_option linter.unnecessarySimpa false
namespace Go.Proofs.YtkdomobedfhhgaaGreat
open Go.Proofs Go.RowKit Go.Shelf
def Cel (w:World) (ao:Option Addr) (cs:List Value):Prop:=
 ∀i u,cs[i]? =some u→∃b o,ao=some ⟨b,o,none⟩∧w.cell? ⟨b,o+i,none⟩=some u
theorem _root_.Go.RowKit.Below.st {w a b:World} (h:Below w.heap.size w a) (k:Below a.heap.size a b):Below w.heap.size w b:=h.trans (k.mono h.size)
theorem _root_.Go.RowKit.Below.al {w a:World} (h:Below w.heap.size w a) (o:Obj):Below w.heap.size w (a.alloc o):=h.alloc h.size o
theorem _root_.Go.RowKit.Below.dr {w a:World} (h:Below w.heap.size w a) (n:Nat):Below w.heap.size w (a.drewN n):=below_drewN h n
theorem _root_.Go.RowKit.Below.of_dr (w:World) (n:Nat):Below w.heap.size w (w.drewN n):=below_drewN (Below.refl _ _) n
theorem _root_.Go.RowKit.Below.of_al (w:World) (o:Obj):Below w.heap.size w (w.alloc o):=(Below.refl _ _).al o
theorem Cel.nil (w:World) (ao:Option Addr):Cel w ao []:=fun i u h=>by simp at h
theorem Cel.below {w w':World} {ao:Option Addr} {cs:List Value} {B:Nat} (h:Cel w ao cs) (hb:Below B w w') (hB:w.heap.size≤B):Cel w' ao cs:=by
 intro i u hu
 obtain ⟨b,o,e,hc⟩:=h i u hu
 exact ⟨b,o,e,cell_later (hb.mono hB) hc⟩
theorem Cel.at {α:Type} {w:World} {ao:Option Addr} {l:List α} {enc:α→Value} (h:Cel w ao (l.map enc)) {i:Nat} (hi:i<l.length):
  ∃b o,ao=some ⟨b,o,none⟩∧w.cell? ⟨b,o+i,none⟩=some (enc l[i]):=
 h i _ (by simp [hi])
theorem Cel.of_some {w:World} {b o:Nat} {cs:List Value} (h:∀i u,cs[i]? =some u→w.cell? ⟨b,o+i,none⟩=some u):Cel w (some ⟨b,o,none⟩) cs:=
 fun i u hu=>⟨b,o,rfl,h i u hu⟩
theorem Cel.go {w w':World} {ao:Option Addr} {cs:List Value} (h:Cel w ao cs) (hb:Below w.heap.size w w'):Cel w' ao cs:=h.below hb (Nat.le_refl _)
theorem cel_new (w:World) (cs:Array Value) (E:TypeId) (fr:Nat×Nat):Cel (w.alloc (.cells cs E fr)) (some ⟨w.heap.size,0,none⟩) cs.toList:=
 Cel.of_some fun i u hu=>by
  rw [Nat.zero_add]
  have:=World.cell?_alloc_mark w cs E fr i
  rw [this]
  simpa using hu
theorem cel_at {w:World} {cs:Array Value} {l:List Value} {E:TypeId} {fr:Nat×Nat} {g:Nat} (hg:w.heap.size=g) (hl:cs.toList=l):Cel (w.alloc (.cells cs E fr)) (some ⟨g,0,none⟩) l:=by
 subst hg hl
 exact cel_new w cs E fr
theorem cel1 {w:World} {b o:Nat} {x:Value} (h:w.cell? ⟨b,o,none⟩=some x):Cel w (some ⟨b,o,none⟩) [x]:=
 Cel.of_some fun i u hu=>by
  match i,hu with
  |0,hu=>cases hu;exact h
theorem cel2 {w:World} {b o:Nat} {x y:Value} (h:w.cell? ⟨b,o,none⟩=some x) (h2:w.cell? ⟨b,o+1,none⟩=some y):Cel w (some ⟨b,o,none⟩) [x,y]:=
 Cel.of_some fun i u hu=>by
  match i,hu with
  |0,hu=>cases hu;exact h
  |1,hu=>cases hu;exact h2
theorem Cel.of_owns {w:World} {base:Nat} {e:TypeId} {size n:Nat} {v:Value} {xs:List Value} (h:w.ownsRow base e size v n xs):
  ∃ao cap,v=.slice ao n cap∧Cel w ao xs:=by
 have h2:=h.2
 rcases h2 with ⟨rfl,rfl⟩|⟨g,cap,cur,rfl,hb,hg,rest⟩
 ·refine ⟨none,0,rfl,?_⟩
  have:xs=[]:=List.eq_nil_of_length_eq_zero (by simpa using h.1)
  subst this
  exact Cel.nil _ _
 ·refine ⟨_,cap,rfl,fun i u hu=>⟨g,0,rfl,?_⟩⟩
  have:=h.cells (g:=g) rfl i u hu
  rw [Addr.add_lit] at this
  exact this
theorem ne_s {x y:ByteArray} (h:(!x.toList==y.toList)=true):x≠y:=by
 rintro rfl
 simp at h
theorem eq_s {x y:ByteArray} (h:(!x.toList==y.toList)=false):x=y:=by
 have h1:x.toList=y.toList:=by simpa using h
 rw [ByteArray.toList_eq,ByteArray.toList_eq] at h1
 exact Go.WideShapes.bytes_inj h1
theorem ne_i {x y:Int} (h:(x != y)=true):x≠y:=by simpa using h
theorem eq_i {x y:Int} (h:(x != y)=false):x=y:=by simpa using h
theorem ne_u {x y:Nat} (h:((x:Int) != (y:Int))=true):x≠y:=by
 rintro rfl
 simp at h
theorem eq_u {x y:Nat} (h:((x:Int) != (y:Int))=false):x=y:=by
 have:(x:Int)=(y:Int):=by simpa using h
 omega
def PredOn {α:Type} (P:Program) (g:Nat) (cb:Array Value) (enc:α→Value) (p:α→Bool) (l:List α) (w:World):Prop:=
 ∀(W:World) (x:α),Below w.heap.size w W→x∈l→Calls P g (#[enc x]++cb) W fun e w'=>e=.returned (.bool (p x))∧Below W.heap.size W w'
def idxI {α:Type} (p:α→Bool):List α→Int
 |[]=>-1
 |x::r=>if p x then 0 else if idxI p r<0 then -1 else idxI p r+1
theorem idxI_ge {α:Type} (p:α→Bool):∀l:List α,-1≤idxI p l
 |[]=>by simp [idxI]
 |x::r=>by
  have:=idxI_ge p r
  unfold idxI
  split
  ·omega
  ·split<;>omega
theorem idxI_any {α:Type} (p:α→Bool):∀l:List α,decide (0≤idxI p l)=l.any p
 |[]=>by simp [idxI]
 |x::r=>by
  have h:=idxI_any p r
  unfold idxI
  by_cases hp:p x=true
  ·simp [hp]
  ·rw [Bool.eq_false_iff.2 hp,List.any_cons,←h]
   have:=idxI_ge p r
   rw [Bool.eq_false_iff.2 hp,Bool.false_or]
   simp only [Bool.false_eq_true,if_false]
   split<;>(congr 1;apply propext;omega)
theorem idxI_miss {α:Type} (p:α→Bool):∀l:List α,(∀j (h:j<l.length),p l[j]=false)→idxI p l= -1
 |[],_=>rfl
 |x::r,h=>by
  unfold idxI
  rw [show p x=false from h 0 (by simp),idxI_miss p r (fun j hj=>h (j+1) (by simpa using hj))]
  simp
theorem idxI_hit {α:Type} (p:α→Bool):∀(l:List α) (k:Nat) (hk:k<l.length),p l[k]=true→(∀j (h:j<l.length),j<k→p l[j]=false)→idxI p l=(k:Int)
 |x::r,0,_,h,_=>by unfold idxI;rw [show p x=true from h];rfl
 |x::r,k+1,hk,h,hb=>by
  unfold idxI
  rw [show p x=false from hb 0 (by simp) (by omega),idxI_hit p r k (by simpa using hk) h (fun j hj h2=>hb (j+1) (by simpa using hj) (by omega))]
  simp
  omega
def Ret (w:World) (R:Value→World→Prop) (e:Ending) (w':World):Prop:=
 ∃v,e=.returned v∧R v w'∧Below w.heap.size w w'
def Own (w:World) (g:Nat) (E:TypeId) (cs:List Value):Prop:=
 ∃cur lo hi,w.heap[g]? =some (.cells cur E (lo,hi))∧cur.toList.take cs.length=cs∧∀j,j<cs.length→¬(lo≤j∧j<hi)
theorem Own.lt {w:World} {g:Nat} {E:TypeId} {cs:List Value} (h:Own w g E cs):g<w.heap.size:=by
 obtain ⟨cur,lo,hi,hg,_⟩:=h
 exact (Array.getElem?_eq_some_iff.1 hg).1
theorem Own.cell {w:World} {g:Nat} {E:TypeId} {cs:List Value} (h:Own w g E cs) {i:Nat} {u:Value} (hu:cs[i]? =some u):w.cell? ⟨g,i,none⟩=some u:=by
 obtain ⟨cur,lo,hi,hg,ht,_⟩:=h
 unfold World.cell?
 rw [hg]
 rw [←ht,List.getElem?_take] at hu
 split at hu
 ·simpa using hu
 ·cases hu
theorem Own.free {w:World} {g:Nat} {E:TypeId} {cs:List Value} (h:Own w g E cs) {i:Nat} (hi':i<cs.length):w.frozen? ⟨g,i,none⟩=false:=by
 obtain ⟨cur,lo,hi,hg,ht,hf⟩:=h
 have:=hf i hi'
 unfold World.frozen?
 rw [hg]
 simp only [Bool.and_eq_false_iff,decide_eq_false_iff_not]
 omega
theorem Own.set {w:World} {g:Nat} {E:TypeId} {cs:List Value} (h:Own w g E cs) (i:Nat) (u:Value):Own (w.setCell ⟨g,i,none⟩ u) g E (cs.set i u):=by
 obtain ⟨cur,lo,hi,hg,ht,hf⟩:=h
 refine ⟨cur.setIfInBounds i u,lo,hi,?_,?_,by simpa using hf⟩
 ·simp only [World.setCell,Array.getElem?_modify,hg]
  simp
 ·rw [Array.toList_setIfInBounds,List.length_set,List.take_set,ht]
theorem Own.cel {w:World} {g:Nat} {E:TypeId} {cs:List Value} (h:Own w g E cs):Cel w (some ⟨g,0,none⟩) cs:=
 Cel.of_some fun i u hu=>by rw [Nat.zero_add];exact h.cell hu
theorem Own.below {w w':World} {g:Nat} {E:TypeId} {cs:List Value} {B:Nat} (h:Own w g E cs) (hb:Below B w w') (hB:g<B):Own w' g E cs:=by
 obtain ⟨cur,lo,hi,hg,r⟩:=h
 exact ⟨cur,lo,hi,by rw [hb.block g hB];exact hg,r⟩
abbrev encU8 (c:UInt8):Value:=.int .u8 (c.toNat:Int)
abbrev encI (n:Int):Value:=.int .i64 n
abbrev encW (n:Int):Value:=.int .u64 n
abbrev encU (n:Nat):Value:=.int .u64 (n:Int)
abbrev encS (s:ByteArray):Value:=.string s
theorem List.set_getElem_self' {α:Type} {l:List α} {i:Nat} {x:α} (h:l[i]? =some x):l.set i x=l:=by
 apply List.ext_getElem?
 intro j
 rw [List.getElem?_set]
 by_cases e:i=j
 ·subst e
  have:=(List.getElem?_eq_some_iff.1 h).1
  simp [this,←h]
 ·simp [e]
def mid {α:Type} (f:α→α) (l:List α) (k:Nat):List α:=(l.take k).map f++l.drop k
theorem mid_zero {α:Type} (f:α→α) (l:List α):mid f l 0=l:=by simp [mid]
theorem mid_all {α:Type} (f:α→α) (l:List α) (k:Nat) (h:l.length≤k):mid f l k=l.map f:=by
 simp [mid,List.take_of_length_le h,List.drop_eq_nil_of_le h]
theorem mid_length {α:Type} (f:α→α) (l:List α) (k:Nat):(mid f l k).length=l.length:=by simp [mid];omega
theorem mid_get {α:Type} (f:α→α) (l:List α) (k:Nat) (h:k<l.length):(mid f l k)[k]? =some l[k]:=by
 unfold mid
 rw [List.getElem?_append_right (by simp;omega)]
 simp [Nat.min_eq_left (Nat.le_of_lt h),h]
theorem mid_set {α:Type} (f:α→α) (l:List α) (k:Nat) (h:k<l.length):(mid f l k).set k (f l[k])=mid f l (k+1):=by
 unfold mid
 rw [List.set_append_right _ _ (by simp;omega)]
 simp only [List.length_map,List.length_take,Nat.min_eq_left (Nat.le_of_lt h),Nat.sub_self]
 rw [List.drop_eq_getElem_cons h,List.set_cons_zero,List.take_succ_eq_append_getElem h,List.map_append,List.append_assoc]
 rfl
theorem mid_same {α:Type} (f:α→α) (l:List α) (k:Nat) (h:k<l.length) (hf:f l[k]=l[k]):mid f l k=mid f l (k+1):=by
 rw [←mid_set f l k h,hf]
 exact (List.set_getElem_self' (mid_get f l k h)).symm
theorem own_bytes (w:World) (s:ByteArray) (E:TypeId) (cap:Nat) (_h:s.size≤cap):
  Own (w.drew.alloc (.cells (bytesRow s cap) E ((bytesRow s cap).size,(bytesRow s cap).size+1))) w.heap.size E (s.data.toList.map fun b=>Value.int .u8 (b.toNat:Int)):=by
 refine ⟨_,_,_,heap_alloc_new w.drew _,?_,?_⟩
 ·unfold bytesRow
  rw [Array.toList_append,List.take_append_of_le_length (by simp),List.take_of_length_le (by simp)]
  simp
 ·intro j hj
  have h1:(bytesRow s cap).size=s.data.size+(cap-s.size):=by simp [bytesRow]
  have h2:j<s.data.size:=by simpa using hj
  rw [h1]
  omega
theorem wpList_bytes_of {P:Program} {w:World} {ops:Array Oper} {rest:List Oper} {a:Act} {Q:Exit→Act→World→Prop} {d:Option Tmp} {src dst ty:TypeId} {x:Operand} {pos:String} {aft:Array Edge}
  (E:TypeId) (s:ByteArray) (hx:a.eval x=.string s) (hs:P.underlying src=some .string) (hd:P.underlying dst=some (.slice E)) (he:P.underlying E=some (.int .u8))
  (hK:∀cap w',Own w' w.heap.size E (s.data.toList.map fun b=>Value.int .u8 (b.toNat:Int))→Below w.heap.size w w'→w.heap.size<w'.heap.size→wpList P ops Q rest (a.put d (.slice (some ⟨w.heap.size,0,none⟩) s.size cap)) w'):
  wpList P ops Q (⟨d,.convert src dst x,ty,pos,aft,none⟩::rest) a w:=by
 refine wpList_plain rfl fun K hK'=>?_
 have hr:=run_bytes_of_string (P:=P) w src dst E s hs hd he
 unfold Oper.wp
 simp [execOp,hx,hr,Result.andThen]
 refine hK' _ _ (hK _ _ (own_bytes w s E _ (grownCap_ge w s.size 0 E)) ?_ ?_)
 ·exact ((Below.refl _ w).drew).alloc (by simp) _
 ·simp
theorem wpList_string_of {P:Program} {w:World} {ops:Array Oper} {rest:List Oper} {a:Act} {Q:Exit→Act→World→Prop} {d:Option Tmp} {src dst ty:TypeId} {x:Operand} {pos:String} {aft:Array Edge}
  (E:TypeId) (l:List UInt8) (ao:Option Addr) (n cap:Nat) (hn:l.length=n) (hx:a.eval x=.slice ao n cap) (hc:Cel w ao (l.map fun b=>Value.int .u8 (b.toNat:Int))) (hs:P.underlying src=some (.slice E)) (hd:P.underlying dst=some .string) (he:P.underlying E=some (.int .u8))
  (hK:wpList P ops Q rest (a.put d (.string ⟨l.toArray⟩)) w):
  wpList P ops Q (⟨d,.convert src dst x,ty,pos,aft,none⟩::rest) a w:=by
 subst hn
 refine wpList_plain rfl fun K hK'=>?_
 have hr:(convert src dst (.slice ao l.length cap)).run P w=.ok (.string ⟨l.toArray⟩) w:=by
  cases ao with
  |none=>
   have:l=[]:=by
    cases l with
    |nil=>rfl
    |cons x r=>obtain ⟨b,o,e,_⟩:=hc 0 _ rfl;cases e
   subst this
   rw [run_convert_bytes_string w src dst E _ _ cap hs he hd]
   simp [Conv.bytesToString]
   rfl
  |some ad=>
   by_cases hl:l=[]
   ·subst hl
    exact run_convert_bytes_back w src dst E ad cap [] hs he hd (fun j hj=>absurd hj (by simp))
   ·refine run_convert_bytes_back w src dst E ad cap l hs he hd (fun j hj=>?_)
    obtain ⟨b,o,e,h⟩:=hc j _ (by simp [hj];rfl)
    cases e
    rw [Addr.add_lit]
    exact h
 unfold Oper.wp
 simp [execOp,hx,hr,Result.andThen]
 exact hK' _ _ hK
structure EP where
 d:Nat
 os:Array Obj
 deriving Inhabited
def ext (w:World) (p:EP):World:={ w with heap:=w.heap++p.os,drawn:=p.d }
theorem below_ext (w:World) (p:EP):Below w.heap.size w (ext w p):=
 ⟨rfl,rfl,rfl,by simp [ext],fun k hk=>by simp [ext,Array.getElem?_append,hk]⟩
theorem ext_of_below {w w':World} (h:Below w.heap.size w w'):∃p,w'=ext w p:=by
 refine ⟨⟨w'.drawn,w'.heap.extract w.heap.size w'.heap.size⟩,?_⟩
 have hh:w'.heap=w.heap++w'.heap.extract w.heap.size w'.heap.size:=by
  apply Array.ext_getElem?
  intro i
  rw [Array.getElem?_append]
  split
  ·rename_i hi;exact h.block i hi
  ·rename_i hi
   rw [Array.getElem?_extract]
   have hs:=h.size
   split
   ·congr 1;omega
   ·rename_i h2
    rw [Array.getElem?_eq_none (by omega)]
 cases w' with
 |mk hp tp dr os out=>
  obtain ⟨h1,h2,h3,h4,h5⟩:=h
  simp only at h1 h2 h3 hh
  subst h1 h2 h3
  unfold ext
  simp only
  rw [←hh]
theorem cell_ext {w:World} {a:Addr} {v:Value} (p:EP) (h:w.cell? a=some v):(ext w p).cell? a=some v:=cell_later (below_ext w p) h
theorem Calls.ext_of {P:Program} {f:FuncId} {args:Array Value} {w:World} {p:EP} {v:Value}
  (h:Calls P f args (ext w p) fun e w'=>e=.returned v∧Below (ext w p).heap.size (ext w p) w'):Calls P f args (ext w p) fun e w''=>e=.returned v∧∃p':EP,w''=ext w p':=
 h.mono fun _ _ ⟨he,hb⟩=>⟨he,ext_of_below ((below_ext w p).st hb)⟩
theorem Calls.ext_of_same {P:Program} {f:FuncId} {args:Array Value} {w:World} {p:EP} {v:Value}
  (h:Calls P f args (ext w p) fun e w'=>e=.returned v∧ext w p=w'):Calls P f args (ext w p) fun e w''=>e=.returned v∧∃p':EP,w''=ext w p':=
 h.mono fun _ _ ⟨he,hb⟩=>⟨he,p,hb.symm⟩
theorem Calls.ext_of_drew {P:Program} {f:FuncId} {args:Array Value} {w:World} {p:EP} {v:Value}
  (h:Calls P f args (ext w p) fun e w'=>e=.returned v∧∃n,w'=(ext w p).drewN n):Calls P f args (ext w p) fun e w''=>e=.returned v∧∃p':EP,w''=ext w p':=
 Calls.ext_of (h.mono fun _ _ ⟨he,n,hn⟩=>⟨he,hn▸Below.of_dr _ n⟩)
theorem wp_region_ext {P:Program} {id:Nat} {Q:Exit→Act→World→Prop} {a:Act} {w:World} {l:List Oper} (hm:P.follows .mixedOrders=true) (hB:Region.lexB .any l.toArray=true)
  (h:wpQuiet P l.toArray (fun w'=>∃p:EP,w'=ext w p) (fun a'=>∀w',(∃p:EP,w'=ext w p)→Q .normal a' w') l a):(Code.region id l.toArray true).wp P Q a w:=
 wp_region_quiet (C:=fun w'=>∃p:EP,w'=ext w p) hm hB (ext_of_below (below_drewN (Below.refl _ w) 1)) (by simpa using h)
def lit (n:Nat) (u:Nat→Value):Act:=⟨((List.range n).map u).toArray,[]⟩
theorem lit_of (n:Nat) (a:Act) (h:a.tmps.size=n) (hd:a.defers=[]):a=lit n (fun i=>a.tmps.getD i undef):=by
 cases a with
 |mk t d=>
  simp only at h hd
  subst hd
  unfold lit
  congr 1
  apply Array.ext
  ·simp [h]
  ·intro i h1 h2
   simp [h1]
def Exit.jumps (J:Nat→Act→World→Prop) (Q:Exit→Act→World→Prop):Exit→Act→World→Prop
 | .goto l,a,w=>J l a w
 |e,a,w=>Q e a w
section
variable {P:Program} {a:Act} {w:World} {Q:Exit→Act→World→Prop} {J:Nat→Act→World→Prop}
@[go_sem] theorem jumps_normal:Exit.jumps J Q .normal a w=Q .normal a w:=rfl
@[go_sem] theorem jumps_exit (id:Nat):Exit.jumps J Q (.exit id) a w=Q (.exit id) a w:=rfl
@[go_sem] theorem jumps_ret:Exit.jumps J Q .ret a w=Q .ret a w:=rfl
@[go_sem] theorem jumps_panic (ch:List PanicEntry):Exit.jumps J Q (.panic ch) a w=Q (.panic ch) a w:=rfl
@[go_sem] theorem jumps_goto (l:Nat):Exit.jumps J Q (.goto l) a w=J l a w:=rfl
theorem wp_scope_labels {c:Code} (n₀:Nat) (J:Nat→Nat→Act→World→Prop)
  (first:c.wp P (Exit.jumps (J n₀) Q) a w)
  (pass:∀n l a w,J n l a w→∃rest,findLabel c l=some rest∧rest.wp P (Exit.jumps (fun l' a' w'=>∃n',n'<n∧J n' l' a' w') Q) a w):(Code.scope c).wp P Q a w:=by
 intro b k cs
 have hg:∀l rest,findLabel c l=some rest→gotoIn l (.inScope c::k)=some (.code rest::.inScope c::k):=fun l rest hf=>by simp [gotoIn,hf]
 have key:∀n l a w,J n l a w→∃rest,findLabel c l=some rest∧∃e a' w',Q e a' w'∧Arrives P (lone (b.at a (.code rest::.inScope c::k)) cs w) b k cs e a' w':=by
  intro n
  induction n using Nat.strongRecOn with
  |_ n ih=>
   intro l a w hJ
   obtain ⟨rest,hf,hwp⟩:=pass n l a w hJ
   refine ⟨rest,hf,?_⟩
   obtain ⟨e,a₁,w₁,hq,harr⟩:=hwp b (.inScope c::k) cs
   cases e with
   |normal=>exact ⟨.normal,a₁,w₁,hq,Steps.trans harr (.one step_inScope)⟩
   |exit id=>exact ⟨.exit id,a₁,w₁,hq,fun k' hk=>harr k' (by simp [exitTo,hk])⟩
   |goto l'=>
    obtain ⟨n',hlt,hJ'⟩:=hq
    obtain ⟨rest',hf',e₂,a₂,w₂,hq₂,harr₂⟩:=ih n' hlt l' a₁ w₁ hJ'
    exact ⟨e₂,a₂,w₂,hq₂,.of_steps (harr _ (hg _ _ hf')) harr₂⟩
   |ret=>exact ⟨_,a₁,w₁,hq,harr⟩
   |panic ch=>exact ⟨_,a₁,w₁,hq,harr⟩
   |outgrown=>exact ⟨_,a₁,w₁,hq,harr⟩
 obtain ⟨e,a₁,w₁,hq,harr⟩:=first b (.inScope c::k) cs
 cases e with
 |normal=>exact ⟨.normal,a₁,w₁,hq,.head step_scope (Steps.trans harr (.one step_inScope))⟩
 |exit id=>exact ⟨.exit id,a₁,w₁,hq,fun k' hk=>.head step_scope (harr k' (by simp [exitTo,hk]))⟩
 |goto l'=>
  obtain ⟨rest',hf',e₂,a₂,w₂,hq₂,harr₂⟩:=key n₀ l' a₁ w₁ hq
  exact ⟨e₂,a₂,w₂,hq₂,.of_steps (.head step_scope (harr _ (hg _ _ hf'))) harr₂⟩
 |ret=>exact ⟨_,a₁,w₁,hq,.of_steps (.one step_scope) harr⟩
 |panic ch=>exact ⟨_,a₁,w₁,hq,.of_steps (.one step_scope) harr⟩
 |outgrown=>exact ⟨_,a₁,w₁,hq,.of_steps (.one step_scope) harr⟩
theorem wp_scope_into {c r:Code} (l₀ n₀:Nat) (J:Nat→Nat→Act→World→Prop) (hf:findLabel c l₀=some (.seq .skip r)) (hJ:∀n n' l a w,n≤n'→J n l a w→J n' l a w)
  (first:(∀a w,J n₀ l₀ a w→r.wp P (Exit.jumps (J n₀) Q) a w)→c.wp P (Exit.jumps (J n₀) Q) a w)
  (pass₀:∀n a w,J n l₀ a w→r.wp P (Exit.jumps (fun l' a' w'=>∃n',n'<n∧J n' l' a' w') Q) a w)
  (pass:∀n l a w,l≠l₀→J n l a w→∃rest,findLabel c l=some rest∧rest.wp P (Exit.jumps (fun l' a' w'=>∃n',n'<n∧J n' l' a' w') Q) a w):(Code.scope c).wp P Q a w:=by
 refine wp_scope_labels n₀ J (first ?_) ?_
 ·intro a w hj
  refine Code.wp_mono ?_ (pass₀ (n₀+1) a w (hJ _ _ _ _ _ (Nat.le_succ _) hj))
  intro e a w hq
  cases e with
  |goto l=>obtain ⟨n',hlt,hj'⟩:=hq;exact hJ _ _ _ _ _ (by omega) hj'
  |_=>exact hq
 ·intro n l a w hj
  by_cases hl:l=l₀
  ·subst hl
   refine ⟨_,hf,wp_seq_k ?_⟩
   intro K hK
   exact wp_skip (hK _ _ (pass₀ n a w hj))
  ·exact pass n l a w hl hj
theorem wp_loop_lit {c:Code} (n:Nat) (n₀:Nat) (R:Nat→(Nat→Value)→World→Prop) (h0:a.tmps.size=n) (hd:a.defers=[]) (h₀:R n₀ (fun i=>a.tmps.getD i undef) w)
  (round:∀g u w,R g u w→∀K:Act→World→Prop,(∀a' w',(∃g' u',g'<g∧a'=lit n u'∧R g' u' w')→K a' w')→c.wp P (Exit.then K Q) (lit n u) w):(Code.loop c).wp P Q a w:=by
 refine wp_loop_ghost (fun g a w=>∃u,a=lit n u∧R g u w) n₀ ⟨_,lit_of n a h0 hd,h₀⟩ ?_
 rintro g a w ⟨u,rfl,hR⟩
 refine round g u w hR _ ?_
 rintro a' w' ⟨g',u',hlt,he,hR'⟩
 exact ⟨g',hlt,u',he,hR'⟩
end
def Elem (P:Program) (E:TypeId) (z:Value) (size bytes:Nat):Prop:=
 (P.info? E).map (fun i=>(i.zero,i.size,i.bytes))=some (some z,size,bytes)∧z.cells.size=size∧0<size
theorem owns_dr {w:World} {base:Nat} {e:TypeId} {size:Nat} {v:Value} {n:Nat} {xs:List Value} (h:w.ownsRow base e size v n xs) (q:Nat):(w.drewN q).ownsRow base e size v n xs:=h
theorem one_cells {u:Value} (h:u.oneCell'=true):∀x∈[u],x.oneCell'=true:=fun x hx=>by
 rw [List.mem_singleton.1 hx];exact h
theorem wpList_app {P:Program} {w:World} {ops:Array Oper} {rest:List Oper} {a:Act} {Q:Exit→Act→World→Prop} {d:Option Tmp} {t ty:TypeId} {s x:Operand} {pos:String} {aft:Array Edge}
  (base:Nat) (E:TypeId) (z:Value) (size bytes:Nat) (hE:Elem P E z size bytes) (ht:P.underlying t=some (.slice E))
  (v:Value) (n:Nat) (xs:List Value) (ad:Addr) (m c:Nat) (news:List Value) (hs:a.eval s=v) (hx:a.eval x=.slice (some ad) m c)
  (hown:w.ownsRow base E size v n xs) (hnews:∀j u,news[j]? =some u→w.cell? (ad.add j)=some u) (h1:∀u∈news,u.oneCell'=true)
  (hl:news.length=m*size∧0<m∧n+m≤9223372036854775807∧(n+m)*bytes≤140737488355328∧base≤w.heap.size)
  (hK:∀g cap w',w'.ownsRow base E size (.slice (some ⟨g,0,none⟩) (n+m) cap) (n+m) (xs++news)→w.grownBy w' v.ownBlock→Below base w w'→
   (v.ownBlock=some g∨g=w.heap.size)→g<w'.heap.size→wpList P ops Q rest (a.put d (.slice (some ⟨g,0,none⟩) (n+m) cap)) w'):
  wpList P ops Q (⟨d,.call { callee:=.builtin .append,args:=#[s,x],argTypes:=#[t,t] },ty,pos,aft,none⟩::rest) a w:=by
 obtain ⟨hE,hz1,hz2⟩:=hE
 obtain ⟨i,hi,hz,hsz,hby⟩:=info_parts hE
 obtain ⟨l1,l2,l3,l4,l5⟩:=hl
 refine wpList_append_lies w rfl s x t rfl base E i z size bytes ht hi hz hsz hby hz1 hz2 v n xs hs hown ad m c news hx l1 hnews h1 l2 (by unfold maxLen;omega) l4 l5 _ rfl ?_
 intro g cap w' ho hg hat hlt
 exact hK g cap w' ho hg ((Below.refl _ w).grown hg l5 (fun k hk=>(hown.lt k hk).1)) hat hlt
theorem wpList_mk {P:Program} {w:World} {ops:Array Oper} {rest:List Oper} {a:Act} {Q:Exit→Act→World→Prop} {d:Option Tmp} {t ty:TypeId} {l c:Operand} {pos:String} {aft:Array Edge}
  (base:Nat) (E:TypeId) (z:Value) (size bytes:Nat) (hE:Elem P E z size bytes) (ht:P.underlying t=some (.slice E))
  (n:Nat) (kl kc:IntKind) (L C:Int) (hl:a.eval l=.int kl L) (hc:a.eval c=.int kc C)
  (h:L=(n:Int)∧C=(n:Int)∧bytes*n≤281474976710656∧n≤9223372036854775807∧base≤w.heap.size)
  (hK:∀w',w'.ownsRow base E size (.slice (some ⟨w.heap.size,0,none⟩) n n) n (madeCells z.cells (n*size)).toList→Below w.heap.size w w'→w.heap.size<w'.heap.size→
   wpList P ops Q rest (a.put d (.slice (some ⟨w.heap.size,0,none⟩) n n)) w'):
  wpList P ops Q (⟨d,.makeSlice t l c,ty,pos,aft,none⟩::rest) a w:=by
 obtain ⟨hE,hz1,hz2⟩:=hE
 obtain ⟨i,hi,hz,hsz,hby⟩:=info_parts hE
 obtain ⟨h1,h2,h3,h4,h5⟩:=h
 refine wpList_make_full w rfl l c t rfl base E i z size ht hi hz hsz kl kc L C n hl hc h1 h2 (by rw [hby];exact h3) (by unfold maxLen;omega) h5 ?_
 intro w' ho hg
 refine hK w' ho ((Below.refl _ w).grown hg (Nat.le_refl _) (fun k hk=>by cases hk)) ?_
 rcases ho.2 with ⟨e,_⟩|⟨g,cap,cur,e,_,hgg,_⟩
 ·cases e
 ·cases e
  exact (Array.getElem?_eq_some_iff.1 hgg).1
theorem step_app {P:Program} {w:World} {ops:Array Oper} {o:Oper} {a:Act} {K:Act→World→Prop} {Q:Exit→Act→World→Prop} {F:Prop} (hgd:o.guard=none) (s x:Operand) (t:TypeId)
  (ho:o.op=.call { callee:=.builtin .append,args:=#[s,x],argTypes:=#[t,t] })
  (base:Nat) (E:TypeId) (z:Value) (size bytes:Nat) (hE:Elem P E z size bytes) (ht:P.underlying t=some (.slice E))
  (v:Value) (n:Nat) (xs:List Value) (ad:Addr) (m c:Nat) (news:List Value) (hs:a.eval s=v) (hx:a.eval x=.slice (some ad) m c)
  (hown:w.ownsRow base E size v n xs) (hnews:∀j u,news[j]? =some u→w.cell? (ad.add j)=some u) (h1:∀u∈news,u.oneCell'=true)
  (hl:news.length=m*size∧0<m∧n+m≤9223372036854775807∧(n+m)*bytes≤140737488355328∧base≤w.heap.size)
  (h:∀g cap w',w'.ownsRow base E size (.slice (some ⟨g,0,none⟩) (n+m) cap) (n+m) (xs++news)→base≤g→Below base w w'→K (a.put o.dst (.slice (some ⟨g,0,none⟩) (n+m) cap)) w'):
  if Region.wanted o (yielded ops a.tmps)=true then Oper.wp P o a w K Q else F:=by
 obtain ⟨hE,hz1,hz2⟩:=hE
 obtain ⟨i,hi,hz,hsz,hby⟩:=info_parts hE
 obtain ⟨l1,l2,l3,l4,l5⟩:=hl
 refine step_append_lies w hgd s x t ho base E i z size bytes ht hi hz hsz hby hz1 hz2 v n xs hs hown ad m c news hx l1 hnews h1 l2 (by unfold maxLen;omega) l4 l5 _ rfl ?_
 intro g cap w' ho hg hat hlt
 refine h g cap w' ho ?_ ((Below.refl _ w).grown hg l5 (fun k hk=>(hown.lt k hk).1))
 exact (ho.lt g rfl).1
end Go.Proofs.YtkdomobedfhhgaaGreat
