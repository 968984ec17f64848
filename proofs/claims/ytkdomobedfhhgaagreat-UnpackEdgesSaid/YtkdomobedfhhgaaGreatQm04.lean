/- A range over a function whose iterator keeps a cell of its own: what is asked of the iterator, and the law of the statement. A heap as it lies in memory: its record, its row of items, its row of places. What stores and calls leave of it. Walk of package heap: which item is ahead, an item at a place, rising, sinking. -/
import Derived.RangeFuncIn
import Derived.RangeFuncBox
import Derived.RangeFuncRecord
import Derived.RangeFuncLeaves
import Derived.RangeFuncCalls
import Derived.Test.YtkdomobedfhhgaaGreatQm01
import Derived.Test.YtkdomobedfhhgaaGreatProg
import Derived.Test.YtkdomobedfhhgaaGreatQm03
import Derived.Laws.OwnMore
import Derived.WalkSmall
import Derived.OneCell
import Derived.Deep.Cut
import Derived.Deep.RegionLaw
set_option linter.unusedVariables false
set_option linter.unusedSimpArgs false
set_option linter.unnecessarySimpa false
section
namespace Go.Proofs.YtkdomobedfhhgaaGreat
open Go Go.Proofs Go.RowKit
structure OffX (X:Nat→Prop) (w w':World):Prop where
 os:w'.os=w.os
 tape:w'.tape=w.tape
 output:w'.output=w.output
 size:w.heap.size≤w'.heap.size
 block:∀k,k<w.heap.size→¬X k→w'.heap[k]? =w.heap[k]?
theorem OffX.refl (X:Nat→Prop) (w:World):OffX X w w:=⟨rfl,rfl,rfl,Nat.le_refl _,fun _ _ _=>rfl⟩
theorem OffX.trans {X:Nat→Prop} {a b c:World} (h:OffX X a b) (k:OffX X b c):OffX X a c:=
 ⟨k.os.trans h.os,k.tape.trans h.tape,k.output.trans h.output,Nat.le_trans h.size k.size,fun i hi hn=>(k.block i (by have:=h.size;omega) hn).trans (h.block i hi hn)⟩
theorem OffX.mono {X Y:Nat→Prop} {a b:World} (h:OffX X a b) (hs:∀k,X k→Y k):OffX Y a b:=⟨h.os,h.tape,h.output,h.size,fun k hk hn=>h.block k hk (fun e=>hn (hs k e))⟩
theorem OffX.of_below {X:Nat→Prop} {a b:World} (h:Below a.heap.size a b):OffX X a b:=⟨h.os,h.tape,h.output,h.size,fun k hk _=>h.block k hk⟩
theorem OffX.put {X:Nat→Prop} {a:World} {l:Nat} (o:Obj) (hX:X l):OffX X a (a.putObj l o):=
 have h:=grownBy_putObj' a l o
 ⟨h.os,h.tape,h.output,h.size,fun k hk hn=>h.block k hk (fun e=>hn (by cases e;exact hX))⟩
theorem OffX.set {X:Nat→Prop} {a:World} {b j:Nat} (v:Value) (hX:X b):OffX X a (a.setCell ⟨b,j,none⟩ v):=
 ⟨rfl,rfl,rfl,by simp [World.setCell],fun k _ hn=>Below.heap_setCell _ _ _ _ (fun e=>hn (by cases e;exact hX))⟩
theorem OffX.below {X:Nat→Prop} {a b:World} {B:Nat} (h:OffX X a b) (hB:B≤a.heap.size) (hX:∀k,X k→B≤k):Below B a b:=
 ⟨h.os,h.tape,h.output,h.size,fun k hk=>h.block k (by omega) (fun e=>by have:=hX k e;omega)⟩
theorem OffX.cell {X:Nat→Prop} {a b:World} {p:Addr} {v:Value} (h:OffX X a b) (hc:a.cell? p=some v) (hn:¬X p.block):b.cell? p=some v:=
 (World.cell?_of_block (w:=a) (h.block p.block (World.block_lt_of_cell? _ _ hc) hn)).trans hc
theorem OffX.frozen {X:Nat→Prop} {a b:World} {p:Addr} (h:OffX X a b) (hl:p.block<a.heap.size) (hn:¬X p.block):b.frozen? p=a.frozen? p:=
 World.frozen?_of_block (w:=a) (h.block p.block hl hn)
theorem OffX.owns {X:Nat→Prop} {w w':World} {base:Nat} {e:TypeId} {size n:Nat} {v:Value} {xs:List Value} (h:w.ownsRow base e size v n xs) (hb:OffX X w w') (hX:∀k,X k→k<base):w'.ownsRow base e size v n xs:=by
 refine ⟨h.1,?_⟩
 rcases h.2 with h2|⟨g,cap,cur,hv,hbg,hg,r⟩
 ·exact .inl h2
 ·exact .inr ⟨g,cap,cur,hv,hbg,by rw [hb.block g (Array.getElem?_eq_some_iff.1 hg).1 (fun e=>by have:=hX g e;omega)];exact hg,r⟩
def KeepX (X:Nat→Prop) (w w':World):Prop:=w.heap.size≤w'.heap.size∧∀k,X k→w'.heap[k]? =w.heap[k]?
theorem KeepX.trans {X:Nat→Prop} {a b c:World} (h:KeepX X a b) (k:KeepX X b c):KeepX X a c:=⟨Nat.le_trans h.1 k.1,fun i hi=>(k.2 i hi).trans (h.2 i hi)⟩
theorem KeepX.mono {X Y:Nat→Prop} {a b:World} (h:KeepX Y a b) (hs:∀k,X k→Y k):KeepX X a b:=⟨h.1,fun k hk=>h.2 k (hs k hk)⟩
def Bx3 (B k:Nat):Prop:=B≤k∧k<B+3
def SeqC {α:Type} (F:Fence) (n:Nat) (P:Program) (g:Nat) (lb:Array Value) (encs:α→Array Value) (parts:List α) (B:Nat) (w:World):Prop:=
 ∀(l:Nat) (J Jx:List α→World→Prop) (W:World),KeepX (Bx3 B) w W→(∀pre W1 W2,J pre W1→OffX (· =B) W1 W2→J pre W2)→(∀pre W1 W2,Jx pre W1→OffX (· =B) W1 W2→Jx pre W2)→
  (∀pre x W1,J pre W1→(pre++[x]) <+:parts→YieldAt F (n-1) P l (encs x) W1 fun e W'=>
   (e=.returned (.bool true)∧J (pre++[x]) W'∧KeepX (Bx3 B) W1 W')∨(e=.returned (.bool false)∧Jx (pre++[x]) W'))→
  J [] W→
  CallsIn F n P g (#[.func (.yield l) #[] #[]]++lb) W fun e W'=>(∃v,e=.returned v)∧(J parts W'∨∃pre,pre <+:parts∧Jx pre W')
def postC {α:Type} (X:Nat→Prop) (I:List α→World→Prop) (Ix:Code→List α→World→Prop) (xs:List α) (W:World):Exit→Act→World→Prop
 | .normal,_,W'=>KeepX X W W'∧I xs W'
 | .ret,_,W'=>KeepX X W W'∧Ix .ret xs W'
 | .exit id,_,W'=>KeepX X W W'∧Ix (.exit id) xs W'
 | .goto t,_,W'=>KeepX X W W'∧Ix (.goto t) xs W'
 | .panic _,_,_=>False
 | .outgrown,_,_=>False
variable {F:Fence} {n:Nat} {P:Program}
def BodyX (B D k:Nat):Prop:=Bx3 B k∨k=D∨k=D+1
def TurnX (B D k:Nat):Prop:=k=B∨k=D+1
theorem wpIn_rangeC {α:Type} {g:Operand} {ps:Array Tmp} {assign body:Code} {Q:Exit→Act→World→Prop} {a:Act} {w:World}
  (hro:F.round=none) (h1:1≤n) {gf:Nat} {lb:Array Value} (hg:a.eval g=.func (.func gf) #[] lb) (hFg:F.fn gf) (eg:∀args w,(callFunc gf args).run P w=.ok (.enter gf args) w)
  {encs:α→Array Value} {parts:List α} {B:Nat} (hseq:SeqC F (n-1) P gf lb encs parts B w) (hB:B+3≤w.heap.size) (hps:∀x,(encs x).size=ps.size)
  (I:List α→World→Prop) (Ix:Code→List α→World→Prop)
  (hI:∀pre W W',I pre W→OffX (TurnX B w.heap.size) W W'→I pre W') (hIx:∀c pre W W',Ix c pre W→OffX (TurnX B w.heap.size) W W'→Ix c pre W') (h0:I [] w) (a₁:α→Act)
  (hassign:∀(l:Nat) (x:α) (W:World) (K:Act→World→Prop),K (a₁ x) W→
   assign.wpIn (F.inRound l) (n-1-1) P (Exit.then K (fun _ _ _=>False)) { tmps:=(ps.zip (encs x)).foldl (fun t (p,v)=>t.setIfInBounds p v) a.tmps,defers:=[] } W)
  (hbody:∀(l:Nat) (pre:List α) (x:α) (W:World),I pre W→(pre++[x]) <+:parts→w.heap.size+2≤W.heap.size→
   body.wpIn (F.inRound l) (n-1-1) P (postC (BodyX B w.heap.size) I Ix (pre++[x]) W) (a₁ x) W)
  (hdone:∀(D:Nat) (W:World),D=w.heap.size→I parts W→W.heap[D]? =some (.deferred (some []))→Q .normal { a with defers:={ target:=.collected D,args:=#[] }::a.defers } W)
  (hstop:∀(D:Nat) (c:Code) (pre:List α) (W:World),D=w.heap.size→pre <+:parts→Ix c pre W→W.heap[D]? =some (.deferred (some []))→c.wpIn F n P Q { a with defers:={ target:=.collected D,args:=#[] }::a.defers } W):
  (Code.rangeFunc g ps assign body).wpIn F n P Q a w:=by
 refine wpIn_rangeFunc fun fn hfn=>?_
 rw [hro]
 obtain ⟨R,hR⟩:∃R:LoopState→Option Code→Loop,R=fun st pe=>{ state:=st,pending:=pe,fn,tmps:=a.tmps,params:=ps,assign,body,defers:=w.heap.size }:=⟨_,rfl⟩
 obtain ⟨D,hD⟩:∃D,w.heap.size=D:=⟨_,rfl⟩
 obtain ⟨V,hV⟩:∃V,V=(w.alloc (.deferred (some []))).alloc (.loop (R .ready none)):=⟨_,rfl⟩
 have loopV:V.heap[D+1]? =some (.loop (R .ready none)):=by
  have:=World.alloc_heap_new (w.alloc (.deferred (some []))) (.loop (R .ready none))
  rw [World.size_alloc,hD] at this
  rw [hV];exact this
 have markV:V.heap[D]? =some (.deferred (some [])):=by
  have:=World.alloc_heap_new w (.deferred (some []))
  rw [hD] at this
  rw [hV,Below.heap_alloc _ _ _ (by rw [World.size_alloc];omega)]
  exact this
 have growV:Below w.heap.size w V:=by rw [hV];exact ((Below.refl _ w).alloc (Nat.le_refl _) _).alloc (by simp) _
 have sizeV:V.heap.size=D+2:=by rw [hV];simp;omega
 have isR:∀st pe,(R st pe).params=ps∧(R st pe).tmps=a.tmps∧(R st pe).fn=fn∧(R st pe).assign=assign∧(R st pe).body=body∧(R st pe).state=st∧(R st pe).pending=pe:=fun st pe=>by rw [hR];exact ⟨rfl,rfl,rfl,rfl,rfl,rfl,rfl⟩
 refine ⟨D+1,[{ target:=.collected D,args:=#[] }],V,{ target:=.fn (.func gf) lb,args:=#[.func (.yield (D+1)) #[] #[]] },V,gf,#[.func (.yield (D+1)) #[] #[]]++lb,V,?_,?_,?_,?_,fun _=>h1,?_⟩
 ·have:=run_enterLoop_outer (P:=P) (w:=w) fn a.tmps ps assign body
  rw [this,hV,hR,hD]
 ·simp only [resolve,hg]
  simp [go_sem]
 ·intro f' hf'
  simp [Target.leads] at hf'
  subst hf'
  exact hFg
 ·simp [invoke,go_sem,eg]
 ·rw [hD] at hI hIx hbody hdone hstop hB growV
  refine (hseq (D+1) (fun pre W=>I pre W∧W.heap[D+1]? =some (.loop (R .ready none))∧W.heap[D]? =some (.deferred (some [])))
   (fun pre W=>∃c,Ix c pre W∧W.heap[D+1]? =some (.loop (R .done (some c)))∧W.heap[D]? =some (.deferred (some [])))
   V ⟨growV.size,fun k hk=>growV.block k (by have:=hk.2;omega)⟩ ?_ ?_ ?round ⟨hI _ _ _ h0 (.of_below (by rw [hD];exact growV)),loopV,markV⟩).mono ?_
  ·rintro pre W1 W2 ⟨hi,hl,hk⟩ ho
   refine ⟨hI _ _ _ hi (ho.mono fun k e=>.inl e),?_,?_⟩
   ·rw [ho.block (D+1) (Array.getElem?_eq_some_iff.1 hl).1 (by omega)];exact hl
   ·rw [ho.block D (Array.getElem?_eq_some_iff.1 hk).1 (by omega)];exact hk
  ·rintro pre W1 W2 ⟨c,hi,hl,hk⟩ ho
   refine ⟨c,hIx _ _ _ _ hi (ho.mono fun k e=>.inl e),?_,?_⟩
   ·rw [ho.block (D+1) (Array.getElem?_eq_some_iff.1 hl).1 (by omega)];exact hl
   ·rw [ho.block D (Array.getElem?_eq_some_iff.1 hk).1 (by omega)];exact hk
  case round=>
   rintro pre x W ⟨hi,hl,hk⟩ hpx
   have hlt:D+1<W.heap.size:=(Array.getElem?_eq_some_iff.1 hl).1
   obtain ⟨e1,e2,e3,e4,e5,e6,e7⟩:=isR .ready none
   have hy:=run_yield (P:=P) (args:=encs x) hl (by rw [e1];exact hps x)
   rw [e1,e2,e3,e4,e5] at hy
   refine ⟨fn,_,assign,body,hy,roundIn_of_wpIn hfn (hassign _ x W _ ⟨_,run_beginRound hl e6,?_⟩)⟩
   obtain ⟨Wb,hWb⟩:∃Wb,Wb=W.putObj (D+1) (.loop { R .ready none with state:=.busy }):=⟨_,rfl⟩
   rw [←hWb]
   have hlb:Wb.heap[D+1]? =some (.loop { R .ready none with state:=.busy }):=by rw [hWb];exact World.putObj_heap_same hlt
   have hkb:Wb.heap[D]? =some (.deferred (some [])):=by rw [hWb];exact (World.putObj_heap_other (by omega)).trans hk
   have hob:OffX (TurnX B D) W Wb:=by rw [hWb];exact .put _ (.inr rfl)
   have hsb:W.heap.size≤Wb.heap.size:=hob.size
   have hkx:KeepX (Bx3 B) W Wb:=⟨hsb,fun k hk=>by
    rw [hWb];exact World.putObj_heap_other (by have:=hk.2;omega)⟩
   refine wpIn_mono (hbody _ pre x Wb (hI _ _ _ hi hob) hpx (by omega)) ?_
   have fin:∀(jump:Option Code) (W3:World),KeepX (BodyX B D) Wb W3→∃W4,(Instr.endRound (D+1) jump).run P W3=.ok (.bool jump.isNone) W4∧OffX (TurnX B D) W3 W4∧KeepX (Bx3 B) W W4∧
     W4.heap[D+1]? =some (.loop (R (if jump.isNone then .ready else .done) jump))∧W4.heap[D]? =some (.deferred (some [])):=by
    intro jump W3 hk3
    have hl3:W3.heap[D+1]? =some (.loop { R .ready none with state:=.busy }):=(hk3.2 _ (.inr (.inr rfl))).trans hlb
    have hd3:W3.heap[D]? =some (.deferred (some [])):=(hk3.2 _ (.inr (.inl rfl))).trans hkb
    have he:=run_endRound (P:=P) jump hl3
    refine ⟨_,he,.put _ (.inr rfl),hkx.trans ((hk3.mono fun k h=>.inl h).trans ⟨(OffX.put (X:=TurnX B D) _ (.inr rfl)).size,fun k hk=>World.putObj_heap_other (by have:=hk.2;omega)⟩),?_,(World.putObj_heap_other (by omega)).trans hd3⟩
    rw [World.putObj_heap_same (Array.getElem?_eq_some_iff.1 hl3).1,hR]
   rintro e a3 W3 hp
   cases e with
   |normal=>
    obtain ⟨hk3,hi3⟩:=hp
    obtain ⟨W4,r1,r2,r3,r4,r5⟩:=fin none W3 hk3
    exact ⟨_,_,r1,.inl ⟨rfl,⟨hI _ _ _ hi3 r2,r4,r5⟩,r3⟩⟩
   |ret=>
    obtain ⟨hk3,hi3⟩:=hp
    obtain ⟨W4,r1,r2,r3,r4,r5⟩:=fin (some .ret) W3 hk3
    exact ⟨_,_,r1,.inr ⟨rfl,.ret,hIx _ _ _ _ hi3 r2,r4,r5⟩⟩
   |exit id=>
    obtain ⟨hk3,hi3⟩:=hp
    obtain ⟨W4,r1,r2,r3,r4,r5⟩:=fin (some (.exit id)) W3 hk3
    exact ⟨_,_,r1,.inr ⟨rfl,.exit id,hIx _ _ _ _ hi3 r2,r4,r5⟩⟩
   |goto t=>
    obtain ⟨hk3,hi3⟩:=hp
    obtain ⟨W4,r1,r2,r3,r4,r5⟩:=fin (some (.goto t)) W3 hk3
    exact ⟨_,_,r1,.inr ⟨rfl,.goto t,hIx _ _ _ _ hi3 r2,r4,r5⟩⟩
   |panic ch=>exact hp.elim
   |outgrown=>exact hp.elim
  ·rintro e W2 ⟨⟨v,rfl⟩,⟨hi,hl,hk⟩|⟨pre,hpp,c,hi,hl,hk⟩⟩
   ·obtain ⟨e1,e2,e3,e4,e5,e6,e7⟩:=isR .ready none
    have he:=run_endLoop (P:=P) hl (by rw [e6];simp)
    rw [e7] at he
    exact ⟨none,_,he,hdone D _ rfl (hI _ _ _ hi (.put _ (.inr rfl))) ((World.putObj_heap_other (by omega)).trans hk)⟩
   ·obtain ⟨e1,e2,e3,e4,e5,e6,e7⟩:=isR .done (some c)
    have he:=run_endLoop (P:=P) hl (by rw [e6];simp)
    rw [e7] at he
    exact ⟨some c,_,he,hstop D c pre _ rfl hpp (hIx _ _ _ _ hi (.put _ (.inr rfl))) ((World.putObj_heap_other (by omega)).trans hk)⟩
end Go.Proofs.YtkdomobedfhhgaaGreat
end
section
namespace Go.Proofs.YtkdomobedfhhgaaGreat
open Go Go.Proofs Go.RowKit Go.Shelf Go.Proofs.YtkdomobedfhhgaaGreat.Hp
def PB (W:World) (b:Nat) (xs:List Value):Prop:=∀(i:Nat) (x:Value),xs[i]? =some x→W.cell? ⟨b,i,none⟩=some x∧W.frozen? ⟨b,i,none⟩=false
theorem PB.eq {W W':World} {b:Nat} {xs:List Value} (h:PB W b xs) (he:W'.heap[b]? =W.heap[b]?):PB W' b xs:=fun i x hx=>
 ⟨(World.cell?_of_block (a:=⟨b,i,none⟩) he).trans (h i x hx).1,(World.frozen?_of_block (a:=⟨b,i,none⟩) he).trans (h i x hx).2⟩
theorem PB.lt {W:World} {b:Nat} {x:Value} {xs:List Value} (h:PB W b (x::xs)):b<W.heap.size:=World.block_lt_of_cell? _ _ (h 0 x rfl).1
theorem PB.go {W W':World} {b:Nat} {x:Value} {xs:List Value} (h:PB W b (x::xs)) (hb:Below W.heap.size W W'):PB W' b (x::xs):=h.eq (hb.block b h.lt)
theorem PB.setAt {W:World} {b c j:Nat} {xs:List Value} (h:PB W b xs) (hn:c≠b) (u:Value):PB (W.setCell ⟨c,j,none⟩ u) b xs:=h.eq (Below.heap_setCell _ _ _ _ (Ne.symm hn))
theorem PB.set {W:World} {b:Nat} {xs:List Value} (h:PB W b xs) (j:Nat) (u:Value):PB (W.setCell ⟨b,j,none⟩ u) b (xs.set j u):=by
 intro i x hx
 rw [World.frozen?_setCell]
 by_cases e:i=j
 ·subst e
  have hlt:i<xs.length:=by
   have:=(List.getElem?_eq_some_iff.1 hx).1
   simpa using this
  rw [List.getElem?_set_self hlt] at hx
  cases hx
  obtain ⟨h1,h2⟩:=h i xs[i] (List.getElem?_eq_getElem hlt)
  exact ⟨World.cell?_setCell_same _ _ _ h1,h2⟩
 ·rw [List.getElem?_set_ne (Ne.symm e)] at hx
  obtain ⟨h1,h2⟩:=h i x hx
  exact ⟨by rw [World.cell?_setCell_other _ _ _ _ (by simp;try omega)];exact h1,h2⟩
def flatI:List IK→List Value
 |[]=>[]
 |x::l=>.int .i64 x.1::.int .u64 x.2::flatI l
theorem flatI_len:∀l,(flatI l).length=l.length*2
 |[]=>rfl
 |x::l=>by rw [flatI];simp [flatI_len l];omega
theorem flatI_get:∀(l:List IK) (k:Nat),k<l.length→(flatI l)[k*2]? =some (.int .i64 (gI l k).1)∧(flatI l)[k*2+1]? =some (.int .u64 (gI l k).2)
 |x::l,0,_=>⟨rfl,rfl⟩
 |x::l,k+1,h=>by
  have:=flatI_get l k (by simpa using h)
  rw [show (k+1)*2=k*2+2 by omega]
  exact this
theorem flatI_append:∀(l m:List IK),flatI (l++m)=flatI l++flatI m
 |[],m=>rfl
 |x::l,m=>by rw [List.cons_append,flatI,flatI,flatI_append l m];rfl
theorem flatI_set:∀(l:List IK) (k:Nat) (y:IK),((flatI l).set (k*2) (.int .i64 y.1)).set (k*2+1) (.int .u64 y.2)=flatI (l.set k y)
 |[],k,y=>by simp [flatI]
 |x::l,0,y=>rfl
 |x::l,k+1,y=>by
  have:=flatI_set l k y
  rw [show (k+1)*2=k*2+2 by omega]
  show Value.int .i64 x.1::Value.int .u64 x.2::(((flatI l).set (k*2) _).set (k*2+1) _)=_
  rw [this]
  rfl
theorem hp_owns_go {w w':World} {base:Nat} {e:TypeId} {size n:Nat} {v:Value} {xs:List Value} (h:w.ownsRow base e size v n xs) (hb:Below w.heap.size w w'):w'.ownsRow base e size v n xs:=by
 refine ⟨h.1,?_⟩
 rcases h.2 with h2|⟨g,cap,cur,hv,hbg,hg,r⟩
 ·exact .inl h2
 ·exact .inr ⟨g,cap,cur,hv,hbg,by rw [hb.block g (Array.getElem?_eq_some_iff.1 hg).1];exact hg,r⟩
structure HeapW (w:World) (b:Nat) (v va:Value) (l:List IK) (p:List Int):Prop where
 pb:PB w b [v,va]
 ol:w.ownsRow 0 261 2 v l.length (flatI l)
 oa:w.ownsRow 0 3 1 va p.length (p.map encI)
 d1:v.ownBlock≠some b
 d2:va.ownBlock≠some b
 d3:∀k,v.ownBlock=some k→va.ownBlock≠some k
def HX (b:Nat) (v va:Value) (k:Nat):Prop:=k=b∨v.ownBlock=some k∨va.ownBlock=some k
theorem HeapW.go {w w':World} {b:Nat} {v va:Value} {l:List IK} {p:List Int} (h:HeapW w b v va l p) (hb:Below w.heap.size w w'):HeapW w' b v va l p:=
 ⟨h.pb.go hb,hp_owns_go h.ol hb,hp_owns_go h.oa hb,h.d1,h.d2,h.d3⟩
theorem HeapW.dr {w:World} {b:Nat} {v va:Value} {l:List IK} {p:List Int} (h:HeapW w b v va l p):HeapW w.drew b v va l p:=h.go ((Below.refl _ _).drew)
theorem HeapW.item {w:World} {b g cg:Nat} {va:Value} {l:List IK} {p:List Int} (h:HeapW w b (.slice (some ⟨g,0,none⟩) l.length cg) va l p) (i:Nat) (x:IK):
  HeapW ((w.setCell ⟨g,i*2,none⟩ (.int .i64 x.1)).setCell ⟨g,i*2+1,none⟩ (.int .u64 x.2)) b (.slice (some ⟨g,0,none⟩) (l.set i x).length cg) va (l.set i x) p:=by
 have d1:g≠b:=by have:=h.d1;simpa [Value.ownBlock] using this
 have d3:=h.d3 g rfl
 refine ⟨?_,?_,?_,h.d1,h.d2,?_⟩
 ·rw [List.length_set]
  exact (h.pb.setAt d1 _).setAt d1 _
 ·have h1:=(h.ol.stored (i*2) (.int .i64 x.1)).1
  have h2:=(h1.stored (i*2+1) (.int .u64 x.2)).1
  rw [flatI_set] at h2
  rw [List.length_set]
  exact h2
 ·exact ownsRow_setCell_other (a:=⟨g,i*2+1,none⟩) (ownsRow_setCell_other (a:=⟨g,i*2,none⟩) h.oa d3 _) d3 _
 ·intro k hk
  exact h.d3 k hk
theorem HeapW.place {w:World} {b a ca:Nat} {v:Value} {l:List IK} {p:List Int} (h:HeapW w b v (.slice (some ⟨a,0,none⟩) p.length ca) l p) (u:Nat) (x:Int):
  HeapW (w.setCell ⟨a,u,none⟩ (.int .i64 x)) b v (.slice (some ⟨a,0,none⟩) (p.set u x).length ca) l (p.set u x):=by
 have d2:a≠b:=by have:=h.d2;simpa [Value.ownBlock] using this
 refine ⟨?_,?_,?_,h.d1,h.d2,?_⟩
 ·rw [List.length_set]
  exact h.pb.setAt d2 _
 ·exact ownsRow_setCell_other (a:=⟨a,u,none⟩) h.ol (fun e=>h.d3 a e rfl) _
 ·have h1:=(h.oa.stored u (.int .i64 x)).1
  rw [←List.map_set (f:=encI)] at h1
  rw [List.length_set]
  exact h1
 ·intro k hk
  exact h.d3 k hk
end Go.Proofs.YtkdomobedfhhgaaGreat
end
section
namespace Go.Proofs.YtkdomobedfhhgaaGreat
open Go Go.Proofs Go.RowKit Go.Shelf Go.Proofs.YtkdomobedfhhgaaGreat.Hp
abbrev itemV (x:IK):Value:=.agg #[.int .i64 x.1,.int .u64 x.2]
theorem hLess_any (a b:IK) (w:World):Calls Tryz.prog 200 #[itemV a,itemV b] w fun e w'=>e=.returned (.bool (lessI a b))∧Below w.heap.size w w':=by
 obtain ⟨a1,a2⟩:=a
 obtain ⟨b1,b2⟩:=b
 unfold lessI
 simp only
 cases h1:decide (a2<b2) with
 |true=>
  go_enter Tryz.func200,Tryz.ntmps200
  go_wp2
  go_ret
  exact ⟨rfl,(Below.of_al _ _).al _⟩
 |false=>
  rw [Bool.false_or]
  by_cases h2:a2=b2
  ·subst h2
   rw [decide_eq_true rfl,Bool.true_and]
   have g2:(a2==a2)=true:=by simp
   go_enter Tryz.func200,Tryz.ntmps200
   go_wp2
   go_ret
   exact ⟨rfl,(Below.of_al _ _).al _⟩
  ·rw [decide_eq_false h2,Bool.false_and]
   have g2:(a2==b2)=false:=by simpa using h2
   clear h2
   go_enter Tryz.func200,Tryz.ntmps200
   go_wp2
   go_ret
   exact ⟨rfl,(Below.of_al _ _).al _⟩
def RX (v va:Value) (k:Nat):Prop:=v.ownBlock=some k∨va.ownBlock=some k
theorem own_form {w:World} {base size n:Nat} {e:TypeId} {v:Value} {xs:List Value} (h:w.ownsRow base e size v n xs) (hn:0<n):∃g cap,v=.slice (some ⟨g,0,none⟩) n cap:=by
 rcases h.2 with ⟨_,e⟩|⟨g,cap,cur,e,_⟩
 ·omega
 ·exact ⟨g,cap,e⟩
set_option maxRecDepth 100000 in
set_option maxHeartbeats 1000000 in
theorem hLay_any (b:Nat) (v va:Value) (l:List IK) (p:List Int) (i u:Nat) (k:Int) (w:World) (h:HeapW w b v va l p) (hi:i<l.length) (hu:u<p.length):
  Calls Tryz.prog 201 #[.pointer (some ⟨b,0,none⟩),.int .i64 i,itemV ((u:Int),k)] w fun e w'=>e=.returned (.tuple #[])∧HeapW w' b v va (l.set i ((u:Int),k)) (p.set u (i:Int))∧OffX (RX v va) w w':=by
 obtain ⟨g,cg,rfl⟩:=own_form h.ol (by omega)
 obtain ⟨a,ca,rfl⟩:=own_form h.oa (by omega)
 have hb:b<w.heap.size:=h.pb.lt
 obtain ⟨W,hW⟩:∃W,W=w.alloc (Obj.cells #[.int .i64 (u:Int),.int .u64 k] 261):=⟨_,rfl⟩
 have H:=Lib.hid (show HeapW W b _ _ l p by rw [hW];exact h.go (Below.of_al _ _))
 have HB:=Lib.hid (show Below w.heap.size w W by rw [hW];exact Below.of_al _ _)
 have c0:W.cell? ⟨w.heap.size,0,none⟩=some (.int .i64 (u:Int)):=by rw [hW];go_simp
 have c1:W.cell? ⟨w.heap.size,1,none⟩=some (.int .u64 k):=by rw [hW];go_simp
 obtain ⟨p0,-⟩:=H.out.pb 0 _ rfl
 obtain ⟨p1,-⟩:=H.out.pb 1 _ rfl
 obtain ⟨r0,r1⟩:=flatI_get l i hi
 have q0:=(H.out.ol.cellAt (i*2) (by omega)).trans r0
 have q1:=(H.out.ol.cellAt (i*2+1) (by omega)).trans r1
 have z0:=H.out.ol.frozenAt (i*2)
 have z1:=H.out.ol.frozenAt (i*2+1)
 have s0:=(H.out.oa.cellAt u (by omega)).trans (show (p.map encI)[u]? =some (encI (p[u]'hu)) by simp [hu])
 have z2:=H.out.oa.frozenAt u
 have hi1:(i:Int)<(l.length:Int):=by omega
 have hi0:(0:Int)≤(i:Int):=by omega
 have hu1:(u:Int)<(p.length:Int):=by omega
 have hu0:(0:Int)≤(u:Int):=by omega
 have hga:(g=a)=False:=by
  have:=H.out.d3 g rfl
  simp [Value.ownBlock] at this
  simp [Ne.symm this]
 have hag:(a=g)=False:=by simpa [eq_comm] using hga
 have hgw:g<w.heap.size:=(h.ol.lt g rfl).2
 have haw:a<w.heap.size:=(h.oa.lt a rfl).2
 have n1:(g=w.heap.size)=False:=by simp;omega
 have n2:(w.heap.size=g)=False:=by simp;omega
 have n3:(a=w.heap.size)=False:=by simp;omega
 have n4:(w.heap.size=a)=False:=by simp;omega
 have m1:(g=b)=False:=by have:=h.d1;simpa [Value.ownBlock] using this
 have m2:(b=g)=False:=by simpa [eq_comm] using m1
 have m3:(a=b)=False:=by have:=h.d2;simpa [Value.ownBlock] using this
 have m4:(b=a)=False:=by simpa [eq_comm] using m3
 clear h r0 r1 hgw haw
 go_enter Tryz.func201,Tryz.ntmps201
 go_upto_region 1 with (fail)
 rw [←hW]
 clear hW
 go_region
 refine bodyPost_end (results_none rfl _ _ _) rfl ?_
 refine ⟨rfl,?_,?_⟩
 ·have:=((H.out.item i ((u:Int),k)).place u (i:Int)).dr
  rw [List.length_set,List.length_set] at this
  exact this
 ·have hX:RX (Value.slice (some ⟨g,0,none⟩) l.length cg) (Value.slice (some ⟨a,0,none⟩) p.length ca) g:=.inl rfl
  have hY:RX (Value.slice (some ⟨g,0,none⟩) l.length cg) (Value.slice (some ⟨a,0,none⟩) p.length ca) a:=.inr rfl
  exact ((((OffX.of_below HB.out).trans (.set _ hX)).trans (.set _ hX)).trans (.set _ hY)).trans (.of_below ((Below.refl _ _).drew))
end Go.Proofs.YtkdomobedfhhgaaGreat
end
