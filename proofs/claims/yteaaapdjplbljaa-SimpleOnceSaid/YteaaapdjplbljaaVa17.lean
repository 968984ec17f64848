/- A range over a function whose iterator only grows memory and reads blocks that the body keeps: what is asked of the iterator, and the law of the statement. Walk of package upward: the shortcuts of a node, told one by one. -/
import Derived.Test.YteaaapdjplbljaaVa08
import Derived.Test.YteaaapdjplbljaaProg
import Derived.Test.YteaaapdjplbljaaVa16
import Derived.Sort.LoopGhostIn
import Derived.RangeFuncNested
import Derived.RangeFuncBound
import Derived.Shelf.Abstract
import Derived.Shelf.AbstractIn
import Derived.WalkKit
import Derived.OwnWalkIn
import Derived.TacticsInMore
import Derived.LoopNIn
import Derived.LoopIn
import Derived.Laws.EntriesVeiled
set_option linter.unusedVariables false
set_option linter.unusedSimpArgs false
set_option linter.unnecessarySimpa false
section
namespace Go.Proofs.Yteaaapdjplbljaa
open Go Go.Proofs Go.RowKit
def SeqK {α:Type} (F:Fence) (n:Nat) (P:Program) (g:Nat) (lb:Array Value) (encs:α→Array Value) (parts:List α) (Kp:Nat→Prop) (w:World):Prop:=
 ∀(l:Nat) (J Jx:List α→World→Prop) (W:World),KeepX Kp w W→(∀pre W1 W2,J pre W1→OffX (fun _=>False) W1 W2→J pre W2)→(∀pre W1 W2,Jx pre W1→OffX (fun _=>False) W1 W2→Jx pre W2)→
  (∀pre x W1,J pre W1→(pre++[x]) <+:parts→YieldAt F (n-1) P l (encs x) W1 fun e W'=>
   (e=.returned (.bool true)∧J (pre++[x]) W'∧KeepX Kp W1 W')∨(e=.returned (.bool false)∧Jx (pre++[x]) W'))→
  J [] W→
  CallsIn F n P g (#[.func (.yield l) #[] #[]]++lb) W fun e W'=>(∃v,e=.returned v)∧(J parts W'∨∃pre,pre <+:parts∧Jx pre W')
def postK {α:Type} (X:Nat→Prop) (I:List α→World→Prop) (Ix:Code→List α→World→Prop) (xs:List α) (W:World):Exit→Act→World→Prop
 | .normal,_,W'=>KeepX X W W'∧I xs W'
 | .ret,_,W'=>KeepX X W W'∧Ix .ret xs W'
 | .exit id,_,W'=>KeepX X W W'∧Ix (.exit id) xs W'
 | .goto t,_,W'=>KeepX X W W'∧Ix (.goto t) xs W'
 | .panic _,_,_=>False
 | .outgrown,_,_=>False
variable {F:Fence} {n:Nat} {P:Program}
def BodyK (Kp:Nat→Prop) (D k:Nat):Prop:=Kp k∨k=D∨k=D+1
def TurnK (D k:Nat):Prop:=k=D+1
theorem wpIn_rangeK {α:Type} {g:Operand} {ps:Array Tmp} {assign body:Code} {Q:Exit→Act→World→Prop} {a:Act} {w:World}
  (hro:F.round=none) (h1:1≤n) {gf:Nat} {lb:Array Value} (hg:a.eval g=.func (.func gf) #[] lb) (hFg:F.fn gf) (eg:∀args w,(callFunc gf args).run P w=.ok (.enter gf args) w)
  {encs:α→Array Value} {parts:List α} {Kp:Nat→Prop} (hseq:SeqK F (n-1) P gf lb encs parts Kp w) (hB:∀k,Kp k→k<w.heap.size) (hps:∀x,(encs x).size=ps.size)
  (I:List α→World→Prop) (Ix:Code→List α→World→Prop)
  (hI:∀pre W W',I pre W→OffX (TurnK w.heap.size) W W'→I pre W') (hIx:∀c pre W W',Ix c pre W→OffX (TurnK w.heap.size) W W'→Ix c pre W') (h0:I [] w) (a₁:α→World→Act) (W₁:α→World→World) (hW₁:∀x W,Below W.heap.size W (W₁ x W))
  (hassign:∀(l:Nat) (x:α) (W:World) (K:Act→World→Prop),K (a₁ x W) (W₁ x W)→
   assign.wpIn (F.inRound l) (n-1-1) P (Exit.then K (fun _ _ _=>False)) { tmps:=(ps.zip (encs x)).foldl (fun t (p,v)=>t.setIfInBounds p v) a.tmps,defers:=[] } W)
  (hbody:∀(l:Nat) (pre:List α) (x:α) (W0 W:World),I pre W→(pre++[x]) <+:parts→w.heap.size+2≤W0.heap.size→OffX (TurnK w.heap.size) (W₁ x W0) W→
   body.wpIn (F.inRound l) (n-1-1) P (postK (BodyK Kp w.heap.size) I Ix (pre++[x]) W) (a₁ x W0) W)
  (hdone:∀(D:Nat) (W:World),D=w.heap.size→I parts W→W.heap[D]? =some (.deferred (some []))→Q .normal { a with defers:={ target:=.collected D,args:=#[] }::a.defers } W)
  (hstop:∀(D:Nat) (c:Code) (pre:List α) (W:World),D=w.heap.size→pre <+:parts→Ix c pre W→W.heap[D]? =some (.deferred (some []))→c.wpIn F n P Q { a with defers:={ target:=.collected D,args:=#[] }::a.defers } W):
  (Code.rangeFunc g ps assign body).wpIn F n P Q a w:=by
 refine wpIn_rangeFunc fun fn hfn=>?_
 rw [hro]
 obtain ⟨R,hR⟩:∃R:LoopState→Option Code→Loop,R=fun st pe=>{ state:=st,pending:=pe,fn,tmps:=a.tmps,params:=ps,assign,body,defers:=w.heap.size }:=⟨_,rfl⟩
 obtain ⟨D,hD⟩:∃D,w.heap.size=D:=⟨_,rfl⟩
 obtain ⟨V,hV⟩:∃V,V=(w.alloc (.deferred (some []))).alloc (.loop (R .ready none)):=⟨_,rfl⟩
 have loopV:V.heap[D+1]? =some (.loop (R .ready none)):=by
  have:=World.alloc_heap_new (w.alloc (.deferred (some []))) (.loop (R .ready none))
  rw [World.size_alloc,hD] at this
  rw [hV];exact this
 have markV:V.heap[D]? =some (.deferred (some [])):=by
  have:=World.alloc_heap_new w (.deferred (some []))
  rw [hD] at this
  rw [hV,Below.heap_alloc _ _ _ (by rw [World.size_alloc];omega)]
  exact this
 have growV:Below w.heap.size w V:=by rw [hV];exact ((Below.refl _ w).alloc (Nat.le_refl _) _).alloc (by simp) _
 have sizeV:V.heap.size=D+2:=by rw [hV];simp;omega
 have isR:∀st pe,(R st pe).params=ps∧(R st pe).tmps=a.tmps∧(R st pe).fn=fn∧(R st pe).assign=assign∧(R st pe).body=body∧(R st pe).state=st∧(R st pe).pending=pe:=fun st pe=>by rw [hR];exact ⟨rfl,rfl,rfl,rfl,rfl,rfl,rfl⟩
 refine ⟨D+1,[{ target:=.collected D,args:=#[] }],V,{ target:=.fn (.func gf) lb,args:=#[.func (.yield (D+1)) #[] #[]] },V,gf,#[.func (.yield (D+1)) #[] #[]]++lb,V,?_,?_,?_,?_,fun _=>h1,?_⟩
 ·have:=run_enterLoop_outer (P:=P) (w:=w) fn a.tmps ps assign body
  rw [this,hV,hR,hD]
 ·simp only [resolve,hg]
  simp [go_sem]
 ·intro f' hf'
  simp [Target.leads] at hf'
  subst hf'
  exact hFg
 ·simp [invoke,go_sem,eg]
 ·rw [hD] at hI hIx hbody hdone hstop hB growV
  refine (hseq (D+1) (fun pre W=>I pre W∧W.heap[D+1]? =some (.loop (R .ready none))∧W.heap[D]? =some (.deferred (some [])))
   (fun pre W=>∃c,Ix c pre W∧W.heap[D+1]? =some (.loop (R .done (some c)))∧W.heap[D]? =some (.deferred (some [])))
   V ⟨growV.size,fun k hk=>growV.block k (by have:=hB k hk;omega)⟩ ?_ ?_ ?round ⟨hI _ _ _ h0 (.of_below (by rw [hD];exact growV)),loopV,markV⟩).mono ?_
  ·rintro pre W1 W2 ⟨hi,hl,hk⟩ ho
   refine ⟨hI _ _ _ hi (ho.mono fun k e=>e.elim),?_,?_⟩
   ·rw [ho.block (D+1) (Array.getElem?_eq_some_iff.1 hl).1 (fun e=>e.elim)];exact hl
   ·rw [ho.block D (Array.getElem?_eq_some_iff.1 hk).1 (fun e=>e.elim)];exact hk
  ·rintro pre W1 W2 ⟨c,hi,hl,hk⟩ ho
   refine ⟨c,hIx _ _ _ _ hi (ho.mono fun k e=>e.elim),?_,?_⟩
   ·rw [ho.block (D+1) (Array.getElem?_eq_some_iff.1 hl).1 (fun e=>e.elim)];exact hl
   ·rw [ho.block D (Array.getElem?_eq_some_iff.1 hk).1 (fun e=>e.elim)];exact hk
  case round=>
   rintro pre x W0 ⟨hi0,hl0,hk0⟩ hpx
   have hlt0:D+1<W0.heap.size:=(Array.getElem?_eq_some_iff.1 hl0).1
   have hgr:=hW₁ x W0
   obtain ⟨e1,e2,e3,e4,e5,e6,e7⟩:=isR .ready none
   have hy:=run_yield (P:=P) (args:=encs x) hl0 (by rw [e1];exact hps x)
   rw [e1,e2,e3,e4,e5] at hy
   have hl:(W₁ x W0).heap[D+1]? =some (.loop (R .ready none)):=(hgr.block _ hlt0).trans hl0
   have hk:(W₁ x W0).heap[D]? =some (.deferred (some [])):=(hgr.block _ (by omega)).trans hk0
   have hi:I pre (W₁ x W0):=hI _ _ _ hi0 (.of_below hgr)
   have hk00:KeepX Kp W0 (W₁ x W0):=⟨hgr.size,fun k hk=>hgr.block k (by have:=hB k hk;omega)⟩
   refine ⟨fn,_,assign,body,hy,roundIn_of_wpIn hfn (hassign _ x W0 _ ⟨_,run_beginRound hl e6,?_⟩)⟩
   obtain ⟨W,hW⟩:∃W,W=W₁ x W0:=⟨_,rfl⟩
   rw [←hW] at hl hk hi hgr hk00 ⊢
   have hlt:D+1<W.heap.size:=(Array.getElem?_eq_some_iff.1 hl).1
   obtain ⟨Wb,hWb⟩:∃Wb,Wb=W.putObj (D+1) (.loop { R .ready none with state:=.busy }):=⟨_,rfl⟩
   rw [←hWb]
   have hlb:Wb.heap[D+1]? =some (.loop { R .ready none with state:=.busy }):=by rw [hWb];exact World.putObj_heap_same hlt
   have hkb:Wb.heap[D]? =some (.deferred (some [])):=by rw [hWb];exact (World.putObj_heap_other (by omega)).trans hk
   have hob:OffX (TurnK D) W Wb:=by rw [hWb];exact .put _ rfl
   have hsb:W.heap.size≤Wb.heap.size:=hob.size
   have hkx:KeepX Kp W Wb:=⟨hsb,fun k hk=>by
    rw [hWb];exact World.putObj_heap_other (by have:=hB k hk;omega)⟩
   refine wpIn_mono (hbody _ pre x W0 Wb (hI _ _ _ hi hob) hpx (by omega) (by rw [←hW];exact hob)) ?_
   have fin:∀(jump:Option Code) (W3:World),KeepX (BodyK Kp D) Wb W3→∃W4,(Instr.endRound (D+1) jump).run P W3=.ok (.bool jump.isNone) W4∧OffX (TurnK D) W3 W4∧KeepX Kp W0 W4∧
     W4.heap[D+1]? =some (.loop (R (if jump.isNone then .ready else .done) jump))∧W4.heap[D]? =some (.deferred (some [])):=by
    intro jump W3 hk3
    have hl3:W3.heap[D+1]? =some (.loop { R .ready none with state:=.busy }):=(hk3.2 _ (.inr (.inr rfl))).trans hlb
    have hd3:W3.heap[D]? =some (.deferred (some [])):=(hk3.2 _ (.inr (.inl rfl))).trans hkb
    have he:=run_endRound (P:=P) jump hl3
    refine ⟨_,he,.put _ rfl,hk00.trans (hkx.trans ((hk3.mono fun k h=>.inl h).trans ⟨(OffX.put (X:=TurnK D) _ rfl).size,fun k hk=>World.putObj_heap_other (by have:=hB k hk;omega)⟩)),?_,(World.putObj_heap_other (by omega)).trans hd3⟩
    rw [World.putObj_heap_same (Array.getElem?_eq_some_iff.1 hl3).1,hR]
   rintro e a3 W3 hp
   cases e with
   |normal=>
    obtain ⟨hk3,hi3⟩:=hp
    obtain ⟨W4,r1,r2,r3,r4,r5⟩:=fin none W3 hk3
    exact ⟨_,_,r1,.inl ⟨rfl,⟨hI _ _ _ hi3 r2,r4,r5⟩,r3⟩⟩
   |ret=>
    obtain ⟨hk3,hi3⟩:=hp
    obtain ⟨W4,r1,r2,r3,r4,r5⟩:=fin (some .ret) W3 hk3
    exact ⟨_,_,r1,.inr ⟨rfl,.ret,hIx _ _ _ _ hi3 r2,r4,r5⟩⟩
   |exit id=>
    obtain ⟨hk3,hi3⟩:=hp
    obtain ⟨W4,r1,r2,r3,r4,r5⟩:=fin (some (.exit id)) W3 hk3
    exact ⟨_,_,r1,.inr ⟨rfl,.exit id,hIx _ _ _ _ hi3 r2,r4,r5⟩⟩
   |goto t=>
    obtain ⟨hk3,hi3⟩:=hp
    obtain ⟨W4,r1,r2,r3,r4,r5⟩:=fin (some (.goto t)) W3 hk3
    exact ⟨_,_,r1,.inr ⟨rfl,.goto t,hIx _ _ _ _ hi3 r2,r4,r5⟩⟩
   |panic ch=>exact hp.elim
   |outgrown=>exact hp.elim
  ·rintro e W2 ⟨⟨v,rfl⟩,⟨hi,hl,hk⟩|⟨pre,hpp,c,hi,hl,hk⟩⟩
   ·obtain ⟨e1,e2,e3,e4,e5,e6,e7⟩:=isR .ready none
    have he:=run_endLoop (P:=P) hl (by rw [e6];simp)
    rw [e7] at he
    exact ⟨none,_,he,hdone D _ rfl (hI _ _ _ hi (.put _ rfl)) ((World.putObj_heap_other (by omega)).trans hk)⟩
   ·obtain ⟨e1,e2,e3,e4,e5,e6,e7⟩:=isR .done (some c)
    have he:=run_endLoop (P:=P) hl (by rw [e6];simp)
    rw [e7] at he
    exact ⟨some c,_,he,hstop D c pre _ rfl hpp (hIx _ _ _ _ hi (.put _ rfl)) ((World.putObj_heap_other (by omega)).trans hk)⟩
end Go.Proofs.Yteaaapdjplbljaa
end
section
namespace Go.Proofs.Yteaaapdjplbljaa
open Go Go.Proofs Go.RowKit Go.Shelf Go.Proofs.Yteaaapdjplbljaa.Hp Go.Proofs.Yteaaapdjplbljaa.Ch
section
variable {W W':World} {hb n:Nat} {es:List EdgeD} {R:List Int} {S:List SC} {O I:List (List Int)}
theorem cell_same {p:Addr} {v:Value} (hk:∀k,k<W.heap.size→W'.heap[k]? =W.heap[k]?) (h:W.cell? p=some v):W'.cell? p=some v:=
 (World.cell?_of_block (w:=W) (hk _ (World.block_lt_of_cell? _ _ h))).trans h
theorem Cel.same {ao:Option Addr} {xs:List Value} (hk:∀k,k<W.heap.size→W'.heap[k]? =W.heap[k]?) (h:Cel W ao xs):Cel W' ao xs:=fun i u hu=>
 let ⟨b,o,e,h1⟩:=h i u hu
 ⟨b,o,e,cell_same hk h1⟩
end
theorem KeepX.lt {X:Nat→Prop} {a b:World} {k:Nat} (h:KeepX X a b) (_:X k) (hk:k<a.heap.size):k<b.heap.size:=Nat.lt_of_lt_of_le hk h.1
end Go.Proofs.Yteaaapdjplbljaa
end
