/- Parts; no condition. -/
import Derived.Test.YteaaapdjplbljaaGreatVc19
set_option linter.unusedVariables false
set_option linter.unusedSimpArgs false
set_option linter.unnecessarySimpa false
set_option maxRecDepth 100000
set_option maxHeartbeats 8000000
namespace Go.Proofs.YteaaapdjplbljaaGreat
section
open Go Go.Proofs Go.RowKit
variable {F:Fence} {n:Nat} {P:Program}
theorem Up {α:Type} {g:Operand} {ps:Array Tmp} {assign body:Code} {Q:Exit->Act->World->Prop} {a:Act} {w:World}
  (hro:F.round=none) (h1:1<=n) {gf:Nat} {lb:Array Value} (hg:a.eval g=.func (.func gf) #[] lb) (hFg:F.fn gf) (eg:∀args w,(callFunc gf args).run P w=.ok (.enter gf args) w)
  {encs:α->Array Value} {parts:List α} {Kp:Nat->Prop} (hseq:SeqK F (n-1) P gf lb encs parts Kp w) (hB:∀k,Kp k->k<w.heap.size) (hps:∀x,(encs x).size=ps.size)
  (I:List α->World->Prop) (Ix:Code->List α->World->Prop)
  (hI:∀pre W W',I pre W->OffX (Au w.heap.size) W W'->I pre W') (hIx:∀c pre W W',Ix c pre W->OffX (Au w.heap.size) W W'->Ix c pre W') (h0:I [] w)
  (hround:∀(l:Nat) (pre:List α) (x:α) (W0:World) (K:Act->World->Prop),I pre W0->(pre++[x]) <+:parts->w.heap.size<=l->l<=w.heap.size+1->w.heap.size+2<=W0.heap.size->
   (∀a' W',Below W0.heap.size W0 W'->(∀Wb,OffX (Au w.heap.size) W' Wb->I pre Wb->(∃r,Wb.heap[l]? =some (.loop r))->body.wpIn (F.inRound l) (n-1-1) P (As2 (Mr Kp w.heap.size) I Ix (pre++[x]) Wb) a' Wb)->K a' W')->
   assign.wpIn (F.inRound l) (n-1-1) P (Exit.then K (fun _ _ _=>False)) { tmps:=(ps.zip (encs x)).foldl (fun t (p,v)=>t.setIfInBounds p v) a.tmps,defers:=[] } W0)
  (hdone:∀(D:Nat) (W:World),D=w.heap.size->I parts W->W.heap[D]? =some (.deferred (some []))->Q .normal { a with defers:={ target:=.collected D,args:=#[] }::a.defers } W)
  (hstop:∀(D:Nat) (c:Code) (pre:List α) (W:World),D=w.heap.size->pre <+:parts->Ix c pre W->W.heap[D]? =some (.deferred (some []))->c.wpIn F n P Q { a with defers:={ target:=.collected D,args:=#[] }::a.defers } W):
  (Code.rangeFunc g ps assign body).wpIn F n P Q a w:=by
 refine wpIn_rangeFunc fun fn hfn=>?_;rw [hro];obtain ⟨R,hR⟩:∃R:LoopState->Option Code->Loop,R=fun st pe=>{ state:=st,pending:=pe,fn,tmps:=a.tmps,params:=ps,assign,body,defers:=w.heap.size }:=⟨_,rfl⟩;obtain ⟨D,hD⟩:∃D,w.heap.size=D:=⟨_,rfl⟩;obtain ⟨V,hV⟩:∃V,V=(w.alloc (.deferred (some []))).alloc (.loop (R .ready none)):=⟨_,rfl⟩;have loopV:V.heap[D+1]? =some (.loop (R .ready none)):=by
  have:=World.alloc_heap_new (w.alloc (.deferred (some []))) (.loop (R .ready none));rw [World.size_alloc,hD] at this;rw [hV];exact this
 have markV:V.heap[D]? =some (.deferred (some [])):=by
  have:=World.alloc_heap_new w (.deferred (some []));rw [hD] at this;rw [hV,Below.heap_alloc _ _ _ (by rw [World.size_alloc];omega)];exact this
 have growV:Below w.heap.size w V:=by rw [hV];exact ((Below.refl _ w).alloc (Bi7 _) _).alloc (by simp) _
 have sizeV:V.heap.size=D+2:=by rw [hV];simp;omega
 have isR:∀st pe,(R st pe).params=ps/\(R st pe).tmps=a.tmps/\(R st pe).fn=fn/\(R st pe).assign=assign/\(R st pe).body=body/\(R st pe).state=st/\(R st pe).pending=pe:=fun st pe=>by rw [hR];exact ⟨rfl,rfl,rfl,rfl,rfl,rfl,rfl⟩
 refine ⟨D+1,[{ target:=.collected D,args:=#[] }],V,{ target:=.fn (.func gf) lb,args:=#[.func (.yield (D+1)) #[] #[]] },V,gf,#[.func (.yield (D+1)) #[] #[]]++lb,V,?_,?_,?_,?_,fun _=>h1,?_⟩
 ·have:=run_enterLoop_outer (P:=P) (w:=w) fn a.tmps ps assign body
  rw [this,hV,hR,hD]
 ·simp only [resolve,hg]
  simp [go_sem]
 ·intro f' hf'
  simp [Target.leads] at hf';subst hf';exact hFg
 ·simp [invoke,go_sem,eg]
 ·rw [hD] at hI hIx hround hdone hstop hB growV
  refine (hseq (D+1) (fun pre W=>I pre W/\W.heap[D+1]? =some (.loop (R .ready none))/\W.heap[D]? =some (.deferred (some [])))
   (fun pre W=>∃c,Ix c pre W/\W.heap[D+1]? =some (.loop (R .done (some c)))/\W.heap[D]? =some (.deferred (some [])))
   V ⟨growV.size,fun k hk=>growV.block k (by have:=hB k hk;omega)⟩ ?_ ?_ ?round ⟨hI _ _ _ h0 (.of_below (by rw [hD];exact growV)),loopV,markV⟩).mono ?_
  ·rintro pre W1 W2 ⟨hi,hl,hk⟩ ho
   refine ⟨hI _ _ _ hi (ho.mono fun k e=>e.elim),?_,?_⟩
   ·rw [ho.block (D+1) (Bj2.1 hl).1 (fun e=>e.elim)];exact hl
   ·rw [ho.block D (Bj2.1 hk).1 (fun e=>e.elim)];exact hk
  ·rintro pre W1 W2 ⟨c,hi,hl,hk⟩ ho
   refine ⟨c,hIx _ _ _ _ hi (ho.mono fun k e=>e.elim),?_,?_⟩
   ·rw [ho.block (D+1) (Bj2.1 hl).1 (fun e=>e.elim)];exact hl
   ·rw [ho.block D (Bj2.1 hk).1 (fun e=>e.elim)];exact hk
  case round=>
   rintro pre x W0 ⟨hi0,hl0,hk0⟩ hpx;have hlt0:D+1<W0.heap.size:=(Bj2.1 hl0).1;obtain ⟨e1,e2,e3,e4,e5,e6,e7⟩:=isR .ready none;have hy:=run_yield (P:=P) (args:=encs x) hl0 (by rw [e1];exact hps x);rw [e1,e2,e3,e4,e5] at hy;refine ⟨fn,_,assign,body,hy,roundIn_of_wpIn hfn (hround _ pre x W0 _ hi0 hpx (by omega) (by omega) (by omega) ?_)⟩;intro a₁ W hgr hbody;have hl:W.heap[D+1]? =some (.loop (R .ready none)):=(hgr.block _ hlt0).trans hl0;have hk:W.heap[D]? =some (.deferred (some [])):=(hgr.block _ (by omega)).trans hk0;have hi:I pre W:=hI _ _ _ hi0 (.of_below hgr);have hk00:KeepX Kp W0 W:=⟨hgr.size,fun k hk=>hgr.block k (by have:=hB k hk;omega)⟩;refine ⟨_,run_beginRound hl e6,?_⟩;have hlt:D+1<W.heap.size:=(Bj2.1 hl).1;obtain ⟨Wb,hWb⟩:∃Wb,Wb=W.putObj (D+1) (.loop { R .ready none with state:=.busy }):=⟨_,rfl⟩;rw [<-hWb];have hlb:Wb.heap[D+1]? =some (.loop { R .ready none with state:=.busy }):=by rw [hWb];exact World.putObj_heap_same hlt
   have hkb:Wb.heap[D]? =some (.deferred (some [])):=by rw [hWb];exact (World.putObj_heap_other (by omega)).trans hk
   have hob:OffX (Au D) W Wb:=by rw [hWb];exact .put _ rfl
   have hsb:W.heap.size<=Wb.heap.size:=hob.size;have hkx:KeepX Kp W Wb:=⟨hsb,fun k hk=>by
    rw [hWb];exact World.putObj_heap_other (by have:=hB k hk;omega)⟩
   refine wpIn_mono (hbody Wb hob (hI _ _ _ hi hob) ⟨_,hlb⟩) ?_;have fin:∀(jump:Option Code) (W3:World),KeepX (Mr Kp D) Wb W3->∃W4,(Instr.endRound (D+1) jump).run P W3=.ok (.bool jump.isNone) W4/\OffX (Au D) W3 W4/\KeepX Kp W0 W4/\
     W4.heap[D+1]? =some (.loop (R (if jump.isNone then .ready else .done) jump))/\W4.heap[D]? =some (.deferred (some [])):=by
    intro jump W3 hk3;have hl3:W3.heap[D+1]? =some (.loop { R .ready none with state:=.busy }):=(hk3.2 _ (.inr (.inr rfl))).trans hlb;have hd3:W3.heap[D]? =some (.deferred (some [])):=(hk3.2 _ (.inr (.inl rfl))).trans hkb;have he:=run_endRound (P:=P) jump hl3;refine ⟨_,he,.put _ rfl,hk00.trans (hkx.trans ((hk3.mono fun k h=>.inl h).trans ⟨(OffX.put (X:=Au D) _ rfl).size,fun k hk=>World.putObj_heap_other (by have:=hB k hk;omega)⟩)),?_,(World.putObj_heap_other (by omega)).trans hd3⟩;rw [World.putObj_heap_same (Bj2.1 hl3).1,hR]
   rintro e a3 W3 hp
   cases e with
   |normal=>
    obtain ⟨hk3,hi3⟩:=hp;obtain ⟨W4,r1,r2,r3,r4,r5⟩:=fin none W3 hk3;exact ⟨_,_,r1,.inl ⟨rfl,⟨hI _ _ _ hi3 r2,r4,r5⟩,r3⟩⟩
   |ret=>
    obtain ⟨hk3,hi3⟩:=hp;obtain ⟨W4,r1,r2,r3,r4,r5⟩:=fin (some .ret) W3 hk3;exact ⟨_,_,r1,.inr ⟨rfl,.ret,hIx _ _ _ _ hi3 r2,r4,r5⟩⟩
   |exit id=>
    obtain ⟨hk3,hi3⟩:=hp;obtain ⟨W4,r1,r2,r3,r4,r5⟩:=fin (some (.exit id)) W3 hk3;exact ⟨_,_,r1,.inr ⟨rfl,.exit id,hIx _ _ _ _ hi3 r2,r4,r5⟩⟩
   |goto t=>
    obtain ⟨hk3,hi3⟩:=hp;obtain ⟨W4,r1,r2,r3,r4,r5⟩:=fin (some (.goto t)) W3 hk3;exact ⟨_,_,r1,.inr ⟨rfl,.goto t,hIx _ _ _ _ hi3 r2,r4,r5⟩⟩
   |panic ch=>exact hp.elim
   |outgrown=>exact hp.elim
  ·rintro e W2 ⟨⟨v,rfl⟩,⟨hi,hl,hk⟩|⟨pre,hpp,c,hi,hl,hk⟩⟩
   ·obtain ⟨e1,e2,e3,e4,e5,e6,e7⟩:=isR .ready none
    have he:=run_endLoop (P:=P) hl (by rw [e6];simp);rw [e7] at he;exact ⟨none,_,he,hdone D _ rfl (hI _ _ _ hi (.put _ rfl)) ((World.putObj_heap_other (by omega)).trans hk)⟩
   ·obtain ⟨e1,e2,e3,e4,e5,e6,e7⟩:=isR .done (some c)
    have he:=run_endLoop (P:=P) hl (by rw [e6];simp);rw [e7] at he;exact ⟨some c,_,he,hstop D c pre _ rfl hpp (hIx _ _ _ _ hi (.put _ rfl)) ((World.putObj_heap_other (by omega)).trans hk)⟩
def Bd5 (Kp:Nat->Prop) (D k:Nat):Prop:=Kp k\/k=D
def Jl (D k:Nat):Prop:=k=D
theorem Uq {α:Type} {g:Operand} {ps:Array Tmp} {assign body:Code} {Q:Exit->Act->World->Prop} {a:Act} {w:World}
  {l₀:Nat} {r₀:Loop} (hro:F.round=some l₀) (hl₀:w.heap[l₀]? =some (.loop r₀)) (h1:1<=n) {gf:Nat} {lb:Array Value} (hg:a.eval g=.func (.func gf) #[] lb) (hFg:F.fn gf) (eg:∀args w,(callFunc gf args).run P w=.ok (.enter gf args) w)
  {encs:α->Array Value} {parts:List α} {Kp:Nat->Prop} (hseq:SeqK F (n-1) P gf lb encs parts Kp w) (hB:∀k,Kp k->k<w.heap.size) (hps:∀x,(encs x).size=ps.size)
  (I:List α->World->Prop) (Ix:Code->List α->World->Prop)
  (hI:∀pre W W',I pre W->OffX (Jl w.heap.size) W W'->I pre W') (hIx:∀c pre W W',Ix c pre W->OffX (Jl w.heap.size) W W'->Ix c pre W') (h0:I [] w)
  (hround:∀(l:Nat) (pre:List α) (x:α) (W0:World) (K:Act->World->Prop),I pre W0->(pre++[x]) <+:parts->l=w.heap.size->w.heap.size+1<=W0.heap.size->
   (∀a' W',Below W0.heap.size W0 W'->(∀Wb,OffX (Jl w.heap.size) W' Wb->I pre Wb->body.wpIn (F.inRound l) (n-1-1) P (As2 (Bd5 Kp w.heap.size) I Ix (pre++[x]) Wb) a' Wb)->K a' W')->
   assign.wpIn (F.inRound l) (n-1-1) P (Exit.then K (fun _ _ _=>False)) { tmps:=(ps.zip (encs x)).foldl (fun t (p,v)=>t.setIfInBounds p v) a.tmps,defers:=[] } W0)
  (hdone:∀(W:World),I parts W->Q .normal a W)
  (hstop:∀(c:Code) (pre:List α) (W:World),pre <+:parts->Ix c pre W->c.wpIn F n P Q a W):
  (Code.rangeFunc g ps assign body).wpIn F n P Q a w:=by
 refine wpIn_rangeFunc fun fn hfn=>?_;rw [hro];obtain ⟨R,hR⟩:∃R:LoopState->Option Code->Loop,R=fun st pe=>{ state:=st,pending:=pe,fn,tmps:=a.tmps,params:=ps,assign,body,defers:=r₀.defers }:=⟨_,rfl⟩;obtain ⟨D,hD⟩:∃D,w.heap.size=D:=⟨_,rfl⟩;obtain ⟨V,hV⟩:∃V,V=w.alloc (.loop (R .ready none)):=⟨_,rfl⟩;have loopV:V.heap[D]? =some (.loop (R .ready none)):=by
  rw [hV,<-hD];exact World.alloc_heap_new w _
 have growV:Below w.heap.size w V:=by rw [hV];exact (Below.refl _ w).alloc (Bi7 _) _
 have sizeV:V.heap.size=D+1:=by rw [hV];simp;omega
 have isR:∀st pe,(R st pe).params=ps/\(R st pe).tmps=a.tmps/\(R st pe).fn=fn/\(R st pe).assign=assign/\(R st pe).body=body/\(R st pe).state=st/\(R st pe).pending=pe:=fun st pe=>by rw [hR];exact ⟨rfl,rfl,rfl,rfl,rfl,rfl,rfl⟩
 refine ⟨D,[],V,{ target:=.fn (.func gf) lb,args:=#[.func (.yield D) #[] #[]] },V,gf,#[.func (.yield D) #[] #[]]++lb,V,?_,?_,?_,?_,fun _=>h1,?_⟩
 ·have:=run_enterLoop_inner (P:=P) hl₀ fn a.tmps ps assign body
  rw [this,hV,hR,hD]
 ·simp only [resolve,hg]
  simp [go_sem]
 ·intro f' hf'
  simp [Target.leads] at hf';subst hf';exact hFg
 ·simp [invoke,go_sem,eg]
 ·rw [hD] at hI hIx hround hB growV
  refine (hseq D (fun pre W=>I pre W/\W.heap[D]? =some (.loop (R .ready none)))
   (fun pre W=>∃c,Ix c pre W/\W.heap[D]? =some (.loop (R .done (some c))))
   V ⟨growV.size,fun k hk=>growV.block k (by have:=hB k hk;omega)⟩ ?_ ?_ ?round ⟨hI _ _ _ h0 (.of_below (by rw [hD];exact growV)),loopV⟩).mono ?_
  ·rintro pre W1 W2 ⟨hi,hl⟩ ho
   refine ⟨hI _ _ _ hi (ho.mono fun k e=>e.elim),?_⟩;rw [ho.block D (Bj2.1 hl).1 (fun e=>e.elim)];exact hl
  ·rintro pre W1 W2 ⟨c,hi,hl⟩ ho
   refine ⟨c,hIx _ _ _ _ hi (ho.mono fun k e=>e.elim),?_⟩;rw [ho.block D (Bj2.1 hl).1 (fun e=>e.elim)];exact hl
  case round=>
   rintro pre x W0 ⟨hi0,hl0⟩ hpx;have hlt0:D<W0.heap.size:=(Bj2.1 hl0).1;obtain ⟨e1,e2,e3,e4,e5,e6,e7⟩:=isR .ready none;have hy:=run_yield (P:=P) (args:=encs x) hl0 (by rw [e1];exact hps x);rw [e1,e2,e3,e4,e5] at hy;refine ⟨fn,_,assign,body,hy,roundIn_of_wpIn hfn (hround _ pre x W0 _ hi0 hpx (by omega) (by omega) ?_)⟩;intro a₁ W hgr hbody;have hl:W.heap[D]? =some (.loop (R .ready none)):=(hgr.block _ hlt0).trans hl0;have hi:I pre W:=hI _ _ _ hi0 (.of_below hgr);have hk00:KeepX Kp W0 W:=⟨hgr.size,fun k hk=>hgr.block k (by have:=hB k hk;omega)⟩;refine ⟨_,run_beginRound hl e6,?_⟩;have hlt:D<W.heap.size:=(Bj2.1 hl).1;obtain ⟨Wb,hWb⟩:∃Wb,Wb=W.putObj D (.loop { R .ready none with state:=.busy }):=⟨_,rfl⟩;rw [<-hWb];have hlb:Wb.heap[D]? =some (.loop { R .ready none with state:=.busy }):=by rw [hWb];exact World.putObj_heap_same hlt
   have hob:OffX (Jl D) W Wb:=by rw [hWb];exact .put _ rfl
   have hsb:W.heap.size<=Wb.heap.size:=hob.size;have hkx:KeepX Kp W Wb:=⟨hsb,fun k hk=>by
    rw [hWb];exact World.putObj_heap_other (by have:=hB k hk;omega)⟩
   refine wpIn_mono (hbody Wb hob (hI _ _ _ hi hob)) ?_;have fin:∀(jump:Option Code) (W3:World),KeepX (Bd5 Kp D) Wb W3->∃W4,(Instr.endRound D jump).run P W3=.ok (.bool jump.isNone) W4/\OffX (Jl D) W3 W4/\KeepX Kp W0 W4/\
     W4.heap[D]? =some (.loop (R (if jump.isNone then .ready else .done) jump)):=by
    intro jump W3 hk3;have hl3:W3.heap[D]? =some (.loop { R .ready none with state:=.busy }):=(hk3.2 _ (.inr rfl)).trans hlb;have he:=run_endRound (P:=P) jump hl3;refine ⟨_,he,.put _ rfl,hk00.trans (hkx.trans ((hk3.mono fun k h=>.inl h).trans ⟨(OffX.put (X:=Jl D) _ rfl).size,fun k hk=>World.putObj_heap_other (by have:=hB k hk;omega)⟩)),?_⟩;rw [World.putObj_heap_same (Bj2.1 hl3).1,hR]
   rintro e a3 W3 hp
   cases e with
   |normal=>
    obtain ⟨hk3,hi3⟩:=hp;obtain ⟨W4,r1,r2,r3,r4⟩:=fin none W3 hk3;exact ⟨_,_,r1,.inl ⟨rfl,⟨hI _ _ _ hi3 r2,r4⟩,r3⟩⟩
   |ret=>
    obtain ⟨hk3,hi3⟩:=hp;obtain ⟨W4,r1,r2,r3,r4⟩:=fin (some .ret) W3 hk3;exact ⟨_,_,r1,.inr ⟨rfl,.ret,hIx _ _ _ _ hi3 r2,r4⟩⟩
   |exit id=>
    obtain ⟨hk3,hi3⟩:=hp;obtain ⟨W4,r1,r2,r3,r4⟩:=fin (some (.exit id)) W3 hk3;exact ⟨_,_,r1,.inr ⟨rfl,.exit id,hIx _ _ _ _ hi3 r2,r4⟩⟩
   |goto t=>
    obtain ⟨hk3,hi3⟩:=hp;obtain ⟨W4,r1,r2,r3,r4⟩:=fin (some (.goto t)) W3 hk3;exact ⟨_,_,r1,.inr ⟨rfl,.goto t,hIx _ _ _ _ hi3 r2,r4⟩⟩
   |panic ch=>exact hp.elim
   |outgrown=>exact hp.elim
  ·rintro e W2 ⟨⟨v,rfl⟩,⟨hi,hl⟩|⟨pre,hpp,c,hi,hl⟩⟩
   ·obtain ⟨e1,e2,e3,e4,e5,e6,e7⟩:=isR .ready none
    have he:=run_endLoop (P:=P) hl (by rw [e6];simp);rw [e7] at he;exact ⟨none,_,he,hdone _ (hI _ _ _ hi (.put _ rfl))⟩
   ·obtain ⟨e1,e2,e3,e4,e5,e6,e7⟩:=isR .done (some c)
    have he:=run_endLoop (P:=P) hl (by rw [e6];simp);rw [e7] at he;exact ⟨some c,_,he,hstop c pre _ hpp (hIx _ _ _ _ hi (.put _ rfl))⟩
end
section
open Go Go.Proofs Go.RowKit Go.Shelf Hp Ch
def KpB (B:Nat) (ao:Option Addr) (k:Nat):Prop:=k=B\/∃b o,ao=some ⟨b,o,none⟩/\k=b
def Yp (l:List Int):List (Nat×Int):=(List.range l.length).reverse.map fun i=>(i,l.getD i 0)
theorem Rw (l:List Int):(Yp l).length=l.length:=by simp [Yp]
theorem Ax6 {l:List Int} {j:Nat} (hj:j<l.length):(Yp l)[j]? =some (l.length-1-j,l.getD (l.length-1-j) 0):=by
 unfold Yp;rw [Bk4,List.getElem?_reverse (by simpa using hj),List.length_range,List.getElem?_range (by omega)];rfl
theorem Ah7 {l:List Int} {pre:List (Nat×Int)} {x:Nat×Int} (h:(pre++[x]) <+:Yp l):x.1+pre.length+1=l.length/\x.2=l.getD x.1 0:=by
 have hl:=h.length_le;rw [Rw,Bl5,List.length_singleton] at hl;obtain ⟨t,e⟩:=h;have h1:(Yp l)[pre.length]? =some x:=by rw [<-e,Bm4 (by simp),Bm3 (Bi7 _)];simp
 rw [Ax6 (by omega)] at h1
 cases h1
 exact ⟨by simp only;omega,rfl⟩
theorem We (ao:Option Addr) (n cap:Nat) (w:World):Calls Tryz.prog 198 #[.slice ao n cap] w fun e w'=>e=.returned (.func (.func 249) #[] #[.pointer (some ⟨w.heap.size,0,none⟩)])/\Below w.heap.size w w'/\w'.heap.size=w.heap.size+1/\w'.cell? ⟨w.heap.size,0,none⟩=some (.slice ao n cap):=by
 go_enter Tryz.func198,Tryz.ntmps198
 go_wp2
 go_ret
 exact ⟨rfl,Below.of_al _ _,by simp,by go_simp⟩
theorem Rz (n:Nat) (hn:1<=n) (ao:Option Addr) (cap B:Nat) (r:List Int) (w:World) (hr:r.length<=1000000) (h0:w.cell? ⟨B,0,none⟩=some (.slice ao r.length cap)) (hc:Cel w ao (r.map Aj)):
  SeqK Fence.wide n Tryz.prog 249 #[.pointer (some ⟨B,0,none⟩)] (fun x:Nat×Int=>#[.int .i64 x.1,.int .i64 x.2]) (Yp r) (KpB B ao) w:=by
 intro l J Jx W hk hJ hJx hY hJ0;refine callsIn_of_wp Tryz.func249 rfl trivial ?_ rfl;simp only [Tryz.ntmps249,List.size_toArray,Bk0,Bk1,Nat.reduceAdd,Nat.reduceSub,Array.replicate_succ,Array.replicate_zero,List.push_toArray,List.append_toArray,List.nil_append,List.cons_append];have e0:W.cell? ⟨B,0,none⟩=some (.slice ao r.length cap):=by rw [Bl2 (w:=w) (hk.2 B (.inl rfl))];exact h0
 have hcW:∀W',KeepX (KpB B ao) W W'->Cel W' ao (r.map Aj):=fun W' h i u hu=>by
  obtain ⟨b,o,e,h1⟩:=hc i u hu;exact ⟨b,o,e,(Bl2 (w:=w) ((h.2 b (.inr ⟨b,o,e,rfl⟩)).trans (hk.2 b (.inr ⟨b,o,e,rfl⟩)))).trans h1⟩
 have HC:=Bi5 hcW;have HY:=Bi5 hY;have HBL:=Bi5 (Rw r);have HAT:=Bi5 (fun pre x=>Ah7 (l:=r) (pre:=pre) (x:=x));generalize Yp r=parts at*;clear hY hk h0 hc hcW hJ hJx
 gi_wp2
 gi_loopg [3] r.length (fun gg vi wr=>∃(pre:List (Nat×Int)) (m:Nat),pre <+:parts/\pre.length+m=r.length/\m<=gg/\vi=.int .i64 ((m:Int)-1)/\Aside (KeepX (KpB B ao) W wr)/\Aside (J pre wr))
 case atStart=>exact ⟨[],r.length,List.nil_prefix,by simp,Bi7 _,rfl,⟨Bi7 _,fun _ _=>rfl⟩,hJ0⟩
 case round=>
  clear hJ0;obtain ⟨pre,m,hpp,hm,hgg,rfl,HK,HJ⟩:=hrel;have f0:=(Bl2 (a:=⟨B,0,none⟩) (HK.out.2 B (.inl rfl))).trans e0;clear e0
  cases m with
  |zero=>
   have hpe:pre=parts:=hpp.eq_of_length (by rw [HBL.out];omega)
   gi_wp2
   go_end0
   exact ⟨⟨_,rfl⟩,.inl (by rw [<-hpe];exact HJ.out)⟩
  |succ i=>
   have hx:∃x,(pre++[x]) <+:parts:=by
    have hbl:=HBL.out;obtain ⟨t,rfl⟩:=hpp
    cases t with
    |nil=>simp at hbl;omega
    |cons a t=>exact ⟨a,t,by simp⟩
   obtain ⟨⟨xi,xv⟩,hpx⟩:=hx;obtain ⟨h1,h2⟩:=HAT.out pre (xi,xv) hpx;simp only at h1 h2;obtain rfl:i=xi:=by omega
   have hir:i<r.length:=by omega
   obtain ⟨g,go,rfl,c1⟩:=(HC.out wr HK.out).at hir;have hxr:r[i]=xv:=by rw [h2];simp [List.getD,hir]
   rw [hxr] at c1;obtain ⟨fn,tmps,assign,body,hy,hR⟩:=HY.out pre (i,xv) wr HJ.out hpx
   dsimp only at hy
   have HR:=Bi5 hR;clear hR h1 h2 hxr;have hii:((i+1:Nat):Int)-1=(i:Int):=by omega
   rw [hii];have hi0:(0:Int)<=(i:Int):=by omega
   have hil:(i:Int)<(r.length:Int):=by omega
   gi_wp2
   refine HR.out.mono ?_;rintro e W' (⟨rfl,hJ',hk⟩|⟨rfl,hJx'⟩)
   ·have HJ2:=Bi5 hJ'
    have HK2:=Bi5 (HK.out.trans hk);clear hJ' hk f0 c1
    gi_wp2
    gi_roundg i
    case rel=>exact ⟨pre++[(i,xv)],i,hpx,by simp;omega,Bi7 _,by go_num,HK2.out,HJ2.out⟩
    case measure=>omega
   ·have HJ2:=Bi5 hJx'
    clear hJx'
    gi_wp2
    refine bodyPost_ret (results_none rfl _ _ _) rfl ?_;exact ⟨⟨_,rfl⟩,.inr ⟨pre++[(i,xv)],hpx,HJ2.out⟩⟩
end
end Go.Proofs.YteaaapdjplbljaaGreat
