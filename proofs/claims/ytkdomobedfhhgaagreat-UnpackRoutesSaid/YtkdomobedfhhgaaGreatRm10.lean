/- A range over a function within a round of another one: the outer law tells the body of its record; the inner law takes it. Walk of the library's slices.Backward at a row of numbers that stays. Walk of package upward: Sweep. -/
import Derived.Test.YtkdomobedfhhgaaGreatQm26
import Derived.RangeFuncNested
import Derived.Test.YtkdomobedfhhgaaGreatProg
import Derived.Test.YtkdomobedfhhgaaGreatQm27
import Derived.Test.YtkdomobedfhhgaaGreatRm05
import Derived.Test.YtkdomobedfhhgaaGreatRm02
import Derived.Test.YtkdomobedfhhgaaGreatRm07
import Derived.Test.YtkdomobedfhhgaaGreatQm29
set_option linter.unusedVariables false
set_option linter.unusedSimpArgs false
set_option linter.unnecessarySimpa false
section
namespace Go.Proofs.YtkdomobedfhhgaaGreat
open Go Go.Proofs Go.RowKit
variable {F:Fence} {n:Nat} {P:Program}
theorem wpIn_rangeKR {α:Type} {g:Operand} {ps:Array Tmp} {assign body:Code} {Q:Exit→Act→World→Prop} {a:Act} {w:World}
  (hro:F.round=none) (h1:1≤n) {gf:Nat} {lb:Array Value} (hg:a.eval g=.func (.func gf) #[] lb) (hFg:F.fn gf) (eg:∀args w,(callFunc gf args).run P w=.ok (.enter gf args) w)
  {encs:α→Array Value} {parts:List α} {Kp:Nat→Prop} (hseq:SeqK F (n-1) P gf lb encs parts Kp w) (hB:∀k,Kp k→k<w.heap.size) (hps:∀x,(encs x).size=ps.size)
  (I:List α→World→Prop) (Ix:Code→List α→World→Prop)
  (hI:∀pre W W',I pre W→OffX (TurnK w.heap.size) W W'→I pre W') (hIx:∀c pre W W',Ix c pre W→OffX (TurnK w.heap.size) W W'→Ix c pre W') (h0:I [] w)
  (hround:∀(l:Nat) (pre:List α) (x:α) (W0:World) (K:Act→World→Prop),I pre W0→(pre++[x]) <+:parts→w.heap.size≤l→l≤w.heap.size+1→w.heap.size+2≤W0.heap.size→
   (∀a' W',Below W0.heap.size W0 W'→(∀Wb,OffX (TurnK w.heap.size) W' Wb→I pre Wb→(∃r,Wb.heap[l]? =some (.loop r))→body.wpIn (F.inRound l) (n-1-1) P (postK (BodyK Kp w.heap.size) I Ix (pre++[x]) Wb) a' Wb)→K a' W')→
   assign.wpIn (F.inRound l) (n-1-1) P (Exit.then K (fun _ _ _=>False)) { tmps:=(ps.zip (encs x)).foldl (fun t (p,v)=>t.setIfInBounds p v) a.tmps,defers:=[] } W0)
  (hdone:∀(D:Nat) (W:World),D=w.heap.size→I parts W→W.heap[D]? =some (.deferred (some []))→Q .normal { a with defers:={ target:=.collected D,args:=#[] }::a.defers } W)
  (hstop:∀(D:Nat) (c:Code) (pre:List α) (W:World),D=w.heap.size→pre <+:parts→Ix c pre W→W.heap[D]? =some (.deferred (some []))→c.wpIn F n P Q { a with defers:={ target:=.collected D,args:=#[] }::a.defers } W):
  (Code.rangeFunc g ps assign body).wpIn F n P Q a w:=by
 refine wpIn_rangeFunc fun fn hfn=>?_
 rw [hro]
 obtain ⟨R,hR⟩:∃R:LoopState→Option Code→Loop,R=fun st pe=>{ state:=st,pending:=pe,fn,tmps:=a.tmps,params:=ps,assign,body,defers:=w.heap.size }:=⟨_,rfl⟩
 obtain ⟨D,hD⟩:∃D,w.heap.size=D:=⟨_,rfl⟩
 obtain ⟨V,hV⟩:∃V,V=(w.alloc (.deferred (some []))).alloc (.loop (R .ready none)):=⟨_,rfl⟩
 have loopV:V.heap[D+1]? =some (.loop (R .ready none)):=by
  have:=World.alloc_heap_new (w.alloc (.deferred (some []))) (.loop (R .ready none))
  rw [World.size_alloc,hD] at this
  rw [hV];exact this
 have markV:V.heap[D]? =some (.deferred (some [])):=by
  have:=World.alloc_heap_new w (.deferred (some []))
  rw [hD] at this
  rw [hV,Below.heap_alloc _ _ _ (by rw [World.size_alloc];omega)]
  exact this
 have growV:Below w.heap.size w V:=by rw [hV];exact ((Below.refl _ w).alloc (Nat.le_refl _) _).alloc (by simp) _
 have sizeV:V.heap.size=D+2:=by rw [hV];simp;omega
 have isR:∀st pe,(R st pe).params=ps∧(R st pe).tmps=a.tmps∧(R st pe).fn=fn∧(R st pe).assign=assign∧(R st pe).body=body∧(R st pe).state=st∧(R st pe).pending=pe:=fun st pe=>by rw [hR];exact ⟨rfl,rfl,rfl,rfl,rfl,rfl,rfl⟩
 refine ⟨D+1,[{ target:=.collected D,args:=#[] }],V,{ target:=.fn (.func gf) lb,args:=#[.func (.yield (D+1)) #[] #[]] },V,gf,#[.func (.yield (D+1)) #[] #[]]++lb,V,?_,?_,?_,?_,fun _=>h1,?_⟩
 ·have:=run_enterLoop_outer (P:=P) (w:=w) fn a.tmps ps assign body
  rw [this,hV,hR,hD]
 ·simp only [resolve,hg]
  simp [go_sem]
 ·intro f' hf'
  simp [Target.leads] at hf'
  subst hf'
  exact hFg
 ·simp [invoke,go_sem,eg]
 ·rw [hD] at hI hIx hround hdone hstop hB growV
  refine (hseq (D+1) (fun pre W=>I pre W∧W.heap[D+1]? =some (.loop (R .ready none))∧W.heap[D]? =some (.deferred (some [])))
   (fun pre W=>∃c,Ix c pre W∧W.heap[D+1]? =some (.loop (R .done (some c)))∧W.heap[D]? =some (.deferred (some [])))
   V ⟨growV.size,fun k hk=>growV.block k (by have:=hB k hk;omega)⟩ ?_ ?_ ?round ⟨hI _ _ _ h0 (.of_below (by rw [hD];exact growV)),loopV,markV⟩).mono ?_
  ·rintro pre W1 W2 ⟨hi,hl,hk⟩ ho
   refine ⟨hI _ _ _ hi (ho.mono fun k e=>e.elim),?_,?_⟩
   ·rw [ho.block (D+1) (Array.getElem?_eq_some_iff.1 hl).1 (fun e=>e.elim)];exact hl
   ·rw [ho.block D (Array.getElem?_eq_some_iff.1 hk).1 (fun e=>e.elim)];exact hk
  ·rintro pre W1 W2 ⟨c,hi,hl,hk⟩ ho
   refine ⟨c,hIx _ _ _ _ hi (ho.mono fun k e=>e.elim),?_,?_⟩
   ·rw [ho.block (D+1) (Array.getElem?_eq_some_iff.1 hl).1 (fun e=>e.elim)];exact hl
   ·rw [ho.block D (Array.getElem?_eq_some_iff.1 hk).1 (fun e=>e.elim)];exact hk
  case round=>
   rintro pre x W0 ⟨hi0,hl0,hk0⟩ hpx
   have hlt0:D+1<W0.heap.size:=(Array.getElem?_eq_some_iff.1 hl0).1
   obtain ⟨e1,e2,e3,e4,e5,e6,e7⟩:=isR .ready none
   have hy:=run_yield (P:=P) (args:=encs x) hl0 (by rw [e1];exact hps x)
   rw [e1,e2,e3,e4,e5] at hy
   refine ⟨fn,_,assign,body,hy,roundIn_of_wpIn hfn (hround _ pre x W0 _ hi0 hpx (by omega) (by omega) (by omega) ?_)⟩
   intro a₁ W hgr hbody
   have hl:W.heap[D+1]? =some (.loop (R .ready none)):=(hgr.block _ hlt0).trans hl0
   have hk:W.heap[D]? =some (.deferred (some [])):=(hgr.block _ (by omega)).trans hk0
   have hi:I pre W:=hI _ _ _ hi0 (.of_below hgr)
   have hk00:KeepX Kp W0 W:=⟨hgr.size,fun k hk=>hgr.block k (by have:=hB k hk;omega)⟩
   refine ⟨_,run_beginRound hl e6,?_⟩
   have hlt:D+1<W.heap.size:=(Array.getElem?_eq_some_iff.1 hl).1
   obtain ⟨Wb,hWb⟩:∃Wb,Wb=W.putObj (D+1) (.loop { R .ready none with state:=.busy }):=⟨_,rfl⟩
   rw [←hWb]
   have hlb:Wb.heap[D+1]? =some (.loop { R .ready none with state:=.busy }):=by rw [hWb];exact World.putObj_heap_same hlt
   have hkb:Wb.heap[D]? =some (.deferred (some [])):=by rw [hWb];exact (World.putObj_heap_other (by omega)).trans hk
   have hob:OffX (TurnK D) W Wb:=by rw [hWb];exact .put _ rfl
   have hsb:W.heap.size≤Wb.heap.size:=hob.size
   have hkx:KeepX Kp W Wb:=⟨hsb,fun k hk=>by
    rw [hWb];exact World.putObj_heap_other (by have:=hB k hk;omega)⟩
   refine wpIn_mono (hbody Wb hob (hI _ _ _ hi hob) ⟨_,hlb⟩) ?_
   have fin:∀(jump:Option Code) (W3:World),KeepX (BodyK Kp D) Wb W3→∃W4,(Instr.endRound (D+1) jump).run P W3=.ok (.bool jump.isNone) W4∧OffX (TurnK D) W3 W4∧KeepX Kp W0 W4∧
     W4.heap[D+1]? =some (.loop (R (if jump.isNone then .ready else .done) jump))∧W4.heap[D]? =some (.deferred (some [])):=by
    intro jump W3 hk3
    have hl3:W3.heap[D+1]? =some (.loop { R .ready none with state:=.busy }):=(hk3.2 _ (.inr (.inr rfl))).trans hlb
    have hd3:W3.heap[D]? =some (.deferred (some [])):=(hk3.2 _ (.inr (.inl rfl))).trans hkb
    have he:=run_endRound (P:=P) jump hl3
    refine ⟨_,he,.put _ rfl,hk00.trans (hkx.trans ((hk3.mono fun k h=>.inl h).trans ⟨(OffX.put (X:=TurnK D) _ rfl).size,fun k hk=>World.putObj_heap_other (by have:=hB k hk;omega)⟩)),?_,(World.putObj_heap_other (by omega)).trans hd3⟩
    rw [World.putObj_heap_same (Array.getElem?_eq_some_iff.1 hl3).1,hR]
   rintro e a3 W3 hp
   cases e with
   |normal=>
    obtain ⟨hk3,hi3⟩:=hp
    obtain ⟨W4,r1,r2,r3,r4,r5⟩:=fin none W3 hk3
    exact ⟨_,_,r1,.inl ⟨rfl,⟨hI _ _ _ hi3 r2,r4,r5⟩,r3⟩⟩
   |ret=>
    obtain ⟨hk3,hi3⟩:=hp
    obtain ⟨W4,r1,r2,r3,r4,r5⟩:=fin (some .ret) W3 hk3
    exact ⟨_,_,r1,.inr ⟨rfl,.ret,hIx _ _ _ _ hi3 r2,r4,r5⟩⟩
   |exit id=>
    obtain ⟨hk3,hi3⟩:=hp
    obtain ⟨W4,r1,r2,r3,r4,r5⟩:=fin (some (.exit id)) W3 hk3
    exact ⟨_,_,r1,.inr ⟨rfl,.exit id,hIx _ _ _ _ hi3 r2,r4,r5⟩⟩
   |goto t=>
    obtain ⟨hk3,hi3⟩:=hp
    obtain ⟨W4,r1,r2,r3,r4,r5⟩:=fin (some (.goto t)) W3 hk3
    exact ⟨_,_,r1,.inr ⟨rfl,.goto t,hIx _ _ _ _ hi3 r2,r4,r5⟩⟩
   |panic ch=>exact hp.elim
   |outgrown=>exact hp.elim
  ·rintro e W2 ⟨⟨v,rfl⟩,⟨hi,hl,hk⟩|⟨pre,hpp,c,hi,hl,hk⟩⟩
   ·obtain ⟨e1,e2,e3,e4,e5,e6,e7⟩:=isR .ready none
    have he:=run_endLoop (P:=P) hl (by rw [e6];simp)
    rw [e7] at he
    exact ⟨none,_,he,hdone D _ rfl (hI _ _ _ hi (.put _ rfl)) ((World.putObj_heap_other (by omega)).trans hk)⟩
   ·obtain ⟨e1,e2,e3,e4,e5,e6,e7⟩:=isR .done (some c)
    have he:=run_endLoop (P:=P) hl (by rw [e6];simp)
    rw [e7] at he
    exact ⟨some c,_,he,hstop D c pre _ rfl hpp (hIx _ _ _ _ hi (.put _ rfl)) ((World.putObj_heap_other (by omega)).trans hk)⟩
def BodyN (Kp:Nat→Prop) (D k:Nat):Prop:=Kp k∨k=D
def TurnN (D k:Nat):Prop:=k=D
theorem wpIn_rangeKM {α:Type} {g:Operand} {ps:Array Tmp} {assign body:Code} {Q:Exit→Act→World→Prop} {a:Act} {w:World}
  {l₀:Nat} {r₀:Loop} (hro:F.round=some l₀) (hl₀:w.heap[l₀]? =some (.loop r₀)) (h1:1≤n) {gf:Nat} {lb:Array Value} (hg:a.eval g=.func (.func gf) #[] lb) (hFg:F.fn gf) (eg:∀args w,(callFunc gf args).run P w=.ok (.enter gf args) w)
  {encs:α→Array Value} {parts:List α} {Kp:Nat→Prop} (hseq:SeqK F (n-1) P gf lb encs parts Kp w) (hB:∀k,Kp k→k<w.heap.size) (hps:∀x,(encs x).size=ps.size)
  (I:List α→World→Prop) (Ix:Code→List α→World→Prop)
  (hI:∀pre W W',I pre W→OffX (TurnN w.heap.size) W W'→I pre W') (hIx:∀c pre W W',Ix c pre W→OffX (TurnN w.heap.size) W W'→Ix c pre W') (h0:I [] w)
  (hround:∀(l:Nat) (pre:List α) (x:α) (W0:World) (K:Act→World→Prop),I pre W0→(pre++[x]) <+:parts→l=w.heap.size→w.heap.size+1≤W0.heap.size→
   (∀a' W',Below W0.heap.size W0 W'→(∀Wb,OffX (TurnN w.heap.size) W' Wb→I pre Wb→body.wpIn (F.inRound l) (n-1-1) P (postK (BodyN Kp w.heap.size) I Ix (pre++[x]) Wb) a' Wb)→K a' W')→
   assign.wpIn (F.inRound l) (n-1-1) P (Exit.then K (fun _ _ _=>False)) { tmps:=(ps.zip (encs x)).foldl (fun t (p,v)=>t.setIfInBounds p v) a.tmps,defers:=[] } W0)
  (hdone:∀(W:World),I parts W→Q .normal a W)
  (hstop:∀(c:Code) (pre:List α) (W:World),pre <+:parts→Ix c pre W→c.wpIn F n P Q a W):
  (Code.rangeFunc g ps assign body).wpIn F n P Q a w:=by
 refine wpIn_rangeFunc fun fn hfn=>?_
 rw [hro]
 obtain ⟨R,hR⟩:∃R:LoopState→Option Code→Loop,R=fun st pe=>{ state:=st,pending:=pe,fn,tmps:=a.tmps,params:=ps,assign,body,defers:=r₀.defers }:=⟨_,rfl⟩
 obtain ⟨D,hD⟩:∃D,w.heap.size=D:=⟨_,rfl⟩
 obtain ⟨V,hV⟩:∃V,V=w.alloc (.loop (R .ready none)):=⟨_,rfl⟩
 have loopV:V.heap[D]? =some (.loop (R .ready none)):=by
  rw [hV,←hD];exact World.alloc_heap_new w _
 have growV:Below w.heap.size w V:=by rw [hV];exact (Below.refl _ w).alloc (Nat.le_refl _) _
 have sizeV:V.heap.size=D+1:=by rw [hV];simp;omega
 have isR:∀st pe,(R st pe).params=ps∧(R st pe).tmps=a.tmps∧(R st pe).fn=fn∧(R st pe).assign=assign∧(R st pe).body=body∧(R st pe).state=st∧(R st pe).pending=pe:=fun st pe=>by rw [hR];exact ⟨rfl,rfl,rfl,rfl,rfl,rfl,rfl⟩
 refine ⟨D,[],V,{ target:=.fn (.func gf) lb,args:=#[.func (.yield D) #[] #[]] },V,gf,#[.func (.yield D) #[] #[]]++lb,V,?_,?_,?_,?_,fun _=>h1,?_⟩
 ·have:=run_enterLoop_inner (P:=P) hl₀ fn a.tmps ps assign body
  rw [this,hV,hR,hD]
 ·simp only [resolve,hg]
  simp [go_sem]
 ·intro f' hf'
  simp [Target.leads] at hf'
  subst hf'
  exact hFg
 ·simp [invoke,go_sem,eg]
 ·rw [hD] at hI hIx hround hB growV
  refine (hseq D (fun pre W=>I pre W∧W.heap[D]? =some (.loop (R .ready none)))
   (fun pre W=>∃c,Ix c pre W∧W.heap[D]? =some (.loop (R .done (some c))))
   V ⟨growV.size,fun k hk=>growV.block k (by have:=hB k hk;omega)⟩ ?_ ?_ ?round ⟨hI _ _ _ h0 (.of_below (by rw [hD];exact growV)),loopV⟩).mono ?_
  ·rintro pre W1 W2 ⟨hi,hl⟩ ho
   refine ⟨hI _ _ _ hi (ho.mono fun k e=>e.elim),?_⟩
   rw [ho.block D (Array.getElem?_eq_some_iff.1 hl).1 (fun e=>e.elim)];exact hl
  ·rintro pre W1 W2 ⟨c,hi,hl⟩ ho
   refine ⟨c,hIx _ _ _ _ hi (ho.mono fun k e=>e.elim),?_⟩
   rw [ho.block D (Array.getElem?_eq_some_iff.1 hl).1 (fun e=>e.elim)];exact hl
  case round=>
   rintro pre x W0 ⟨hi0,hl0⟩ hpx
   have hlt0:D<W0.heap.size:=(Array.getElem?_eq_some_iff.1 hl0).1
   obtain ⟨e1,e2,e3,e4,e5,e6,e7⟩:=isR .ready none
   have hy:=run_yield (P:=P) (args:=encs x) hl0 (by rw [e1];exact hps x)
   rw [e1,e2,e3,e4,e5] at hy
   refine ⟨fn,_,assign,body,hy,roundIn_of_wpIn hfn (hround _ pre x W0 _ hi0 hpx (by omega) (by omega) ?_)⟩
   intro a₁ W hgr hbody
   have hl:W.heap[D]? =some (.loop (R .ready none)):=(hgr.block _ hlt0).trans hl0
   have hi:I pre W:=hI _ _ _ hi0 (.of_below hgr)
   have hk00:KeepX Kp W0 W:=⟨hgr.size,fun k hk=>hgr.block k (by have:=hB k hk;omega)⟩
   refine ⟨_,run_beginRound hl e6,?_⟩
   have hlt:D<W.heap.size:=(Array.getElem?_eq_some_iff.1 hl).1
   obtain ⟨Wb,hWb⟩:∃Wb,Wb=W.putObj D (.loop { R .ready none with state:=.busy }):=⟨_,rfl⟩
   rw [←hWb]
   have hlb:Wb.heap[D]? =some (.loop { R .ready none with state:=.busy }):=by rw [hWb];exact World.putObj_heap_same hlt
   have hob:OffX (TurnN D) W Wb:=by rw [hWb];exact .put _ rfl
   have hsb:W.heap.size≤Wb.heap.size:=hob.size
   have hkx:KeepX Kp W Wb:=⟨hsb,fun k hk=>by
    rw [hWb];exact World.putObj_heap_other (by have:=hB k hk;omega)⟩
   refine wpIn_mono (hbody Wb hob (hI _ _ _ hi hob)) ?_
   have fin:∀(jump:Option Code) (W3:World),KeepX (BodyN Kp D) Wb W3→∃W4,(Instr.endRound D jump).run P W3=.ok (.bool jump.isNone) W4∧OffX (TurnN D) W3 W4∧KeepX Kp W0 W4∧
     W4.heap[D]? =some (.loop (R (if jump.isNone then .ready else .done) jump)):=by
    intro jump W3 hk3
    have hl3:W3.heap[D]? =some (.loop { R .ready none with state:=.busy }):=(hk3.2 _ (.inr rfl)).trans hlb
    have he:=run_endRound (P:=P) jump hl3
    refine ⟨_,he,.put _ rfl,hk00.trans (hkx.trans ((hk3.mono fun k h=>.inl h).trans ⟨(OffX.put (X:=TurnN D) _ rfl).size,fun k hk=>World.putObj_heap_other (by have:=hB k hk;omega)⟩)),?_⟩
    rw [World.putObj_heap_same (Array.getElem?_eq_some_iff.1 hl3).1,hR]
   rintro e a3 W3 hp
   cases e with
   |normal=>
    obtain ⟨hk3,hi3⟩:=hp
    obtain ⟨W4,r1,r2,r3,r4⟩:=fin none W3 hk3
    exact ⟨_,_,r1,.inl ⟨rfl,⟨hI _ _ _ hi3 r2,r4⟩,r3⟩⟩
   |ret=>
    obtain ⟨hk3,hi3⟩:=hp
    obtain ⟨W4,r1,r2,r3,r4⟩:=fin (some .ret) W3 hk3
    exact ⟨_,_,r1,.inr ⟨rfl,.ret,hIx _ _ _ _ hi3 r2,r4⟩⟩
   |exit id=>
    obtain ⟨hk3,hi3⟩:=hp
    obtain ⟨W4,r1,r2,r3,r4⟩:=fin (some (.exit id)) W3 hk3
    exact ⟨_,_,r1,.inr ⟨rfl,.exit id,hIx _ _ _ _ hi3 r2,r4⟩⟩
   |goto t=>
    obtain ⟨hk3,hi3⟩:=hp
    obtain ⟨W4,r1,r2,r3,r4⟩:=fin (some (.goto t)) W3 hk3
    exact ⟨_,_,r1,.inr ⟨rfl,.goto t,hIx _ _ _ _ hi3 r2,r4⟩⟩
   |panic ch=>exact hp.elim
   |outgrown=>exact hp.elim
  ·rintro e W2 ⟨⟨v,rfl⟩,⟨hi,hl⟩|⟨pre,hpp,c,hi,hl⟩⟩
   ·obtain ⟨e1,e2,e3,e4,e5,e6,e7⟩:=isR .ready none
    have he:=run_endLoop (P:=P) hl (by rw [e6];simp)
    rw [e7] at he
    exact ⟨none,_,he,hdone _ (hI _ _ _ hi (.put _ rfl))⟩
   ·obtain ⟨e1,e2,e3,e4,e5,e6,e7⟩:=isR .done (some c)
    have he:=run_endLoop (P:=P) hl (by rw [e6];simp)
    rw [e7] at he
    exact ⟨some c,_,he,hstop c pre _ hpp (hIx _ _ _ _ hi (.put _ rfl))⟩
end Go.Proofs.YtkdomobedfhhgaaGreat
end
section
namespace Go.Proofs.YtkdomobedfhhgaaGreat
open Go Go.Proofs Go.RowKit Go.Shelf Go.Proofs.YtkdomobedfhhgaaGreat.Hp Go.Proofs.YtkdomobedfhhgaaGreat.Ch
def KpB (B:Nat) (ao:Option Addr) (k:Nat):Prop:=k=B∨∃b o,ao=some ⟨b,o,none⟩∧k=b
def bwdP (l:List Int):List (Nat×Int):=(List.range l.length).reverse.map fun i=>(i,l.getD i 0)
theorem bwdP_len (l:List Int):(bwdP l).length=l.length:=by simp [bwdP]
theorem bwdP_get {l:List Int} {j:Nat} (hj:j<l.length):(bwdP l)[j]? =some (l.length-1-j,l.getD (l.length-1-j) 0):=by
 unfold bwdP
 rw [List.getElem?_map,List.getElem?_reverse (by simpa using hj),List.length_range,List.getElem?_range (by omega)]
 rfl
theorem bwdP_at {l:List Int} {pre:List (Nat×Int)} {x:Nat×Int} (h:(pre++[x]) <+:bwdP l):x.1+pre.length+1=l.length∧x.2=l.getD x.1 0:=by
 have hl:=h.length_le
 rw [bwdP_len,List.length_append,List.length_singleton] at hl
 obtain ⟨t,e⟩:=h
 have h1:(bwdP l)[pre.length]? =some x:=by rw [←e,List.getElem?_append_left (by simp),List.getElem?_append_right (Nat.le_refl _)];simp
 rw [bwdP_get (by omega)] at h1
 cases h1
 exact ⟨by simp only;omega,rfl⟩
theorem Backward_any (ao:Option Addr) (n cap:Nat) (w:World):Calls Tryz.prog 128 #[.slice ao n cap] w fun e w'=>e=.returned (.func (.func 166) #[] #[.pointer (some ⟨w.heap.size,0,none⟩)])∧Below w.heap.size w w'∧w'.heap.size=w.heap.size+1∧w'.cell? ⟨w.heap.size,0,none⟩=some (.slice ao n cap):=by
 go_enter Tryz.func128,Tryz.ntmps128
 go_wp2
 go_ret
 exact ⟨rfl,Below.of_al _ _,by simp,by go_simp⟩
set_option maxHeartbeats 4000000 in
set_option maxRecDepth 100000 in
theorem backward_keeps (n:Nat) (hn:1≤n) (ao:Option Addr) (cap B:Nat) (r:List Int) (w:World) (hr:r.length≤1000000) (h0:w.cell? ⟨B,0,none⟩=some (.slice ao r.length cap)) (hc:Cel w ao (r.map encI)):
  SeqK Fence.wide n Tryz.prog 166 #[.pointer (some ⟨B,0,none⟩)] (fun x:Nat×Int=>#[.int .i64 x.1,.int .i64 x.2]) (bwdP r) (KpB B ao) w:=by
 intro l J Jx W hk hJ hJx hY hJ0
 refine callsIn_of_wp Tryz.func166 rfl trivial ?_ rfl
 simp only [Tryz.ntmps166,List.size_toArray,List.length_cons,List.length_nil,Nat.reduceAdd,Nat.reduceSub,Array.replicate_succ,Array.replicate_zero,List.push_toArray,List.append_toArray,List.nil_append,List.cons_append]
 have e0:W.cell? ⟨B,0,none⟩=some (.slice ao r.length cap):=by rw [World.cell?_of_block (w:=w) (hk.2 B (.inl rfl))];exact h0
 have hcW:∀W',KeepX (KpB B ao) W W'→Cel W' ao (r.map encI):=fun W' h i u hu=>by
  obtain ⟨b,o,e,h1⟩:=hc i u hu
  exact ⟨b,o,e,(World.cell?_of_block (w:=w) ((h.2 b (.inr ⟨b,o,e,rfl⟩)).trans (hk.2 b (.inr ⟨b,o,e,rfl⟩)))).trans h1⟩
 have HC:=Lib.hid hcW
 have HY:=Lib.hid hY
 have HBL:=Lib.hid (bwdP_len r)
 have HAT:=Lib.hid (fun pre x=>bwdP_at (l:=r) (pre:=pre) (x:=x))
 generalize bwdP r=parts at*
 clear hY hk h0 hc hcW hJ hJx
 gi_wp2
 gi_loopg [3] r.length (fun gg vi wr=>∃(pre:List (Nat×Int)) (m:Nat),pre <+:parts∧pre.length+m=r.length∧m≤gg∧vi=.int .i64 ((m:Int)-1)∧Aside (KeepX (KpB B ao) W wr)∧Aside (J pre wr))
 case atStart=>exact ⟨[],r.length,List.nil_prefix,by simp,Nat.le_refl _,rfl,⟨Nat.le_refl _,fun _ _=>rfl⟩,hJ0⟩
 case round=>
  clear hJ0
  obtain ⟨pre,m,hpp,hm,hgg,rfl,HK,HJ⟩:=hrel
  have f0:=(World.cell?_of_block (a:=⟨B,0,none⟩) (HK.out.2 B (.inl rfl))).trans e0
  clear e0
  cases m with
  |zero=>
   have hpe:pre=parts:=hpp.eq_of_length (by rw [HBL.out];omega)
   gi_wp2
   go_end0
   exact ⟨⟨_,rfl⟩,.inl (by rw [←hpe];exact HJ.out)⟩
  |succ i=>
   have hx:∃x,(pre++[x]) <+:parts:=by
    have hbl:=HBL.out
    obtain ⟨t,rfl⟩:=hpp
    cases t with
    |nil=>simp at hbl;omega
    |cons a t=>exact ⟨a,t,by simp⟩
   obtain ⟨⟨xi,xv⟩,hpx⟩:=hx
   obtain ⟨h1,h2⟩:=HAT.out pre (xi,xv) hpx
   simp only at h1 h2
   obtain rfl:i=xi:=by omega
   have hir:i<r.length:=by omega
   obtain ⟨g,go,rfl,c1⟩:=(HC.out wr HK.out).at hir
   have hxr:r[i]=xv:=by rw [h2];simp [List.getD,hir]
   rw [hxr] at c1
   obtain ⟨fn,tmps,assign,body,hy,hR⟩:=HY.out pre (i,xv) wr HJ.out hpx
   dsimp only at hy
   have HR:=Lib.hid hR
   clear hR h1 h2 hxr
   have hii:((i+1:Nat):Int)-1=(i:Int):=by omega
   rw [hii]
   have hi0:(0:Int)≤(i:Int):=by omega
   have hil:(i:Int)<(r.length:Int):=by omega
   gi_wp2
   refine HR.out.mono ?_
   rintro e W' (⟨rfl,hJ',hk⟩|⟨rfl,hJx'⟩)
   ·have HJ2:=Lib.hid hJ'
    have HK2:=Lib.hid (HK.out.trans hk)
    clear hJ' hk f0 c1
    gi_wp2
    gi_roundg i
    case rel=>exact ⟨pre++[(i,xv)],i,hpx,by simp;omega,Nat.le_refl _,by go_num,HK2.out,HJ2.out⟩
    case measure=>omega
   ·have HJ2:=Lib.hid hJx'
    clear hJx'
    gi_wp2
    refine bodyPost_ret (results_none rfl _ _ _) rfl ?_
    exact ⟨⟨_,rfl⟩,.inr ⟨pre++[(i,xv)],hpx,HJ2.out⟩⟩
end Go.Proofs.YtkdomobedfhhgaaGreat
end
section
namespace Go.Proofs.YtkdomobedfhhgaaGreat
open Go Go.Proofs Go.RowKit Go.Shelf Go.Proofs.YtkdomobedfhhgaaGreat.Hp Go.Proofs.YtkdomobedfhhgaaGreat.Ch
attribute [local go_sem] Oper.semAt_some
structure SwM (w W:World) (fb B8 hb n:Nat) (back:Bool) (f:List Int):Prop where
 x0:W.cell? ⟨w.heap.size,0,none⟩=some (.pointer (some ⟨hb,0,none⟩))
 x1:W.cell? ⟨w.heap.size,1,none⟩=some (.bool back)
 bx:W.cell? ⟨B8,0,none⟩=some (.slice (some ⟨fb,0,none⟩) n n)
 own:W.ownsRow w.heap.size 34 1 (.slice (some ⟨fb,0,none⟩) n n) n (f.map encW)
 bel:Below w.heap.size w W
 ge:w.heap.size<fb∧fb<B8
section
variable {w W W':World} {fb B8 hb n:Nat} {back:Bool} {f:List Int}
theorem SwM.off {X:Nat→Prop} (h:SwM w W fb B8 hb n back f) (ho:OffX X W W') (hX:∀k,X k→w.heap.size<k∧k≠fb∧k≠B8):SwM w W' fb B8 hb n back f:=
 ⟨ho.cell h.x0 (fun e=>absurd (hX _ e).1 (Nat.lt_irrefl _)),ho.cell h.x1 (fun e=>absurd (hX _ e).1 (Nat.lt_irrefl _)),ho.cell h.bx (fun e=>(hX _ e).2.2 rfl),
  owns_eqb h.own (fun k e=>by cases e;exact ho.block _ (h.own.lt fb rfl).2 (fun e=>(hX _ e).2.1 rfl)),h.bel.trans (ho.below h.bel.size (fun k e=>Nat.le_of_lt (hX k e).1)),h.ge⟩
theorem SwM.go (h:SwM w W fb B8 hb n back f) (hz:Below W.heap.size W W'):SwM w W' fb B8 hb n back f:=h.off (X:=fun _=>False) (.of_below hz) (fun _ h=>h.elim)
theorem SwM.flen (h:SwM w W fb B8 hb n back f):f.length=n:=by have:=h.own.1;simpa using this
theorem SwM.cell (h:SwM w W fb B8 hb n back f) {v:Nat} (hv:v<n):W.cell? ⟨fb,v,none⟩=some (.int .u64 (gD f (v:Int))):=by
 have hl:=h.flen
 have h1:=h.own.cellAt v (by omega)
 rw [h1,List.getElem?_map,List.getElem?_eq_getElem (by omega)]
 unfold gD
 rw [Int.toNat_natCast,List.getD_eq_getElem?_getD,List.getElem?_eq_getElem (by omega)]
 rfl
theorem SwM.set (h:SwM w W fb B8 hb n back f) (v:Nat) (x:Int):SwM w (W.setCell ⟨fb,v,none⟩ (.int .u64 x)) fb B8 hb n back (f.set v x):=by
 have ho:OffX (· =fb) W (W.setCell ⟨fb,v,none⟩ (.int .u64 x)):=.set _ rfl
 have hg:=h.ge
 have h1:=(h.own.stored v (.int .u64 x)).1
 rw [show (f.map encW).set v (.int .u64 x)=(f.set v x).map encW by rw [List.map_set]] at h1
 exact ⟨ho.cell h.x0 (by show ¬w.heap.size=fb;omega),ho.cell h.x1 (by show ¬w.heap.size=fb;omega),ho.cell h.bx (by show ¬B8=fb;omega),h1,h.bel.setCell (by show w.heap.size≤fb;omega) _,h.ge⟩
end
theorem owns_base {w:World} {base base' size n:Nat} {e:TypeId} {v:Value} {xs:List Value} (h:w.ownsRow base e size v n xs) (hb:base'≤base):w.ownsRow base' e size v n xs:=by
 refine ⟨h.1,?_⟩
 rcases h.2 with h2|⟨g,cap,cur,hv,hbg,r⟩
 ·exact .inl h2
 ·exact .inr ⟨g,cap,cur,hv,Nat.le_trans hb hbg,r⟩
def SweepPost (es:List EdgeD) (n:Nat) (back:Bool) (s:Nat) (w:World) (e:Ending) (w':World):Prop:=
 ∃(b:Nat) (f:List Int),e=.returned (.slice (some ⟨b,0,none⟩) n n)∧Cel w' (some ⟨b,0,none⟩) (f.map encW)∧f.length=n∧w.heap.size≤b∧Below w.heap.size w w'∧∀v,nodeN n v→FarV (relB back (arcG es)) (s:Int) v (gD f v)
theorem run_fieldH (a b:Option Addr) (l k m q:Nat) (w:World):(Instr.field 45 (.agg #[.slice a l k,.slice b m q]) 0).run Tryz.prog w=.ok (.slice a l k) w:=by
 kernel_rfl
theorem inv_node {es:List EdgeD} {n:Nat} {R:List Int} {S:List SC} {ro:List Int} (hok:HierOK es n R S ro) {i:Nat} (hi:i<n):∃v:Nat,v<n∧(invL R).getD i 0=(v:Int)∧rk ro (v:Int)=(i:Int):=by
 have hl:=hok.len
 obtain ⟨p,hp,e⟩:=rank_place hok.rank (i:=i) (by omega)
 have h1:=invL_at hok.rank hp
 have h2:=hok.at1 (p:Int) ⟨by omega,by omega⟩
 rw [Int.toNat_natCast,List.getElem?_eq_getElem hp,e] at h2
 rw [e,Int.toNat_natCast] at h1
 exact ⟨p,by omega,by rw [List.getD_eq_getElem?_getD,h1];rfl,(Option.some.inj h2).symm⟩
def SwO (w w5:World) (fb B8 hb n:Nat) (back:Bool) (es:List EdgeD) (ro:List Int) (s:Nat) (pre:List (Nat×Int)) (W:World):Prop:=
 ∃f,SwM w W fb B8 hb n back f∧Swp (relB back (arcG es)) (rk ro) (s:Int) n (n-pre.length) f∧w5.heap.size≤W.heap.size
def SwN (w Wb w6:World) (Kx:Nat→Prop) (fb B8 hb n v Bv:Nat) (back:Bool) (f:List Int) (pre:List Step3) (W:World):Prop:=
 SwM w W fb B8 hb n back (lowsF v f pre)∧W.cell? ⟨Bv,0,none⟩=some (.int .i64 (v:Int))∧KeepX Kx Wb W∧w6.heap.size≤W.heap.size
theorem low_bd {n v:Nat} {f:List Int} {l:List Step3} {B:Int} (hlen:f.length=n) (hv:v<n) (hf:∀u,nodeN n u→0≤gD f u∧gD f u≤B) (hl:∀x∈l,nodeN n x.2.1∧x.2.1≠(v:Int)∧1≤x.2.2):∀u,nodeN n u→0≤gD (lowsF v f l) u∧gD (lowsF v f l) u≤B:=by
 obtain ⟨i1,i2,i3,i4⟩:=lowsF_spec (v:=v) l f (by omega) (fun x hx=>⟨(hl x hx).1.1,(hl x hx).2.1⟩)
 intro u hu
 by_cases e:u=(v:Int)
 ·subst e
  refine ⟨?_,Int.le_trans i2 (hf _ hu).2⟩
  rcases i4 with h|⟨x,hx,h⟩
  ·rw [h];exact (hf _ hu).1
  ·have:=(hf _ (hl x hx).1).1
   have:=(hl x hx).2.2
   omega
 ·rw [i1 u hu.1 e]
  exact hf u hu
theorem SeqK.inRound {α:Type} {F:Fence} {n:Nat} {P:Program} {g:Nat} {lb:Array Value} {encs:α→Array Value} {parts:List α} {Kp:Nat→Prop} {w:World} (l:Nat) (h:SeqK F n P g lb encs parts Kp w):SeqK (F.inRound l) n P g lb encs parts Kp w:=h
set_option maxRecDepth 100000 in
set_option maxHeartbeats 4000000 in
theorem sweep_any (hb n:Nat) (es:List EdgeD) (R:List Int) (S:List SC) (ro:List Int) (back:Bool) (s:Nat) (l:List LB) (ao:Option Addr) (cap:Nat) (w:World) (hh:HierM w hb n es R S (rowsK R S n S.length).1 (rowsK R S n S.length).2) (hok:HierOK es n R S ro) (hn:n≤12) (hs:s<n)
  (hc:Cel w ao (flatB l)) (hsp:Space (relB back (arcG es)) (XN S back) (rk ro) (s:Int) (l.map labOf)) (hl:l.length≤n):
  Calls Tryz.prog 84 #[.pointer (some ⟨hb,0,none⟩),.slice ao l.length cap,.bool back] w (SweepPost es n back s w):=by
 have HH:=Lib.hid hh
 have HOK:=Lib.hid hok
 have HC:=Lib.hid hc
 have HSP:=Lib.hid hsp
 have HL:=Lib.hid (labsOK hok hsp hs hn)
 have HEA:=Lib.hid (fun v w=>each_any hb back true v w)
 have hfd:=run_fieldH
 have hl2:(l.length:Int)≤12:=by omega
 have HNN:=Lib.hid (fun W (hz:Below w.heap.size w W)=>nodes_any hb n es R S _ _ W (hh.go hz))
 have HRP:=Lib.hid (fun bx W (hx:W.cell? ⟨bx,0,none⟩=some (.int .u64 4611686018427387904))=>repeat_any bx 0 1 n 4611686018427387904 W (by omega) hx)
 have HHI:=Lib.hid (fun W (hz:Below w.heap.size w W)=>hierarchy_any hb n es R S _ _ W (hh.go hz) (by omega))
 have HRL:=Lib.hid hok.len
 have HIV:=Lib.hid (fun a q W hc=>rkInverse_any R a q W (by have:=hok.len;omega) hc)
 have HIL:=Lib.hid (show (invL R).length=n by rw [invL_length hok.rank,hok.len])
 unfold CHPost at HHI
 unfold IntsPost at HIV
 unfold SweepPost
 clear hh hok hc hsp
 refine (callsIn_wide (n:=4)).1 (callsIn_of_wp_marks Tryz.func84 rfl trivial (wpIn_wide.2 ?_) rfl)
 simp only [Tryz.ntmps84,List.size_toArray,List.length_cons,List.length_nil,Nat.reduceAdd,Nat.reduceSub,Array.replicate_succ,Array.replicate_zero,List.push_toArray,List.append_toArray,List.nil_append,List.cons_append]
 go_upto_region 3 with (first
  |(go_at_call 76;refine (HNN.out _ ((Below.of_al _ _).al _)).mono ?_;rintro e w1 ⟨rfl,rfl⟩)
  |(go_at_call 90;refine (HRP.out _ _ (by go_simp)).mono ?_;rintro e w3 ⟨rfl,ho3,hb3⟩;(have HO3:=Lib.hid ho3);(have HB3:=Lib.hid hb3);clear ho3 hb3))
 obtain ⟨W4,hW4⟩:∃W4,W4=w3.alloc (Obj.cells #[.slice (some ⟨w.heap.size+1+1,0,none⟩) n n] 41):=⟨_,rfl⟩
 rw [←hW4]
 have hb34:Below w3.heap.size w3 W4:=by rw [hW4];exact Below.of_al _ _
 have hfb:w.heap.size+1+1<w3.heap.size:=by have h9:=(HO3.out.lt _ rfl).2;simpa using h9
 have hM0:SwM w W4 (w.heap.size+1+1) w3.heap.size hb n back (List.replicate n FAR):=by
  refine ⟨cell_later hb34 (cell_later HB3.out (by go_simp)),cell_later hb34 (cell_later HB3.out (by go_simp)),by rw [hW4];go_simp,?_,(((Below.of_al _ _).al _).st HB3.out).st hb34,by omega,hfb⟩
  have h9:=hp_owns_go HO3.out hb34
  simp only [World.size_alloc] at h9
  exact owns_base h9 (by omega)
 have HM0:=Lib.hid hM0
 have HB4:=Lib.hid hM0.bel
 clear HO3 HB3 hb34 hM0 hW4 HRP HNN
 generalize hfbe:w.heap.size+1+1=fb at*
 generalize w3.heap.size=B8 at*
 clear hfbe
 go_wp2
 go_loopg [24] l.length (fun gg v24 wr=>∃k:Nat,k≤l.length∧l.length-k≤gg∧v24=.int .i64 k∧Aside (SwM w wr fb B8 hb n back (layF (List.replicate n FAR) (l.take k))))
 case atStart=>exact ⟨0,Nat.zero_le _,by omega,rfl,by rw [List.take_zero];exact HM0.out⟩
 case round=>
  obtain ⟨k,hk,hgg,rfl,HM⟩:=hrel
  by_cases hlt:k<l.length
  ·have hlt3:(k:Int)<(l.length:Int):=by omega
   have hk0:(0:Int)≤(k:Int):=by omega
   obtain ⟨lb,lo,rfl,y0,y1,y2⟩:=(HC.out.go HM.out.bel).lab hlt
   obtain ⟨⟨i0,i1⟩,i2,i3⟩:=HL.out l[k] (List.getElem_mem hlt)
   have HTK:=Lib.hid (show layF (List.replicate n FAR) (l.take (k+1))=(layF (List.replicate n FAR) (l.take k)).set l[k].v.toNat l[k].d by rw [List.take_succ_eq_append_getElem hlt,layF_snoc])
   generalize l[k]=a at*
   obtain ⟨av,ad,ab⟩:=a
   simp only at y0 y1 y2 i0 i1 i2 i3 HTK
   obtain ⟨v,rfl⟩:∃v:Nat,av=v:=⟨av.toNat,by omega⟩
   rw [Int.toNat_natCast] at HTK
   have hv:v<n:=by omega
   generalize layF (List.replicate n FAR) (l.take k)=f at*
   go_upto_region 6 with (fail)
   obtain ⟨wa,hwa⟩:∃wa,wa=wr.alloc (Obj.cells #[.int .i64 (v:Int),.int .u64 ad,.int .i64 ab] 64):=⟨_,rfl⟩
   rw [←hwa]
   have HMA:=Lib.hid (show SwM w wa fb B8 hb n back f by rw [hwa];exact HM.out.go (Below.of_al _ _))
   have e0:wa.cell? ⟨wr.heap.size,0,none⟩=some (.int .i64 (v:Int)):=by rw [hwa];go_simp
   have e1:wa.cell? ⟨wr.heap.size,1,none⟩=some (.int .u64 ad):=by rw [hwa];go_simp
   have e2:=HMA.out.bx
   have e3:=HMA.out.cell hv
   have e4:=HMA.out.own.frozenAt v
   clear y0 y1 y2 hwa
   have hv3:(v:Int)<(n:Int):=by omega
   go_wp2
   have HM2:=Lib.hid (HMA.out.set v ad)
   go_roundg (l.length-(k+1))
   case measure=>omega
   case rel=>exact ⟨k+1,by omega,Nat.le_refl _,by go_num,by rw [HTK.out];exact HM2.out⟩
  ·obtain rfl:k=l.length:=by omega
   have HM1:=Lib.hid (show SwM w wr fb B8 hb n back (layF (List.replicate n FAR) l) by have h9:=HM.out;rwa [List.take_length] at h9)
   have HS0:=Lib.hid (Swp.start HOK.out hn hs HSP.out)
   clear HM HC HL hk hgg hlt HM0 HB4
   generalize layF (List.replicate n FAR) l=f0 at*
   go_upto_region 9 with (first
    |(go_at_call 21;refine (HHI.out _ HM1.out.bel).mono ?_;rintro e w1 ⟨a1,q1,b1,q2,rfl,h1,h2,hb1,hf1,hf2⟩;(have HR1:=Lib.hid h1);(have HB1:=Lib.hid hb1);clear h1 h2 hb1 hf1 hf2)
    |(go_at_call 116;refine (HIV.out _ _ _ HR1.out).mono ?_;rintro e w2 ⟨ra,rc,rfl,h1,h2,h3⟩;(have HI2:=Lib.hid h1);(have HB2:=Lib.hid (HB1.out.st h2));(have HF2:=Lib.hid h3);clear h1 h2 h3)
    |(go_at_call 128;refine (Backward_any _ _ _ _).mono ?_;rintro e w5 ⟨rfl,hb5,hz5,k5⟩;(have HI5:=Lib.hid (HI2.out.go hb5));(have HB5:=Lib.hid (HB2.out.st hb5));(have HZ5:=Lib.hid hz5);(have K5:=Lib.hid k5);clear hb5 hz5 k5))
   have hB8:B8<wr.heap.size:=World.block_lt_of_cell? _ _ HM1.out.bx
   have hkB:∀k,KpB w2.heap.size ra k→k<w5.heap.size∧B8<k:=by
    have h9:=HB1.out.size
    have h8:=HB2.out.size
    have h7:=HZ5.out
    rintro k (e|⟨b,o,e,e2⟩)
    ·omega
    ·obtain ⟨b',o',e',c5⟩:=HI5.out.at (i:=0) (by rw [HIL.out];omega)
     have h6:=HF2.out k (by rw [e,e2];rfl)
     rw [e] at e'
     cases e'
     have h5:=World.block_lt_of_cell? _ _ c5
     simp only at h5
     omega
   have HKB:=Lib.hid hkB
   have HSEQ:=Lib.hid (backward_keeps 3 (by decide) ra rc w2.heap.size (invL R) w5 (by rw [HIL.out];omega) K5.out HI5.out)
   have HIN:=Lib.hid (fun i hi=>inv_node HOK.out (i:=i) hi)
   have HM5:=Lib.hid (HM1.out.go HB5.out)
   have hB85:B8<w5.heap.size:=by have:=HB5.out.size;omega
   have hge:=HM1.out.ge
   clear HHI HIV HR1 HB1 HI2 HB2 HF2 HI5 HB5 K5 hkB HM1 hB8
   rw [HIL.out]
   refine (wpIn_wide (n:=4)).1 (wpIn_rangeKR rfl (by decide) (gf:=166) rfl trivial (enters_of Tryz.func166 (by kernel_rfl) rfl) HSEQ.out (fun k hk=>(HKB.out k hk).1) (fun _=>rfl) (SwO w w5 fb B8 hb n back es ro s) (fun _ _ _=>False) ?hI (fun _ _ _ _ h _=>h) ?h0 ?round ?done ?stop)
   case stop=>rintro D c pre W hD0 hpp hf;exact hf.elim
   case hI=>
    rintro pre W W' ⟨f,h1,h2,h3⟩ ho
    exact ⟨f,h1.off ho (fun k e=>by unfold TurnK at e;omega),h2,Nat.le_trans h3 ho.size⟩
   case h0=>exact ⟨f0,HM5.out,HS0.out,Nat.le_refl _⟩
   case done=>
    rintro D W hD0 ⟨f,h1,h2,h3⟩ hK
    rw [bwdP_len,HIL.out,Nat.sub_self] at h2
    have HM9:=Lib.hid h1
    have HS9:=Lib.hid h2
    have b9:=h1.bx
    have HK9:=Lib.hid hK
    clear h1 h2 h3 hK
    go_wp2
    refine leavesK_end (a:=_) rfl HK9.out (fun W9 ho=>⟨.slice (some ⟨fb,0,none⟩) n n,?_,?_⟩)
    ·simp [results,Tryz.results84,go_sem]
     try rfl
    ·have h9:=HM9.out.off ho (fun k e=>by omega)
     obtain ⟨ao9,cap9,e9,hc9⟩:=Cel.of_owns h9.own
     cases e9
     exact ⟨fb,f,rfl,hc9,h9.flen,by omega,h9.bel,fun v hv=>HS9.out.far (HOK.out.hierB back).pos hn (fun v=>by unfold rk;omega) hv⟩
   case round=>
    rintro l' pre ⟨xi,xv⟩ W0 K hI hpx hl1 hl2 hsz hK
    obtain ⟨hx1,hx2⟩:=bwdP_at hpx
    simp only [HIL.out] at hx1 hx2
    obtain ⟨v,hv,hvr,hvk⟩:=HIN.out xi (by omega)
    rw [hvr] at hx2
    subst hx2
    gi_wp2
    refine hK _ _ (Below.of_al _ _) (fun Wb ho hi hrec=>?_)
    obtain ⟨f,hM,hS,hsz2⟩:=hi
    have cv:=ho.cell (p:=⟨W0.heap.size,0,none⟩) (v:=.int .i64 (v:Int)) (by go_simp) (fun e=>by unfold TurnK at e;simp only at e;omega)
    have hbv:W0.heap.size<Wb.heap.size:=World.block_lt_of_cell? _ _ cv
    have cx0:=hM.x0
    have cx1:=hM.x1
    have HM6:=Lib.hid hM
    have HS6:=Lib.hid hS
    clear hM hS hK hI ho
    gi_wp2_with (refine ⟨trivial,?_⟩;gi_at_call 124;refine (CallsIn.inRound l' (callsIn_wide.2 (HEA.out _ _))).mono ?_;rintro e w6 ⟨rfl,hb6,hz6,b0,b1,b2,b3⟩)
    obtain ⟨rl,hrl⟩:=hrec
    have hl6:w6.heap[l']? =some (.loop rl):=(hb6.block l' (Array.getElem?_eq_some_iff.1 hrl).1).trans hrl
    have hMl:=HM6.out.bel
    have hMz:=hMl.size
    have hkB6:∀j,KpU w.heap.size Wb.heap.size j→j<w6.heap.size:=by
     rintro j (h|h)<;>omega
    have HSQ6:=Lib.hid (SeqK.inRound l' (each_gives 1 (by decide) hb n es R S (rowsK R S n S.length).1 (rowsK R S n S.length).2 back true v Wb.heap.size w w6 HH.out (fun k hk=>(hMl.st hb6).block k hk) hkB6 hv (row_in HOK.out _ hv) (fun x hx=>⟨(HOK.out.ends x hx).1,(HOK.out.ends x hx).2.1⟩) b0 b1 b2 b3))
    have HTO:=Lib.hid (steps_dn HOK.out hn back hv)
    have HKx:∀k,BodyK (KpB w2.heap.size ra) w5.heap.size k→k<W0.heap.size∧k≠fb:=by
     rintro k (h|h|h)
     ·have:=HKB.out k h;omega
     ·omega
     ·omega
    have HI6:=Lib.hid (show SwN w Wb w6 (BodyK (KpB w2.heap.size ra) w5.heap.size) fb B8 hb n v W0.heap.size back f [] w6 from ⟨HM6.out.go hb6,cell_later hb6 cv,⟨hb6.size,fun k hk=>hb6.block k (by have:=(HKx k hk).1;omega)⟩,Nat.le_refl _⟩)
    have HST:=Lib.hid (fun (h:n-pre.length=xi+1)=>Swp.step HOK.out hn hv hvk (show Swp (relB back (arcG es)) (rk ro) (s:Int) n (xi+1) f by rw [←h];exact HS6.out))
    have HBD:=Lib.hid (fun (pre2:List Step3) (hp:pre2 <+:stepsB R S n v (back != true))=>low_bd (n:=n) (v:=v) (f:=f) (l:=pre2) (B:=4611686018427387904) HM6.out.flen hv (fun u hu=>HS6.out.bd (HOK.out.hierB back).pos hn hu) (fun x hx=>by
     obtain ⟨_,k1,k2,k3,_⟩:=HTO.out x (hp.subset hx)
     exact ⟨k2,k1,k3⟩))
    have HB6:=Lib.hid hb6
    have hs6:=hb6.size
    clear b0 b1 b2 b3 hb6 hrl cv cx0 cx1 HM6 HS6 hMl
    refine wpIn_rangeKM (F:=Fence.wide.inRound l') (l₀:=l') (r₀:=rl) rfl hl6 (by decide) (gf:=161) rfl trivial (enters_of Tryz.func161 (by kernel_rfl) rfl) HSQ6.out hkB6 (fun _=>rfl) (SwN w Wb w6 (BodyK (KpB w2.heap.size ra) w5.heap.size) fb B8 hb n v W0.heap.size back f) (fun _ _ _=>False) ?hI2 (fun _ _ _ _ h _=>h) HI6.out ?round2 ?done2 ?stop2
    case stop2=>rintro c pre W hpp hf;exact hf.elim
    case hI2=>
     rintro pre2 W W' ⟨h1,h2,h3,h4⟩ ho
     refine ⟨h1.off ho (fun k e=>by unfold TurnN at e;omega),ho.cell h2 (by intro e;unfold TurnN at e;simp only at e;omega),⟨Nat.le_trans h3.1 ho.size,fun k hk=>?_⟩,Nat.le_trans h4 ho.size⟩
     have h9:=(HKx k hk).1
     exact (ho.block k (by omega) (by intro e;unfold TurnN at e;omega)).trans (h3.2 k hk)
    case done2=>
     rintro W ⟨h1,h2,h3,h4⟩
     have H1:=Lib.hid h1
     have H3:=Lib.hid h3
     clear h1 h2 h3
     gi_wp2
     exact ⟨H3.out,_,H1.out,by rw [List.length_append,List.length_singleton,show n-(pre.length+1)=xi by omega];exact HST.out (by omega),by omega⟩
    case round2=>
     rintro l2 pre2 ⟨xi2,xt,xw⟩ W1 K2 hI2 hpx2 hl2e hsz2' hK2
     obtain ⟨t1,t2,⟨t3,t4⟩,t5,t6⟩:=HTO.out (xi2,xt,xw) (hpx2.subset (by simp))
     simp only at t2 t3 t4 t5 t6
     obtain ⟨t,rfl⟩:∃t:Nat,xt=t:=⟨xt.toNat,by omega⟩
     clear t1
     dsimp only [encT]
     gi_wp2
     refine hK2 _ _ (Below.of_al _ _) (fun Wc ho2 hi2=>?_)
     obtain ⟨hM,c8,hKX,hs4⟩:=hi2
     have hDz:w6.heap.size≠W1.heap.size:=by omega
     have y1:=ho2.cell (p:=⟨W1.heap.size,1,none⟩) (v:=.int .i64 (t:Int)) (by go_simp) (fun e=>hDz (by unfold TurnN at e;exact e.symm))
     have y2:=ho2.cell (p:=⟨W1.heap.size,2,none⟩) (v:=.int .u64 xw) (by go_simp) (fun e=>hDz (by unfold TurnN at e;exact e.symm))
     have htn:t<n:=by omega
     have hWc:W1.heap.size+1≤Wc.heap.size:=by have h9:=ho2.size;rwa [World.size_alloc] at h9
     have hpp2:pre2 <+:stepsB R S n v (back != true):=(List.prefix_append pre2 [(xi2,(t:Int),xw)]).trans hpx2
     obtain ⟨bx0,bx1⟩:=HBD.out pre2 hpp2 (v:Int) ⟨by omega,by omega⟩
     obtain ⟨by0,by1⟩:=HBD.out pre2 hpp2 (t:Int) ⟨by omega,by omega⟩
     have HSN:=Lib.hid (show lowsF v f (pre2++[(xi2,(t:Int),xw)])=(lowsF v f pre2).set v (min (gD (lowsF v f pre2) (v:Int)) (gD (lowsF v f pre2) (t:Int)+xw)) from lowsF_snoc v f pre2 _)
     have cb:=hM.bx
     have cx:=hM.cell hv
     have cy:=hM.cell htn
     have zf:=hM.own.frozenAt v
     have HMC:=Lib.hid hM
     have HKC:=Lib.hid hKX
     have hv3:(v:Int)<(n:Int):=by omega
     have hv0:(0:Int)≤(v:Int):=by omega
     generalize gD (lowsF v f pre2) (v:Int)=x at*
     generalize gD (lowsF v f pre2) (t:Int)=y at*
     generalize lowsF v f pre2=f2 at*
     clear hM hKX hI2 hK2 hpx2 hpp2 ho2
     gi_wp2
     rename_i K3 Q3 hK3
     have hwr:IntKind.u64.wrap (y+xw)=y+xw:=by rw [IntKind.wrap_u64];omega
     refine wpIn_region_act_st 16 _ [.slice (some ⟨fb,0,none⟩) n n,.int .i64 (v:Int),.slice (some ⟨fb,0,none⟩) n n,.int .i64 (v:Int),.pointer (some ⟨fb,v,none⟩),.int .u64 x,.slice (some ⟨fb,0,none⟩) n n,.pointer (some ⟨W1.heap.size,1,none⟩),.int .i64 (t:Int),.pointer (some ⟨fb,t,none⟩),.int .u64 y,.pointer (some ⟨W1.heap.size,2,none⟩),.int .u64 xw,.int .u64 (y+xw),.int .u64 (min x (y+xw)),.pointer (some ⟨fb,v,none⟩)] rfl rfl (by kernel_rfl) (by kernel_rfl) (by kernel_rfl) (by kernel_rfl) ?_ ?_
     ·refine ⟨?_,?_,?_,?_,?_,?_,?_,?_,?_,?_,?_,?_,?_,?_,?_,?_,trivial⟩
      ·intro act w' hbe hd ho K hK
       have g8:act.tmps.getD 8 undef=.pointer (some ⟨B8,0,none⟩):=ho 8 (by kernel_rfl)
       have f0:=cell_later hbe cb
       simp [Oper.wp,execOp,Oper.upon,go_sem,Act.eval,g8,f0]
       exact hK w' (Below.refl _ _)
      ·intro act w' hbe hd ho K hK
       have g12:act.tmps.getD 12 undef=.pointer (some ⟨W0.heap.size,0,none⟩):=ho 12 (by kernel_rfl)
       have f0:=cell_later hbe c8
       simp [Oper.wp,execOp,Oper.upon,go_sem,Act.eval,g12,f0]
       exact hK w' (Below.refl _ _)
      ·intro act w' hbe hd ho K hK
       have g8:act.tmps.getD 8 undef=.pointer (some ⟨B8,0,none⟩):=ho 8 (by kernel_rfl)
       have f0:=cell_later hbe cb
       simp [Oper.wp,execOp,Oper.upon,go_sem,Act.eval,g8,f0]
       exact hK w' (Below.refl _ _)
      ·intro act w' hbe hd ho K hK
       have g12:act.tmps.getD 12 undef=.pointer (some ⟨W0.heap.size,0,none⟩):=ho 12 (by kernel_rfl)
       have f0:=cell_later hbe c8
       simp [Oper.wp,execOp,Oper.upon,go_sem,Act.eval,g12,f0]
       exact hK w' (Below.refl _ _)
      ·intro act w' hbe hd ho K hK
       have e2:act.tmps.getD 49 undef=.slice (some ⟨fb,0,none⟩) n n:=hd 2 (by rfl)
       have e3:act.tmps.getD 50 undef=.int .i64 (v:Int):=hd 3 (by rfl)
       simp [Oper.wp,execOp,Oper.upon,go_sem,Act.eval,e2,e3,hv]
       exact hK w' (Below.refl _ _)
      ·intro act w' hbe hd ho K hK
       have e4:act.tmps.getD 51 undef=.pointer (some ⟨fb,v,none⟩):=hd 4 (by rfl)
       have f0:=cell_later hbe cx
       simp [Oper.wp,execOp,Oper.upon,go_sem,Act.eval,e4,f0]
       exact hK w' (Below.refl _ _)
      ·intro act w' hbe hd ho K hK
       have g8:act.tmps.getD 8 undef=.pointer (some ⟨B8,0,none⟩):=ho 8 (by kernel_rfl)
       have f0:=cell_later hbe cb
       simp [Oper.wp,execOp,Oper.upon,go_sem,Act.eval,g8,f0]
       exact hK w' (Below.refl _ _)
      ·intro act w' hbe hd ho K hK
       have g14:act.tmps.getD 14 undef=.pointer (some ⟨W1.heap.size,0,none⟩):=ho 14 (by kernel_rfl)
       simp [Oper.wp,execOp,Oper.upon,go_sem,Act.eval,g14]
       exact hK w' (Below.refl _ _)
      ·intro act w' hbe hd ho K hK
       have e7:act.tmps.getD 54 undef=.pointer (some ⟨W1.heap.size,1,none⟩):=hd 7 (by rfl)
       have f0:=cell_later hbe y1
       simp [Oper.wp,execOp,Oper.upon,go_sem,Act.eval,e7,f0]
       exact hK w' (Below.refl _ _)
      ·intro act w' hbe hd ho K hK
       have e6:act.tmps.getD 53 undef=.slice (some ⟨fb,0,none⟩) n n:=hd 6 (by rfl)
       have e8:act.tmps.getD 55 undef=.int .i64 (t:Int):=hd 8 (by rfl)
       simp [Oper.wp,execOp,Oper.upon,go_sem,Act.eval,e6,e8,htn]
       exact hK w' (Below.refl _ _)
      ·intro act w' hbe hd ho K hK
       have e9:act.tmps.getD 56 undef=.pointer (some ⟨fb,t,none⟩):=hd 9 (by rfl)
       have f0:=cell_later hbe cy
       simp [Oper.wp,execOp,Oper.upon,go_sem,Act.eval,e9,f0]
       exact hK w' (Below.refl _ _)
      ·intro act w' hbe hd ho K hK
       have g14:act.tmps.getD 14 undef=.pointer (some ⟨W1.heap.size,0,none⟩):=ho 14 (by kernel_rfl)
       simp [Oper.wp,execOp,Oper.upon,go_sem,Act.eval,g14]
       exact hK w' (Below.refl _ _)
      ·intro act w' hbe hd ho K hK
       have e11:act.tmps.getD 58 undef=.pointer (some ⟨W1.heap.size,2,none⟩):=hd 11 (by rfl)
       have f0:=cell_later hbe y2
       simp [Oper.wp,execOp,Oper.upon,go_sem,Act.eval,e11,f0]
       exact hK w' (Below.refl _ _)
      ·intro act w' hbe hd ho K hK
       have e10:act.tmps.getD 57 undef=.int .u64 y:=hd 10 (by rfl)
       have e12:act.tmps.getD 59 undef=.int .u64 xw:=hd 12 (by rfl)
       simp [Oper.wp,execOp,Oper.upon,go_sem,Act.eval,e10,e12,hwr]
       exact hK w' (Below.refl _ _)
      ·intro act w' hbe hd ho K hK
       have e5:act.tmps.getD 52 undef=.int .u64 x:=hd 5 (by rfl)
       have e13:act.tmps.getD 60 undef=.int .u64 (y+xw):=hd 13 (by rfl)
       simp [Oper.wp,execOp,Oper.upon,go_sem,Act.eval,e5,e13]
       exact hK w' (Below.refl _ _)
      ·intro act w' hbe hd ho K hK
       have e0:act.tmps.getD 47 undef=.slice (some ⟨fb,0,none⟩) n n:=hd 0 (by rfl)
       have e1:act.tmps.getD 48 undef=.int .i64 (v:Int):=hd 1 (by rfl)
       simp [Oper.wp,execOp,Oper.upon,go_sem,Act.eval,e0,e1,hv]
       exact hK w' (Below.refl _ _)
     ·intro act w7 hb7 hd _
      have e14:act.tmps.getD 61 undef=.int .u64 (min x (y+xw)):=hd 14 (by omega)
      have e15:act.tmps.getD 62 undef=.pointer (some ⟨fb,v,none⟩):=hd 15 (by omega)
      have f0:=cell_later hb7 cx
      have z0:=(hb7.frozen (p:=⟨fb,v,none⟩) (World.block_lt_of_cell? _ _ cx)).trans zf
      simp [Oper.wp,execOp,Oper.upon,go_sem,Act.eval,e14,e15,f0,z0]
      have hlW:W0.heap.size<Wc.heap.size:=World.block_lt_of_cell? _ _ c8
      have hb9:∀k,k≠fb→k<Wc.heap.size→(w7.setCell ⟨fb,v,none⟩ (.int .u64 (min x (y+xw)))).heap[k]? =Wc.heap[k]?:=fun k hk hl=>(Below.heap_setCell _ _ _ _ hk).trans (hb7.block k hl)
      have hz9:Wc.heap.size≤(w7.setCell ⟨fb,v,none⟩ (.int .u64 (min x (y+xw)))).heap.size:=by simpa [World.setCell] using hb7.size
      refine ⟨⟨hz9,fun k hk=>hb9 k ?_ ?_⟩,(show SwM w _ fb B8 hb n back (lowsF v f (pre2++[(xi2,(t:Int),xw)])) by rw [HSN.out];exact (HMC.out.go hb7).set v _),(World.cell?_of_block (a:=⟨W0.heap.size,0,none⟩) (hb9 _ (by show W0.heap.size≠fb;omega) hlW)).trans c8,HKC.out.trans ⟨hz9,fun k hk=>hb9 k (HKx k hk).2 (by have:=(HKx k hk).1;omega)⟩,by omega⟩
      ·rcases hk with (h|h)|h
       ·omega
       ·omega
       ·omega
      ·rcases hk with (h|h)|h
       ·have:=HMC.out.bel.size;omega
       ·omega
       ·omega
end Go.Proofs.YtkdomobedfhhgaaGreat
end
