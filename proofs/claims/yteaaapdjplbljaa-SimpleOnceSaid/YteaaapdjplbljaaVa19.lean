/- A range over a function whose iterator works with blocks of its own and gives blocks away with what it tells; the body keeps blocks that it made, or was given, which the iterator then leaves: what is asked of the iterator, and the law of the statement. -/
import Derived.Test.YteaaapdjplbljaaVa17
set_option linter.unusedVariables false
set_option linter.unusedSimpArgs false
set_option linter.unnecessarySimpa false
namespace Go.Proofs.Yteaaapdjplbljaa
open Go Go.Proofs Go.RowKit
def GrowE (Pr Pr' bk:Nat→Prop) (z z':Nat):Prop:=∀k,Pr' k→(Pr k∨bk k∨z≤k)∧k<z'
theorem GrowE.mono {Pr Pr' bk:Nat→Prop} {z z' z2:Nat} (h:GrowE Pr Pr' bk z z') (hz:z'≤z2):GrowE Pr Pr' bk z z2:=fun k hk=>⟨(h k hk).1,Nat.lt_of_lt_of_le (h k hk).2 hz⟩
def SeqE {α:Type} (F:Fence) (n:Nat) (P:Program) (g:Nat) (lb:Array Value) (encs:α→Array Value) (bk:α→Nat→Prop) (Ok Done:List α→Prop) (At:α→World→Prop) (Kp:Nat→Prop) (w:World):Prop:=
 ∀(l:Nat) (J Jx:List α→(Nat→Prop)→World→Prop) (W:World),KeepX Kp w W→(∀pre Pr W1 W2,J pre Pr W1→OffX (fun k=>¬Pr k) W1 W2→J pre Pr W2)→(∀pre Pr W1 W2,Jx pre Pr W1→OffX (fun k=>¬Pr k) W1 W2→Jx pre Pr W2)→
  (∀pre Pr x W1,J pre Pr W1→Ok (pre++[x])→At x W1→(∀k,bk x k→¬Pr k∧W.heap.size≤k∧k<W1.heap.size)→W.heap.size≤W1.heap.size→YieldAt F (n-1) P l (encs x) W1 fun e W'=>
   ∃Pr',GrowE Pr Pr' (bk x) W1.heap.size W'.heap.size∧OffX (fun k=>Pr k∧¬Kp k) W1 W'∧((e=.returned (.bool true)∧J (pre++[x]) Pr' W')∨(e=.returned (.bool false)∧Jx (pre++[x]) Pr' W')))→
  J [] (fun k=>k<W.heap.size) W→
  CallsIn F n P g (#[.func (.yield l) #[] #[]]++lb) W fun e W'=>(∃v,e=.returned v)∧∃Pr,(∃parts,Done parts∧J parts Pr W')∨∃pre,Ok pre∧Jx pre Pr W'
def TurnE (D:Nat) (Pr:Nat→Prop) (k:Nat):Prop:=k=D+1∨¬Pr k
def BodyE (Kp Pr:Nat→Prop) (D z k:Nat):Prop:=(Pr k∨z≤k)∧¬Kp k∧k≠D∧k≠D+1
def leftE {α:Type} (Kp Pr bx:Nat→Prop) (D z:Nat) (I:List α→(Nat→Prop)→World→Prop) (xs:List α) (W W':World):Prop:=
 ∃Pr',GrowE Pr Pr' bx z W'.heap.size∧Pr' D∧Pr' (D+1)∧OffX (BodyE Kp Pr D z) W W'∧I xs Pr' W'
def postE {α:Type} (Kp Pr bx:Nat→Prop) (D z:Nat) (I:List α→(Nat→Prop)→World→Prop) (Ix:Code→List α→(Nat→Prop)→World→Prop) (xs:List α) (W:World):Exit→Act→World→Prop
 | .normal,_,W'=>leftE Kp Pr bx D z I xs W W'
 | .ret,_,W'=>leftE Kp Pr bx D z (Ix .ret) xs W W'
 | .exit id,_,W'=>leftE Kp Pr bx D z (Ix (.exit id)) xs W W'
 | .goto t,_,W'=>leftE Kp Pr bx D z (Ix (.goto t)) xs W W'
 | .panic _,_,_=>False
 | .outgrown,_,_=>False
variable {F:Fence} {n:Nat} {P:Program}
theorem wpIn_rangeE {α:Type} {g:Operand} {ps:Array Tmp} {assign body:Code} {Q:Exit→Act→World→Prop} {a:Act} {w:World}
  (hro:F.round=none) (h1:1≤n) {gf:Nat} {lb:Array Value} (hg:a.eval g=.func (.func gf) #[] lb) (hFg:F.fn gf) (eg:∀args w,(callFunc gf args).run P w=.ok (.enter gf args) w)
  {encs:α→Array Value} {bk:α→Nat→Prop} {Ok Done:List α→Prop} {At:α→World→Prop} {Kp:Nat→Prop} (hseq:SeqE F (n-1) P gf lb encs bk Ok Done At Kp w) (hB:∀k,Kp k→k<w.heap.size) (hps:∀x,(encs x).size=ps.size)
  (I:List α→(Nat→Prop)→World→Prop) (Ix:Code→List α→(Nat→Prop)→World→Prop)
  (hI:∀pre Pr W W',I pre Pr W→OffX (TurnE w.heap.size Pr) W W'→I pre Pr W') (hIx:∀c pre Pr W W',Ix c pre Pr W→OffX (TurnE w.heap.size Pr) W W'→Ix c pre Pr W') (h0:I [] (fun k=>k<w.heap.size+2) w) (a₁:α→World→Act) (W₁:α→World→World) (hW₁:∀x W,Below W.heap.size W (W₁ x W))
  (hassign:∀(l:Nat) (x:α) (W:World) (K:Act→World→Prop),K (a₁ x W) (W₁ x W)→
   assign.wpIn (F.inRound l) (n-1-1) P (Exit.then K (fun _ _ _=>False)) { tmps:=(ps.zip (encs x)).foldl (fun t (p,v)=>t.setIfInBounds p v) a.tmps,defers:=[] } W)
  (hbody:∀(l:Nat) (pre:List α) (Pr:Nat→Prop) (x:α) (W0 W:World),I pre Pr W→Ok (pre++[x])→At x W0→(∀k,bk x k→¬Pr k∧w.heap.size+2≤k∧k<W0.heap.size)→w.heap.size+2≤W0.heap.size→OffX (fun k=>k=w.heap.size+1) (W₁ x W0) W→Pr w.heap.size→Pr (w.heap.size+1)→
   body.wpIn (F.inRound l) (n-1-1) P (postE Kp Pr (bk x) w.heap.size W0.heap.size I Ix (pre++[x]) W) (a₁ x W0) W)
  (hdone:∀(D:Nat) (parts:List α) (Pr:Nat→Prop) (W:World),D=w.heap.size→Done parts→I parts Pr W→W.heap[D]? =some (.deferred (some []))→Q .normal { a with defers:={ target:=.collected D,args:=#[] }::a.defers } W)
  (hstop:∀(D:Nat) (c:Code) (pre:List α) (Pr:Nat→Prop) (W:World),D=w.heap.size→Ok pre→Ix c pre Pr W→W.heap[D]? =some (.deferred (some []))→c.wpIn F n P Q { a with defers:={ target:=.collected D,args:=#[] }::a.defers } W):
  (Code.rangeFunc g ps assign body).wpIn F n P Q a w:=by
 refine wpIn_rangeFunc fun fn hfn=>?_
 rw [hro]
 obtain ⟨R,hR⟩:∃R:LoopState→Option Code→Loop,R=fun st pe=>{ state:=st,pending:=pe,fn,tmps:=a.tmps,params:=ps,assign,body,defers:=w.heap.size }:=⟨_,rfl⟩
 obtain ⟨D,hD⟩:∃D,w.heap.size=D:=⟨_,rfl⟩
 obtain ⟨V,hV⟩:∃V,V=(w.alloc (.deferred (some []))).alloc (.loop (R .ready none)):=⟨_,rfl⟩
 have loopV:V.heap[D+1]? =some (.loop (R .ready none)):=by
  have:=World.alloc_heap_new (w.alloc (.deferred (some []))) (.loop (R .ready none))
  rw [World.size_alloc,hD] at this
  rw [hV];exact this
 have markV:V.heap[D]? =some (.deferred (some [])):=by
  have:=World.alloc_heap_new w (.deferred (some []))
  rw [hD] at this
  rw [hV,Below.heap_alloc _ _ _ (by rw [World.size_alloc];omega)]
  exact this
 have growV:Below w.heap.size w V:=by rw [hV];exact ((Below.refl _ w).alloc (Nat.le_refl _) _).alloc (by simp) _
 have sizeV:V.heap.size=D+2:=by rw [hV];simp;omega
 have isR:∀st pe,(R st pe).params=ps∧(R st pe).tmps=a.tmps∧(R st pe).fn=fn∧(R st pe).assign=assign∧(R st pe).body=body∧(R st pe).state=st∧(R st pe).pending=pe:=fun st pe=>by rw [hR];exact ⟨rfl,rfl,rfl,rfl,rfl,rfl,rfl⟩
 refine ⟨D+1,[{ target:=.collected D,args:=#[] }],V,{ target:=.fn (.func gf) lb,args:=#[.func (.yield (D+1)) #[] #[]] },V,gf,#[.func (.yield (D+1)) #[] #[]]++lb,V,?_,?_,?_,?_,fun _=>h1,?_⟩
 ·have:=run_enterLoop_outer (P:=P) (w:=w) fn a.tmps ps assign body
  rw [this,hV,hR,hD]
 ·simp only [resolve,hg]
  simp [go_sem]
 ·intro f' hf'
  simp [Target.leads] at hf'
  subst hf'
  exact hFg
 ·simp [invoke,go_sem,eg]
 ·rw [hD] at hI hIx hbody hdone hstop hB growV h0
  refine (hseq (D+1) (fun pre Pr W=>I pre Pr W∧W.heap[D+1]? =some (.loop (R .ready none))∧W.heap[D]? =some (.deferred (some []))∧Pr D∧Pr (D+1))
   (fun pre Pr W=>∃c,Ix c pre Pr W∧W.heap[D+1]? =some (.loop (R .done (some c)))∧W.heap[D]? =some (.deferred (some []))∧Pr D∧Pr (D+1))
   V ⟨growV.size,fun k hk=>growV.block k (by have:=hB k hk;omega)⟩ ?_ ?_ ?round ⟨?start,loopV,markV,by omega,by omega⟩).mono ?_
  case start=>
   rw [sizeV]
   exact hI _ _ _ _ h0 (.of_below (by rw [hD];exact growV))
  ·rintro pre Pr W1 W2 ⟨hi,hl,hk,p1,p2⟩ ho
   refine ⟨hI _ _ _ _ hi (ho.mono fun k e=>.inr e),?_,?_,p1,p2⟩
   ·rw [ho.block (D+1) (Array.getElem?_eq_some_iff.1 hl).1 (fun e=>e p2)];exact hl
   ·rw [ho.block D (Array.getElem?_eq_some_iff.1 hk).1 (fun e=>e p1)];exact hk
  ·rintro pre Pr W1 W2 ⟨c,hi,hl,hk,p1,p2⟩ ho
   refine ⟨c,hIx _ _ _ _ _ hi (ho.mono fun k e=>.inr e),?_,?_,p1,p2⟩
   ·rw [ho.block (D+1) (Array.getElem?_eq_some_iff.1 hl).1 (fun e=>e p2)];exact hl
   ·rw [ho.block D (Array.getElem?_eq_some_iff.1 hk).1 (fun e=>e p1)];exact hk
  case round=>
   rintro pre Pr x W0 ⟨hi0,hl0,hk0,p1,p2⟩ hpx hat hbx hsz0
   rw [sizeV] at hbx hsz0
   have hlt0:D+1<W0.heap.size:=(Array.getElem?_eq_some_iff.1 hl0).1
   have hgr:=hW₁ x W0
   obtain ⟨e1,e2,e3,e4,e5,e6,e7⟩:=isR .ready none
   have hy:=run_yield (P:=P) (args:=encs x) hl0 (by rw [e1];exact hps x)
   rw [e1,e2,e3,e4,e5] at hy
   have hl:(W₁ x W0).heap[D+1]? =some (.loop (R .ready none)):=(hgr.block _ hlt0).trans hl0
   have hk:(W₁ x W0).heap[D]? =some (.deferred (some [])):=(hgr.block _ (by omega)).trans hk0
   have hi:I pre Pr (W₁ x W0):=hI _ _ _ _ hi0 (.of_below hgr)
   refine ⟨fn,_,assign,body,hy,roundIn_of_wpIn hfn (hassign _ x W0 _ ⟨_,run_beginRound hl e6,?_⟩)⟩
   obtain ⟨W,hW⟩:∃W,W=W₁ x W0:=⟨_,rfl⟩
   rw [←hW] at hl hk hi hgr ⊢
   have hlt:D+1<W.heap.size:=(Array.getElem?_eq_some_iff.1 hl).1
   obtain ⟨Wb,hWb⟩:∃Wb,Wb=W.putObj (D+1) (.loop { R .ready none with state:=.busy }):=⟨_,rfl⟩
   rw [←hWb]
   have hlb:Wb.heap[D+1]? =some (.loop { R .ready none with state:=.busy }):=by rw [hWb];exact World.putObj_heap_same hlt
   have hkb:Wb.heap[D]? =some (.deferred (some [])):=by rw [hWb];exact (World.putObj_heap_other (by omega)).trans hk
   have hob:OffX (fun k=>k=D+1) W Wb:=by rw [hWb];exact .put _ rfl
   have hsb:W.heap.size≤Wb.heap.size:=hob.size
   have hnk:¬Kp (D+1):=fun h=>by have:=hB _ h;omega
   have hx1:OffX (fun k=>Pr k∧¬Kp k) W0 Wb:=(OffX.of_below hgr).trans (by rw [hWb];exact .put _ ⟨p2,hnk⟩)
   refine wpIn_mono (hbody _ pre Pr x W0 Wb (hI _ _ _ _ hi (hob.mono fun k e=>.inl e)) hpx hat hbx (by omega) (by rw [←hW];exact hob) p1 p2) ?_
   have fin:∀(jump:Option Code) (W3:World),OffX (BodyE Kp Pr D W0.heap.size) Wb W3→∃W4,(Instr.endRound (D+1) jump).run P W3=.ok (.bool jump.isNone) W4∧OffX (fun k=>k=D+1) W3 W4∧OffX (fun k=>Pr k∧¬Kp k) W0 W4∧
     W4.heap[D+1]? =some (.loop (R (if jump.isNone then .ready else .done) jump))∧W4.heap[D]? =some (.deferred (some [])):=by
    intro jump W3 hk3
    have hl3:W3.heap[D+1]? =some (.loop { R .ready none with state:=.busy }):=(hk3.block _ (Array.getElem?_eq_some_iff.1 hlb).1 (fun h=>h.2.2.2 rfl)).trans hlb
    have hd3:W3.heap[D]? =some (.deferred (some [])):=(hk3.block _ (Array.getElem?_eq_some_iff.1 hkb).1 (fun h=>h.2.2.1 rfl)).trans hkb
    have he:=run_endRound (P:=P) jump hl3
    have h04:OffX (fun k=>Pr k∧¬Kp k) W0 W3:=⟨hk3.os.trans hx1.os,hk3.tape.trans hx1.tape,hk3.output.trans hx1.output,Nat.le_trans hx1.size hk3.size,fun k hk hn=>by
     have h5:=hx1.size
     refine (hk3.block k (by omega) (fun e=>?_)).trans (hx1.block k hk hn)
     rcases e.1 with e1|e1
     ·exact hn ⟨e1,e.2.1⟩
     ·omega⟩
    refine ⟨_,he,.put _ rfl,h04.trans (.put _ ⟨p2,hnk⟩),?_,(World.putObj_heap_other (by omega)).trans hd3⟩
    rw [World.putObj_heap_same (Array.getElem?_eq_some_iff.1 hl3).1,hR]
   rintro e a3 W3 hp
   cases e with
   |normal=>
    obtain ⟨Pr',g1,g2,g3,hk3,hi3⟩:=hp
    obtain ⟨W4,r1,r2,r3,r4,r5⟩:=fin none W3 hk3
    exact ⟨_,_,r1,Pr',g1.mono r2.size,r3,.inl ⟨rfl,hI _ _ _ _ hi3 (r2.mono fun k e=>.inl e),r4,r5,g2,g3⟩⟩
   |ret=>
    obtain ⟨Pr',g1,g2,g3,hk3,hi3⟩:=hp
    obtain ⟨W4,r1,r2,r3,r4,r5⟩:=fin (some .ret) W3 hk3
    exact ⟨_,_,r1,Pr',g1.mono r2.size,r3,.inr ⟨rfl,.ret,hIx _ _ _ _ _ hi3 (r2.mono fun k e=>.inl e),r4,r5,g2,g3⟩⟩
   |exit id=>
    obtain ⟨Pr',g1,g2,g3,hk3,hi3⟩:=hp
    obtain ⟨W4,r1,r2,r3,r4,r5⟩:=fin (some (.exit id)) W3 hk3
    exact ⟨_,_,r1,Pr',g1.mono r2.size,r3,.inr ⟨rfl,.exit id,hIx _ _ _ _ _ hi3 (r2.mono fun k e=>.inl e),r4,r5,g2,g3⟩⟩
   |goto t=>
    obtain ⟨Pr',g1,g2,g3,hk3,hi3⟩:=hp
    obtain ⟨W4,r1,r2,r3,r4,r5⟩:=fin (some (.goto t)) W3 hk3
    exact ⟨_,_,r1,Pr',g1.mono r2.size,r3,.inr ⟨rfl,.goto t,hIx _ _ _ _ _ hi3 (r2.mono fun k e=>.inl e),r4,r5,g2,g3⟩⟩
   |panic ch=>exact hp.elim
   |outgrown=>exact hp.elim
  ·rintro e W2 ⟨⟨v,rfl⟩,Pr,⟨parts,hdn,hi,hl,hk,p1,p2⟩|⟨pre,hpp,c,hi,hl,hk,p1,p2⟩⟩
   ·obtain ⟨e1,e2,e3,e4,e5,e6,e7⟩:=isR .ready none
    have he:=run_endLoop (P:=P) hl (by rw [e6];simp)
    rw [e7] at he
    exact ⟨none,_,he,hdone D parts Pr _ rfl hdn (hI _ _ _ _ hi (.put _ (.inl rfl))) ((World.putObj_heap_other (by omega)).trans hk)⟩
   ·obtain ⟨e1,e2,e3,e4,e5,e6,e7⟩:=isR .done (some c)
    have he:=run_endLoop (P:=P) hl (by rw [e6];simp)
    rw [e7] at he
    exact ⟨some c,_,he,hstop D c pre Pr _ rfl hpp (hIx _ _ _ _ _ hi (.put _ (.inl rfl))) ((World.putObj_heap_other (by omega)).trans hk)⟩
end Go.Proofs.Yteaaapdjplbljaa
