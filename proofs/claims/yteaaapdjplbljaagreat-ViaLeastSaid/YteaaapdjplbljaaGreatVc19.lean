/- Parts; no condition. -/
import Derived.Test.YteaaapdjplbljaaGreatVc18
import Derived.Sort.LoopGhostIn
import Derived.RangeFuncNested
import Derived.RangeFuncBound
import Derived.Shelf.AbstractIn
import Derived.OwnWalkIn
import Derived.TacticsInMore
import Derived.LoopNIn
import Derived.LoopIn
set_option linter.unusedVariables false
set_option linter.unusedSimpArgs false
set_option linter.unnecessarySimpa false
set_option maxRecDepth 100000
set_option maxHeartbeats 8000000
namespace Go.Proofs.YteaaapdjplbljaaGreat
section
open Go Go.Proofs Go.RowKit Go.Shelf Hp Ch
def RowsM (W:World) (v:Value) (n:Nat) (O:List (List Int)):Prop:=
 ∃(a:Option Addr) (c:Nat) (rows:List Value),v=.slice a n c/\rows.length=n/\Cel W a rows/\∀u,u<n->∃(a':Option Addr) (c':Nat),rows[u]? =some (.slice a' (O.getD u []).length c')/\Cel W a' ((O.getD u []).map Aj)
structure HierM (W:World) (hb n:Nat) (es:List EdgeD) (R:List Int) (S:List SC) (O I:List (List Int)):Prop where
 c0:W.cell? ⟨hb,0,none⟩=some (.int .i64 (n:Int))
 c1:∃(a:Option Addr) (c:Nat),W.cell? ⟨hb,1,none⟩=some (.slice a es.length c)/\Cel W a (Ax es)
 c2:∃(a:Option Addr) (c:Nat),W.cell? ⟨hb,2,none⟩=some (.slice a R.length c)/\Cel W a (R.map Aj)
 c3:∃(a:Option Addr) (c:Nat),W.cell? ⟨hb,3,none⟩=some (.slice a S.length c)/\Cel W a (Be S)
 c4:∃v,W.cell? ⟨hb,4,none⟩=some v/\RowsM W v n O
 c5:∃v,W.cell? ⟨hb,5,none⟩=some v/\RowsM W v n I
 rl:R.length=n
 small:n<=60000/\S.length<=1000000/\es.length<=1000000/\(∀r∈O,r.length<=1000000)/\∀r∈I,r.length<=1000000
section
variable {W W':World} {hb n:Nat} {es:List EdgeD} {R:List Int} {S:List SC} {O I:List (List Int)}
theorem RowsM.go {v:Value} (h:RowsM W v n O) (hb:Below W.heap.size W W'):RowsM W' v n O:=by
 obtain ⟨a,c,rows,e,hl,hc,hr⟩:=h;exact ⟨a,c,rows,e,hl,hc.go hb,fun u hu=>let ⟨a',c',h1,h2⟩:=hr u hu;⟨a',c',h1,h2.go hb⟩⟩
theorem HierM.go (h:HierM W hb n es R S O I) (hz:Below W.heap.size W W'):HierM W' hb n es R S O I:=by
 obtain ⟨a1,b1,h1,k1⟩:=h.c1;obtain ⟨a2,b2,h2,k2⟩:=h.c2;obtain ⟨a3,b3,h3,k3⟩:=h.c3;obtain ⟨a4,h4,k4⟩:=h.c4;obtain ⟨a5,h5,k5⟩:=h.c5;exact ⟨Bi6 hz h.c0,⟨a1,b1,Bi6 hz h1,k1.go hz⟩,⟨a2,b2,Bi6 hz h2,k2.go hz⟩,⟨a3,b3,Bi6 hz h3,k3.go hz⟩,⟨a4,Bi6 hz h4,k4.go hz⟩,⟨a5,Bi6 hz h5,k5.go hz⟩,h.rl,h.small⟩
end
theorem Fr (hb n:Nat) (es:List EdgeD) (R:List Int) (S:List SC) (O I:List (List Int)) (w:World) (h:HierM w hb n es R S O I):
  Calls Tryz.prog 175 #[.pointer (some ⟨hb,0,none⟩)] w fun e w'=>e=.returned (.int .i64 (n:Int))/\w=w':=by
 have c0:=h.c0;clear h
 go_enter Tryz.func175,Tryz.ntmps175
 go_wp2
 go_ret
 exact ⟨rfl,rfl⟩
theorem Wn (hb n:Nat) (es:List EdgeD) (R:List Int) (S:List SC) (O I:List (List Int)) (w:World) (h:HierM w hb n es R S O I):
  Calls Tryz.prog 201 #[.pointer (some ⟨hb,0,none⟩)] w fun e w'=>e=.returned (.int .i64 (S.length:Int))/\w=w':=by
 obtain ⟨a,c,c3,-⟩:=h.c3;clear h
 go_enter Tryz.func201,Tryz.ntmps201
 go_wp2
 go_ret
 exact ⟨rfl,rfl⟩
theorem Jy (hb n:Nat) (es:List EdgeD) (R:List Int) (S:List SC) (O I:List (List Int)) (w:World) (h:HierM w hb n es R S O I) (v:Nat) (hv:v<n):
  Calls Tryz.prog 203 #[.pointer (some ⟨hb,0,none⟩),.int .i64 (v:Int)] w fun e w'=>e=.returned (.int .i64 (rAt R v))/\w=w':=by
 have HN:=Bi5 (Fr hb n es R S O I w h);obtain ⟨a,c,c2,k2⟩:=h.c2;have hvl:v<R.length:=by rw [h.rl];exact hv
 obtain ⟨b,o,rfl,y0⟩:=k2.at hvl;have hv0:(0:Int)<=(v:Int):=by omega
 have hv1:(v:Int)<(n:Int):=by omega
 have hv2:(v:Int)<(R.length:Int):=by omega
 have HR:=Bi5 (show rAt R v=R[v] by unfold rAt;rw [Bj9,Bj1,Bj0 hvl];rfl);generalize R[v]=r at*;clear h k2
 go_enter Tryz.func203,Tryz.ntmps203
 go_wp2_with (go_at_call 175;refine HN.out.mono ?_;rintro e w1 ⟨rfl,rfl⟩)
 go_ret
 exact ⟨by rw [HR.out];rfl,rfl⟩
theorem Lv (hb n:Nat) (es:List EdgeD) (R:List Int) (S:List SC) (O I:List (List Int)) (w:World) (h:HierM w hb n es R S O I) (i:Nat) (hi:i<S.length):
  Calls Tryz.prog 202 #[.pointer (some ⟨hb,0,none⟩),.int .i64 (i:Int)] w fun e w'=>e=.returned (.tuple #[scV S[i],.bool true])/\Below w.heap.size w w':=by
 obtain ⟨W,hW⟩:∃W,W=w.alloc (Obj.cells #[.int .i64 0,.int .i64 0,.int .u64 0,.int .i64 0,.int .i64 0,.int .i64 0] 187):=⟨_,rfl⟩;have hbw:Below w.heap.size w W:=by rw [hW];exact Below.of_al _ _
 have HN:=Bi5 (Wn hb n es R S O I W (h.go hbw));obtain ⟨a,c,c3,k3⟩:=h.c3;obtain ⟨b,o,rfl,y0,y1,y2,y3,y4,y5⟩:=Mp k3 hi;have d3:=Bi6 hbw c3;have z0:=Bi6 hbw y0;have z1:=Bi6 hbw y1;have z2:=Bi6 hbw y2;have z3:=Bi6 hbw y3;have z4:=Bi6 hbw y4;have z5:=Bi6 hbw y5;have hi0:(0:Int)<=(i:Int):=by omega
 have hi1:(i:Int)<(S.length:Int):=by omega
 have HW:=Bi5 hW;have HB:=Bi5 hbw;generalize S[i]=x at*;rw [hW] at HN d3 z0 z1 z2 z3 z4 z5;clear h k3 hW hbw
 go_enter Tryz.func202,Tryz.ntmps202
 go_wp2_with (go_at_call 201;refine HN.out.mono ?_;rintro e w1 ⟨rfl,rfl⟩)
 refine bodyPost_ret (v:=.tuple #[scV x,.bool true]) (by simp [results,Tryz.results202,go_sem];try rfl) rfl ?_;exact ⟨rfl,Below.of_al _ _⟩
end
section
open Go Go.Proofs Go.RowKit
def SeqK {α:Type} (F:Fence) (n:Nat) (P:Program) (g:Nat) (lb:Array Value) (encs:α->Array Value) (parts:List α) (Kp:Nat->Prop) (w:World):Prop:=
 ∀(l:Nat) (J Jx:List α->World->Prop) (W:World),KeepX Kp w W->(∀pre W1 W2,J pre W1->OffX (fun _=>False) W1 W2->J pre W2)->(∀pre W1 W2,Jx pre W1->OffX (fun _=>False) W1 W2->Jx pre W2)->
  (∀pre x W1,J pre W1->(pre++[x]) <+:parts->YieldAt F (n-1) P l (encs x) W1 fun e W'=>
   (e=.returned (.bool true)/\J (pre++[x]) W'/\KeepX Kp W1 W')\/(e=.returned (.bool false)/\Jx (pre++[x]) W'))->
  J [] W->
  CallsIn F n P g (#[.func (.yield l) #[] #[]]++lb) W fun e W'=>(∃v,e=.returned v)/\(J parts W'\/∃pre,pre <+:parts/\Jx pre W')
def As2 {α:Type} (X:Nat->Prop) (I:List α->World->Prop) (Ix:Code->List α->World->Prop) (xs:List α) (W:World):Exit->Act->World->Prop
 | .normal,_,W'=>KeepX X W W'/\I xs W'
 | .ret,_,W'=>KeepX X W W'/\Ix .ret xs W'
 | .exit id,_,W'=>KeepX X W W'/\Ix (.exit id) xs W'
 | .goto t,_,W'=>KeepX X W W'/\Ix (.goto t) xs W'
 | .panic _,_,_=>False
 | .outgrown,_,_=>False
variable {F:Fence} {n:Nat} {P:Program}
def Mr (Kp:Nat->Prop) (D k:Nat):Prop:=Kp k\/k=D\/k=D+1
def Au (D k:Nat):Prop:=k=D+1
theorem Ge {α:Type} {g:Operand} {ps:Array Tmp} {assign body:Code} {Q:Exit->Act->World->Prop} {a:Act} {w:World}
  (hro:F.round=none) (h1:1<=n) {gf:Nat} {lb:Array Value} (hg:a.eval g=.func (.func gf) #[] lb) (hFg:F.fn gf) (eg:∀args w,(callFunc gf args).run P w=.ok (.enter gf args) w)
  {encs:α->Array Value} {parts:List α} {Kp:Nat->Prop} (hseq:SeqK F (n-1) P gf lb encs parts Kp w) (hB:∀k,Kp k->k<w.heap.size) (hps:∀x,(encs x).size=ps.size)
  (I:List α->World->Prop) (Ix:Code->List α->World->Prop)
  (hI:∀pre W W',I pre W->OffX (Au w.heap.size) W W'->I pre W') (hIx:∀c pre W W',Ix c pre W->OffX (Au w.heap.size) W W'->Ix c pre W') (h0:I [] w) (a₁:α->World->Act) (W₁:α->World->World) (hW₁:∀x W,Below W.heap.size W (W₁ x W))
  (hassign:∀(l:Nat) (x:α) (W:World) (K:Act->World->Prop),K (a₁ x W) (W₁ x W)->
   assign.wpIn (F.inRound l) (n-1-1) P (Exit.then K (fun _ _ _=>False)) { tmps:=(ps.zip (encs x)).foldl (fun t (p,v)=>t.setIfInBounds p v) a.tmps,defers:=[] } W)
  (hbody:∀(l:Nat) (pre:List α) (x:α) (W0 W:World),I pre W->(pre++[x]) <+:parts->w.heap.size+2<=W0.heap.size->OffX (Au w.heap.size) (W₁ x W0) W->
   body.wpIn (F.inRound l) (n-1-1) P (As2 (Mr Kp w.heap.size) I Ix (pre++[x]) W) (a₁ x W0) W)
  (hdone:∀(D:Nat) (W:World),D=w.heap.size->I parts W->W.heap[D]? =some (.deferred (some []))->Q .normal { a with defers:={ target:=.collected D,args:=#[] }::a.defers } W)
  (hstop:∀(D:Nat) (c:Code) (pre:List α) (W:World),D=w.heap.size->pre <+:parts->Ix c pre W->W.heap[D]? =some (.deferred (some []))->c.wpIn F n P Q { a with defers:={ target:=.collected D,args:=#[] }::a.defers } W):
  (Code.rangeFunc g ps assign body).wpIn F n P Q a w:=by
 refine wpIn_rangeFunc fun fn hfn=>?_;rw [hro];obtain ⟨R,hR⟩:∃R:LoopState->Option Code->Loop,R=fun st pe=>{ state:=st,pending:=pe,fn,tmps:=a.tmps,params:=ps,assign,body,defers:=w.heap.size }:=⟨_,rfl⟩;obtain ⟨D,hD⟩:∃D,w.heap.size=D:=⟨_,rfl⟩;obtain ⟨V,hV⟩:∃V,V=(w.alloc (.deferred (some []))).alloc (.loop (R .ready none)):=⟨_,rfl⟩;have loopV:V.heap[D+1]? =some (.loop (R .ready none)):=by
  have:=World.alloc_heap_new (w.alloc (.deferred (some []))) (.loop (R .ready none));rw [World.size_alloc,hD] at this;rw [hV];exact this
 have markV:V.heap[D]? =some (.deferred (some [])):=by
  have:=World.alloc_heap_new w (.deferred (some []));rw [hD] at this;rw [hV,Below.heap_alloc _ _ _ (by rw [World.size_alloc];omega)];exact this
 have growV:Below w.heap.size w V:=by rw [hV];exact ((Below.refl _ w).alloc (Bi7 _) _).alloc (by simp) _
 have sizeV:V.heap.size=D+2:=by rw [hV];simp;omega
 have isR:∀st pe,(R st pe).params=ps/\(R st pe).tmps=a.tmps/\(R st pe).fn=fn/\(R st pe).assign=assign/\(R st pe).body=body/\(R st pe).state=st/\(R st pe).pending=pe:=fun st pe=>by rw [hR];exact ⟨rfl,rfl,rfl,rfl,rfl,rfl,rfl⟩
 refine ⟨D+1,[{ target:=.collected D,args:=#[] }],V,{ target:=.fn (.func gf) lb,args:=#[.func (.yield (D+1)) #[] #[]] },V,gf,#[.func (.yield (D+1)) #[] #[]]++lb,V,?_,?_,?_,?_,fun _=>h1,?_⟩
 ·have:=run_enterLoop_outer (P:=P) (w:=w) fn a.tmps ps assign body
  rw [this,hV,hR,hD]
 ·simp only [resolve,hg]
  simp [go_sem]
 ·intro f' hf'
  simp [Target.leads] at hf';subst hf';exact hFg
 ·simp [invoke,go_sem,eg]
 ·rw [hD] at hI hIx hbody hdone hstop hB growV
  refine (hseq (D+1) (fun pre W=>I pre W/\W.heap[D+1]? =some (.loop (R .ready none))/\W.heap[D]? =some (.deferred (some [])))
   (fun pre W=>∃c,Ix c pre W/\W.heap[D+1]? =some (.loop (R .done (some c)))/\W.heap[D]? =some (.deferred (some [])))
   V ⟨growV.size,fun k hk=>growV.block k (by have:=hB k hk;omega)⟩ ?_ ?_ ?round ⟨hI _ _ _ h0 (.of_below (by rw [hD];exact growV)),loopV,markV⟩).mono ?_
  ·rintro pre W1 W2 ⟨hi,hl,hk⟩ ho
   refine ⟨hI _ _ _ hi (ho.mono fun k e=>e.elim),?_,?_⟩
   ·rw [ho.block (D+1) (Bj2.1 hl).1 (fun e=>e.elim)];exact hl
   ·rw [ho.block D (Bj2.1 hk).1 (fun e=>e.elim)];exact hk
  ·rintro pre W1 W2 ⟨c,hi,hl,hk⟩ ho
   refine ⟨c,hIx _ _ _ _ hi (ho.mono fun k e=>e.elim),?_,?_⟩
   ·rw [ho.block (D+1) (Bj2.1 hl).1 (fun e=>e.elim)];exact hl
   ·rw [ho.block D (Bj2.1 hk).1 (fun e=>e.elim)];exact hk
  case round=>
   rintro pre x W0 ⟨hi0,hl0,hk0⟩ hpx;have hlt0:D+1<W0.heap.size:=(Bj2.1 hl0).1;have hgr:=hW₁ x W0;obtain ⟨e1,e2,e3,e4,e5,e6,e7⟩:=isR .ready none;have hy:=run_yield (P:=P) (args:=encs x) hl0 (by rw [e1];exact hps x);rw [e1,e2,e3,e4,e5] at hy;have hl:(W₁ x W0).heap[D+1]? =some (.loop (R .ready none)):=(hgr.block _ hlt0).trans hl0;have hk:(W₁ x W0).heap[D]? =some (.deferred (some [])):=(hgr.block _ (by omega)).trans hk0;have hi:I pre (W₁ x W0):=hI _ _ _ hi0 (.of_below hgr);have hk00:KeepX Kp W0 (W₁ x W0):=⟨hgr.size,fun k hk=>hgr.block k (by have:=hB k hk;omega)⟩;refine ⟨fn,_,assign,body,hy,roundIn_of_wpIn hfn (hassign _ x W0 _ ⟨_,run_beginRound hl e6,?_⟩)⟩;obtain ⟨W,hW⟩:∃W,W=W₁ x W0:=⟨_,rfl⟩;rw [<-hW] at hl hk hi hgr hk00 ⊢;have hlt:D+1<W.heap.size:=(Bj2.1 hl).1;obtain ⟨Wb,hWb⟩:∃Wb,Wb=W.putObj (D+1) (.loop { R .ready none with state:=.busy }):=⟨_,rfl⟩;rw [<-hWb];have hlb:Wb.heap[D+1]? =some (.loop { R .ready none with state:=.busy }):=by rw [hWb];exact World.putObj_heap_same hlt
   have hkb:Wb.heap[D]? =some (.deferred (some [])):=by rw [hWb];exact (World.putObj_heap_other (by omega)).trans hk
   have hob:OffX (Au D) W Wb:=by rw [hWb];exact .put _ rfl
   have hsb:W.heap.size<=Wb.heap.size:=hob.size;have hkx:KeepX Kp W Wb:=⟨hsb,fun k hk=>by
    rw [hWb];exact World.putObj_heap_other (by have:=hB k hk;omega)⟩
   refine wpIn_mono (hbody _ pre x W0 Wb (hI _ _ _ hi hob) hpx (by omega) (by rw [<-hW];exact hob)) ?_;have fin:∀(jump:Option Code) (W3:World),KeepX (Mr Kp D) Wb W3->∃W4,(Instr.endRound (D+1) jump).run P W3=.ok (.bool jump.isNone) W4/\OffX (Au D) W3 W4/\KeepX Kp W0 W4/\
     W4.heap[D+1]? =some (.loop (R (if jump.isNone then .ready else .done) jump))/\W4.heap[D]? =some (.deferred (some [])):=by
    intro jump W3 hk3;have hl3:W3.heap[D+1]? =some (.loop { R .ready none with state:=.busy }):=(hk3.2 _ (.inr (.inr rfl))).trans hlb;have hd3:W3.heap[D]? =some (.deferred (some [])):=(hk3.2 _ (.inr (.inl rfl))).trans hkb;have he:=run_endRound (P:=P) jump hl3;refine ⟨_,he,.put _ rfl,hk00.trans (hkx.trans ((hk3.mono fun k h=>.inl h).trans ⟨(OffX.put (X:=Au D) _ rfl).size,fun k hk=>World.putObj_heap_other (by have:=hB k hk;omega)⟩)),?_,(World.putObj_heap_other (by omega)).trans hd3⟩;rw [World.putObj_heap_same (Bj2.1 hl3).1,hR]
   rintro e a3 W3 hp
   cases e with
   |normal=>
    obtain ⟨hk3,hi3⟩:=hp;obtain ⟨W4,r1,r2,r3,r4,r5⟩:=fin none W3 hk3;exact ⟨_,_,r1,.inl ⟨rfl,⟨hI _ _ _ hi3 r2,r4,r5⟩,r3⟩⟩
   |ret=>
    obtain ⟨hk3,hi3⟩:=hp;obtain ⟨W4,r1,r2,r3,r4,r5⟩:=fin (some .ret) W3 hk3;exact ⟨_,_,r1,.inr ⟨rfl,.ret,hIx _ _ _ _ hi3 r2,r4,r5⟩⟩
   |exit id=>
    obtain ⟨hk3,hi3⟩:=hp;obtain ⟨W4,r1,r2,r3,r4,r5⟩:=fin (some (.exit id)) W3 hk3;exact ⟨_,_,r1,.inr ⟨rfl,.exit id,hIx _ _ _ _ hi3 r2,r4,r5⟩⟩
   |goto t=>
    obtain ⟨hk3,hi3⟩:=hp;obtain ⟨W4,r1,r2,r3,r4,r5⟩:=fin (some (.goto t)) W3 hk3;exact ⟨_,_,r1,.inr ⟨rfl,.goto t,hIx _ _ _ _ hi3 r2,r4,r5⟩⟩
   |panic ch=>exact hp.elim
   |outgrown=>exact hp.elim
  ·rintro e W2 ⟨⟨v,rfl⟩,⟨hi,hl,hk⟩|⟨pre,hpp,c,hi,hl,hk⟩⟩
   ·obtain ⟨e1,e2,e3,e4,e5,e6,e7⟩:=isR .ready none
    have he:=run_endLoop (P:=P) hl (by rw [e6];simp);rw [e7] at he;exact ⟨none,_,he,hdone D _ rfl (hI _ _ _ hi (.put _ rfl)) ((World.putObj_heap_other (by omega)).trans hk)⟩
   ·obtain ⟨e1,e2,e3,e4,e5,e6,e7⟩:=isR .done (some c)
    have he:=run_endLoop (P:=P) hl (by rw [e6];simp);rw [e7] at he;exact ⟨some c,_,he,hstop D c pre _ rfl hpp (hIx _ _ _ _ hi (.put _ rfl)) ((World.putObj_heap_other (by omega)).trans hk)⟩
end
section
open Go Go.Proofs Go.RowKit Go.Shelf Hp Ch
section
variable {W W':World} {hb n:Nat} {es:List EdgeD} {R:List Int} {S:List SC} {O I:List (List Int)}
theorem Ca {p:Addr} {v:Value} (hk:∀k,k<W.heap.size->W'.heap[k]? =W.heap[k]?) (h:W.cell? p=some v):W'.cell? p=some v:=
 (Bl2 (w:=W) (hk _ (Bj5 _ _ h))).trans h
theorem Cel.same {ao:Option Addr} {xs:List Value} (hk:∀k,k<W.heap.size->W'.heap[k]? =W.heap[k]?) (h:Cel W ao xs):Cel W' ao xs:=fun i u hu=>
 let ⟨b,o,e,h1⟩:=h i u hu
 ⟨b,o,e,Ca hk h1⟩
theorem RowsM.same {v:Value} (hk:∀k,k<W.heap.size->W'.heap[k]? =W.heap[k]?) (h:RowsM W v n O):RowsM W' v n O:=by
 obtain ⟨a,c,rows,e,hl,hc,hr⟩:=h;exact ⟨a,c,rows,e,hl,hc.same hk,fun u hu=>let ⟨a',c',h1,h2⟩:=hr u hu;⟨a',c',h1,h2.same hk⟩⟩
theorem HierM.same (hk:∀k,k<W.heap.size->W'.heap[k]? =W.heap[k]?) (h:HierM W hb n es R S O I):HierM W' hb n es R S O I:=by
 obtain ⟨a1,b1,h1,k1⟩:=h.c1;obtain ⟨a2,b2,h2,k2⟩:=h.c2;obtain ⟨a3,b3,h3,k3⟩:=h.c3;obtain ⟨a4,h4,k4⟩:=h.c4;obtain ⟨a5,h5,k5⟩:=h.c5;exact ⟨Ca hk h.c0,⟨a1,b1,Ca hk h1,k1.same hk⟩,⟨a2,b2,Ca hk h2,k2.same hk⟩,⟨a3,b3,Ca hk h3,k3.same hk⟩,⟨a4,Ca hk h4,k4.same hk⟩,⟨a5,Ca hk h5,k5.same hk⟩,h.rl,h.small⟩
end
theorem Ab5 {m:Nat} {L:List (List Int)} (h:∀r∈L,r.length<=m) (v:Nat):(L.getD v []).length<=m:=by
 rw [Bj1]
 rcases Nat.lt_or_ge v L.length with hl|hl
 ·rw [Bj0 hl];exact h _ (Bj7 hl)
 ·rw [Bm2 hl];exact Bi8 _
abbrev Bt:=Int×Int×Int
def Gr (S:List SC) (v:Int) (i:Int):Bt:=(i,(S.getD i.toNat scZ).f+(S.getD i.toNat scZ).t-v,(S.getD i.toNat scZ).w)
def Kz (S:List SC) (O I:List (List Int)) (v:Nat) (b:Bool):List Bt:=((if b then I else O).getD v []).map (Gr S v)
def Aw4 (x:Bt):Array Value:=#[.int .i64 x.1,.agg #[.int .i64 0,.int .i64 x.2.1,.int .u64 x.2.2,.int .i64 0,.int .i64 0,.int .i64 0]]
def KpU (base B k:Nat):Prop:=k<base\/(B<=k/\k<B+3)
theorem KeepX.lt {X:Nat->Prop} {a b:World} {k:Nat} (h:KeepX X a b) (_:X k) (hk:k<a.heap.size):k<b.heap.size:=Nat.lt_of_lt_of_le hk h.1
theorem Hg (hb:Nat) (back down:Bool) (v:Int) (w:World):
  Calls Tryz.prog 199 #[.agg #[.pointer (some ⟨hb,0,none⟩),.bool back],.int .i64 v,.bool down] w fun e w'=>
   e=.returned (.func (.func 250) #[] #[.pointer (some ⟨w.heap.size,0,none⟩),.pointer (some ⟨w.heap.size+1,0,none⟩),.pointer (some ⟨w.heap.size+2,0,none⟩)])/\Below w.heap.size w w'/\w'.heap.size=w.heap.size+3/\
   w'.cell? ⟨w.heap.size,0,none⟩=some (.pointer (some ⟨hb,0,none⟩))/\w'.cell? ⟨w.heap.size,1,none⟩=some (.bool back)/\w'.cell? ⟨w.heap.size+1,0,none⟩=some (.int .i64 v)/\w'.cell? ⟨w.heap.size+2,0,none⟩=some (.bool down):=by
 have hmf:∀(fn:Fn) (first cap:Array Value) (w:World),(Instr.makeFunc fn first cap).run Tryz.prog w=.ok (.func fn first cap) w:=fun _ _ _ _=>rfl
 go_enter Tryz.func199,Tryz.ntmps199
 go_wp2
 go_ret
 refine ⟨rfl,((Below.of_al _ _).al _).al _,by simp,by go_simp,by go_simp,by go_simp,by go_simp⟩
theorem Az7 (hb n:Nat) (es:List EdgeD) (R:List Int) (S:List SC) (O I:List (List Int)) (w0:World) (h:HierM w0 hb n es R S O I) (v:Nat) (hv:v<n) (b:Bool):
  ∃(a:Option Addr) (c:Nat),Cel w0 a (((if b then I else O).getD v []).map Aj)/\∀W:World,(∀k,k<w0.heap.size->W.heap[k]? =w0.heap[k]?)->
   Calls Tryz.prog 251 #[.pointer (some ⟨hb,0,none⟩),.int .i64 (v:Int),.bool b] W fun e w'=>e=.returned (.slice a ((if b then I else O).getD v []).length c)/\W=w':=by
 have hv0:(0:Int)<=(v:Int):=by omega
 have hv1:(v:Int)<(n:Int):=by omega
 cases b with
 |false=>
  obtain ⟨v4,c4,a4,d4,rows4,rfl,l4,k4,m4⟩:=h.c4;obtain ⟨a,c,e4,q4⟩:=m4 v hv;obtain ⟨b4,o4,rfl,y4⟩:=k4 v _ e4;simp only [Bool.false_eq_true,if_false];refine ⟨a,c,q4,fun W hk=>?_⟩;have HN:=Bi5 (Fr hb n es R S O I W (h.same hk));have c4':=Ca hk c4;have y4':=Ca hk y4;generalize O.getD v []=lo at*;clear h k4 m4 q4 e4 l4 hk c4 y4
  go_enter Tryz.func251,Tryz.ntmps251
  go_wp2_with (go_at_call 175;refine HN.out.mono ?_;rintro e w1 ⟨rfl,rfl⟩)
  go_ret
  exact ⟨rfl,rfl⟩
 |true=>
  obtain ⟨v4,c4,a4,d4,rows4,rfl,l4,k4,m4⟩:=h.c5;obtain ⟨a,c,e4,q4⟩:=m4 v hv;obtain ⟨b4,o4,rfl,y4⟩:=k4 v _ e4;simp only [if_true];refine ⟨a,c,q4,fun W hk=>?_⟩;have HN:=Bi5 (Fr hb n es R S O I W (h.same hk));have c4':=Ca hk c4;have y4':=Ca hk y4;generalize I.getD v []=lo at*;clear h k4 m4 q4 e4 l4 hk c4 y4
  go_enter Tryz.func251,Tryz.ntmps251
  go_wp2_with (go_at_call 175;refine HN.out.mono ?_;rintro e w1 ⟨rfl,rfl⟩)
  go_ret
  exact ⟨rfl,rfl⟩
theorem En (m:Nat) (hm:1<=m) (hb n:Nat) (es:List EdgeD) (R:List Int) (S:List SC) (O I:List (List Int)) (back down:Bool) (v B:Nat) (w0 w:World) (hh:HierM w0 hb n es R S O I) (hk0:∀k,k<w0.heap.size->w.heap[k]? =w0.heap[k]?) (hkB:∀j,KpU w0.heap.size B j->j<w.heap.size) (hv:v<n)
  (hrow:∀i∈(if (back != down) then I else O).getD v [],0<=i/\i<(S.length:Int)) (hends:∀x∈S,Aa n x.f/\Aa n x.t)
  (c0:w.cell? ⟨B,0,none⟩=some (.pointer (some ⟨hb,0,none⟩))) (c1:w.cell? ⟨B,1,none⟩=some (.bool back)) (c2:w.cell? ⟨B+1,0,none⟩=some (.int .i64 (v:Int))) (c3:w.cell? ⟨B+2,0,none⟩=some (.bool down)):
  SeqK Fence.wide m Tryz.prog 250 #[.pointer (some ⟨B,0,none⟩),.pointer (some ⟨B+1,0,none⟩),.pointer (some ⟨B+2,0,none⟩)] Aw4 (Kz S O I v (back != down)) (KpU w0.heap.size B) w:=by
 intro l J Jx W hk hJ hJx hY hJ0;refine callsIn_of_wp Tryz.func250 rfl trivial ?_ rfl;simp only [Tryz.ntmps250,List.size_toArray,Bk0,Bk1,Nat.reduceAdd,Nat.reduceSub,Array.replicate_succ,Array.replicate_zero,List.push_toArray,List.append_toArray,List.nil_append,List.cons_append];have e0:W.cell? ⟨B,0,none⟩=some (.pointer (some ⟨hb,0,none⟩)):=by rw [Bl2 (w:=w) (hk.2 B (.inr ⟨Bi7 _,by omega⟩))];exact c0
 have e1:W.cell? ⟨B,1,none⟩=some (.bool back):=by rw [Bl2 (w:=w) (hk.2 B (.inr ⟨Bi7 _,by omega⟩))];exact c1
 have e2:W.cell? ⟨B+1,0,none⟩=some (.int .i64 (v:Int)):=by rw [Bl2 (w:=w) (hk.2 (B+1) (.inr ⟨by omega,by omega⟩))];exact c2
 have e3:W.cell? ⟨B+2,0,none⟩=some (.bool down):=by rw [Bl2 (w:=w) (hk.2 (B+2) (.inr ⟨by omega,by omega⟩))];exact c3
 have HK0:=Bi5 (show ∀k,k<w0.heap.size->W.heap[k]? =w0.heap[k]? from fun k h=>(hk.2 k (.inl h)).trans (hk0 k h));have hkb:∀j,KpU w0.heap.size B j->j<W.heap.size:=fun j hj=>Nat.lt_of_lt_of_le (hkB j hj) hk.1;obtain ⟨ra,rc,hrc,hrw⟩:=Az7 hb n es R S O I w0 hh v hv (back != down);have HRW:=Bi5 (hrw W HK0.out);have HJ:=Bi5 hJ;have HY:=Bi5 hY;have HH:=Bi5 hh;have HEN:=Bi5 hends;have hrlen:((if (back != down) then I else O).getD v []).length<=1000000:=Ab5 (by cases back != down;exact HH.out.small.2.2.2.1;exact HH.out.small.2.2.2.2) v;unfold Kz at HY ⊢;generalize (if (back != down) then I else O).getD v []=row at*;have HR:=Bi5 hrow;have HRC:=Bi5 hrc;have HKB:=Bi5 (show ∀j,KpU w0.heap.size B j->j<W.heap.size from fun j hj=>hkb j hj);obtain ⟨hs1,hs2,-⟩:=hh.small;have HSC:=Bi5 (fun W (hk:∀k,k<w0.heap.size->W.heap[k]? =w0.heap[k]?) i hi=>Lv hb n es R S O I W (hh.same hk) i hi);clear hrw hrc hkb hkB c0 c1 c2 c3 hJ hJx hY hk hk0 hh hrow hends
 gi_wp2_with (refine ⟨trivial,?_⟩;gi_at_call 251;refine (callsIn_wide.2 HRW.out).mono ?_;rintro e w1 ⟨rfl,rfl⟩)
 gi_loopg [18] row.length (fun gg vi wr=>∃k:Nat,k<=row.length/\row.length-k<=gg/\vi=.int .i64 (k:Int)/\Aside (KeepX (KpU w0.heap.size B) W wr)/\Aside (J ((row.take k).map (Gr S v)) wr))
 case atStart=>exact ⟨0,Bi8 _,by omega,rfl,⟨Bi7 _,fun _ _=>rfl⟩,hJ0⟩
 case round=>
  obtain ⟨k,hk,hgg,rfl,HKX,HJr⟩:=hrel;have f0:=(Bl2 (a:=⟨B,0,none⟩) (HKX.out.2 B (.inr ⟨Bi7 _,by omega⟩))).trans e0;have f1:=(Bl2 (a:=⟨B,1,none⟩) (HKX.out.2 B (.inr ⟨Bi7 _,by omega⟩))).trans e1;have f2:=(Bl2 (a:=⟨B+1,0,none⟩) (HKX.out.2 (B+1) (.inr ⟨by omega,by omega⟩))).trans e2;have HKW:=Bi5 (show ∀k,k<w0.heap.size->wr.heap[k]? =w0.heap[k]? from fun k h=>(HKX.out.2 k (.inl h)).trans (HK0.out k h))
  by_cases hlt:k<row.length
  ·have hlt2:(k:Int)<(row.length:Int):=by omega
   have hk0:(0:Int)<=(k:Int):=by omega
   obtain ⟨rb,ro,rfl,y0⟩:=(HRC.out.same HKW.out).at hlt;obtain ⟨i0,i1⟩:=HR.out _ (Bj7 hlt);have HPX:=Bi5 (show (row.take k).map (Gr S v)++[Gr S v row[k]] <+:row.map (Gr S v) by
    refine ⟨(row.drop (k+1)).map (Gr S v),?_⟩;rw [<-List.map_singleton,<-Bm6,<-Bk3 hlt,<-Bm6,List.take_append_drop])
   have HTK:=Bi5 (show (row.take (k+1)).map (Gr S v)=(row.take k).map (Gr S v)++[Gr S v row[k]] by rw [Bk3 hlt,Bm6];rfl);generalize row[k]=ri at*;obtain ⟨i,rfl⟩:∃i:Nat,ri=i:=⟨ri.toNat,by omega⟩;have hil:i<S.length:=by omega
   have HS1:=Bi5 (HSC.out wr HKW.out i hil);obtain ⟨⟨p0,p1⟩,⟨q0,q1⟩⟩:=HEN.out _ (Bj7 hil);have hst:Gr S v (i:Int)=((i:Int),S[i].f+S[i].t-(v:Int),S[i].w):=by
    unfold Gr;rw [Bj9,Bj1,Bj0 hil];rfl
   rw [hst] at HPX HTK;clear hst;generalize S[i]=x at*;obtain ⟨xf,xt,xw,xe,xa,xb⟩:=x;simp only [scV] at p0 p1 q0 q1 HS1 HPX HTK;have hv1:(v:Int)<(n:Int):=by omega
   have hs3:(n:Int)<=60000:=by omega
   have hkm:(k:Int)<1000000:=by omega
   gi_wp2_with (refine ⟨trivial,?_⟩;gi_at_call 202;refine (callsIn_wide.2 HS1.out).mono ?_;rintro e w2 ⟨rfl,hb2⟩;(have g0:=Bi6 hb2 f0);(have g1:=Bi6 hb2 f1);(have g2:=Bi6 hb2 f2);(have g3:=Bi6 (Below.of_al w2 (Obj.cells #[.int .i64 xf,.int .i64 xt,.int .u64 xw,.int .i64 xe,.int .i64 xa,.int .i64 xb] 187)) g2);(obtain ⟨w3,hw3⟩:∃w3,w3=w2.alloc (Obj.cells #[.int .i64 xf,.int .i64 xt,.int .u64 xw,.int .i64 xe,.int .i64 xa,.int .i64 xb] 187):=⟨_,rfl⟩);(have hb3:Below wr.heap.size wr w3:=by rw [hw3];exact hb2.al _);(obtain ⟨fn,tmps,assign,body,hy,hR⟩:=HY.out _ _ w3 (HJ.out _ _ _ HJr.out (OffX.of_below hb3)) HPX.out);(have HRR:=Bi5 hR);(have HB3:=Bi5 hb3);(have HW3:=Bi5 hw3);clear hR hb3 hb2;rw [hw3] at hy;dsimp only [Aw4] at hy;clear hw3)
   rw [<-HW3.out];refine HRR.out.mono ?_;rintro e W' (⟨rfl,hJ',hk'⟩|⟨rfl,hJx'⟩)
   ·have HJ2:=Bi5 hJ'
    have HK2:=Bi5 (show KeepX (KpU w0.heap.size B) W W' from HKX.out.trans (KeepX.trans ⟨HB3.out.size,fun j hj=>HB3.out.block j (HKX.out.lt hj (HKB.out j hj))⟩ hk'));clear hJ' hk' hy g0 g1 g2 g3
    gi_wp2
    gi_roundg (row.length-(k+1))
    case rel=>exact ⟨k+1,by omega,Bi7 _,by go_num,HK2.out,by rw [HTK.out];exact HJ2.out⟩
    case measure=>omega
   ·have HJ2:=Bi5 hJx'
    clear hJx' hy
    gi_wp2
    refine bodyPost_ret (results_none rfl _ _ _) rfl ?_;exact ⟨⟨_,rfl⟩,.inr ⟨_,HPX.out,HJ2.out⟩⟩
  ·obtain rfl:k=row.length:=by omega
   gi_wp2
   go_end0
   refine ⟨⟨_,rfl⟩,.inl ?_⟩;have:=HJr.out
   rwa [Bn1] at this
end
section
open Go Go.Proofs Go.RowKit Go.Shelf Hp Ch
structure US where
 far:List (Option Int)
 bys:List Int
 l:List IK
 p:List Int
def Ct (s:US) (v:Nat) (d b:Int):US:=if (As s.far v d).1 then ⟨(As s.far v d).2,s.bys.set v b,(Bf s.l s.p v d).2.1,(Bf s.l s.p v d).2.2⟩ else s
def UX (sb rb fb hp:Nat) (va v:Value) (k:Nat):Prop:=SX sb rb k\/k=fb\/HX hp v va k
structure UpW (w0 W:World) (xb hb:Nat) (back:Bool) (sb rb fb hp n:Nat) (va v:Value) (s:US):Prop where
 bx:PB W xb [.pointer (some ⟨hb,0,none⟩),.bool back,.pointer (some ⟨sb,0,none⟩),.slice (some ⟨fb,0,none⟩) n n,.pointer (some ⟨hp,0,none⟩)]
 sr:SrW w0 W sb rb fb hp va v s.far s.bys s.l s.p
 ok:HeapOK s.l s.p
 lens:s.far.length=n/\s.bys.length=n/\s.p.length=n
 sx:w0.heap.size<=xb/\xb≠sb/\xb≠rb/\xb≠fb/\¬HX hp v va xb
section
variable {w0 W W':World} {xb hb:Nat} {back:Bool} {sb rb fb hp n:Nat} {va v:Value} {s:US}
theorem UpW.llen (h:UpW w0 W xb hb back sb rb fb hp n va v s):s.l.length<=n:=by
 have:=Mh h.ok;have:=h.lens.2.2;omega
theorem UpW.ux (h:UpW w0 W xb hb back sb rb fb hp n va v s):∀k,UX sb rb fb hp va v k->w0.heap.size<=k/\k<W.heap.size:=by
 have h1:=h.sr.s1.lt;have h2:=(h.sr.sp.lt fb rfl).2;rintro k ((rfl|rfl)|rfl|hk)
 ·exact ⟨h.sr.ge.1,h1.1⟩
 ·exact ⟨h.sr.ge.2.1,h1.2⟩
 ·exact ⟨h.sr.ge.2.2.1,h2⟩
 ·refine ⟨h.sr.ge.2.2.2 k hk,?_⟩
  rcases hk with rfl|hk|hk
  ·exact h.sr.hp.pb.lt
  ·exact (h.sr.hp.ol.lt k hk).2
  ·exact (h.sr.hp.oa.lt k hk).2
theorem HeapW.off {X:Nat->Prop} {b:Nat} {l:List IK} {p:List Int} (h:HeapW W b v va l p) (ho:OffX X W W') (hX:∀k,HX b v va k->¬X k):HeapW W' b v va l p:=
 ⟨h.pb.eq (ho.block _ h.pb.lt (hX _ (.inl rfl))),Ai h.ol (fun k e=>ho.block k (h.ol.lt k e).2 (hX _ (.inr (.inl e)))),Ai h.oa (fun k e=>ho.block k (h.oa.lt k e).2 (hX _ (.inr (.inr e)))),h.d1,h.d2,h.d3⟩
theorem UpW.off {X:Nat->Prop} (h:UpW w0 W xb hb back sb rb fb hp n va v s) (ho:OffX X W W') (hX:∀k,UX sb rb fb hp va v k->¬X k) (hx:¬X xb) (hge:∀k,X k->w0.heap.size<=k):UpW w0 W' xb hb back sb rb fb hp n va v s:=
 ⟨h.bx.eq (ho.block _ h.bx.lt hx),⟨h.sr.s1.off ho (hX _ (.inl (.inl rfl))) (hX _ (.inl (.inr rfl))),h.sr.hp.off ho (fun k hk=>hX k (.inr (.inr hk))),Ni h.sr.sp ho (hX _ (.inr (.inl rfl))),h.sr.bel.trans (ho.below h.sr.bel.size hge),h.sr.ge,h.sr.sep,h.sr.sf⟩,h.ok,h.lens,h.sx⟩
theorem UpW.go (h:UpW w0 W xb hb back sb rb fb hp n va v s) (hb':Below W.heap.size W W'):UpW w0 W' xb hb back sb rb fb hp n va v s:=h.off (X:=fun _=>False) (.of_below hb') (fun _ _ h=>h) (fun h=>h) (fun _ h=>h.elim)
theorem Qw (f:List (Option Int)) (i:Nat) (d:Int):(As f i d).2.length=f.length:=by
 unfold As
 split
 ·split
  ·rfl
  ·exact Bj6
 ·exact Bj6
theorem Fi {f:List (Option Int)} {i:Nat} {d:Int} (h:(As f i d).1=false):(As f i d).2=f/\∃e,f.getD i none=some e/\e<=d:=by
 unfold As at h ⊢
 split
 ·rename_i u hu
  rw [hu] at h;simp only at h
  split at h
  ·rename_i hle
   rw [if_pos hle];exact ⟨rfl,u,hu,hle⟩
  ·cases h
 ·rename_i hu
  rw [hu] at h
  cases h
theorem Gj {f:List (Option Int)} {i:Nat} {d:Int} (h:(As f i d).1=true):(As f i d).2=f.set i (some d)/\∀e,f.getD i none=some e->d<e:=by
 unfold As at h ⊢
 split
 ·rename_i u hu
  rw [hu] at h;simp only at h
  split at h
  ·cases h
  ·rename_i hle
   rw [if_neg hle];refine ⟨rfl,fun e he=>?_⟩;rw [hu] at he
   cases he
   omega
 ·rename_i hu
  exact ⟨rfl,fun e he=>by rw [hu] at he;cases he⟩
end
def Dg (w0 W:World) (xb hb:Nat) (back:Bool) (sb rb fb hp n:Nat) (va v:Value) (s':US) (e:Ending) (w':World):Prop:=
 e=.returned (.tuple #[])/\∃v',UpW w0 w' xb hb back sb rb fb hp n va v' s'/\OffX (UX sb rb fb hp va v) W w'/\(v'.ownBlock=v.ownBlock\/∃g,v'.ownBlock=some g/\W.heap.size<=g)
theorem Gv (w0 W:World) (xb hb:Nat) (back:Bool) (sb rb fb hp n:Nat) (va v:Value) (s:US) (u:Nat) (d b:Int) (h:UpW w0 W xb hb back sb rb fb hp n va v s) (hu:u<n) (hn:n<=60000):
  Calls Tryz.prog 235 #[.pointer (some ⟨xb,0,none⟩),.int .i64 (u:Int),.int .u64 d,.int .i64 b] W (Dg w0 W xb hb back sb rb fb hp n va v (Ct s u d b)):=by
 have HLS:=Bi5 (La sb rb u d s.far W h.sr.s1 (by rw [h.lens.1];exact hu));have HH:=Bi5 h;have HU:=Bi5 (show Ct s u d b=if (As s.far u d).1 then ⟨(As s.far u d).2,s.bys.set u b,(Bf s.l s.p u d).2.1,(Bf s.l s.p u d).2.2⟩ else s from rfl);obtain ⟨x2,-⟩:=h.bx 2 _ rfl;unfold Dg
 cases hle:(As s.far u d).1 with
 |false=>
  have HF:=Bi5 (Fi hle);rw [hle] at HLS HU;clear hle h
  go_enter Tryz.func235,Tryz.ntmps235
  go_wp2_with (go_at_call 247;refine HLS.out.mono ?_;rintro e w1 ⟨rfl,hs1,ho1⟩;(have HS1:=Bi5 hs1);(have HO1:=Bi5 ho1);clear hs1 ho1)
  try simp only [Exit.noGoto]
  refine bodyPost_end (results_none rfl _ _ _) rfl ?_;refine ⟨rfl,v,?_,HO1.out.mono (fun k hk=>.inl hk),.inl rfl⟩;rw [HU.out,if_neg (by simp)];have h1:=HH.out;have h2:=HS1.out;rw [HF.out.1] at h2;exact ⟨h1.bx.eq (HO1.out.block _ h1.bx.lt (by rintro (e|e);exact h1.sx.2.1 e;exact h1.sx.2.2.1 e)),h1.sr.stamp h2 HO1.out,h1.ok,h1.lens,h1.sx⟩
 |true=>
  have HF:=Bi5 (Gj hle);rw [hle] at HLS HU;have HPT:=Bi5 (fun WX (hx:SrW w0 WX sb rb fb hp va v (As s.far u d).2 (s.bys.set u b) s.l s.p)=>Hb hp u d v va s.l s.p WX hx.hp h.ok (by rw [h.lens.2.2];exact hu) (by have:=h.llen;omega));have hul:u<s.bys.length:=by rw [h.lens.2.1];exact hu
  have hu0:(0:Int)<=(u:Int):=by omega
  have hu1:(u:Int)<(n:Int):=by omega
  have hne:(xb=fb)=False:=by simpa using h.sx.2.2.2.1
  unfold Fo at HPT;clear hle h
  go_enter Tryz.func235,Tryz.ntmps235
  go_wp2_with (first
   |(go_at_call 247;refine HLS.out.mono ?_;rintro e w1 ⟨rfl,hs1,ho1⟩;(have hsr1:=HH.out.sr.stamp hs1 ho1);(have hbx1:=HH.out.bx.eq (ho1.block _ HH.out.bx.lt (by rintro (e|e);exact HH.out.sx.2.1 e;exact HH.out.sx.2.2.1 e)));(obtain ⟨x3,-⟩:=hbx1 3 _ rfl);(obtain ⟨x4,-⟩:=hbx1 4 _ rfl);(have x4s:(w1.setCell ⟨fb,u,none⟩ (.int .i64 b)).cell? ⟨xb,4,none⟩=some (.pointer (some ⟨hp,0,none⟩)):=by rw [Bj3 _ _ _ _ (fun e=>HH.out.sx.2.2.2.1 (by cases e;rfl))];exact x4);(have y0:=(hsr1.sp.cellAt u (by omega)).trans (Bj0 (by rw [Bm7];exact hul)));(have z0:=hsr1.sp.frozenAt u);(have HSR1:=Bi5 hsr1);(have HBX1:=Bi5 hbx1);(have HO1:=Bi5 ho1);(have HSR2:=Bi5 (hsr1.step u b));clear hs1 ho1 hsr1 hbx1)
   |(go_at_call 163;refine (HPT.out _ HSR2.out).mono ?_;rintro e w3 ⟨rfl,v3,hh3,ho3,hv3⟩;(have HSR3:=Bi5 (HSR2.out.heap hh3 ho3 hv3));(have HO3:=Bi5 ho3);(have HV3:=Bi5 hv3);clear hh3 ho3 hv3))
  try simp only [Exit.noGoto]
  refine bodyPost_end (results_none rfl _ _ _) rfl ?_;have hsz1:=HO1.out.size;have hwz:(w1.setCell ⟨fb,u,none⟩ (.int .i64 b)).heap.size=w1.heap.size:=by simp [World.setCell]
  have h0:=HH.out;have hx1:xb<w1.heap.size:=HBX1.out.lt;have hbx2:PB (w1.setCell ⟨fb,u,none⟩ (.int .i64 b)) xb _:=HBX1.out.setAt (fun e=>h0.sx.2.2.2.1 e.symm) _;obtain ⟨l1,l2,l3,-⟩:=Dt h0.ok (v:=u) (by rw [h0.lens.2.2];exact hu) d;refine ⟨rfl,v3,⟨?_,?_,?_,?_,?_⟩,?_,?_⟩
  ·exact hbx2.eq (HO3.out.block _ (by rw [hwz];exact hx1) h0.sx.2.2.2.2)
  ·rw [HU.out,if_pos (by simp)]
   exact HSR3.out
  ·rw [HU.out,if_pos (by simp)]
   exact l1
  ·rw [HU.out,if_pos (by simp)]
   exact ⟨(Qw _ _ _).trans h0.lens.1,Bj6.trans h0.lens.2.1,l2.trans h0.lens.2.2⟩
  ·refine ⟨h0.sx.1,h0.sx.2.1,h0.sx.2.2.1,h0.sx.2.2.2.1,?_⟩
   rintro (e|e|e)
   ·exact h0.sx.2.2.2.2 (.inl e)
   ·rcases HV3.out with k|⟨g,k,hg⟩
    ·exact h0.sx.2.2.2.2 (.inr (.inl (k.symm.trans e)))
    ·rw [k] at e
     cases e
     omega
   ·exact h0.sx.2.2.2.2 (.inr (.inr e))
  ·exact ((HO1.out.mono (fun k hk=>Or.inl hk)).trans (OffX.set (X:=UX sb rb fb hp va v) (b:=fb) (j:=u) (.int .i64 b) (.inr (.inl rfl)))).trans (HO3.out.mono (fun k hk=>.inr (.inr hk)))
  ·rcases HV3.out with k|⟨g,k,hg⟩
   ·exact .inl k
   ·exact .inr ⟨g,k,by omega⟩
end
end Go.Proofs.YteaaapdjplbljaaGreat
