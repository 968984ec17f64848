/- Parts; no condition. -/
import Derived.Test.YteaaapdjplbljaaGreatVa26
import Derived.Test.YteaaapdjplbljaaGreatVa28
set_option linter.unusedVariables false
set_option linter.unusedSimpArgs false
set_option linter.unnecessarySimpa false
set_option maxRecDepth 100000
set_option maxHeartbeats 8000000
namespace Go.Proofs.YteaaapdjplbljaaGreat
section
open Go Go.Proofs Go.RowKit
def Bj0 {α:Type} (F:Fence) (n:Nat) (P:Program) (g:Nat) (lb:Array Value) (encs:α->Array Value) (Ok Done:List α->Prop) (Kp:Nat->Prop) (w:World):Prop:=
 ∀(l:Nat) (J Jx:List α->World->Prop) (W:World),KeepX Kp w W->(∀pre W1 W2,J pre W1->OffX (W.heap.size<=·) W1 W2->J pre W2)->(∀pre W1 W2,Jx pre W1->OffX (W.heap.size<=·) W1 W2->Jx pre W2)->
  (∀pre x W1,J pre W1->Ok (pre++[x])->W.heap.size<=W1.heap.size->YieldAt F (n-1) P l (encs x) W1 fun e W'=>
   (e=.returned (.bool true)/\J (pre++[x]) W'/\OffX (fun k=>k<W.heap.size/\¬Kp k) W1 W')\/(e=.returned (.bool false)/\Jx (pre++[x]) W'/\OffX (fun k=>k<W.heap.size/\¬Kp k) W1 W'))->
  J [] W->
  CallsIn F n P g (#[.func (.yield l) #[] #[]]++lb) W fun e W'=>(∃v,e=.returned v)/\((∃parts,Done parts/\J parts W')\/∃pre,Ok pre/\Jx pre W')
def Bi0 {α:Type} (X:Nat->Prop) (I:List α->World->Prop) (Ix:Code->List α->World->Prop) (xs:List α) (W:World):Exit->Act->World->Prop
 | .normal,_,W'=>OffX X W W'/\I xs W'
 | .ret,_,W'=>OffX X W W'/\Ix .ret xs W'
 | .exit id,_,W'=>OffX X W W'/\Ix (.exit id) xs W'
 | .goto t,_,W'=>OffX X W W'/\Ix (.goto t) xs W'
 | .panic _,_,_=>False
 | .outgrown,_,_=>False
variable {F:Fence} {n:Nat} {P:Program}
def Ba0 (Kp:Nat->Prop) (D k:Nat):Prop:=k<D/\¬Kp k
def Zw (D k:Nat):Prop:=D+1<=k
theorem Xi {α:Type} {g:Operand} {ps:Array Tmp} {assign body:Code} {Q:Exit->Act->World->Prop} {a:Act} {w:World}
  (hro:F.round=none) (h1:1<=n) {gf:Nat} {lb:Array Value} (hg:a.eval g=.func (.func gf) #[] lb) (hFg:F.fn gf) (eg:∀args w,(callFunc gf args).run P w=.ok (.enter gf args) w)
  {encs:α->Array Value} {Ok Done:List α->Prop} {Kp:Nat->Prop} (hseq:Bj0 F (n-1) P gf lb encs Ok Done Kp w) (hB:∀k,Kp k->k<w.heap.size) (hps:∀x,(encs x).size=ps.size)
  (I:List α->World->Prop) (Ix:Code->List α->World->Prop)
  (hI:∀pre W W',I pre W->OffX (Zw w.heap.size) W W'->I pre W') (hIx:∀c pre W W',Ix c pre W->OffX (Zw w.heap.size) W W'->Ix c pre W') (h0:I [] w) (a₁:α->World->Act) (W₁:α->World->World) (hW₁:∀x W,Below W.heap.size W (W₁ x W))
  (hassign:∀(l:Nat) (x:α) (W:World) (K:Act->World->Prop),K (a₁ x W) (W₁ x W)->
   assign.wpIn (F.inRound l) (n-1-1) P (Exit.then K (fun _ _ _=>False)) { tmps:=(ps.zip (encs x)).foldl (fun t (p,v)=>t.setIfInBounds p v) a.tmps,defers:=[] } W)
  (hbody:∀(l:Nat) (pre:List α) (x:α) (W0 W:World),I pre W->Ok (pre++[x])->w.heap.size+2<=W0.heap.size->OffX (Zw w.heap.size) (W₁ x W0) W->
   body.wpIn (F.inRound l) (n-1-1) P (Bi0 (Ba0 Kp w.heap.size) I Ix (pre++[x]) W) (a₁ x W0) W)
  (hdone:∀(D:Nat) (parts:List α) (W:World),D=w.heap.size->Done parts->I parts W->W.heap[D]? =some (.deferred (some []))->Q .normal { a with defers:={ target:=.collected D,args:=#[] }::a.defers } W)
  (hstop:∀(D:Nat) (c:Code) (pre:List α) (W:World),D=w.heap.size->Ok pre->Ix c pre W->W.heap[D]? =some (.deferred (some []))->c.wpIn F n P Q { a with defers:={ target:=.collected D,args:=#[] }::a.defers } W):
  (Code.rangeFunc g ps assign body).wpIn F n P Q a w:=by
 refine wpIn_rangeFunc fun fn hfn=>?_;rw [hro];obtain ⟨R,hR⟩:∃R:LoopState->Option Code->Loop,R=fun st pe=>{ state:=st,pending:=pe,fn,tmps:=a.tmps,params:=ps,assign,body,defers:=w.heap.size }:=⟨_,rfl⟩;obtain ⟨D,hD⟩:∃D,w.heap.size=D:=⟨_,rfl⟩;obtain ⟨V,hV⟩:∃V,V=(w.alloc (.deferred (some []))).alloc (.loop (R .ready none)):=⟨_,rfl⟩;have loopV:V.heap[D+1]? =some (.loop (R .ready none)):=by
  have:=World.alloc_heap_new (w.alloc (.deferred (some []))) (.loop (R .ready none));rw [World.size_alloc,hD] at this;rw [hV];exact this
 have markV:V.heap[D]? =some (.deferred (some [])):=by
  have:=World.alloc_heap_new w (.deferred (some []));rw [hD] at this;rw [hV,Below.heap_alloc _ _ _ (by rw [World.size_alloc];omega)];exact this
 have growV:Below w.heap.size w V:=by rw [hV];exact ((Below.refl _ w).alloc (Bj5 _) _).alloc (by simp) _
 have sizeV:V.heap.size=D+2:=by rw [hV];simp;omega
 have isR:∀st pe,(R st pe).params=ps/\(R st pe).tmps=a.tmps/\(R st pe).fn=fn/\(R st pe).assign=assign/\(R st pe).body=body/\(R st pe).state=st/\(R st pe).pending=pe:=fun st pe=>by rw [hR];exact ⟨rfl,rfl,rfl,rfl,rfl,rfl,rfl⟩
 refine ⟨D+1,[{ target:=.collected D,args:=#[] }],V,{ target:=.fn (.func gf) lb,args:=#[.func (.yield (D+1)) #[] #[]] },V,gf,#[.func (.yield (D+1)) #[] #[]]++lb,V,?_,?_,?_,?_,fun _=>h1,?_⟩
 ·have:=run_enterLoop_outer (P:=P) (w:=w) fn a.tmps ps assign body
  rw [this,hV,hR,hD]
 ·simp only [resolve,hg]
  simp [go_sem]
 ·intro f' hf'
  simp [Target.leads] at hf';subst hf';exact hFg
 ·simp [invoke,go_sem,eg]
 ·rw [hD] at hI hIx hbody hdone hstop hB growV
  refine (hseq (D+1) (fun pre W=>I pre W/\W.heap[D+1]? =some (.loop (R .ready none))/\W.heap[D]? =some (.deferred (some [])))
   (fun pre W=>∃c,Ix c pre W/\W.heap[D+1]? =some (.loop (R .done (some c)))/\W.heap[D]? =some (.deferred (some [])))
   V ⟨growV.size,fun k hk=>growV.block k (by have:=hB k hk;omega)⟩ ?_ ?_ ?round ⟨hI _ _ _ h0 (.of_below (by rw [hD];exact growV)),loopV,markV⟩).mono ?_
  ·rintro pre W1 W2 ⟨hi,hl,hk⟩ ho
   refine ⟨hI _ _ _ hi (ho.mono fun k e=>by have e:V.heap.size<=k:=e;show D+1<=k;omega),?_,?_⟩
   ·rw [ho.block (D+1) (Bk0.1 hl).1 (fun e=>by have e:V.heap.size<=D+1:=e;omega)];exact hl
   ·rw [ho.block D (Bk0.1 hk).1 (fun e=>by have e:V.heap.size<=D:=e;omega)];exact hk
  ·rintro pre W1 W2 ⟨c,hi,hl,hk⟩ ho
   refine ⟨c,hIx _ _ _ _ hi (ho.mono fun k e=>by have e:V.heap.size<=k:=e;show D+1<=k;omega),?_,?_⟩
   ·rw [ho.block (D+1) (Bk0.1 hl).1 (fun e=>by have e:V.heap.size<=D+1:=e;omega)];exact hl
   ·rw [ho.block D (Bk0.1 hk).1 (fun e=>by have e:V.heap.size<=D:=e;omega)];exact hk
  case round=>
   rintro pre x W0 ⟨hi0,hl0,hk0⟩ hpx hsz0;have hlt0:D+1<W0.heap.size:=(Bk0.1 hl0).1;have hgr:=hW₁ x W0;obtain ⟨e1,e2,e3,e4,e5,e6,e7⟩:=isR .ready none;have hy:=run_yield (P:=P) (args:=encs x) hl0 (by rw [e1];exact hps x);rw [e1,e2,e3,e4,e5] at hy;have hl:(W₁ x W0).heap[D+1]? =some (.loop (R .ready none)):=(hgr.block _ hlt0).trans hl0;have hk:(W₁ x W0).heap[D]? =some (.deferred (some [])):=(hgr.block _ (by omega)).trans hk0;have hi:I pre (W₁ x W0):=hI _ _ _ hi0 (.of_below hgr);refine ⟨fn,_,assign,body,hy,roundIn_of_wpIn hfn (hassign _ x W0 _ ⟨_,run_beginRound hl e6,?_⟩)⟩;obtain ⟨W,hW⟩:∃W,W=W₁ x W0:=⟨_,rfl⟩;rw [<-hW] at hl hk hi hgr ⊢;have hlt:D+1<W.heap.size:=(Bk0.1 hl).1;obtain ⟨Wb,hWb⟩:∃Wb,Wb=W.putObj (D+1) (.loop { R .ready none with state:=.busy }):=⟨_,rfl⟩;rw [<-hWb];have hlb:Wb.heap[D+1]? =some (.loop { R .ready none with state:=.busy }):=by rw [hWb];exact World.putObj_heap_same hlt
   have hkb:Wb.heap[D]? =some (.deferred (some [])):=by rw [hWb];exact (World.putObj_heap_other (by omega)).trans hk
   have hob:OffX (Zw D) W Wb:=by rw [hWb];exact .put _ (Bj5 _)
   have hsb:W.heap.size<=Wb.heap.size:=hob.size;have hnk:¬Kp (D+1):=fun h=>by have:=hB _ h;omega
   have hx1:OffX (fun k=>k<V.heap.size/\¬Kp k) W0 Wb:=(OffX.of_below hgr).trans (by rw [hWb];exact .put _ ⟨by omega,hnk⟩);refine wpIn_mono (hbody _ pre x W0 Wb (hI _ _ _ hi hob) hpx (by omega) (by rw [<-hW];exact hob)) ?_;have fin:∀(jump:Option Code) (W3:World),OffX (Ba0 Kp D) Wb W3->∃W4,(Instr.endRound (D+1) jump).run P W3=.ok (.bool jump.isNone) W4/\OffX (Zw D) W3 W4/\OffX (fun k=>k<V.heap.size/\¬Kp k) W0 W4/\
     W4.heap[D+1]? =some (.loop (R (if jump.isNone then .ready else .done) jump))/\W4.heap[D]? =some (.deferred (some [])):=by
    intro jump W3 hk3;have hl3:W3.heap[D+1]? =some (.loop { R .ready none with state:=.busy }):=(hk3.block _ (Bk0.1 hlb).1 (fun h=>by have:=h.1;omega)).trans hlb;have hd3:W3.heap[D]? =some (.deferred (some [])):=(hk3.block _ (Bk0.1 hkb).1 (fun h=>by have:=h.1;omega)).trans hkb;have he:=run_endRound (P:=P) jump hl3;refine ⟨_,he,.put _ (Bj5 _),hx1.trans ((hk3.mono fun k h=>⟨by have:=h.1;omega,h.2⟩).trans (.put _ ⟨by omega,hnk⟩)),?_,(World.putObj_heap_other (by omega)).trans hd3⟩;rw [World.putObj_heap_same (Bk0.1 hl3).1,hR]
   rintro e a3 W3 hp
   cases e with
   |normal=>
    obtain ⟨hk3,hi3⟩:=hp;obtain ⟨W4,r1,r2,r3,r4,r5⟩:=fin none W3 hk3;exact ⟨_,_,r1,.inl ⟨rfl,⟨hI _ _ _ hi3 r2,r4,r5⟩,r3⟩⟩
   |ret=>
    obtain ⟨hk3,hi3⟩:=hp;obtain ⟨W4,r1,r2,r3,r4,r5⟩:=fin (some .ret) W3 hk3;exact ⟨_,_,r1,.inr ⟨rfl,⟨.ret,hIx _ _ _ _ hi3 r2,r4,r5⟩,r3⟩⟩
   |exit id=>
    obtain ⟨hk3,hi3⟩:=hp;obtain ⟨W4,r1,r2,r3,r4,r5⟩:=fin (some (.exit id)) W3 hk3;exact ⟨_,_,r1,.inr ⟨rfl,⟨.exit id,hIx _ _ _ _ hi3 r2,r4,r5⟩,r3⟩⟩
   |goto t=>
    obtain ⟨hk3,hi3⟩:=hp;obtain ⟨W4,r1,r2,r3,r4,r5⟩:=fin (some (.goto t)) W3 hk3;exact ⟨_,_,r1,.inr ⟨rfl,⟨.goto t,hIx _ _ _ _ hi3 r2,r4,r5⟩,r3⟩⟩
   |panic ch=>exact hp.elim
   |outgrown=>exact hp.elim
  ·rintro e W2 ⟨⟨v,rfl⟩,⟨parts,hdn,hi,hl,hk⟩|⟨pre,hpp,c,hi,hl,hk⟩⟩
   ·obtain ⟨e1,e2,e3,e4,e5,e6,e7⟩:=isR .ready none
    have he:=run_endLoop (P:=P) hl (by rw [e6];simp);rw [e7] at he;exact ⟨none,_,he,hdone D parts _ rfl hdn (hI _ _ _ hi (.put _ (Bj5 _))) ((World.putObj_heap_other (by omega)).trans hk)⟩
   ·obtain ⟨e1,e2,e3,e4,e5,e6,e7⟩:=isR .done (some c)
    have he:=run_endLoop (P:=P) hl (by rw [e6];simp);rw [e7] at he;exact ⟨some c,_,he,hstop D c pre _ rfl hpp (hIx _ _ _ _ hi (.put _ (Bj5 _))) ((World.putObj_heap_other (by omega)).trans hk)⟩
end
section
namespace Dj
open Go Go.Proofs Go.RowKit Go.Shelf Hp Ch Ad
attribute [local go_sem] Oper.semAt_some
structure RnM (K:DjK) (wr:World) (v:Value) (st:DS) (Ds:List Nat) (tb:Nat):Prop where
 mem:K.Mem wr v st
 tbc:wr.cell? ⟨tb,0,none⟩=some (.pointer (some ⟨K.xb,0,none⟩))
 tbx:¬K.C tb/\¬K.M v tb/\K.B<=tb
 mks:∀D∈Ds,wr.heap[D]? =some (.deferred (some []))/\¬K.C D/\¬K.M v D/\K.B<=D
 nod:Ds.Nodup
structure RnI (K:DjK) (wr:World) (v:Value) (st:DS) (s:Nat) (cur:Int) (out:List (Int×Int)) (done:Int->Int->Prop) (Ds:List Nat) (tb:Nat):Prop where
 m:RnM K wr v st Ds tb
 dj:Dj (XD K.es K.bk) (s:Int) (Ev st.far) st.l cur out done
 dn:∀a∈out,∀i,done a.1 i
 dn2:∀u i,done u i->∃a∈out,a.1=u
 ok:OkD K.es K.bk K.n (s:Int) out
theorem RnM.off {X:Nat->Prop} {K:DjK} {wr w':World} {v:Value} {st:DS} {Ds:List Nat} {tb:Nat} (h:RnM K wr v st Ds tb) (ho:OffX X wr w') (h1:∀k,K.C k\/K.M v k->¬X k) (h2:¬X tb) (h3:∀D∈Ds,¬X D):RnM K w' v st Ds tb:=
 ⟨h.mem.off ho h1,ho.cell h.tbc h2,h.tbx,fun D hD=>let ⟨m1,m2⟩:=h.mks D hD;⟨(ho.block D (Bk0.1 m1).1 (h3 D hD)).trans m1,m2⟩,h.nod⟩
theorem RnM.go {K:DjK} {wr w':World} {v:Value} {st:DS} {Ds:List Nat} {tb:Nat} (h:RnM K wr v st Ds tb) (hb:Below wr.heap.size wr w'):RnM K w' v st Ds tb:=h.off (X:=fun _=>False) (.of_below hb) (fun _ _ h=>h) (fun h=>h) (fun _ _ h=>h)
structure RgD (K:DjK) (Wl Wx:World) (v2 v:Value) (st:DS) (s:Nat) (out:List (Int×Int)) (done:Int->Int->Prop) (Ds:List Nat) (tb dB vn:Nat) (d:Int) (pre:List Pp) (M:Nat) (J:List (Int×Int)->World->Prop):Prop where
 m:RnM K Wx v st Ds tb
 dc:Wx.cell? ⟨dB,0,none⟩=some (.int .u64 d)
 dx:¬K.C dB/\¬K.M v dB/\K.B<=dB
 ux:∀k,K.M v k->K.M v2 k\/Wl.heap.size+2<=k
 dj:Dj (XD K.es K.bk) (s:Int) (Ev st.far) st.l d out (fun u j=>done u j\/(u=(vn:Int)/\∃x∈pre,x.1=j))
 wn:Dd K.n st.far st.l<=M
 sz:Wl.heap.size<=Wx.heap.size
 jj:J out Wx
theorem RgD.turn {K:DjK} {Wl Wx Wy:World} {v2 v:Value} {st st0:DS} {s:Nat} {out:List (Int×Int)} {done:Int->Int->Prop} {Ds:List Nat} {tb dB vn:Nat} {d:Int} {pre:List Pp} {M:Nat} {J:List (Int×Int)->World->Prop} (h:RgD K Wl Wx v2 v st s out done Ds tb dB vn d pre M J)
  (hJ:∀pre W1 W2,J pre W1->OffX (K.B<=·) W1 W2->J pre W2) (h0:RnM K Wl v2 st0 Ds tb) (hd:dB<Wl.heap.size) (ho:OffX (Av Wl.heap.size) Wx Wy):RgD K Wl Wy v2 v st s out done Ds tb dB vn d pre M J:=by
 have hn:∀k,k<Wl.heap.size->¬Av Wl.heap.size k:=fun k hk e=>by unfold Av at e;omega
 refine ⟨h.m.off ho (fun k hk=>?_) (hn _ (Bk3 _ _ h0.tbc)) (fun D hD=>hn _ (Bk0.1 (h0.mks D hD).1).1),ho.cell h.dc (hn _ hd),h.dx,h.ux,h.dj,h.wn,Bj7 h.sz ho.size,hJ _ _ _ h.jj (ho.mono fun k hk=>by unfold Av at hk;have:=h0.mem.bs;omega)⟩
 rcases hk with hk|hk
 ·exact hn k (h0.mem.con.lt k hk)
 ·rcases h.ux k hk with e|e
  ·exact hn k (h0.mem.mlt k e)
  ·intro e2
   unfold Av at e2;omega
theorem Bf5 {K:DjK} {w5 w7 W0 Wx w8 w9:World} {v2 v9 v8:Value} {st0 st5 st':DS} {s:Nat} {out:List (Int×Int)} {done:Int->Int->Prop} {Ds:List Nat} {tb dB vn t j:Nat} {d:Int} {pre:List Pp} {xe:EdgeD} {M:Nat} {J:List (Int×Int)->World->Prop}
  (hE:EOK K.n K.es) (h9:RgD K w7 Wx v2 v9 st' s out done Ds tb dB vn d pre M J) (h7:RnM K w7 v2 st0 Ds tb) (h5:RnM K w5 v2 st5 Ds tb) (hd:dB<w7.heap.size) (hsz:w7.heap.size+2<=W0.heap.size) (hWx:W0.heap.size+1<=Wx.heap.size) (hz7:w7.heap.size=w5.heap.size+3)
  (hx:((j:Int),xe)∈Jg K.es K.bk vn) (htt:Wf K.bk xe=(t:Int)) (ho2:((vn:Int),d)∈out) (hJ:∀pre W1 W2,J pre W1->OffX (K.B<=·) W1 W2->J pre W2) (hb8:Below Wx.heap.size Wx w8)
  (hu8:K.Mem w9 v8 (Cj st' t (d+xe.w))) (ho8:OffX (K.M v9) w8 w9) (hv8:v8.ownBlock=v9.ownBlock\/∃g,v8.ownBlock=some g/\w8.heap.size<=g):
  KeepX (Nj (KpA K.lo K.hi w5.heap.size) w7.heap.size) Wx w9/\∃v st',RgD K w7 w9 v2 v st' s out done Ds tb dB vn d (pre++[((j:Int),xe)]) M J:=by
 have hs8:=hb8.size;have hs9:=ho8.size;have hx8:∀k,K.M v8 k->K.M v9 k\/w8.heap.size<=k:=by
  rintro k (e|e|e|e)
  ·exact .inl (.inl e)
  ·exact .inl (.inr (.inl e))
  ·rcases hv8 with h|⟨g,h,hg⟩
   ·exact .inl (.inr (.inr (.inl (h▸e))))
   ·rw [h] at e
    cases e
    exact .inr hg
  ·exact .inl (.inr (.inr (.inr e)))
 have hnk:∀k,w5.heap.size<=k->k<w7.heap.size+2->¬K.M v9 k:=fun k h1 h2 e=>by
  rcases h9.ux k e with e2|e2
  ·have:=h5.mem.mlt k e2
   omega
  ·omega
 have hblk:∀k,k<Wx.heap.size->¬K.M v9 k->w9.heap[k]? =Wx.heap[k]?:=fun k h1 h2=>(ho8.block k (by omega) h2).trans (hb8.block k h1);have hlx:=h9.sz;have hoB:OffX (K.B<=·) Wx w9:=(OffX.of_below hb8).trans (ho8.mono fun k hk=>h9.m.mem.ge k (.inr hk));have htl:=Bk3 _ _ h9.m.tbc;have hst:=Bh0 hE hx h9.m.mem.ok h9.m.mem.lens.1 h9.m.mem.lens.2 ho2 h9.dj htt;refine ⟨⟨by omega,fun k hk=>?_⟩,v8,_,⟨hu8,?_,⟨h9.m.tbx.1,fun e=>?_,h9.m.tbx.2.2⟩,fun D hD=>?_,h9.m.nod⟩,?_,⟨h9.dx.1,fun e=>?_,h9.dx.2.2⟩,fun k e=>?_,?_,Bj7 hst.2 h9.wn,by omega,hJ _ _ _ h9.jj hoB⟩
 ·have hc:=h7.mem.con.hi
  rcases hk with (h|h)|h|h
  ·exact hblk k (by omega) (h9.m.mem.sep k (.inr (.inl h)))
  ·exact hblk k (by omega) (hnk k (by omega) (by omega))
  ·exact hblk k (by omega) (hnk k (by omega) (by omega))
  ·exact hblk k (by omega) (hnk k (by omega) (by omega))
 ·exact (Bm0 (a:=⟨tb,0,none⟩) (hblk tb htl h9.m.tbx.2.1)).trans h9.m.tbc
 ·rcases hx8 _ e with e2|e2
  ·exact h9.m.tbx.2.1 e2
  ·have htl2:tb<Wx.heap.size:=htl
   omega
 ·obtain ⟨m1,m2,m3,m4⟩:=h9.m.mks D hD
  have hlt:=(Bk0.1 m1).1;refine ⟨(hblk D hlt m3).trans m1,m2,fun e=>?_,m4⟩
  rcases hx8 _ e with e2|e2
  ·exact m3 e2
  ·omega
 ·exact (Bm0 (a:=⟨dB,0,none⟩) (hblk dB (by omega) h9.dx.2.1)).trans h9.dc
 ·rcases hx8 _ e with e2|e2
  ·exact h9.dx.2.1 e2
  ·omega
 ·rcases hx8 _ e with e2|e2
  ·exact h9.ux k e2
  ·exact .inr (by omega)
 ·refine Dj.full hst.1 (fun a ha i v w hd' _=>?_)
  rcases hd' with h|⟨h1,x,hx',h2⟩
  ·exact .inl (.inl h)
  ·rcases Bm6.1 hx' with hx'|hx'
   ·exact .inl (.inr ⟨h1,x,hx',h2⟩)
   ·rw [Bl0] at hx'
    subst hx';exact .inr ⟨h1,h2.symm⟩
def RnJ (K:DjK) (s tb yl:Nat) (J:List (Int×Int)->World->Prop) (m:Nat) (a:Act) (wr:World):Prop:=
 ∃u3 u4 u5 u6 u7 u8 u9 u10 u11 u12 u13 u14 u15 u16 u17 u18 u19 u20 u21 u22 u23 u24 u25 u26 u27 u28 u29 u30 u31 u32 u33 u34 u35 u36 u37 u38 u39 u40 u41 u42 u43 u44 u45 u46 u47 u48 u49 u50 u51 u52 u53 u54 u55 u56 u57 u58 u59 u60 u61 u62 u63 u64 u65:Value,∃Ds:List Nat,a={ tmps:=#[.pointer (some ⟨K.xb,0,none⟩),.func (.yield yl) #[] #[],.pointer (some ⟨tb,0,none⟩),u3,u4,u5,u6,u7,u8,u9,u10,u11,u12,u13,u14,u15,u16,u17,u18,u19,u20,u21,u22,u23,u24,u25,u26,u27,u28,u29,u30,u31,u32,u33,u34,u35,u36,u37,u38,u39,u40,u41,u42,u43,u44,u45,u46,u47,u48,u49,u50,u51,u52,u53,u54,u55,u56,u57,u58,u59,u60,u61,u62,u63,u64,u65],defers:=Rp Ds }/\Aside (∃v st cur out done,RnI K wr v st s cur out done Ds tb/\J out wr/\Dd K.n st.far st.l<=m)
theorem DjK.Mem.pop {K:DjK} {W W':World} {v v':Value} {s:DS} (h:K.Mem W v s) (hne:s.l≠[]) (hh:HeapW W' K.hp v' K.va (Bb s.l s.p (gI s.l 0).1.toNat 0).1 (Bb s.l s.p (gI s.l 0).1.toNat 0).2)
  (ho:OffX (HX K.hp v K.va) W W') (hv:v'.ownBlock=v.ownBlock):K.Mem W' v' ⟨s.far,(Bb s.l s.p (gI s.l 0).1.toNat 0).1,(Bb s.l s.p (gI s.l 0).1.toNat 0).2⟩/\∀y,y∈(Bb s.l s.p (gI s.l 0).1.toNat 0).1↔y∈s.l/\y.1≠(gI s.l 0).1:=by
 have h0:0<s.l.length:=List.length_pos_iff.2 hne;obtain ⟨p1,p2,p3⟩:=h.ok.c.pos 0 h0;have e:(((gI s.l 0).1.toNat:Nat):Int)=(gI s.l 0).1:=by omega
 obtain ⟨d1,d2,d3,d4⟩:=Ks h.ok p2 h0 p3 e.symm;rw [e] at d4;have hx:∀k,HX K.hp v' K.va k->HX K.hp v K.va k:=by
  rintro k (hk|hk|hk)
  ·exact .inl hk
  ·exact .inr (.inl (hv▸hk))
  ·exact .inr (.inr hk)
 have hM:∀k,K.M v' k->K.M v k:=fun k hk=>hk.imp id (hx k);exact ⟨⟨h.con.kept ho.size (fun k hk=>ho.block k (h.con.lt k hk) (fun e=>h.sep k hk (.inr e))),h.st.off ho (fun e=>h.sp2 _ (.inl rfl) e) (fun e=>h.sp2 _ (.inr rfl) e),hh,d1,⟨h.lens.1,d2.trans h.lens.2⟩,fun k hk hm=>h.sep k hk (hM k hm),fun k hk hm=>h.sp2 k hk (hx k hm),fun k hk=>h.ge k (hk.imp id (hM k)),by have:=ho.size;have:=h.bs;omega⟩,d4⟩
def Bd7 (K:DjK) (s yl m:Nat) (J Jx:List (Int×Int)->World->Prop):Prop:=
 ∀pre x W1,J pre W1->OkD K.es K.bk K.n (s:Int) (pre++[x])->K.B<=W1.heap.size->YieldAt Fence.wide m Tryz.prog yl (Zk x) W1 fun e W'=>
  (e=.returned (.bool true)/\J (pre++[x]) W'/\OffX (fun k=>k<K.B) W1 W')\/(e=.returned (.bool false)/\Jx (pre++[x]) W'/\OffX (fun k=>k<K.B) W1 W')
theorem Al6 (K:DjK) (W:World) (v:Value) (s yl:Nat) (J Jx:List (Int×Int)->World->Prop) (h:K.Mem W v (Cj (DS.zero K.n) s 0)) (hE:EOK K.n K.es) (hs:s<K.n) (hn:K.n<=50000) (hm:K.es.length<=50000)
  (hJ:∀pre W1 W2,J pre W1->OffX (K.B<=·) W1 W2->J pre W2) (hJx:∀pre W1 W2,Jx pre W1->OffX (K.B<=·) W1 W2->Jx pre W2) (hY:∀m,Bd7 K s yl m J Jx) (hJ0:J [] W):
  Calls Tryz.prog 195 #[.pointer (some ⟨K.xb,0,none⟩),.func (.yield yl) #[] #[]] W fun e W'=>e=.returned (.tuple #[])/\((∃parts,Ak8 K.es K.bk K.n (s:Int) parts/\J parts W')\/∃pre,OkD K.es K.bk K.n (s:Int) pre/\Jx pre W'):=by
 obtain ⟨V,hV⟩:∃V,V=W.alloc (Obj.cells #[.pointer (some ⟨K.xb,0,none⟩)] 283):=⟨_,rfl⟩;have hbV:Below W.heap.size W V:=by rw [hV];exact Below.of_al _ _
 have q0:V.cell? ⟨W.heap.size,0,none⟩=some (.pointer (some ⟨K.xb,0,none⟩)):=by rw [hV];go_simp
 have HUV:=Bj3 (h.go hbV);have HU:=Bj3 h;have HV:=Bj3 hV;have HJ0:=Bj3 (hJ _ _ _ hJ0 (.of_below hbV));have HBV:=Bj3 hbV;clear h hV hbV hJ0;refine (callsIn_wide (n:=4)).1 (callsIn_of_wp_marks Tryz.func195 rfl trivial (wpIn_wide.2 ?_) rfl);simp only [Tryz.ntmps195,List.size_toArray,Bk8,Bk9,Nat.reduceAdd,Nat.reduceSub,Array.replicate_succ,Array.replicate_zero,List.push_toArray,List.append_toArray,List.nil_append,List.cons_append]
 repeat go_step
 refine wp_scope_straight ?_
 go_upto_region 1 with (fail)
 rw [<-HV.out]
 repeat go_step
 go_step3
 repeat go_step
 refine wp_loop_ghost_k (RnJ K s W.heap.size yl J) (Dd K.n (Cj (DS.zero K.n) s 0).far (Cj (DS.zero K.n) s 0).l) ?_ ?_
 ·unfold RnJ
  iterate 63 apply Exists.intro
  refine ⟨[],rfl,v,_,0,[],fun _ _=>False,⟨⟨HUV.out,q0,⟨fun e=>absurd (HU.out.con.lt _ e) (Nat.lt_irrefl _),fun e=>absurd (HU.out.mlt _ e) (Nat.lt_irrefl _),HU.out.bs⟩,(fun _ h=>nomatch h),List.nodup_nil⟩,Bd0 hs _ _,(fun _ h=>nomatch h),(fun _ _ h=>h.elim),⟨List.Pairwise.nil,(fun _ h=>nomatch h)⟩⟩,HJ0.out,Bj5 _⟩
 clear HUV HV q0 HJ0 HBV;intro m a wr hI J9 K9 hJ9 hK9;unfold RnJ at hI;obtain ⟨u3,u4,u5,u6,u7,u8,u9,u10,u11,u12,u13,u14,u15,u16,u17,u18,u19,u20,u21,u22,u23,u24,u25,u26,u27,u28,u29,u30,u31,u32,u33,u34,u35,u36,u37,u38,u39,u40,u41,u42,u43,u44,u45,u46,u47,u48,u49,u50,u51,u52,u53,u54,u55,u56,u57,u58,u59,u60,u61,u62,u63,u64,u65,Ds,rfl,HA⟩:=hI;obtain ⟨v',st,cur,out,done,hI,hjr,hw⟩:=HA.out;have HI:=Bj3 hI;have HWM:=Bj3 hw;have HJR:=Bj3 hjr;have tbc:=hI.m.tbc;have x10:=(hI.m.mem.con.bx 10 _ rfl).1;have HPP:=Bj3 (Mx K.hp v' K.va st.l st.p wr hI.m.mem.hw hI.m.mem.ok (by have:=hI.m.mem.llen;omega));unfold Kv at HPP;clear hI hw HA hjr
 cases hl:st.l with
 |nil=>
  rw [hl] at HPP;have HPQ:=Bj3 (HPP.out.mono (R':=fun e w'=>e=.returned (Fh [])/\Below wr.heap.size wr w') (fun e w' h=>⟨h.1,h.2.elim (fun k=>k.2) (fun k=>absurd rfl k.1)⟩));unfold Fh at HPQ;have HL:=Bj3 hl;clear hl HPP
  go_wp2_with (go_at_call 165;refine HPQ.out.mono ?_;rintro e w2 ⟨rfl,hb2⟩;(have HB2:=Bj3 hb2);clear hb2)
  have hIo:=HI.out;have hoB:OffX (K.B<=·) wr (w2.alloc (Obj.cells #[.int .u64 0] 37)):=.of_below (HB2.out.al _)
  try simp only [Exit.noGoto]
  refine Fd Ds _ hIo.m.nod (fun D hD=>?_) (fun W9 ho9=>⟨.tuple #[],results_none rfl _ _ _,rfl,.inl ⟨out,⟨hIo.ok,fun v e hv=>?_⟩,hJ _ _ _ HJR.out (hoB.trans (ho9.mono fun k hk=>(hIo.m.mks k hk).2.2.2))⟩⟩)
  ·have h9:=(hIo.m.mks D hD).1
   rw [(HB2.out.al _).block D (Bk0.1 h9).1];exact h9
  ·have hd:=hIo.dj
   rw [HL.out] at hd;exact Dj.all (fun u v w k=>(XD.ok hE u v w k).2.2.1) hd (fun a ha i v w _=>hIo.dn a ha i) hv
 |cons y0 l0=>
  obtain ⟨y,d⟩:=y0;have hne:st.l≠[]:=by rw [hl];simp
  have hg0:gI st.l 0=(y,d):=by rw [hl];rfl
  have hin:(y,d)∈st.l:=by rw [hl];exact List.mem_cons_self ..
  have hfy:=(HI.out.dj.heap y d hin).1;have hny:=Kq hfy;rw [HI.out.m.mem.lens.1] at hny;obtain ⟨vn,rfl⟩:∃vn:Nat,y=vn:=⟨y.toNat,by have:=hny.1;omega⟩;have hvn:vn<K.n:=by have:=hny.2;omega
  have HPQ:=Bj3 (HPP.out.mono (R':=fun e w'=>e=.returned (.tuple #[.int .i64 (vn:Int),.int .u64 d,.bool true])/\∃v2,HeapW w' K.hp v2 K.va (Bb st.l st.p (gI st.l 0).1.toNat 0).1 (Bb st.l st.p (gI st.l 0).1.toNat 0).2/\OffX (HX K.hp v' K.va) wr w'/\v2.ownBlock=v'.ownBlock) (fun e w' h=>⟨by rw [h.1,hl];rfl,h.2.elim (fun k=>absurd k.1 hne) (fun k=>k.2)⟩));have HMIN:=Bj3 (show ∀z∈st.l,d<=z.2 from fun z hz=>by have:=HI.out.m.mem.ok.least hz;rw [hg0] at this;exact this);have HFY:=Bj3 hfy;have HIN:=Bj3 hin;have HPOP:=Bj3 (fun w' v2 hh ho hv=>HI.out.m.mem.pop (W':=w') (v':=v2) hne hh ho hv);rw [hg0] at HPQ HPOP;generalize (Bb st.l st.p ((vn:Int),d).1.toNat 0).1=L2 at HPQ HPOP;generalize (Bb st.l st.p ((vn:Int),d).1.toNat 0).2=P2 at HPQ HPOP;have htbn:W.heap.size<wr.heap.size:=Bk3 _ _ tbc;have HNX:=Bj3 HI.out.m.tbx;clear hl HPP hfy hny hin hne hg0
  go_upto_region 2 with (go_at_call 165;refine HPQ.out.mono ?_;rintro e w2 ⟨rfl,v2,hh2,ho2,hv2⟩;(obtain ⟨hu2,hm2⟩:=HPOP.out w2 v2 hh2 ho2 hv2);(have tbc2:=ho2.cell tbc (fun e=>HNX.out.2.1 (.inr e)));(have HU2:=Bj3 hu2);(have HM2:=Bj3 hm2);(have HO2:=Bj3 ho2);(have HV2:=Bj3 hv2);clear hu2 hm2 hh2 ho2 hv2)
  obtain ⟨W3,hW3⟩:∃W3,W3=w2.alloc (Obj.cells #[.int .u64 d] 37):=⟨_,rfl⟩;have hb3:Below w2.heap.size w2 W3:=by rw [hW3];exact Below.of_al _ _
  have d3:W3.cell? ⟨w2.heap.size,0,none⟩=some (.int .u64 d):=by rw [hW3];go_simp
  rw [<-hW3];have tbc3:=Bj4 hb3 tbc2;have hoff:OffX (K.B<=·) wr W3:=(HO2.out.mono fun k hk=>HI.out.m.mem.ge k (.inr (.inr hk))).trans (.of_below hb3);obtain ⟨hp1,hp2,hp3⟩:=Dj.pop (fun u v w k=>(XD.ok hE u v w k).2.2.1) HI.out.dj (fun a ha i v w _=>HI.out.dn a ha i) HIN.out HMIN.out (fun z=>HM2.out z) (fun i hi=>by
   obtain ⟨a,ha,e⟩:=HI.out.dn2 _ _ hi;have h9:=(HI.out.dj.lab a ha).2.2.1 d;rw [e] at h9;exact h9 HIN.out)
  have HOKP:=Bj3 (show OkD K.es K.bk K.n (s:Int) (out++[((vn:Int),d)]) from ⟨Bo3.2 ⟨HI.out.ok.1,List.pairwise_singleton _ _,fun a ha b hb=>by obtain rfl:=Bl0.1 hb;exact hp2 a ha⟩,fun a ha=>by
   rcases Bm6.1 ha with ha|ha
   ·exact HI.out.ok.2 a ha
   ·obtain rfl:=Bl0.1 ha
    exact ⟨hp3,by omega,by omega⟩⟩)
  have HP1:=Bj3 hp1;have hdb:=Wt (M:=4294967296) (by decide) (fun u v w k=>XD.ok hE u v w k) K.n (vn:Int) d [] ⟨by omega,by omega⟩ hp3 (by simp) List.nodup_nil (by simp);have hd0:0<=d:=hp1.low;have HWP:=Bj3 (show Dd K.n st.far L2<m from Nat.lt_of_lt_of_le (Nn (n:=K.n) (far:=st.far) hvn HIN.out (by rw [<-Cs];exact HFY.out) (fun z=>HM2.out z)) HWM.out);have HM3:=Bj3 (show RnM K W3 v2 ⟨st.far,L2,P2⟩ Ds W.heap.size from by
   have hx2:∀k,K.M v2 k->K.M v' k:=by
    rintro k (hk|hk|hk|hk)
    ·exact .inl hk
    ·exact .inr (.inl hk)
    ·exact .inr (.inr (.inl (HV2.out▸hk)))
    ·exact .inr (.inr (.inr hk))
   refine ⟨HU2.out.go hb3,tbc3,⟨HNX.out.1,fun e=>HNX.out.2.1 (hx2 _ e),HNX.out.2.2⟩,fun D hD=>?_,HI.out.m.nod⟩;obtain ⟨m1,m2,m3,m4⟩:=HI.out.m.mks D hD;have hlt:=(Bk0.1 m1).1;have hz:=HO2.out.size;exact ⟨by rw [hb3.block D (by omega),HO2.out.block D hlt (fun e=>m3 (.inr e))];exact m1,m2,fun e=>m3 (hx2 _ e),m4⟩)
  have HJ3:=Bj3 (hJ _ _ _ HJR.out hoff);obtain ⟨fn9,tm9,as9,bo9,hy,hR⟩:=hY 3 out ((vn:Int),d) W3 HJ3.out HOKP.out (HU2.out.go hb3).bs;have HRR:=Bj3 hR
  dsimp only [Zk] at hy
  clear hp1 hp2 hp3 hoff hW3 hb3 tbc2 tbc hR;refine (wpIn_wide (n:=4)).1 ?_
  gi_wp2
  refine HRR.out.mono ?_;rintro e W4 (⟨rfl,hj4,hk4⟩|⟨rfl,hj4,hk4⟩)
  ·have HJ4:=Bj3 hj4
   have HK4:=Bj3 hk4;have hmem:=HM3.out.mem.off hk4 (fun k hk e=>by have:=HM3.out.mem.ge k hk;omega);have HM4:=Bj3 (show RnM K W4 v2 ⟨st.far,L2,P2⟩ Ds W.heap.size from ⟨hmem,hk4.cell HM3.out.tbc (fun e=>by have:=HM3.out.tbx.2.2;simp only at e;omega),HM3.out.tbx,fun D hD=>by
    obtain ⟨m1,m2,m3,m4⟩:=HM3.out.mks D hD;exact ⟨(hk4.block D (Bk0.1 m1).1 (fun e=>by omega)).trans m1,m2,m3,m4⟩,HM3.out.nod⟩)
   have d4:=hk4.cell d3 (fun e=>by have h9:=HO2.out.size;have h8:=HI.out.m.mem.bs;simp only at e;omega);clear hj4 hk4 hmem HJ3 HJR d3 tbc3 hy HRR
   gi_wp2
   go_upto_region 3 with (fail)
   have t4:=HM4.out.tbc;have x40:=(HM4.out.mem.con.bx 0 _ rfl).1;have x41:=(HM4.out.mem.con.bx 1 _ rfl).1;have e0:=fun p=>Ab p t4;have e1:=fun p=>Ab p x40;have e2:=fun p=>Ab p x41;have HEA:=Bj3 (fun w=>Ad.Hr K.ab (vn:Int) K.bk w);clear t4 x40 x41;refine Gb 10 (by kernel_rfl) (by kernel_rfl) ?_;simp only [List.take_succ_cons,List.take_zero,List.drop_succ_cons,List.drop_zero]
   repeat (go_big_quiet_step (fail))
   refine wpQuiet_nil ?_;rintro _ ⟨p5,rfl⟩;have HB5:=Bj3 (Ah W4 p5);generalize ext W4 p5=w5 at HB5 ⊢;clear e0 e1 e2
   go_wp2_with (go_at_call 116;refine (HEA.out _).mono ?_;rintro e w7 ⟨rfl,hb7,hz7,b0,b1,b2⟩)
   have HM5:=Bj3 (HM4.out.go HB5.out);have HM7:=Bj3 (HM5.out.go hb7);have d7:=Bj4 hb7 (Bj4 HB5.out d4);have hdl:w2.heap.size<w5.heap.size:=Bk3 _ _ (Bj4 HB5.out d4);have HDL:=Bj3 (show w2.heap.size<w7.heap.size by have:=hb7.size;omega);have hhi:=HM5.out.mem.con.hi;have hkB:∀j,KpA K.lo K.hi w5.heap.size j->j<w7.heap.size:=by
    rintro j (h|h)
    ·omega
    ·omega
   have HSEQ:=Bj3 (Ad.Ew 3 (by decide) K.lo K.hi K.ab K.n K.es K.bk vn w5.heap.size w7 HM7.out.mem.con.adj hvn hn hm (hE.key K.bk) HM7.out.mem.con.hi (by omega) b0 b1 b2);have HKB:=Bj3 hkB;have HOK2:=Bj3 (show ((vn:Int),d)∈out++[((vn:Int),d)] by simp);have hdx:¬K.C w2.heap.size/\¬K.M v2 w2.heap.size/\K.B<=w2.heap.size:=⟨fun e=>absurd (HU2.out.con.lt _ e) (Nat.lt_irrefl _),fun e=>absurd (HU2.out.mlt _ e) (Nat.lt_irrefl _),HU2.out.bs⟩;have hoff7:OffX (K.B<=·) W4 w7:=.of_below (HB5.out.st hb7);have HI0:=Bj3 (show RgD K w7 w7 v2 v2 ⟨st.far,L2,P2⟩ s (out++[((vn:Int),d)]) done Ds W.heap.size w2.heap.size vn d [] (Dd K.n st.far L2) J from
    ⟨HM7.out,d7,hdx,fun k hk=>.inl hk,Dj.full HP1.out (fun a ha i v w hd' _=>hd'.elim id (fun k=>by obtain ⟨_,x,hx,_⟩:=k;cases hx)),Bj5 _,Bj5 _,hJ _ _ _ HJ4.out hoff7⟩)
   have HZ7:=Bj3 hz7;clear hb7 hz7 b0 b1 b2 hkB hdx hoff7 d7 d4 hdl hhi HEA HK4 HJ4;refine (wpIn_wide (n:=4)).1 (Gm rfl (by decide) (gf:=177) rfl trivial (enters_of Tryz.func177 (by kernel_rfl) rfl) HSEQ.out HKB.out (fun _=>rfl)
    (fun pre Wx=>∃v st',RgD K w7 Wx v2 v st' s (out++[((vn:Int),d)]) done Ds W.heap.size w2.heap.size vn d pre (Dd K.n st.far L2) J)
    (fun _ _ _=>False) (fun pre Wx Wy h ho=>by obtain ⟨v,st',h⟩:=h;exact ⟨v,st',h.turn hJ HM7.out HDL.out ho⟩) (fun _ _ _ _ h _=>h) ⟨_,_,HI0.out⟩
    ?a1 (fun x Wx=>Wx.alloc (Obj.cells #[.int .i64 x.2.f,.int .i64 x.2.t,.int .u64 x.2.w] 109)) (fun x Wx=>Below.of_al _ _) ?assign ?body ?done ?stop)
   case assign=>
    intro l x Wx K3 hK3
    dsimp only [Aj7,Tv]
    gi_wp2
    exact hK3
   case stop=>exact fun _ _ _ _ _ _ h _=>h.elim
   case done=>
    rintro D Wx hD0 ⟨v9,st',hI9⟩ hK3
    show K9 _ _
    refine hK9 _ _ (Handed.intro (Dd K.n st.far L2) HWP.out (hJ9 _ _ _ ?_));unfold RnJ
    iterate 63 apply Exists.intro
    refine ⟨D::Ds,rfl,v9,st',d,out++[((vn:Int),d)],fun u j=>done u j\/u=(vn:Int),⟨⟨hI9.m.mem,hI9.m.tbc,hI9.m.tbx,fun E hE2=>?_,?_⟩,?_,?_,?_,HOKP.out⟩,hI9.jj,hI9.wn⟩
    ·rcases Bm5.1 hE2 with rfl|hE2
     ·refine ⟨hK3,fun e=>?_,fun e=>?_,?_⟩
      ·have:=HM7.out.mem.con.lt _ e
       omega
      ·rcases hI9.ux _ e with e2|e2
       ·have:=HM7.out.mem.mlt _ e2
        omega
       ·omega
      ·have:=HM7.out.mem.bs
       omega
     ·exact hI9.m.mks E hE2
    ·refine List.nodup_cons.2 ⟨fun hE2=>?_,hI9.m.nod⟩
     have:=(Bk0.1 (HM7.out.mks D hE2).1).1;omega
    ·refine Dj.full hI9.dj (fun a ha i v w hd' hx=>?_)
     rcases hd' with h|h
     ·exact .inl h
     ·rw [h] at hx
      exact .inr ⟨h,Az2 hx⟩
    ·intro a ha i
     rcases Bm6.1 ha with ha|ha
     ·exact .inl (HI.out.dn a ha i)
     ·rw [Bl0] at ha
      subst ha;exact .inr rfl
    ·intro u i h
     rcases h with h|h
     ·obtain ⟨a,ha,e⟩:=HI.out.dn2 u i h
      exact ⟨a,List.mem_append_left _ ha,e⟩
     ·exact ⟨((vn:Int),d),by simp,h.symm⟩
   case body=>
    rintro l pre ⟨xi,xe⟩ W0 Wx ⟨v9,st',hI9⟩ hpx hsz ho;have hxm:(xi,xe)∈Jg K.es K.bk vn:=hpx.subset (List.mem_append_right pre (Bl0.2 rfl));obtain ⟨j,hxi,hjl,hxes,hje,hXD⟩:=Xo hE hxm;have hoth:=hE.oth K.bk _ hxes;have hxw:=(hE _ hxes).2.2;simp only at hxi hje hXD hoth hxw;subst hxi;obtain ⟨xf,xt,xw⟩:=xe;simp only at hxw;have HXM:=Bj3 hxm;obtain ⟨t,ht⟩:∃t:Nat,Wf K.bk (⟨xf,xt,xw⟩:EdgeD)=(t:Int):=⟨(Wf K.bk (⟨xf,xt,xw⟩:EdgeD)).toNat,by have:=hoth.1;omega⟩;have htn:t<K.n:=by have:=hoth.2;omega
    have HTT:=Bj3 ht;have hDz:w7.heap.size+1≠W0.heap.size:=by omega
    have y0:=ho.cell (p:=⟨W0.heap.size,0,none⟩) (v:=.int .i64 xf) (by go_simp) (fun e=>hDz (by unfold Av at e;exact e.symm));have y1:=ho.cell (p:=⟨W0.heap.size,1,none⟩) (v:=.int .i64 xt) (by go_simp) (fun e=>hDz (by unfold Av at e;exact e.symm));have hWx:W0.heap.size+1<=Wx.heap.size:=by have h9:=ho.size;rwa [World.size_alloc] at h9
    have tb9:=hI9.m.tbc;have dc9:=hI9.dc;have x91:=(hI9.m.mem.con.bx 1 _ rfl).1;have x96:=(hI9.m.mem.con.bx 6 _ rfl).1;have HCO:=Bj3 (Ae7 K Wx v9 st' j t hI9.m.mem hjl htn (by omega) (by omega));have HI9:=Bj3 hI9;clear hI9 ho hxm hoth hXD;obtain ⟨wa9,wc0,we,hws⟩:=Cel.of_owns HI9.out.m.mem.con.ws;obtain ⟨wb,wo,hwa,wc9⟩:=hws j (.int .u64 xw) (by unfold Hv;rw [List.map_map,Bl2,hje];rfl);have hwa2:K.wa=some ⟨wb,wo,none⟩:=by
     have h8:(Value.slice K.wa K.es.length K.wc)=.slice wa9 K.es.length wc0:=we;rw [hwa] at h8
     injection h8
    rw [hwa2] at x96;have hadd:IntKind.u64.wrap (d+xw)=d+xw:=by rw [Bo5];omega
    have hj0:(0:Int)<=(j:Int):=by omega
    have hj1:(j:Int)<(K.es.length:Int):=by omega
    have HR9:=Bj3 (fun (U:World) (hz:Below Wx.heap.size Wx U)=>Hd K U v9 st' t (d+xw) (HI9.out.m.mem.go hz) htn (by omega));unfold Dm at HR9;clear hws we hwa hje hwa2 hxw
    rcases Bool.eq_false_or_eq_true K.bk with hbk|hbk
    all_goals
     have ht2:=HTT.out;unfold Wf at ht2;rw [hbk] at ht2;simp only [if_true,Bool.false_eq_true,if_false] at ht2;subst ht2;rw [hbk] at x91;clear hbk
     gi_wp2_with (refine ⟨trivial,?_⟩;gi_at_call 248;refine (CallsIn.inRound l (callsIn_wide.2 HCO.out)).mono ?_;rintro e w8 ⟨rfl,hww⟩;obtain rfl:=hww.symm)
     refine Gc 11 _ [.pointer (some ⟨K.xb,0,none⟩),.int .i64 (t:Int),.int .u64 d,.pointer (some ⟨K.xb,0,none⟩),.pointer (some ⟨K.xb,0,none⟩),.pointer (some ⟨K.xb,6,none⟩),.slice (some ⟨wb,wo,none⟩) K.es.length K.wc,.int .i64 (j:Int),.pointer (some ⟨wb,wo+j,none⟩),.int .u64 xw,.int .u64 (d+xw)] rfl rfl (by kernel_rfl) (by kernel_rfl) (by kernel_rfl) (by kernel_rfl) ?_ ?_
     ·refine ⟨?_,?_,?_,?_,?_,?_,?_,?_,?_,?_,?_,trivial⟩
      ·intro act w' hbe hd ho KK hK
       have q0:act.tmps.getD 2 undef=.pointer (some ⟨W.heap.size,0,none⟩):=ho 2 (by kernel_rfl);have f0:=Bj4 hbe tb9;simp [Oper.wp,execOp,Oper.upon,go_sem,Act.eval,q0,f0];exact hK w' (Below.refl _ _)
      ·intro act w' hbe hd ho KK hK
       have q0:act.tmps.getD 9 undef=.int .i64 (t:Int):=ho 9 (by kernel_rfl);simp [Oper.wp,execOp,Oper.upon,go_sem,Act.eval,q0];exact hK w' (Below.refl _ _)
      ·intro act w' hbe hd ho KK hK
       have q0:act.tmps.getD 5 undef=.pointer (some ⟨w2.heap.size,0,none⟩):=ho 5 (by kernel_rfl);have f0:=Bj4 hbe dc9;simp [Oper.wp,execOp,Oper.upon,go_sem,Act.eval,q0,f0];exact hK w' (Below.refl _ _)
      ·intro act w' hbe hd ho KK hK
       have q0:act.tmps.getD 2 undef=.pointer (some ⟨W.heap.size,0,none⟩):=ho 2 (by kernel_rfl);have f0:=Bj4 hbe tb9;simp [Oper.wp,execOp,Oper.upon,go_sem,Act.eval,q0,f0];exact hK w' (Below.refl _ _)
      ·intro act w' hbe hd ho KK hK
       have q0:act.tmps.getD 57 undef=.pointer (some ⟨K.xb,0,none⟩):=hd 3 (by rfl);simp [Oper.wp,execOp,Oper.upon,go_sem,Act.eval,q0];exact hK w' (Below.refl _ _)
      ·intro act w' hbe hd ho KK hK
       have q0:act.tmps.getD 58 undef=.pointer (some ⟨K.xb,0,none⟩):=hd 4 (by rfl);simp [Oper.wp,execOp,Oper.upon,go_sem,Act.eval,q0];exact hK w' (Below.refl _ _)
      ·intro act w' hbe hd ho KK hK
       have q0:act.tmps.getD 59 undef=.pointer (some ⟨K.xb,6,none⟩):=hd 5 (by rfl);have f0:=Bj4 hbe x96;simp [Oper.wp,execOp,Oper.upon,go_sem,Act.eval,q0,f0];exact hK w' (Below.refl _ _)
      ·intro act w' hbe hd ho KK hK
       have q0:act.tmps.getD 7 undef=.int .i64 (j:Int):=ho 7 (by kernel_rfl);simp [Oper.wp,execOp,Oper.upon,go_sem,Act.eval,q0];exact hK w' (Below.refl _ _)
      ·intro act w' hbe hd ho KK hK
       have q0:act.tmps.getD 60 undef=.slice (some ⟨wb,wo,none⟩) K.es.length K.wc:=hd 6 (by rfl);have q1:act.tmps.getD 61 undef=.int .i64 (j:Int):=hd 7 (by rfl);simp [Oper.wp,execOp,Oper.upon,go_sem,Act.eval,q0,q1,hj0,hj1];exact hK w' (Below.refl _ _)
      ·intro act w' hbe hd ho KK hK
       have q0:act.tmps.getD 62 undef=.pointer (some ⟨wb,wo+j,none⟩):=hd 8 (by rfl);have f0:=Bj4 hbe wc9;simp [Oper.wp,execOp,Oper.upon,go_sem,Act.eval,q0,f0];exact hK w' (Below.refl _ _)
      ·intro act w' hbe hd ho KK hK
       have q0:act.tmps.getD 56 undef=.int .u64 d:=hd 2 (by rfl);have q1:act.tmps.getD 63 undef=.int .u64 xw:=hd 9 (by rfl);simp [Oper.wp,execOp,Oper.upon,go_sem,Act.eval,q0,q1,hadd];exact hK w' (Below.refl _ _)
     ·intro act w8 hb8 hon hact
      have q54:act.tmps.getD 54 undef=.pointer (some ⟨K.xb,0,none⟩):=hon 0 (by decide);have q55:act.tmps.getD 55 undef=.int .i64 (t:Int):=hon 1 (by decide);have q64:act.tmps.getD 64 undef=.int .u64 (d+xw):=hon 10 (by decide);simp [Oper.wp,execOp,Oper.upon,go_sem,Act.eval,q54,q55,q64];refine (HR9.out w8 hb8).mono ?_;rintro e w9 ⟨rfl,v8,hu8,ho8,hv8⟩;exact Bf5 hE HI9.out HM7.out HM5.out HDL.out hsz hWx HZ7.out HXM.out HTT.out HOK2.out hJ hb8 hu8 ho8 hv8
  ·gi_wp2
   go_wp2
   try simp only [Exit.noGoto]
   have hm3:=HM3.out;refine Fd Ds _ hm3.nod (fun D hD=>?_) (fun W9 ho9=>⟨.tuple #[],results_none rfl _ _ _,rfl,.inr ⟨_,HOKP.out,hJx _ _ _ hj4 (ho9.mono fun k hk=>(hm3.mks k hk).2.2.2)⟩⟩);have h9:=hm3.mks D hD;rw [hk4.block D (Bk0.1 h9.1).1 (fun e=>by have:=h9.2.2.2;omega)];exact h9.1
end Dj
end
end Go.Proofs.YteaaapdjplbljaaGreat
