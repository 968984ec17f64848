/- Parts; no condition. -/
import Derived.Test.YteaaapdjplbljaaGreatVa35
import Derived.Maps.OwnIn
set_option linter.unusedVariables false
set_option linter.unusedSimpArgs false
set_option linter.unnecessarySimpa false
set_option maxRecDepth 100000
set_option maxHeartbeats 8000000
namespace Go.Proofs.YteaaapdjplbljaaGreat
section
namespace Ro
open Ch
def edZ:EdgeD:=⟨0,0,0⟩
def Ep (D:Int->Int) (e:EdgeD):Prop:=D e.t<4611686018427387904/\D e.t+e.w=D e.f
def FirstE (es:List EdgeD) (D:Int->Int) (v:Int) (i:Nat):Prop:=∃h:i<es.length,es[i].f=v/\Ep D es[i]/\∀j (hj:j<es.length),j<i->es[j].f=v->¬Ep D es[j]
theorem FirstE.uniq {es:List EdgeD} {D:Int->Int} {v:Int} {i j:Nat} (h:FirstE es D v i) (k:FirstE es D v j):i=j:=by
 obtain ⟨h1,h2,h3,h4⟩:=h;obtain ⟨k1,k2,k3,k4⟩:=k
 rcases Nat.lt_trichotomy i j with e|e|e
 ·exact absurd h3 (k4 i h1 e h2)
 ·exact e
 ·exact absurd k3 (h4 j k1 e k2)
inductive RP (es:List EdgeD) (D:Int->Int):Int->List Int->Prop
 |stop {v:Int} (h:D v=0):RP es D v []
 |go {v:Int} {i:Nat} {l:List Int} (h:FirstE es D v i) (h0:D v≠0) (hr:RP es D (es.getD i edZ).t l):RP es D v ((i:Int)::l)
theorem RP.uniq {es:List EdgeD} {D:Int->Int} {v:Int} {l:List Int} (h:RP es D v l):∀{l'},RP es D v l'->l=l':=by
 induction h with
 |stop h=>
  intro l' k
  cases k with
  |stop _=>rfl
  |go _ h0 _=>exact absurd h h0
 |go h h0 hr ih=>
  intro l' k
  cases k with
  |stop h'=>exact absurd h' h0
  |go h' _ hr'=>
   obtain rfl:=h.uniq h';rw [ih hr']
def Seg (es:List EdgeD) (D:Int->Int) (s:Int) (l:List Int) (v:Int):Prop:=∀r,RP es D v r->RP es D s (l++r)
theorem Seg.start {es:List EdgeD} {D:Int->Int} (s:Int):Seg es D s [] s:=fun r h=>h
theorem Seg.step {es:List EdgeD} {D:Int->Int} {s v:Int} {l:List Int} {i:Nat} (h:Seg es D s l v) (hf:FirstE es D v i) (h0:D v≠0):Seg es D s (l++[(i:Int)]) (es.getD i edZ).t:=fun r hr=>by
 have:=h _ (.go hf h0 hr)
 rwa [Bn6]
theorem Seg.stop {es:List EdgeD} {D:Int->Int} {s v:Int} {l:List Int} (h:Seg es D s l v) (h0:D v=0):RP es D s l:=by
 have:=h [] (.stop h0)
 rwa [List.append_nil] at this
theorem FarV.turn {A:Int->Int->Int->Prop} {s v x:Int} (h:FarV (Pv A) s v x):FarV A v s x:=by
 rcases h with ⟨h1,h2⟩|⟨h1,h2⟩
 ·exact .inl ⟨h1.turn,h2⟩
 ·exact .inr ⟨h1,fun e h=>h2 e h.turn⟩
def ToD (es:List EdgeD) (n:Nat) (t:Int) (D:Int->Int):Prop:=∀v,Ac n v->FarV (Am es) v t (D v)
theorem Ul {es:List EdgeD} {n:Nat} {t:Int} {D:Int->Int} (hA:∀u v w,Am es u v w->Ac n u/\Ac n v/\1<=w) (hD:ToD es n t D) {v:Int} (hv:Ac n v) (h0:D v≠0) (hF:D v<4611686018427387904):
  ∃i,FirstE es D v i:=by
 obtain ⟨hd,hn,_⟩:=(hD v hv).lt hF;have hne:v≠t:=fun e=>by
  subst e;exact h0 (hd.uniq (Dist.self (fun u v w h=>(hA u v w h).2.2) v))
 obtain ⟨m,w,h1,h2⟩:=Dist.pred hd.turn (fun e=>hne e.symm);have h1':Am es v m w:=h1;have h2':Dist (Am es) m t (D v-w):=h2.turn;obtain ⟨e,he,e1,e2,e3⟩:=h1';have hm:=(hA v m w ⟨e,he,e1,e2,e3⟩).2;have hx:0<=D v-w:=h2'.1.nonneg (fun u v w h=>(hA u v w h).2.2);have hDm:D m=D v-w:=by
  rcases hD m hm.1 with ⟨k1,_⟩|⟨_,k2⟩
  ·exact k1.uniq h2'
  ·exact absurd h2'.1 (k2 _)
 have hgood:Ep D e:=by
  unfold Ep;rw [e1,e2,e3,hDm];omega
 obtain ⟨i,hi,ei⟩:=List.getElem_of_mem he;have key:∀k i (hi:i<es.length),i<=k->es[i].f=v->Ep D es[i]->∃j,FirstE es D v j:=by
  intro k
  induction k with
  |zero=>
   intro i hi hk h3 h4;have:i=0:=by omega
   subst this;exact ⟨0,hi,h3,h4,fun j _ hj=>by omega⟩
  |succ k ih=>
   intro i hi hk h3 h4
   by_cases hex:∃j,∃hj:j<es.length,j<i/\es[j].f=v/\Ep D es[j]
   ·obtain ⟨j,hj,h5,h6,h7⟩:=hex
    exact ih j hj (by omega) h6 h7
   ·exact ⟨i,hi,h3,h4,fun j hj h5 h6 h7=>hex ⟨j,hj,h5,h6,h7⟩⟩
 exact key i i hi (Bj5 _) (by rw [ei];exact e1) (by rw [ei];exact hgood)
theorem Lz {es:List EdgeD} {n:Nat} {t:Int} {D:Int->Int} (hA:∀u v w,Am es u v w->Ac n u/\Ac n v/\1<=w) (hD:ToD es n t D) {v:Int} {i:Nat} (h:FirstE es D v i):
  Ac n (es.getD i edZ).t/\0<=D (es.getD i edZ).t/\D (es.getD i edZ).t<D v/\D (es.getD i edZ).t<4611686018427387904/\D (es.getD i edZ).t+(es.getD i edZ).w=D v:=by
 obtain ⟨hi,h1,h2,_⟩:=h;have e:es.getD i edZ=es[i]:=by simp [List.getD,hi]
 rw [e];have hm:=(hA _ _ _ ⟨es[i],Bk5 hi,rfl,rfl,rfl⟩).2;have:=(hD _ hm.1).in;unfold Ep at h2;rw [h1] at h2;exact ⟨hm.1,this.1,by omega,h2.1,h2.2⟩
theorem Ax3 {es:List EdgeD} {D:Int->Int} {v:Nat} {pre:List Int} {i:Nat} {suf:List Int} (hn:∀e∈es,0<=e.f) (h:Ad.Em (fun i=>(es.getD i edZ).f.toNat) es.length v=pre++(i:Int)::suf) (hg:Ep D (es.getD i edZ)) (hp:∀j:Nat,(j:Int)∈pre->¬Ep D (es.getD j edZ)):FirstE es D (v:Int) i:=by
 have hmem:(i:Int)∈Ad.Em (fun i=>(es.getD i edZ).f.toNat) es.length v:=by rw [h];simp
 obtain ⟨i',e,hi,hk⟩:=Ad.Dt.1 hmem;have:i'=i:=by omega
 subst this;have e1:∀{j} (hj:j<es.length),es.getD j edZ=es[j]:=fun hj=>by simp [List.getD,hj]
 have hf:es[i'].f=(v:Int):=by
  have:=hn _ (Bk5 hi);rw [e1 hi] at hk;omega
 refine ⟨hi,hf,by rw [<-e1 hi];exact hg,fun j hj hji hjf hjg=>?_⟩;have hjm:(j:Int)∈Ad.Em (fun i=>(es.getD i edZ).f.toNat) es.length v:=Ad.Dt.2 ⟨j,rfl,hj,by rw [e1 hj,hjf];rfl⟩;have hsort:=Ad.Ry (fun i=>(es.getD i edZ).f.toNat) v es.length;rw [h] at hjm hsort
 rcases Bm6.1 hjm with hm|hm
 ·exact hp j hm (by rw [e1 hj];exact hjg)
 ·rcases Bm5.1 hm with hm|hm
  ·omega
  ·have h1:=(Bo3.1 hsort).2.1
   have h2:=(List.pairwise_cons.1 h1).1 _ hm;omega
theorem Bb9 {es:List EdgeD} {D:Int->Int} {v:Nat} (h:∀j:Nat,(j:Int)∈Ad.Em (fun i=>(es.getD i edZ).f.toNat) es.length v->¬Ep D (es.getD j edZ)):¬∃i,FirstE es D (v:Int) i:=by
 rintro ⟨i,hi,h1,h2,_⟩;have e1:es.getD i edZ=es[i]:=by simp [List.getD,hi]
 exact h i (Ad.Dt.2 ⟨i,rfl,hi,by rw [e1,h1];rfl⟩) (by rw [e1];exact h2)
theorem RP.congr {es:List EdgeD} {n:Nat} {D D':Int->Int} (hN:∀e∈es,Ac n e.f/\Ac n e.t) (hD:∀v,Ac n v->D v=D' v) {v:Int} {l:List Int} (h:RP es D v l):Ac n v->RP es D' v l:=by
 induction h with
 |stop h=>exact fun hv=>.stop (by rw [<-hD _ hv];exact h)
 |go h h0 hr ih=>
  intro hv;obtain ⟨hi,h1,h2,h3⟩:=h
  rename_i v i l
  have e:es.getD i edZ=es[i]:=by simp [List.getD,hi]
  have gd:∀e∈es,Ep D e↔Ep D' e:=fun e he=>by
   have:=hN e he;unfold Ep;rw [hD _ this.1,hD _ this.2]
  refine .go ⟨hi,h1,(gd _ (Bk5 hi)).1 h2,fun j hj a b c=>h3 j hj a b ((gd _ (Bk5 hj)).2 c)⟩ (by rw [<-hD _ hv];exact h0) (ih ?_);rw [e];exact (hN _ (Bk5 hi)).2
theorem ToD.uniq {es:List EdgeD} {n:Nat} {t:Int} {D D':Int->Int} (h:ToD es n t D) (h':ToD es n t D'):∀v,Ac n v->D v=D' v:=fun v hv=>(h v hv).uniq (h' v hv)
end Ro
end
section
namespace Dj
open Go Go.Proofs Go.RowKit Go.Shelf Hp Ch Ad Ro
theorem Bq {w w':World} {p:Addr} {u:Value} (hk:w'.heap[p.block]? =w.heap[p.block]?) (h:w.cell? p=some u):w'.cell? p=some u:=(Bm0 hk).trans h
theorem Ii {w w':World} {p:Addr} {b:Bool} (hk:w'.heap[p.block]? =w.heap[p.block]?) (h:w.frozen? p=b):w'.frozen? p=b:=(World.frozen?_of_block hk).trans h
structure FoS (W0:World) (B:Nat) (wr:World) (n:Nat) (es:List EdgeD) (D:Int->Int) (s:Int) (Ds:List Nat) (v:Nat) (l:List Int) (la:Option Addr) (lc:Nat):Prop where
 cv:wr.cell? ⟨B,0,none⟩=some (.int .i64 (v:Int))/\wr.frozen? ⟨B,0,none⟩=false
 cr:wr.cell? ⟨B+4,0,none⟩=some (.slice la l.length lc)/\wr.cell? ⟨B+4,1,none⟩=some (.int .u64 (D s))/\wr.frozen? ⟨B+4,0,none⟩=false/\wr.frozen? ⟨B+4,1,none⟩=false
 kp:∀k,k<B+6->k≠B->k≠B+4->wr.heap[k]? =W0.heap[k]?
 own:wr.ownsRow (B+6) 3 1 (.slice la l.length lc) l.length (l.map Ai)
 la:∀x,la=some x->B+6<=x.block/\x.block∉Ds
 mks:∀E∈Ds,wr.heap[E]? =some (.deferred (some []))/\B+6<=E
 nod:Ds.Nodup
 sz:B+6<=wr.heap.size
 vn:v<n
 seg:Seg es D s l (v:Int)
 dlt:D (v:Int)<=D s/\D s<=1152921504606846976
 vis:∃vs:List Int,vs.length=l.length/\vs.Nodup/\∀x∈vs,Ac n x/\D (v:Int)<D x
section
variable {W0 wr wr':World} {B n:Nat} {es:List EdgeD} {D:Int->Int} {s:Int} {Ds:List Nat} {v:Nat} {l:List Int} {la:Option Addr} {lc:Nat}
theorem FoS.cl (h:FoS W0 B wr n es D s Ds v l la lc):Cel wr la (l.map Ai):=by
 obtain ⟨ao,cap,e,hc⟩:=Cel.of_owns h.own
 injection e with e1 e2 e3
 rw [e1];exact hc
theorem Wq {la:Option Addr} {m c k:Nat} (e:(Value.slice la m c).ownBlock=some k):∃x,la=some x/\x.block=k:=by
 cases la with
 |none=>cases e
 |some x=>exact ⟨x,rfl,Bm2 e⟩
theorem FoS.lab (h:FoS W0 B wr n es D s Ds v l la lc):∀x,la=some x->x.block<wr.heap.size:=fun x hx=>(Uz h.own x.block (by rw [hx];rfl)).2
theorem FoS.off {X:Nat->Prop} (h:FoS W0 B wr n es D s Ds v l la lc) (ho:OffX X wr wr') (h1:∀k,X k->B+6<=k) (h2:∀x,la=some x->¬X x.block) (h3:∀E∈Ds,¬X E):FoS W0 B wr' n es D s Ds v l la lc:=by
 have hsz:=h.sz;have keep:∀k,k<B+6->wr'.heap[k]? =wr.heap[k]?:=fun k hk=>ho.block k (by omega) (fun e=>by have:=h1 k e;omega);have k0:=keep B (by omega);have k4:=keep (B+4) (by omega);refine ⟨⟨Bq k0 h.cv.1,Ii k0 h.cv.2⟩,⟨Bq k4 h.cr.1,Bq k4 h.cr.2.1,Ii k4 h.cr.2.2.1,Ii k4 h.cr.2.2.2⟩,fun k a b c=>(keep k a).trans (h.kp k a b c),?_,h.la,fun E hE=>?_,h.nod,by have:=ho.size;omega,h.vn,h.seg,h.dlt,h.vis⟩
 ·refine Ak h.own fun k e=>?_
  obtain ⟨x,hx,rfl⟩:=Wq e;exact ho.block _ (h.lab x hx) (h2 x hx)
 ·obtain ⟨m1,m2⟩:=h.mks E hE
  exact ⟨(ho.block E (Bk0.1 m1).1 (h3 E hE)).trans m1,m2⟩
theorem FoS.go (h:FoS W0 B wr n es D s Ds v l la lc) (hz:Below wr.heap.size wr wr'):FoS W0 B wr' n es D s Ds v l la lc:=
 h.off (X:=fun _=>False) (OffX.of_below hz) (fun _ h=>h.elim) (fun _ _ h=>h) (fun _ _ h=>h)
theorem FoS.mark {E:Nat} (h:FoS W0 B wr n es D s Ds v l la lc) (hE:wr.heap[E]? =some (.deferred (some []))) (hB:B+6<=E) (hn:E∉Ds) (hl:∀x,la=some x->x.block≠E):FoS W0 B wr n es D s (E::Ds) v l la lc:=
 ⟨h.cv,h.cr,h.kp,h.own,fun x hx=>⟨(h.la x hx).1,fun hm=>by rcases Bm5.1 hm with e|e;exact hl x hx e;exact (h.la x hx).2 e⟩,fun F hF=>by rcases Bm5.1 hF with rfl|e;exact ⟨hE,hB⟩;exact h.mks F e,List.nodup_cons.2 ⟨hn,h.nod⟩,h.sz,h.vn,h.seg,h.dlt,h.vis⟩
theorem FoS.next {wr2:World} {v' i:Nat} {la':Option Addr} {lc':Nat} (h:FoS W0 B wr n es D s Ds v l la lc) (ho2:OffX (fun k=>∃x,la=some x/\x.block=k) wr wr2) (hl:wr2.ownsRow (B+6) 3 1 (.slice la' (l++[(i:Int)]).length lc') (l++[(i:Int)]).length ((l++[(i:Int)]).map Ai)) (hla:∀x,la'=some x->x.block∉Ds) (hv:v'<n) (hs:Seg es D s (l++[(i:Int)]) (v':Int)) (hd:D (v':Int)<D (v:Int)):
  FoS W0 B ((wr2.setCell ⟨B+4,0,none⟩ (.slice la' (l++[(i:Int)]).length lc')).setCell ⟨B,0,none⟩ (.int .i64 (v':Int))) n es D s Ds v' (l++[(i:Int)]) la' lc':=by
 have hsz:=h.sz;have hsz2:=ho2.size;have keep:∀k,k<B+6->wr2.heap[k]? =wr.heap[k]?:=fun k hk=>ho2.block k (by omega) (fun ⟨x,hx,e⟩=>by have:=(h.la x hx).1;omega);have ho:OffX (fun k=>k=B\/k=B+4) wr2 ((wr2.setCell ⟨B+4,0,none⟩ (.slice la' (l++[(i:Int)]).length lc')).setCell ⟨B,0,none⟩ (.int .i64 (v':Int))):=(OffX.set _ (.inr rfl)).trans (.set _ (.inl rfl));obtain ⟨r1,r2,r3,r4⟩:=h.cr;have k0:=keep B (by omega);have k4:=keep (B+4) (by omega);have r1:=Bq (p:=⟨B+4,0,none⟩) k4 r1;have r2:=Bq (p:=⟨B+4,1,none⟩) k4 r2;have r3:=Ii (p:=⟨B+4,0,none⟩) k4 r3;have r4:=Ii (p:=⟨B+4,1,none⟩) k4 r4;have c0:=Bq (p:=⟨B,0,none⟩) k0 h.cv.1;have c1:=Ii (p:=⟨B,0,none⟩) k0 h.cv.2;have hla2:∀x,la'=some x->B+6<=x.block/\x.block∉Ds:=fun x hx=>⟨(Uz hl x.block (by rw [hx];rfl)).1,hla x hx⟩;refine ⟨⟨?_,by rw [Bm9,Bm9];exact c1⟩,⟨?_,?_,by rw [Bm9,Bm9];exact r3,by rw [Bm9,Bm9];exact r4⟩,fun k a b c=>?_,?_,hla2,fun E hE=>?_,h.nod,by have:=ho.size;omega,hv,hs,⟨by have:=h.dlt.1;omega,h.dlt.2⟩,?_⟩
 ·exact Bk2 _ _ _ (by rw [Bk1 _ _ _ _ (by simp)];exact c0)
 ·rw [Bk1 _ _ _ _ (by simp)]
  exact Bk2 _ _ _ r1
 ·rw [Bk1 _ _ _ _ (by simp),Bk1 _ _ _ _ (by simp)]
  exact r2
 ·exact (ho.block k (by omega) (fun e=>by omega)).trans ((keep k a).trans (h.kp k a b c))
 ·refine Ak hl fun k e=>?_
  have h8:=Uz hl k e;exact ho.block k h8.2 (fun e=>by omega)
 ·obtain ⟨m1,m2⟩:=h.mks E hE
  have hlt:=(Bk0.1 m1).1;exact ⟨((ho.block E (by omega) (fun e=>by omega)).trans (ho2.block E hlt (fun ⟨x,hx,e⟩=>(h.la x hx).2 (e▸hE)))).trans m1,m2⟩
 ·obtain ⟨vs,e1,e2,e3⟩:=h.vis
  refine ⟨(v:Int)::vs,by simp [e1],List.nodup_cons.2 ⟨fun hm=>?_,e2⟩,fun x hx=>?_⟩
  ·have:=(e3 _ hm).2
   omega
  ·rcases Bm5.1 hx with rfl|hx
   ·exact ⟨⟨by omega,by have:=h.vn;omega⟩,hd⟩
   ·have:=(e3 x hx).2
    exact ⟨(e3 x hx).1,by omega⟩
theorem FoS.short (h:FoS W0 B wr n es D s Ds v l la lc):l.length<=n:=by
 obtain ⟨vs,e1,e2,e3⟩:=h.vis;rw [<-e1];exact Dg (fun x hx=>(e3 x hx).1) e2
end
end Dj
end
section
namespace Dj
open Go Go.Proofs Go.RowKit Go.Shelf Hp Ch Ad Ro
attribute [local go_sem] Oper.semAt_some
def Bc4 (n:Nat) (u:Nat->Value) (Ds:List Nat):Act:=⟨((List.range n).map u).toArray,Rp Ds⟩
theorem Ai6 (n:Nat) (a:Act) (Ds:List Nat) (h:a.tmps.size=n) (hd:a.defers=Rp Ds):a=Bc4 n (fun i=>a.tmps.getD i undef) Ds:=by
 cases a with
 |mk t d=>
  simp only at h hd;subst hd;unfold Bc4
  congr 1
  apply Array.ext
  ·simp [h]
  ·intro i h1 h2
   simp [h1]
theorem Bg9 (w:World) (y:Value) (T:TypeId):∀(j:Nat) (u:Value),[y][j]? =some u->(w.alloc (Obj.cells #[y] T)).cell? ((⟨w.heap.size,0,none⟩:Addr).add j)=some u:=by
 intro j u hu
 match j with
 |0=>cases hu;go_simp
 |j+1=>simp at hu
theorem Bc8 (y:Int):∀u∈[Value.int .i64 y],u.oneCell'=true:=fun u hu=>by rw [Bl0.1 hu];rfl
def Td (es:List EdgeD) (D:Int->Int) (s:Int) (w:World) (e:Ending) (w':World):Prop:=
 ∃(la:Option Addr) (p:List Int) (lc:Nat),e=.returned (.agg #[.slice la p.length lc,.int .u64 (D s)])/\Cel w' la (p.map Ai)/\Below w.heap.size w w'/\RP es D s p/\∀x,la=some x->w.heap.size<=x.block
def FoJ (w W0:World) (ab n:Nat) (es:List EdgeD) (D:Int->Int) (s:Int) (mm l0:Nat) (a:Act) (wr:World):Prop:=
 l0=0/\∃(u:Nat->Value) (Ds:List Nat),a=Bc4 44 u Ds/\u 0=.pointer (some ⟨ab,0,none⟩)/\u 6=.pointer (some ⟨w.heap.size,0,none⟩)/\u 7=.pointer (some ⟨w.heap.size+1,0,none⟩)/\u 8=.pointer (some ⟨w.heap.size+2,0,none⟩)/\u 9=.pointer (some ⟨w.heap.size+3,0,none⟩)/\u 10=.pointer (some ⟨w.heap.size+4,0,none⟩)/\u 11=.pointer (some ⟨w.heap.size+5,0,none⟩)/\
  Aside (∃v l la lc,FoS W0 w.heap.size wr n es D s Ds v l la lc/\Below w.heap.size w wr/\(D (v:Int)).toNat<=mm)
theorem Ad8 (lo hi ab n s fc wc:Nat) (es:List EdgeD) (fa wa:Option Addr) (far:List Int) (t:Int) (w:World) (hA:AdjM w lo hi ab n es) (hhi:hi<=w.heap.size) (hF:Cel w fa (far.map Bi)) (hWt:Cel w wa ((Hv es).map Bi)) (hE:EOK n es) (hn:n<=50000) (hm:es.length<=50000) (hs:s<n)
  (hD:ToD es n t (gD far)) (hlen:far.length=n) (hb:∀x∈far,0<=x/\x<=4611686018427387904) (hfs:gD far (s:Int)<=1152921504606846976):
  Calls Tryz.prog 134 #[.pointer (some ⟨ab,0,none⟩),.int .i64 (s:Int),.slice fa n fc,.slice wa es.length wc,Ec false] w (Td es (gD far) (s:Int) w):=by
 obtain ⟨W,hW⟩:∃W,W=((((w.alloc (Obj.cells #[.int .i64 (s:Int)] 3)).alloc (Obj.cells #[.slice fa n fc] 60)).alloc (Obj.cells #[.slice wa es.length wc] 60)).alloc (Obj.cells #[.bool false,.slice none 0 0,.slice none 0 0,.slice none 0 0,.int .u64 0] 135)).alloc (Obj.cells #[.slice none 0 0,.int .u64 0] 39):=⟨_,rfl⟩;have hbw:Below w.heap.size w W:=by rw [hW];exact ((((Below.of_al _ _).al _).al _).al _).al _
 have hsz:W.heap.size=w.heap.size+5:=by rw [hW];simp
 have c6:W.cell? ⟨w.heap.size,0,none⟩=some (.int .i64 (s:Int)):=by rw [hW];go_simp
 have z6:W.frozen? ⟨w.heap.size,0,none⟩=false:=by rw [hW];go_simp
 have c7:W.cell? ⟨w.heap.size+1,0,none⟩=some (.slice fa n fc):=by rw [hW];go_simp
 have c8:W.cell? ⟨w.heap.size+2,0,none⟩=some (.slice wa es.length wc):=by rw [hW];go_simp
 have c9:W.cell? ⟨w.heap.size+3,2,none⟩=some (.slice none 0 0):=by rw [hW];go_simp
 have r0:W.cell? ⟨w.heap.size+4,0,none⟩=some (.slice none 0 0):=by rw [hW];go_simp
 have r1:W.cell? ⟨w.heap.size+4,1,none⟩=some (.int .u64 0):=by rw [hW];go_simp
 have y0:W.frozen? ⟨w.heap.size+4,0,none⟩=false:=by rw [hW];go_simp
 have y1:W.frozen? ⟨w.heap.size+4,1,none⟩=false:=by rw [hW];go_simp
 obtain ⟨tb,t9,hta,ct⟩:=(hF.go hbw) s (.int .u64 (gD far (s:Int))) (by rw [Bl2];unfold gD;rw [Bk7,Bj9,Bj8 (by omega)];rfl);have s0:(0:Int)<=(s:Int):=by omega
 have s1:(s:Int)<(n:Int):=by omega
 subst hta;have HW:=Bj3 hW;have HB:=Bj3 hbw;have HA:=Bj3 hA;have HF:=Bj3 hF;have HWT:=Bj3 hWt;have HE:=Bj3 hE;have HD:=Bj3 hD;have HBD:=Bj3 hb;have HSZ:=Bj3 hsz;have HFS:=Bj3 hfs;unfold Td Ec;clear hW hbw hA hF hWt hE hD hb hsz hfs;obtain ⟨D,hDD⟩:∃D,D=gD far:=⟨_,rfl⟩;rw [<-hDD] at HD HFS ct ⊢;have HDD:=Bj3 hDD;clear hDD;refine (callsIn_wide (n:=4)).1 (callsIn_of_wp_marks Tryz.func134 rfl trivial (wpIn_wide.2 ?_) rfl);simp only [Tryz.ntmps134,List.size_toArray,Bk8,Bk9,Nat.reduceAdd,Nat.reduceSub,Array.replicate_succ,Array.replicate_zero,List.push_toArray,List.append_toArray,List.nil_append,List.cons_append]
 repeat go_step
 obtain ⟨W0,hW0⟩:∃W0,W0=(W.setCell ⟨w.heap.size+1+1+1+1,1,none⟩ (.int .u64 (D (s:Int)))).alloc (Obj.cells #[.func (.func 187) #[] #[.pointer (some ⟨w.heap.size+1,0,none⟩),.pointer (some ⟨w.heap.size+1+1,0,none⟩),.pointer (some ⟨w.heap.size,0,none⟩),.pointer (some ⟨w.heap.size+1+1+1,0,none⟩)]] 268):=⟨_,rfl⟩;have hb0:OffX (· =w.heap.size+4) W W0:=by
  have h9:OffX (· =w.heap.size+4) W (W.setCell ⟨w.heap.size+1+1+1+1,1,none⟩ (.int .u64 (D (s:Int)))):=.set _ rfl;rw [hW0];exact h9.trans (.of_below (Below.of_al _ _))
 have hsz:=HSZ.out;have hz0:W0.heap.size=w.heap.size+6:=by rw [hW0];simp [World.setCell];omega
 have k11:W0.cell? ⟨w.heap.size+5,0,none⟩=some (.func (.func 187) #[] #[.pointer (some ⟨w.heap.size+1,0,none⟩),.pointer (some ⟨w.heap.size+1+1,0,none⟩),.pointer (some ⟨w.heap.size,0,none⟩),.pointer (some ⟨w.heap.size+1+1+1,0,none⟩)]):=by
  rw [hW0,show w.heap.size+5=(W.setCell ⟨w.heap.size+1+1+1+1,1,none⟩ (.int .u64 (D (s:Int)))).heap.size by simp [World.setCell];omega]
  go_simp
 have hB0:Below w.heap.size w W0:=HB.out.trans (hb0.below HB.out.size (fun k e=>by have e:k=w.heap.size+4:=e;omega));have hFo:FoS W0 w.heap.size W0 n es D (s:Int) [] s [] none 0:=by
  have b6:=hb0.block w.heap.size (by omega) (fun e=>by have e:w.heap.size=w.heap.size+4:=e;omega);have b10:W0.cell? ⟨w.heap.size+4,0,none⟩=some (.slice none 0 0):=by
   rw [hW0];exact Bj4 (Below.of_al _ _) ((Bk1 _ _ _ _ (by simp)).trans r0)
  have b11:W0.cell? ⟨w.heap.size+4,1,none⟩=some (.int .u64 (D (s:Int))):=by
   rw [hW0];exact Bj4 (Below.of_al _ _) (Bk2 _ _ _ r1)
  have fr:∀j,W.frozen? ⟨w.heap.size+4,j,none⟩=false->W0.frozen? ⟨w.heap.size+4,j,none⟩=false:=fun j hj=>by
   rw [hW0,(Below.of_al (W.setCell ⟨w.heap.size+1+1+1+1,1,none⟩ (.int .u64 (D (s:Int)))) _).frozen (p:=⟨w.heap.size+4,j,none⟩) (by simp [World.setCell];omega),Bm9];exact hj
  exact ⟨⟨Bq b6 c6,Ii b6 z6⟩,⟨b10,b11,fr 0 y0,fr 1 y1⟩,fun _ _ _ _=>rfl,World.ownsRow_nil _ _ _ _,(fun _ h=>nomatch h),(fun _ h=>nomatch h),List.nodup_nil,by omega,hs,Seg.start _,⟨Int.le_refl _,HFS.out⟩,[],rfl,List.nodup_nil,fun _ h=>nomatch h⟩
 have HW0:=Bj3 hW0;have HFO:=Bj3 hFo;have HB0:=Bj3 hB0;have HO0:=Bj3 hb0;have K11:=Bj3 k11;have HZ0:=Bj3 hz0;clear hW0 hFo hB0 hb0 k11 hz0 hsz;refine Lf 0 (D (s:Int)).toNat (FoJ w W0 ab n es D (s:Int)) rfl ?_ ?_ ?_ ?_
 ·rintro m m' l a w' hle ⟨h1,u,Ds,e1,e2,e3,e4,e5,e6,e7,e8,h6⟩
  obtain ⟨v,l',la,lc,q1,q2,q3⟩:=h6;exact ⟨h1,u,Ds,e1,e2,e3,e4,e5,e6,e7,e8,v,l',la,lc,q1,q2,Bj7 q3 hle⟩
 ·intro hcont
  have HCONT:=Bj3 hcont;clear hcont
  go_upto_region 1 with (fail)
  rw [<-HW.out]
  go_wp2_with fail
  rw [<-HW0.out,HSZ.out]
  go_step3
  first
   |refine HCONT.out _ _ ?_
   |(go_step;refine HCONT.out _ _ ?_)
   |(go_step;go_step;refine HCONT.out _ _ ?_)
   |(go_step;go_step;go_step;refine HCONT.out _ _ ?_)
  exact ⟨rfl,_,[],Ai6 44 _ [] rfl rfl,rfl,rfl,rfl,rfl,rfl,rfl,rfl,s,[],none,0,HFO.out,HB0.out,Bj5 _⟩
 ·rintro mm a wr ⟨-,u,Ds,rfl,e0,e6,e7,e8,e9,e10,e11,hst⟩
  obtain ⟨v,l,la,lc,hFS,hbl,hmm⟩:=hst;have c6:=hFS.cv.1;have x7:wr.cell? ⟨w.heap.size+1,0,none⟩=some (.slice (some ⟨tb,t9,none⟩) n fc):=Bq (hFS.kp _ (by show w.heap.size+1<_;omega) (by show w.heap.size+1≠_;omega) (by show w.heap.size+1≠_;omega)) (HO0.out.cell c7 (fun e=>by have e:w.heap.size+1=w.heap.size+4:=e;omega));have x8:wr.cell? ⟨w.heap.size+2,0,none⟩=some (.slice wa es.length wc):=Bq (hFS.kp _ (by show w.heap.size+2<_;omega) (by show w.heap.size+2≠_;omega) (by show w.heap.size+2≠_;omega)) (HO0.out.cell c8 (fun e=>by have e:w.heap.size+2=w.heap.size+4:=e;omega));have x9:wr.cell? ⟨w.heap.size+3,2,none⟩=some (.slice none 0 0):=Bq (hFS.kp _ (by show w.heap.size+3<_;omega) (by show w.heap.size+3≠_;omega) (by show w.heap.size+3≠_;omega)) (HO0.out.cell c9 (fun e=>by have e:w.heap.size+3=w.heap.size+4:=e;omega));have x11:=Bq (hFS.kp _ (by show w.heap.size+5<_;omega) (by show w.heap.size+5≠_;omega) (by show w.heap.size+5≠_;omega)) K11.out;have hvn:=hFS.vn;have v0:(0:Int)<=(v:Int):=by omega
  have v1:(v:Int)<(n:Int):=by omega
  obtain ⟨tb',t9',hta,ctv⟩:=(HF.out.go hbl) v (.int .u64 (D (v:Int))) (by rw [HDD.out,Bl2];unfold gD;rw [Bk7,Bj9,Bj8 (by omega)];rfl)
  cases hta
  have HEA:=Bj3 (fun W=>Ad.Hr ab (v:Int) false W);have HX7:=Bj3 x7;have HX8:=Bj3 x8;have HX9:=Bj3 x9;have HX11:=Bj3 x11;have HFR:=Bj3 (HF.out.go hbl);have HWR:=Bj3 (HWT.out.go hbl);have HAR:=Bj3 (HA.out.go hbl hhi);have HRS:=Bj3 hFS;have HBL:=Bj3 hbl;have HMM:=Bj3 hmm;have r0':=hFS.cr.1;have r1':=hFS.cr.2.1;have y0':=hFS.cr.2.2.1;have y1':=hFS.cr.2.2.2;simp only [Bc4,List.range,List.range.loop,List.map_cons,List.map_nil,e0,e6,e7,e8,e9,e10,e11];clear e0 e6 e7 e8 e9 e10 e11 hFS hbl hmm x8 x9 x11 c7 c8 c9 r0 r1 y0 y1 z6 ct s0 s1
  by_cases hv0:D (v:Int)=0
  ·have HV0:=Bj3 hv0
   rw [hv0] at ctv;clear hv0
   go_wp2
   simp only [Ux];have q0:((wr.setCell ⟨w.heap.size+4,0,none⟩ (.slice la l.length lc)).setCell ⟨w.heap.size+4,1,none⟩ (.int .u64 (D (s:Int)))).cell? ⟨w.heap.size+4,0,none⟩=some (.slice la l.length lc):=by
    rw [Bk1 _ _ _ _ (by simp)];exact Bk2 _ _ _ r0'
   have q1:((wr.setCell ⟨w.heap.size+4,0,none⟩ (.slice la l.length lc)).setCell ⟨w.heap.size+4,1,none⟩ (.int .u64 (D (s:Int)))).cell? ⟨w.heap.size+4,1,none⟩=some (.int .u64 (D (s:Int))):=
    Bk2 (u:=.int .u64 (D (s:Int))) _ _ _ (by rw [Bk1 _ _ _ _ (by simp)];exact r1')
   have h9:=HRS.out;have hox:OffX (· =w.heap.size+4) wr ((wr.setCell ⟨w.heap.size+4,0,none⟩ (.slice la l.length lc)).setCell ⟨w.heap.size+4,1,none⟩ (.int .u64 (D (s:Int)))):=by
    have h1:OffX (· =w.heap.size+4) wr (wr.setCell ⟨w.heap.size+4,0,none⟩ (.slice la l.length lc)):=.set _ rfl;exact h1.trans (.set _ rfl)
   refine Fd Ds _ h9.nod (fun E hE=>?_) (fun W9 ho9=>⟨.agg #[.slice la l.length lc,.int .u64 (D (s:Int))],?_,?_⟩)
   ·have hm9:=h9.mks E hE
    exact (hox.block E (Bk0.1 hm9.1).1 (fun e=>by have e:E=w.heap.size+4:=e;have:=hm9.2;omega)).trans hm9.1
   ·have hn4:¬w.heap.size+4∈Ds:=fun hm=>by have:=(h9.mks _ hm).2;omega
    have s0:=ho9.cell q0 hn4;have s1:=ho9.cell q1 hn4;simp [results,Tryz.results134,go_sem,s0,s1]
    try rfl
   ·have hall:OffX (fun k=>k=w.heap.size+4\/k∈Ds) wr W9:=(hox.mono (fun k e=>.inl e)).trans (ho9.mono (fun k e=>.inr e))
    refine ⟨la,l,lc,rfl,fun i u hu=>?_,HBL.out.trans (hall.below HBL.out.size (fun k e=>?_)),h9.seg.stop HV0.out,fun x hx=>by have:=(h9.la x hx).1;omega⟩
    ·obtain ⟨b,o,e,h8⟩:=h9.cl i u hu
     have hl2:=h9.la _ e;simp only at hl2;exact ⟨b,o,e,hall.cell h8 (fun hm=>by
      rcases hm with e2|e2
      ·have e3:b=w.heap.size+4:=e2
       omega
      ·exact hl2.2 e2)⟩
    ·rcases e with e|e
     ·omega
     ·have:=(h9.mks k e).2
      omega
  ·have hv2:(D (v:Int)==0)=false:=by simpa using hv0
   have HV0:=Bj3 hv0;clear hv0
   go_wp2_with fail
   refine (HEA.out _).mono ?_;rintro e w7 ⟨rfl,hb7,hz7,b0,b1,b2⟩;have HR7:=Bj3 (HRS.out.go hb7);have HB7:=Bj3 (HBL.out.st hb7);have HZ7:=Bj3 hz7;have HZW:=Bj3 HRS.out.sz;have HLA:=Bj3 HRS.out.lab;have HMK:=Bj3 (show ∀E∈Ds,E<wr.heap.size from fun E hE=>(Bk0.1 (HRS.out.mks E hE).1).1);have HSEQ:=Bj3 (Ad.Ew 3 (by decide) lo hi ab n es false v wr.heap.size w7 (HA.out.go HB7.out hhi) hvn hn hm (HE.out.key false) (by have:=HB7.out.size;omega) (by omega) b0 b1 b2);have HKB:=Bj3 (show ∀k,KpA lo hi wr.heap.size k->k<w7.heap.size from fun k hk=>by
    have:=HBL.out.size
    rcases hk with h|h<;>omega)
   have HTN:=Bj3 (show ∀(Wx Wy:World) (v':Nat) (l':List Int) (la':Option Addr) (lc':Nat),FoS W0 w.heap.size Wx n es D (s:Int) Ds v' l' la' lc'->(∀x,la'=some x->x.block≠w7.heap.size+1)->OffX (Av w7.heap.size) Wx Wy->FoS W0 w.heap.size Wy n es D (s:Int) Ds v' l' la' lc' from
    fun Wx Wy v' l' la' lc' h hl ho=>h.off ho (fun k e=>by have e':k=w7.heap.size+1:=e;have:=HZW.out;omega) (fun x hx e=>hl x hx e) (fun E hE e=>by have:=HMK.out E hE;have e':E=w7.heap.size+1:=e;omega))
   clear hb7 hz7 b0 b1 b2 r0' r1' y0' y1' ctv c6 x7
   go_wp2
   refine (wpIn_wide (n:=4)).1 (Gm rfl (by decide) (gf:=177) rfl trivial (enters_of Tryz.func177 (by kernel_rfl) rfl) HSEQ.out HKB.out (fun _=>rfl)
    (fun pre Wx=>FoS W0 w.heap.size Wx n es D (s:Int) Ds v l la lc/\Below w.heap.size w Wx/\(∀x∈pre,¬Ep D x.2)/\w7.heap.size<=Wx.heap.size)
    (fun c pre Wx=>c=.goto 0/\∃(i v':Nat) (la':Option Addr) (lc':Nat),D (v':Int)<D (v:Int)/\0<=D (v':Int)/\FoS W0 w.heap.size Wx n es D (s:Int) Ds v' (l++[(i:Int)]) la' lc'/\Below w.heap.size w Wx/\∀x,la'=some x->x.block≠w7.heap.size+1/\x.block≠w7.heap.size)
    (fun pre Wx Wy h ho=>by
     obtain ⟨h1,h2,h3,h4⟩:=h;exact ⟨HTN.out _ _ _ _ _ _ h1 (fun x hx=>by have:=HLA.out x hx;have:=HZ7.out;omega) ho,h2.trans (ho.below h2.size (fun k e=>by have e':k=w7.heap.size+1:=e;have:=HB7.out.size;omega)),h3,Bj7 h4 ho.size⟩)
    (fun c pre Wx Wy h ho=>by
     obtain ⟨h0,i,v',la',lc',h1,h2,h3,h4,h5⟩:=h;exact ⟨h0,i,v',la',lc',h1,h2,HTN.out _ _ _ _ _ _ h3 (fun x hx=>(h5 x hx).1) ho,h4.trans (ho.below h4.size (fun k e=>by have e':k=w7.heap.size+1:=e;have:=HB7.out.size;omega)),h5⟩)
    ⟨HR7.out,HB7.out,(fun x hx=>nomatch hx),Bj5 _⟩
    ?a1 (fun x Wx=>Wx.alloc (Obj.cells #[.int .i64 x.2.f,.int .i64 x.2.t,.int .u64 x.2.w] 109)) (fun x Wx=>Below.of_al _ _) ?assign ?body ?done ?stop)
   case assign=>
    intro l x Wx K hK
    dsimp only [Aj7,Tv]
    gi_wp2
    exact hK
   case stop=>
    rintro D' c pre Wx rfl hpp ⟨rfl,i,v',la',lc',h1,h2,h3,h4,h5⟩ hK9;refine wpIn_wide.2 ?_
    dsimp only
    go_step3
    repeat go_step
    rw [Ly];have hZw:=HZW.out;have hmq:=HMM.out;have hzq:=HZ7.out;exact ⟨(D (v':Int)).toNat,by omega,rfl,_,w7.heap.size::Ds,Ai6 44 _ _ rfl rfl,rfl,rfl,rfl,rfl,rfl,rfl,rfl,v',l++[(i:Int)],la',lc',h3.mark hK9 (by omega) (fun hm=>by have:=HMK.out _ hm;omega) (fun x hx=>(h5 x hx).2),h4,Bj5 _⟩
   case done=>
    rintro D' Wx rfl ⟨h1,h2,h3,h4⟩ hK9;refine absurd (Classical.byContradiction fun hne=>?_) HV0.out;have hAr:∀a b c,Am es a b c->Ac n a/\Ac n b/\1<=c:=fun a b c h=>by
     have:=XD.ok HE.out a b c (Gj (bk:=false).2 h);exact ⟨this.1,this.2.1,this.2.2.1⟩
    have hlt:D (v:Int)<4611686018427387904:=by
     have:=HRS.out.dlt;omega
    refine Bb9 (v:=v) (fun j hj=>?_) (Ul hAr HD.out ⟨v0,v1⟩ hne hlt);exact h3 (Fa es (j:Int)) (List.mem_map.2 ⟨(j:Int),hj,rfl⟩)
   case body=>
    rintro l' pre ⟨xi,xf,xt,xw⟩ W9 Wx ⟨h1,h2,h3,h4⟩ hpx hsz ho;have hDz:w7.heap.size+1≠W9.heap.size:=by omega
    have y0:=ho.cell (p:=⟨W9.heap.size,0,none⟩) (v:=.int .i64 xf) (by go_simp) (fun e=>hDz (by unfold Av at e;exact e.symm));have y1:=ho.cell (p:=⟨W9.heap.size,1,none⟩) (v:=.int .i64 xt) (by go_simp) (fun e=>hDz (by unfold Av at e;exact e.symm));have y2:=ho.cell (p:=⟨W9.heap.size,2,none⟩) (v:=.int .u64 xw) (by go_simp) (fun e=>hDz (by unfold Av at e;exact e.symm));have hWx:W9.heap.size+1<=Wx.heap.size:=by have h9:=ho.size;rwa [World.size_alloc] at h9
    obtain ⟨suf,hsuf⟩:=hpx;obtain ⟨i,hi,hix,hspl⟩:∃i:Nat,∃hi:i<es.length,((xi,(⟨xf,xt,xw⟩:EdgeD))=((i:Int),es[i]))/\∃p q,Pt es false v=p++(i:Int)::q/\∀j:Nat,(j:Int)∈p->Fa es (j:Int)∈pre:=by
     unfold Jg at hsuf;rw [Bn6] at hsuf;obtain ⟨p,q,e1,e2,e3⟩:=List.map_eq_append_iff.1 hsuf.symm;obtain ⟨z,q',rfl,e4,e5⟩:=List.map_eq_cons_iff.1 e3;have hz:z∈Pt es false v:=by rw [e1];simp
     obtain ⟨i,rfl,hi,_⟩:=Dt.1 hz;refine ⟨i,hi,?_,p,q',e1,fun j hj=>by rw [<-e2];exact List.mem_map.2 ⟨_,hj,rfl⟩⟩;rw [<-e4];unfold Fa;rw [Bk7,Bj9,Bj8 hi];rfl
    obtain ⟨hxi,hes⟩:=Prod.mk.inj hix;subst hxi;have hesm:(⟨xf,xt,xw⟩:EdgeD)∈es:=by rw [hes];exact Bk5 hi
    obtain ⟨hnf,hnt,hw1,hw2⟩:=XD.ok HE.out xf xt xw (Gj (bk:=false).2 ⟨_,hesm,rfl,rfl,rfl⟩);obtain ⟨tx,rfl⟩:∃q:Nat,xt=(q:Int):=⟨xt.toNat,by have:=hnt.1;omega⟩;have htx:tx<n:=by have:=hnt.2;omega
    have hgd:es.getD i edZ=⟨xf,(tx:Int),xw⟩:=by rw [hes];simp [List.getD,hi]
    have hff:xf=(v:Int):=by
     obtain ⟨p,q,e1,_⟩:=hspl;obtain ⟨i',e2,hi',hk'⟩:=Dt.1 (show (i:Int)∈Pt es false v by rw [e1];simp);have:i'=i:=by omega
     subst this;have h9:(es.getD i' edZ).f.toNat=v:=hk';rw [hgd] at h9;have:=hnf.1;simp only at h9;omega
    subst hff;have HFI:=Bj3 (fun hg:Ep D ⟨(v:Int),(tx:Int),xw⟩=>(show FirstE es D (v:Int) i from by
     obtain ⟨p,q,e1,e2⟩:=hspl;exact Ax3 (pre:=p) (suf:=q) (fun e he=>(HE.out e he).1.1) e1 (by rw [hgd];exact hg) (fun j hj=>h3 _ (e2 j hj))))
    have HGD:=Bj3 hgd;have x11:=Bq ((h1.kp _ (by show w.heap.size+5<_;omega) (by show w.heap.size+5≠_;omega) (by show w.heap.size+5≠_;omega)).trans (HRS.out.kp _ (by show w.heap.size+5<_;omega) (by show w.heap.size+5≠_;omega) (by show w.heap.size+5≠_;omega)).symm) HX11.out;have HNR:=Bj3 (Ac3 n es far (w.heap.size+1) (w.heap.size+1+1) w.heap.size (w.heap.size+1+1+1) (some ⟨tb,t9,none⟩) wa fc wc i tx v (v:Int) xw Wx hn hm (by rw [Bj8 hi,<-hes]) htx hvn hlen HBD.out ⟨by omega,hw2⟩ (Bq ((h1.kp _ (by show w.heap.size+1<_;omega) (by show w.heap.size+1≠_;omega) (by show w.heap.size+1≠_;omega)).trans (HRS.out.kp _ (by show w.heap.size+1<_;omega) (by show w.heap.size+1≠_;omega) (by show w.heap.size+1≠_;omega)).symm) HX7.out) (Bq ((h1.kp _ (by show w.heap.size+2<_;omega) (by show w.heap.size+2≠_;omega) (by show w.heap.size+2≠_;omega)).trans (HRS.out.kp _ (by show w.heap.size+2<_;omega) (by show w.heap.size+2≠_;omega) (by show w.heap.size+2≠_;omega)).symm) HX8.out) h1.cv.1 (Bq ((h1.kp _ (by show w.heap.size+3<_;omega) (by show w.heap.size+3≠_;omega) (by show w.heap.size+3≠_;omega)).trans (HRS.out.kp _ (by show w.heap.size+3<_;omega) (by show w.heap.size+3≠_;omega) (by show w.heap.size+3≠_;omega)).symm) HX9.out) (HF.out.go h2) (HWT.out.go h2));have HX1:=Bj3 h1;have HX2:=Bj3 h2;have HX3:=Bj3 h3;have hge:=HDD.out;have HNG:=Bj3 (show Bm es far (v:Int) ⟨(v:Int),(tx:Int),xw⟩=true↔Ep D ⟨(v:Int),(tx:Int),xw⟩ by
     unfold Bm Ep;rw [hge];simp)
    have p6:=h1.cr.1;clear hix hes hesm hspl hsuf hgd h1 h2 h3 ho hnf hge
    by_cases hg:Bm es far (v:Int) ⟨(v:Int),(tx:Int),xw⟩=true
    ·rw [hg] at HNR
     have HGE:=Bj3 (HNG.out.1 hg);have HFE:=Bj3 (HFI.out HGE.out);have hAr:∀a b c,Am es a b c->Ac n a/\Ac n b/\1<=c:=fun a b c h=>by
      have:=XD.ok HE.out a b c (Gj (bk:=false).2 h);exact ⟨this.1,this.2.1,this.2.2.1⟩
     have HLS:=Bj3 (Lz hAr HD.out HFE.out);rw [HGD.out] at HLS;have hl1:=HX1.out.short;clear hg hAr;obtain ⟨i0,hi0,hz0,hz1,hz2⟩:=info_parts Cr.1
     gi_wp2_with (first
      |(refine ⟨trivial,?_⟩;gi_at_call 187;refine (CallsIn.inRound l' (callsIn_wide.2 HNR.out)).mono ?_;rintro e w8 ⟨rfl,hb8⟩;(have HR8:=Bj3 (HX1.out.go hb8));(have HB8:=Bj3 (HX2.out.st hb8));(have u1:=Bj4 hb8 y1);(have p8:=HR8.out.cr.1);(have HZ8:=Bj3 hb8);clear hb8)
      |(gi_at_builtin;refine wpListIn_append_own_at _ rfl _ _ 25 rfl (w.heap.size+6) 3 i0 (.int .i64 0) 1 8 Tryz.underlying25 hi0 hz0 hz1 hz2 rfl (by decide) (.slice la l.length lc) _ _ rfl (HR8.out.go (Below.of_al _ _)).own ⟨w8.heap.size,0,none⟩ 1 1 [.int .i64 (i:Int)] rfl rfl (Bg9 _ _ _) (Bc8 _) (by unfold maxLen;omega) (by omega) (by have:=HR8.out.sz;simp;omega) ?_;intro v6 w6 hown hgrow _ hat;obtain ⟨la6,lc6,rfl,-⟩:=Cel.of_owns hown;(have HO6:=Bj3 hown);(have HG6:=Bj3 hgrow);(have HT6:=Bj3 hat);(have hkb:=fun (k:Nat) (h1:k<w8.heap.size) (h2:∀x,la=some x->x.block≠k)=>(hgrow.block k (by simp;omega) (fun e=>by obtain ⟨x,hx,e2⟩:=Wq e.symm;exact h2 x hx e2)).trans ((Below.of_al w8 (Obj.cells #[Value.int .i64 (i:Int)] 3)).block k h1));(have HKP:=Bj3 hkb);(have h9:=HR8.out);(have q4:=hkb (w.heap.size+4) (by have:=h9.sz;omega) (fun x hx=>by have:=(h9.la x hx).1;omega));(have q0:=hkb w.heap.size (by have:=h9.sz;omega) (fun x hx=>by have:=(h9.la x hx).1;omega));(have t4:=Bq (p:=⟨w.heap.size+4,0,none⟩) q4 h9.cr.1);(have f4:=Ii (p:=⟨w.heap.size+4,0,none⟩) q4 h9.cr.2.2.1);(have t0:=Bq (p:=⟨w.heap.size,0,none⟩) q0 h9.cv.1);(have f0:=Ii (p:=⟨w.heap.size,0,none⟩) q0 h9.cv.2);(have t1:=Bq (p:=⟨W9.heap.size,1,none⟩) (hkb W9.heap.size (by have:=HZ8.out.size;omega) (fun x hx=>by have:=HLA.out x hx;have:=HZ7.out;omega)) u1);(have HZ6:=Bj3 (show w8.heap.size<=w6.heap.size by have:=hgrow.size;simp at this;omega));clear hown hgrow hat hkb h9 q4 q0))
     have hzq:=HZ7.out;have hwsz:=HZW.out;have h8sz:=HZ8.out.size;have h6sz:=HZ6.out;have h9:=HR8.out;have hlab:∀x,la=some x->w.heap.size+6<=x.block/\x.block<wr.heap.size:=fun x hx=>⟨(h9.la x hx).1,HLA.out x hx⟩;have hox:OffX (fun k=>∃x,la=some x/\x.block=k) w8 w6:=(OffX.of_below (Below.of_al w8 (Obj.cells #[Value.int .i64 (i:Int)] 3))).trans ((Ax1 HG6.out).mono (fun k e=>Wq e));have hla6:∀x,la6=some x->(∃y,la=some y/\y.block=x.block)\/x.block=w8.heap.size+1:=fun x hx=>by
      subst hx
      rcases HT6.out with e|e
      ·obtain ⟨y,hy,e2⟩:=Wq e.symm
       exact .inl ⟨y,hy,e2⟩
      ·have e2:=Bm2 e
       rw [World.size_alloc] at e2;exact .inr e2
     have hbel6:Below w.heap.size w w6:=HB8.out.trans (hox.below HB8.out.size (fun k ⟨x,hx,e⟩=>by have:=hlab x hx;omega));have hoff:OffX (fun k=>k=w.heap.size\/k=w.heap.size+4) w6 ((w6.setCell ⟨w.heap.size+4,0,none⟩ (.slice la6 (l.length+1) lc6)).setCell ⟨w.heap.size,0,none⟩ (.int .i64 (tx:Int))):=(OffX.set _ (.inr rfl)).trans (.set _ (.inl rfl));refine wpIn_goto ?_;refine ⟨⟨by have:=hoff.size;omega,fun k hk=>?_⟩,rfl,i,tx,la6,lc6,HLS.out.2.2.1,HLS.out.2.1,?_,?_,?_⟩
     ·have hk2:k<Wx.heap.size/\k≠w.heap.size/\k≠w.heap.size+4/\∀x,la=some x->x.block≠k:=by
       have hw7:=HB7.out.size
       rcases hk with h|h|h
       ·have:=HKB.out k h
        rcases h with h|h
        ·exact ⟨by omega,by omega,by omega,fun x hx=>by have:=hlab x hx;omega⟩
        ·exact ⟨by omega,by omega,by omega,fun x hx=>by have:=hlab x hx;omega⟩
       ·exact ⟨by omega,by omega,by omega,fun x hx=>by have:=hlab x hx;omega⟩
       ·exact ⟨by omega,by omega,by omega,fun x hx=>by have:=hlab x hx;omega⟩
      obtain ⟨k1,k2,k3,k4⟩:=hk2;exact (hoff.block k (by omega) (fun e=>by omega)).trans ((HKP.out k (by omega) k4).trans (HZ8.out.block k k1))
     ·have hnx:=h9.next (wr2:=w6) (v':=tx) (i:=i) (la':=la6) (lc':=lc6) hox (by rw [Bm3,List.length_singleton,Bn4];exact HO6.out) (fun x hx hm=>by
        rcases hla6 x hx with ⟨y,hy,e⟩|e
        ·exact (h9.la y hy).2 (e▸hm)
        ·have:=HMK.out _ hm
         have:=HX2.out.size;omega) htx (by have h8:=h9.seg.step HFE.out HV0.out;rw [HGD.out] at h8;exact h8) HLS.out.2.2.1
      rw [Bm3,List.length_singleton] at hnx;exact hnx
     ·exact hbel6.trans (hoff.below hbel6.size (fun k e=>by omega))
     ·intro x hx
      rcases hla6 x hx with ⟨y,hy,e⟩|e
      ·have:=hlab y hy
       omega
      ·omega
    ·have hg2:Bm es far (v:Int) ⟨(v:Int),(tx:Int),xw⟩=false:=by simpa using hg
     have HNO:=Bj3 (fun h=>hg (HNG.out.2 h));rw [hg2] at HNR;clear hg hg2
     gi_wp2_with (refine ⟨trivial,?_⟩;gi_at_call 187;refine (CallsIn.inRound l' (callsIn_wide.2 HNR.out)).mono ?_;rintro e w8 ⟨rfl,hb8⟩)
     refine ⟨⟨hb8.size,fun k hk=>hb8.block k ?_⟩,HX1.out.go hb8,HX2.out.st hb8,fun x hx=>?_,by have:=hb8.size;omega⟩
     ·have:=HKB.out k
      rcases hk with h|h|h
      ·have:=HKB.out k h;omega
      ·omega
      ·omega
     ·rcases Bm6.1 hx with hx|hx
      ·exact HX3.out x hx
      ·obtain rfl:=Bl0.1 hx
       exact HNO.out
 ·rintro n' l' a' w' hne ⟨h,_⟩
  exact absurd h hne
end Dj
end
end Go.Proofs.YteaaapdjplbljaaGreat
