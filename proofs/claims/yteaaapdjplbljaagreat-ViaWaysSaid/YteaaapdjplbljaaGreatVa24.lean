/- Parts; no condition. -/
import Derived.Test.YteaaapdjplbljaaGreatVa22
set_option linter.unusedVariables false
set_option linter.unusedSimpArgs false
set_option linter.unnecessarySimpa false
set_option maxRecDepth 100000
set_option maxHeartbeats 8000000
namespace Go.Proofs.YteaaapdjplbljaaGreat
section
namespace Ch
def FAR:Int:=4611686018427387904
structure Arc where
 u:Int
 v:Int
 w:Int
def rel (L:List Arc):Int->Int->Int->Prop:=fun u v w=>(⟨u,v,w⟩:Arc)∈L
def gD (d:List Int) (v:Int):Int:=d.getD v.toNat FAR
theorem Ig {d:List Int} {v u x:Int} (hv:0<=v) (hl:v.toNat<d.length) (hu:0<=u):gD (d.set v.toNat x) u=if u=v then x else gD d u:=by
 unfold gD;rw [Bj9,List.getElem?_set,Bj9]
 by_cases e:v.toNat=u.toNat
 ·rw [if_pos e,if_pos hl,if_pos (by omega)]
  rfl
 ·rw [if_neg e,if_neg (by omega)]
def It (d:List Int) (e:Arc):Bool:=decide (gD d e.u<FAR)&&decide (gD d e.u+e.w<gD d e.v)
def Dn (p:List Int×Bool) (e:Arc):List Int×Bool:=if It p.1 e then (p.1.set e.v.toNat (gD p.1 e.u+e.w),true) else p
def Cx (d:List Int) (L:List Arc):List Int×Bool:=L.foldl Dn (d,false)
abbrev node (n:Nat) (v:Int):Prop:=0<=v/\v<(n:Int)
structure Sofar (L:List Arc) (s:Int) (n:Nat) (m:Int) (d:List Int):Prop where
 len:d.length=n
 way:∀v,node n v->gD d v=FAR\/(Way0 (rel L) Any s v (gD d v)/\gD d v<=m)
 self:gD d s=0
structure Good (L:List Arc) (n:Nat) (W:Int):Prop where
 ends:∀e∈L,node n e.u/\node n e.v
 pos:∀e∈L,1<=e.w/\e.w<=W
variable {L:List Arc} {s:Int} {n:Nat} {m W:Int} {d:List Int}
theorem Good.hA (h:Good L n W):∀u v w,rel L u v w->1<=w:=fun _ _ _ k=>(h.pos _ k).1
theorem Sofar.le (h:Sofar L s n m d) (hm:m<FAR) {v:Int} (hv:node n v):gD d v<=FAR:=by
 rcases h.way v hv with e|⟨_,e⟩<;>omega
theorem Sofar.nonneg (hg:Good L n W) (h:Sofar L s n m d) {v:Int} (hv:node n v):0<=gD d v:=by
 rcases h.way v hv with e|⟨e,_⟩
 ·rw [e];decide
 ·exact e.nonneg hg.hA
theorem Sofar.relax (hg:Good L n W) (h:Sofar L s n m d) {e:Arc} (he:e∈L) (hf:It d e=true) (hs:node n s):
  Sofar L s n (m+W) (d.set e.v.toNat (gD d e.u+e.w))/\∀v,node n v->gD (d.set e.v.toNat (gD d e.u+e.w)) v<=gD d v:=by
 unfold It at hf;simp only [Bool.and_eq_true,decide_eq_true_eq] at hf;obtain ⟨f1,f2⟩:=hf;obtain ⟨⟨u0,u1⟩,⟨v0,v1⟩⟩:=hg.ends e he;have hw:=hg.pos e he;have hl:e.v.toNat<d.length:=by rw [h.len];omega
 have hu:Way0 (rel L) Any s e.u (gD d e.u)/\gD d e.u<=m:=by
  rcases h.way e.u ⟨u0,u1⟩ with k|k
  ·omega
  ·exact k
 refine ⟨⟨by rw [Bk4];exact h.len,?_,?_⟩,?_⟩
 ·intro v hv
  rw [Ig v0 hl hv.1]
  split
  ·rename_i k
   subst k;exact .inr ⟨hu.1.trans trivial (.inr (.one he)),by omega⟩
  ·rcases h.way v hv with k|⟨k1,k2⟩
   ·exact .inl k
   ·exact .inr ⟨k1,by omega⟩
 ·rw [Ig v0 hl hs.1]
  split
  ·rename_i k
   have:=hu.1.nonneg hg.hA;rw [<-k,h.self] at f2;omega
  ·exact h.self
 ·intro v hv
  rw [Ig v0 hl hv.1]
  split
  ·rename_i k
   subst k;omega
  ·exact Int.le_refl _
theorem Sofar.mono (h:Sofar L s n m d) {m':Int} (hm:m<=m'):Sofar L s n m' d:=⟨h.len,fun v hv=>(h.way v hv).imp id (fun k=>⟨k.1,by omega⟩),h.self⟩
theorem Sofar.part (hg:Good L n W) (hs:node n s) (hW:0<=W):∀(K:List Arc) (d:List Int) (m:Int) (c:Bool),(∀e∈K,e∈L)->Sofar L s n m d->
  Sofar L s n (m+K.length*W) (K.foldl Dn (d,c)).1/\(∀v,node n v->gD (K.foldl Dn (d,c)).1 v<=gD d v)/\
  (∀e∈K,m+K.length*W<FAR->gD d e.u<FAR->gD (K.foldl Dn (d,c)).1 e.v<=gD d e.u+e.w)/\
  ((K.foldl Dn (d,c)).2=false->c=false/\(K.foldl Dn (d,c)).1=d/\∀e∈K,It d e=false)
 |[],d,m,c,_,h=>⟨by simpa using h,fun _ _=>Int.le_refl _,by simp,fun e=>⟨e,rfl,by simp⟩⟩
 |e::K,d,m,c,hK,h=>by
  have heL:=hK e (by simp);rw [List.foldl_cons];have hlen:((e::K).length:Int)*W=W+K.length*W:=by
   rw [Bk8]
   push_cast
   rw [Int.add_mul];omega
  cases hf:It d e with
  |false=>
   have hr:Dn (d,c) e=(d,c):=by unfold Dn;simp [hf]
   rw [hr];obtain ⟨a1,a2,a3,a4⟩:=Sofar.part hg hs hW K d m c (fun x hx=>hK x (by simp [hx])) h;refine ⟨a1.mono (by omega),a2,?_,fun k=>?_⟩
   ·intro x hx hm hu
    rcases Bm5.1 hx with rfl|hx
    ·have h1:=a2 x.v (hg.ends x heL).2
     unfold It at hf;simp only [Bool.and_eq_false_iff,decide_eq_false_iff_not] at hf;omega
    ·exact a3 x hx (by omega) hu
   ·obtain ⟨b1,b2,b3⟩:=a4 k
    refine ⟨b1,b2,?_⟩;intro x hx
    rcases Bm5.1 hx with rfl|hx
    ·exact hf
    ·exact b3 x hx
  |true=>
   have hr:Dn (d,c) e=(d.set e.v.toNat (gD d e.u+e.w),true):=by unfold Dn;simp [hf]
   rw [hr];obtain ⟨r1,r2⟩:=h.relax hg heL hf hs;obtain ⟨a1,a2,a3,a4⟩:=Sofar.part hg hs hW K _ (m+W) true (fun x hx=>hK x (by simp [hx])) r1;refine ⟨a1.mono (by omega),fun v hv=>Int.le_trans (a2 v hv) (r2 v hv),?_,fun k=>?_⟩
   ·intro x hx hm hu
    rcases Bm5.1 hx with rfl|hx
    ·have h1:=a2 x.v (hg.ends x heL).2
     have h2:gD (d.set x.v.toNat (gD d x.u+x.w)) x.v=gD d x.u+x.w:=by
      rw [Ig (hg.ends x heL).2.1 (by rw [h.len];have:=(hg.ends x heL).2;unfold node at this;omega) (hg.ends x heL).2.1,if_pos rfl]
     omega
    ·have hxn:=(hg.ends x (hK x (by simp [hx]))).1
     have h1:=r2 x.u hxn;have:=a3 x hx (by omega) (by omega);omega
   ·exact absurd (a4 k).1 (by simp)
def Right (L:List Arc) (s:Int) (d:List Int) (v:Int):Prop:=∀e,Dist (rel L) s v e->gD d v=e/\gD d v≠FAR
open Classical in
noncomputable def left (L:List Arc) (s:Int) (n:Nat) (d:List Int):Nat:=(List.range n).countP fun v:Nat=>decide (¬Right L s d (v:Int))
theorem Bc5 (L:List Arc) (s:Int) (n:Nat) (d:List Int):left L s n d<=n:=by
 unfold left;exact Bj7 List.countP_le_length (by simp)
theorem Hs {p q:Nat->Bool}:∀(l:List Nat),(∀x∈l,p x=true->q x=true)->(∃x∈l,q x=true/\p x=false)->l.countP p<l.countP q
 |[],_,h=>by obtain ⟨x,hx,_⟩:=h;simp at hx
 |y::l,h1,h2=>by
  rw [List.countP_cons,List.countP_cons];have hle:l.countP p<=l.countP q:=List.countP_mono_left fun x hx=>h1 x (by simp [hx]);obtain ⟨x,hx,hq,hp⟩:=h2
  rcases Bm5.1 hx with rfl|hx
  ·rw [hq,hp]
   simp;omega
  ·have:=Hs l (fun z hz=>h1 z (by simp [hz])) ⟨x,hx,hq,hp⟩
   have hy:=h1 y (by simp)
   cases hpy:p y with
   |false=>simp;split<;>omega
   |true=>rw [hy hpy];simp;omega
structure Exact (L:List Arc) (s:Int) (n:Nat) (d:List Int):Prop where
 len:d.length=n
 dist:∀v e,node n v->Dist (rel L) s v e->gD d v=e
 none:∀v,node n v->(∀e,¬Dist (rel L) s v e)->gD d v=FAR
 fin:∀v e,node n v->Dist (rel L) s v e->gD d v≠FAR
theorem Sofar.exact (hg:Good L n W) (h:Sofar L s n m d) (h0:∀v e,node n v->Dist (rel L) s v e->gD d v=e/\gD d v≠FAR):Exact L s n d:=by
 refine ⟨h.len,fun v e hv hd=>(h0 v e hv hd).1,?_,fun v e hv hd=>(h0 v e hv hd).2⟩;intro v hv hn
 rcases h.way v hv with k|⟨k,_⟩
 ·exact k
 ·obtain ⟨e,he⟩:=Fz hg.hA k
  exact absurd he (hn e)
open Classical in
theorem Uv (h0:left L s n d=0) {v:Int} (hv:node n v):Right L s d v:=by
 unfold left at h0;rw [List.countP_eq_zero] at h0;have e1:((v.toNat:Nat):Int)=v:=by have:=hv.1;omega
 exact Classical.byContradiction fun k=>h0 v.toNat (Bm7.2 (by have h1:=hv.2;have h2:=hv.1;omega)) (decide_eq_true (by rw [e1];exact k))
open Classical in
theorem Ty (h0:∀v,node n v->Right L s d v):left L s n d=0:=by
 unfold left;rw [List.countP_eq_zero];intro v hv hp;exact of_decide_eq_true hp (h0 _ ⟨by omega,by have:=Bm7.1 hv;omega⟩)
theorem Sofar.zero (hg:Good L n W) (h:Sofar L s n m d) (h0:left L s n d=0):Exact L s n d:=
 h.exact hg fun _ _ hv hd=>Uv h0 hv _ hd
theorem Av9 {p:Int->Int->Prop} (h:∃v e,p v e/\0<=e):∃v e,p v e/\0<=e/\∀v' e',p v' e'->0<=e'->e<=e':=by
 have key:∀k v e,e.toNat=k->p v e->0<=e->∃v e,p v e/\0<=e/\∀v' e',p v' e'->0<=e'->e<=e':=by
  intro k
  induction k using Nat.strongRecOn with
  |_ k ih=>
   intro v e hk hp he
   by_cases hl:∃v' e',p v' e'/\0<=e'/\e'<e
   ·obtain ⟨v',e',h1,h2,h3⟩:=hl
    exact ih e'.toNat (by omega) v' e' rfl h1 h2
   ·refine ⟨v,e,hp,he,fun v' e' h1 h2=>?_⟩
    have:¬e'<e:=fun h3=>hl ⟨v',e',h1,h2,h3⟩;omega
 obtain ⟨v,e,h1,h2⟩:=h;exact key _ v e rfl h1 h2
theorem Right.keep (hg:Good L n W) (hW:0<=W) (hs:node n s) (h:Sofar L s n m d) (hm:m+L.length*W<FAR) {v:Int} (hv:node n v) (hr:Right L s d v):Right L s (Cx d L).1 v:=by
 have hmw:0<=(L.length:Int)*W:=Int.mul_nonneg (by omega) hW;obtain ⟨a1,a2,_,_⟩:=Sofar.part hg hs hW L d m false (fun e h=>h) h;intro e hd;obtain ⟨r1,r2⟩:=hr e hd;have h1:gD (Cx d L).1 v<=gD d v:=a2 v hv;have h2:gD d v<=m:=by
  rcases h.way v hv with k|⟨_,k⟩
  ·exact absurd k r2
  ·exact k
 rcases a1.way v hv with k|⟨k,_⟩
 ·have k':gD (Cx d L).1 v=FAR:=k
  omega
 ·have k':e<=gD (Cx d L).1 v:=hd.2 _ k
  omega
open Classical in
theorem An0 (hg:Good L n W) (hW:0<=W) (hs:node n s) (h:Sofar L s n m d) (hm:m+L.length*W+W<FAR) (h0:left L s n d≠0):left L s n (Cx d L).1<left L s n d:=by
 have hmw:0<=(L.length:Int)*W:=Int.mul_nonneg (by omega) hW;obtain ⟨a1,a2,a3,a4⟩:=Sofar.part hg hs hW L d m false (fun e h=>h) h;have hex:∃v e,(node n v/\Dist (rel L) s v e/\¬Right L s d v)/\0<=e:=by
  refine Classical.byContradiction fun k=>h0 (Ty fun v hv=>Classical.byContradiction fun hr=>?_);refine k ?_;unfold Right at hr;obtain ⟨e,he⟩:∃e,Dist (rel L) s v e:=Classical.byContradiction fun hn=>hr fun e he=>absurd ⟨e,he⟩ hn;exact ⟨v,e,⟨hv,he,hr⟩,he.1.nonneg hg.hA⟩
 obtain ⟨v,e,⟨hv,hd,hne⟩,he0,hmin⟩:=Av9 hex;have hvs:s≠v:=by
  rintro rfl
  apply hne
  intro e' he';obtain rfl:=he'.uniq (.self hg.hA s);rw [h.self];exact ⟨rfl,by decide⟩
 obtain ⟨x,w,hx,hdx⟩:=hd.pred hvs;have hxn:=(hg.ends _ hx).1;simp only at hxn;have hw1:=hg.pos _ hx;simp only at hw1;have hxr:Right L s d x:=by
  refine Classical.byContradiction fun k=>?_;have:=hmin x (e-w) ⟨hxn,hdx,k⟩ (hdx.1.nonneg hg.hA);omega
 obtain ⟨hxe,hxf⟩:=hxr _ hdx;have hxm:gD d x<=m:=by
  rcases h.way x hxn with k|⟨_,k⟩
  ·exact absurd k hxf
  ·exact k
 have hxd:=a3 _ hx (by omega) (by simp only;omega);simp only at hxd;have hev:Right L s (Cx d L).1 v:=by
  intro e' he';obtain rfl:=hd.uniq he';have h1:gD (Cx d L).1 v<=e:=by show gD (List.foldl Dn (d,false) L).1 v<=e;omega
  rcases a1.way v hv with k|⟨k,_⟩
  ·have k':gD (Cx d L).1 v=FAR:=k
   omega
  ·have k':e<=gD (Cx d L).1 v:=hd.2 _ k
   omega
 have e1:((v.toNat:Nat):Int)=v:=by have:=hv.1;omega
 unfold left;refine Hs _ ?_ ⟨v.toNat,Bm7.2 (by have h1:=hv.1;have h2:=hv.2;omega),decide_eq_true (by rw [e1];exact hne),decide_eq_false (by rw [e1];exact fun k=>k hev)⟩;intro u hu hp;have hp:=of_decide_eq_true hp;exact decide_eq_true fun hr=>hp (hr.keep hg hW hs h (by omega) ⟨by omega,by have:=Bm7.1 hu;omega⟩)
theorem Sofar.still (hg:Good L n W) (h:Sofar L s n m d) (hf:∀e∈L,It d e=false) (hm:m+W<FAR) (hW:0<=W):Exact L s n d:=by
 have key:∀{u v e},Way (rel L) Any u v e->gD d u+e<FAR->gD d v<=gD d u+e:=by
  intro u v e hw
  induction hw with
  |@one u v w k=>
   intro hb;have h1:=hf _ k;have h2:=(hg.pos _ k).1;simp only at h2;unfold It at h1;simp only [Bool.and_eq_false_iff,decide_eq_false_iff_not] at h1;omega
  |@cons u x v w e k _ k2 ih=>
   intro hb;have h1:=hf _ k;have h2:=(hg.pos _ k).1;have h3:=k2.pos hg.hA;simp only at h2;unfold It at h1;simp only [Bool.and_eq_false_iff,decide_eq_false_iff_not] at h1;have:=ih (by omega);omega
 have bound:∀{v e},Way (rel L) Any s v e->gD d v<FAR:=by
  intro v e hw;have h2:∀{u v e},Way (rel L) Any u v e->gD d u<FAR->gD d v<FAR:=by
   intro u v e hw;have step:∀{u v w},rel L u v w->gD d u<FAR->gD d v<FAR:=by
    intro u v w k hu;have h1:=hf _ k;have hn:=(hg.ends _ k).2;unfold It at h1;simp only [Bool.and_eq_false_iff,decide_eq_false_iff_not] at h1
    rcases h.way v hn with k2|⟨_,k2⟩
    ·
     rcases h.way u (hg.ends _ k).1 with k3|⟨_,k3⟩
     ·omega
     ·have h4:=(hg.pos _ k).2
      simp only at h1 h4;omega
    ·omega
   induction hw with
   |one k=>exact step k
   |cons k _ _ ih=>exact fun hu=>ih (step k hu)
  exact h2 hw (by rw [h.self];decide)
 refine h.exact hg fun v e hv hd=>?_
 rcases h.way v hv with k|⟨k,k2⟩
 ·exfalso
  rcases hd.1 with ⟨rfl,rfl⟩|hw
  ·rw [h.self] at k;cases k
  ·have:=bound hw;omega
 ·refine ⟨?_,by omega⟩
  have h1:=hd.2 _ k
  rcases hd.1 with ⟨rfl,rfl⟩|hw
  ·exact h.self
  ·have:=key hw (by rw [h.self];omega)
   rw [h.self] at this;omega
theorem Sofar.round (hg:Good L n W) (hW:0<=W) (hs:node n s) (h:Sofar L s n m d) (hm:m+L.length*W+W<FAR):
  Sofar L s n (m+L.length*W) (Cx d L).1/\(left L s n (Cx d L).1<left L s n d\/left L s n (Cx d L).1=0)/\((Cx d L).2=false->Exact L s n (Cx d L).1):=by
 have hmw:0<=(L.length:Int)*W:=Int.mul_nonneg (by omega) hW;obtain ⟨a1,a2,a3,a4⟩:=Sofar.part hg hs hW L d m false (fun e h=>h) h;refine ⟨a1,?_,fun k=>?_⟩
 ·by_cases h0:left L s n d=0
  ·exact .inr (Ty fun v hv=>(Uv h0 hv).keep hg hW hs h (by omega) hv)
  ·exact .inl (An0 hg hW hs h hm h0)
 ·obtain ⟨_,k2,k3⟩:=a4 k
  show Exact L s n (List.foldl Dn (d,false) L).1
  rw [k2];exact h.still hg k3 (by omega) hW
theorem Sofar.begin (L:List Arc) {s:Int} {n:Nat} (hs:node n s):Sofar L s n 0 ((List.replicate n FAR).set s.toNat 0):=by
 have hl:s.toNat<(List.replicate n FAR).length:=by simp;omega
 refine ⟨by simp,?_,?_⟩
 ·intro v hv
  rw [Ig hs.1 hl hv.1]
  split
  ·rename_i e
   subst e;exact .inr ⟨.inl ⟨rfl,rfl⟩,Int.le_refl _⟩
  ·refine .inl ?_
   unfold gD;rw [Bj9,Bn3]
   split<;>rfl
 ·rw [Ig hs.1 hl hs.1,if_pos rfl]
end Ch
end
section
open Go Go.Proofs Go.RowKit Go.Shelf Ch
theorem Ln (ao:Option Addr) (cap:Nat) (l:List Int) (x:Int) (w:World) (hl:l.length<=9223372036854775807) (hc:Cel w ao (l.map Ai)):
  Calls Tryz.prog 44 #[.slice ao l.length cap,.int .i64 x] w fun e w'=>e=.returned (.bool (decide (x∈l)))/\w=w':=by
 have HC:=Bj3 hc;clear hc;have HT:=Bj3 (fun k (h:k<l.length) (e:l[k]=x)=>(decide_eq_true (e▸Bk5 h):decide (x∈l)=true));have HF:=Bj3 (fun (h:∀j (hj:j<l.length),l[j]≠x)=>(decide_eq_false (fun hm=>by obtain ⟨j,hj,e⟩:=List.getElem_of_mem hm;exact h j hj e):decide (x∈l)=false));generalize decide (x∈l)=r at*
 go_enter Tryz.func44,Tryz.ntmps44
 go_wp2
 go_loopg [5] l.length (fun g i wr=>∃k:Nat,k<=l.length/\l.length-k<=g/\i=.int .i64 k/\wr=w/\Aside (∀j (hj:j<l.length),j<k->l[j]≠x))
 case atStart=>exact ⟨0,Bj6 _,by omega,rfl,rfl,fun j _ h=>absurd h (Nat.not_lt_zero _)⟩
 case round=>
  obtain ⟨k,hk,hg,rfl,rfl,HA⟩:=hrel
  by_cases hlt:k<l.length
  ·have hlt3:(k:Int)<(l.length:Int):=by omega
   have hk0:(0:Int)<=(k:Int):=by omega
   obtain ⟨b,o,hao,hcell⟩:=HC.out.at hlt;subst hao;have H1:=Bj3 (HT.out k hlt);have H2:=Bj3 (fun h:l[k]≠x=>(fun j (h1:j<l.length) (h2:j<k+1)=>(by
    by_cases e:j=k
    ·subst e;exact h
    ·exact HA.out j h1 (by omega):l[j]≠x)))
   generalize l[k]=y at*
   by_cases e:y=x
   ·have he:(y==x)=true:=by simp [e]
    have HR:=Bj3 (H1.out e);clear e
    go_wp2
    go_ret
    exact ⟨by rw [HR.out];rfl,rfl⟩
   ·have he:(y==x)=false:=by simp [e]
    have HR:=Bj3 (H2.out e);clear e
    go_wp2
    go_roundg (l.length-(k+1))
    case measure=>omega
    case rel=>exact ⟨k+1,by omega,by omega,by go_num,rfl,HR.out⟩
  ·obtain rfl:k=l.length:=by omega
   have HR:=Bj3 (HF.out fun j hj=>HA.out j hj hj)
   go_wp2
   go_ret
   exact ⟨by rw [HR.out];rfl,rfl⟩
def Fj (back:Bool) (e:EdgeD):Int×Int:=if back then (e.t,e.f) else (e.f,e.t)
theorem Yf (e:EdgeD) (back:Bool) (w:World):
  Calls Tryz.prog 126 #[.agg #[.int .i64 e.f,.int .i64 e.t,.int .u64 e.w],.bool back] w fun x w'=>x=.returned (.tuple #[.int .i64 (Fj back e).1,.int .i64 (Fj back e).2])/\Below w.heap.size w w':=by
 obtain ⟨f,t,x⟩:=e;unfold Fj;obtain ⟨W,hW⟩:∃W,W=w.alloc (Obj.cells #[.int .i64 f,.int .i64 t,.int .u64 x] 109):=⟨_,rfl⟩;have HB:=Bj3 (show Below w.heap.size w W by rw [hW];exact Below.of_al _ _);have c0:W.cell? ⟨w.heap.size,0,none⟩=some (.int .i64 f):=by rw [hW];go_simp
 have c1:W.cell? ⟨w.heap.size,1,none⟩=some (.int .i64 t):=by rw [hW];go_simp
 have f0:=fun p=>Ab p c0;have f1:=fun p=>Ab p c1;have HW:=Bj3 hW;clear hW
 cases back
 all_goals
  go_enter Tryz.func126,Tryz.ntmps126
  go_upto_region 1 with (fail)
  rw [<-HW.out]
  go_wp2
  refine Af (by kernel_rfl) (by kernel_rfl) ?_
  repeat (go_big_quiet_step (fail))
  refine wpQuiet_nil ?_;rintro _ ⟨pq,rfl⟩;have HBq:=Bj3 (Ah W pq);generalize ext W pq=wq at HBq ⊢
  go_wp2
  refine bodyPost_ret (by simp [results,Tryz.results126,go_sem];try rfl) rfl ?_;exact ⟨rfl,HB.out.st HBq.out⟩
def Ek (no:List Int) (e:EdgeD):Bool:=!decide (e.f∈no)&&!decide (e.t∈no)
abbrev Wg (back:Bool) (ao:Option Addr) (n cap:Nat):Value:=.agg #[.bool back,.slice ao n cap,.slice none 0 0,.slice none 0 0,.int .u64 0]
theorem Lg (n:Int) (es:List EdgeD) (ao no:Option Addr) (cap nc:Nat) (back:Bool) (l:List Int) (k:Nat) (hk:k<es.length) (w:World) (hl:l.length<=1000000) (hel:es.length<=1000000) (hc:Cel w ao (Ar es)) (hn:Cel w no (l.map Ai)):
  Calls Tryz.prog 121 #[.agg #[.int .i64 n,.slice ao es.length cap],.int .i64 k,Wg back no l.length nc] w fun x w'=>x=.returned (.bool (Ek l es[k]))/\Below w.heap.size w w':=by
 obtain ⟨W,hW⟩:∃W,W=(w.alloc (Obj.cells #[.int .i64 n,.slice ao es.length cap] 24)).alloc (Obj.cells #[.bool back,.slice no l.length nc,.slice none 0 0,.slice none 0 0,.int .u64 0] 119):=⟨_,rfl⟩;have hbw:Below w.heap.size w W:=by rw [hW];exact (Below.of_al _ _).al _
 have c1:W.cell? ⟨w.heap.size,1,none⟩=some (.slice ao es.length cap):=by rw [hW];go_simp
 have c2:W.cell? ⟨w.heap.size+1,1,none⟩=some (.slice no l.length nc):=by rw [hW];go_simp
 have c3:W.cell? ⟨w.heap.size+1,2,none⟩=some (.slice none 0 0):=by rw [hW];go_simp
 have HB:=Bj3 hbw;have HW:=Bj3 hW;obtain ⟨b,o,rfl,g0,g1,g2⟩:=(hc.go hbw).edge hk;have HH:=Bj3 (fun W' (hz:Below W.heap.size W W') x=>Ln no nc l x W' (by omega) ((hn.go hbw).go hz));have HN:=Bj3 (fun (W':World) x=>Ln none 0 [] x W' (by simp) (Cel.nil _ _));have hk3:(k:Int)<(es.length:Int):=by omega
 have hk0:(0:Int)<=(k:Int):=by omega
 generalize es[k]=e at*;have HE:=Bj3 (show Ek l e=(!decide (e.f∈l)&&!decide (e.t∈l)) from rfl);generalize Ek l e=r at*;have HF:=Bj3 (fun W' hz=>HH.out W' hz e.f);have HT:=Bj3 (fun W' hz=>HH.out W' hz e.t);have HX:=Bj3 (fun p=>Ah W p);clear hW hc hn hbw HH;generalize decide (e.f∈l)=bf at*;generalize decide (e.t∈l)=bt at*;obtain ⟨f,t,x⟩:=e;simp only at HF HT g0 g1;have f1:=fun p=>Ab p c1;have f2:=fun p=>Ab p c2;have f3:=fun p=>Ab p c3;have y0:=fun p=>Ab p g0;have y1:=fun p=>Ab p g1
 cases bf<;>cases bt
 all_goals
  go_enter Tryz.func121,Tryz.ntmps121
  go_upto_region 1 with (fail)
  rw [<-HW.out];refine Af (by kernel_rfl) (by kernel_rfl) ?_
  repeat (go_big_quiet_step ((first|(go_at_call_of 44 (Value.slice none 0 0);exact Calls.ext_of_same (HN.out _ _))|(go_at_call 44;first|with_reducible exact Calls.ext_of_same (HF.out _ (HX.out _))|with_reducible exact Calls.ext_of_same (HT.out _ (HX.out _))))))
  refine wpQuiet_nil ?_;rintro _ ⟨pq,rfl⟩;have HBq:=Bj3 (Ah W pq);generalize ext W pq=wq at HBq ⊢
  go_wp2
  go_ret
  exact ⟨by rw [HE.out];rfl,HB.out.st HBq.out⟩
end
section
open Go Go.Proofs Go.RowKit Go.Shelf Hp Ch
structure US where
 far:List (Option Int)
 bys:List Int
 l:List IK
 p:List Int
def Cy (s:US) (v:Nat) (d b:Int):US:=if (Au s.far v d).1 then ⟨(Au s.far v d).2,s.bys.set v b,(Bl s.l s.p v d).2.1,(Bl s.l s.p v d).2.2⟩ else s
def UX (sb rb fb hp:Nat) (va v:Value) (k:Nat):Prop:=SX sb rb k\/k=fb\/HX hp v va k
structure UpW (w0 W:World) (xb hb:Nat) (back:Bool) (sb rb fb hp n:Nat) (va v:Value) (s:US):Prop where
 bx:PB W xb [.pointer (some ⟨hb,0,none⟩),.bool back,.pointer (some ⟨sb,0,none⟩),.slice (some ⟨fb,0,none⟩) n n,.pointer (some ⟨hp,0,none⟩)]
 sr:SrW w0 W sb rb fb hp va v s.far s.bys s.l s.p
 ok:HeapOK s.l s.p
 lens:s.far.length=n/\s.bys.length=n/\s.p.length=n
 sx:w0.heap.size<=xb/\xb≠sb/\xb≠rb/\xb≠fb/\¬HX hp v va xb
section
variable {w0 W W':World} {xb hb:Nat} {back:Bool} {sb rb fb hp n:Nat} {va v:Value} {s:US}
theorem UpW.llen (h:UpW w0 W xb hb back sb rb fb hp n va v s):s.l.length<=n:=by
 have:=Mw h.ok;have:=h.lens.2.2;omega
theorem UpW.ux (h:UpW w0 W xb hb back sb rb fb hp n va v s):∀k,UX sb rb fb hp va v k->w0.heap.size<=k/\k<W.heap.size:=by
 have h1:=h.sr.s1.lt;have h2:=(h.sr.sp.lt fb rfl).2;rintro k ((rfl|rfl)|rfl|hk)
 ·exact ⟨h.sr.ge.1,h1.1⟩
 ·exact ⟨h.sr.ge.2.1,h1.2⟩
 ·exact ⟨h.sr.ge.2.2.1,h2⟩
 ·refine ⟨h.sr.ge.2.2.2 k hk,?_⟩
  rcases hk with rfl|hk|hk
  ·exact h.sr.hp.pb.lt
  ·exact (h.sr.hp.ol.lt k hk).2
  ·exact (h.sr.hp.oa.lt k hk).2
theorem HeapW.off {X:Nat->Prop} {b:Nat} {l:List IK} {p:List Int} (h:HeapW W b v va l p) (ho:OffX X W W') (hX:∀k,HX b v va k->¬X k):HeapW W' b v va l p:=
 ⟨h.pb.eq (ho.block _ h.pb.lt (hX _ (.inl rfl))),Ak h.ol (fun k e=>ho.block k (h.ol.lt k e).2 (hX _ (.inr (.inl e)))),Ak h.oa (fun k e=>ho.block k (h.oa.lt k e).2 (hX _ (.inr (.inr e)))),h.d1,h.d2,h.d3⟩
theorem UpW.off {X:Nat->Prop} (h:UpW w0 W xb hb back sb rb fb hp n va v s) (ho:OffX X W W') (hX:∀k,UX sb rb fb hp va v k->¬X k) (hx:¬X xb) (hge:∀k,X k->w0.heap.size<=k):UpW w0 W' xb hb back sb rb fb hp n va v s:=
 ⟨h.bx.eq (ho.block _ h.bx.lt hx),⟨h.sr.s1.off ho (hX _ (.inl (.inl rfl))) (hX _ (.inl (.inr rfl))),h.sr.hp.off ho (fun k hk=>hX k (.inr (.inr hk))),Ny h.sr.sp ho (hX _ (.inr (.inl rfl))),h.sr.bel.trans (ho.below h.sr.bel.size hge),h.sr.ge,h.sr.sep,h.sr.sf⟩,h.ok,h.lens,h.sx⟩
theorem UpW.go (h:UpW w0 W xb hb back sb rb fb hp n va v s) (hb':Below W.heap.size W W'):UpW w0 W' xb hb back sb rb fb hp n va v s:=h.off (X:=fun _=>False) (.of_below hb') (fun _ _ h=>h) (fun h=>h) (fun _ h=>h.elim)
theorem Rr (f:List (Option Int)) (i:Nat) (d:Int):(Au f i d).2.length=f.length:=by
 unfold Au
 split
 ·split
  ·rfl
  ·exact Bk4
 ·exact Bk4
theorem Fp {f:List (Option Int)} {i:Nat} {d:Int} (h:(Au f i d).1=false):(Au f i d).2=f/\∃e,f.getD i none=some e/\e<=d:=by
 unfold Au at h ⊢
 split
 ·rename_i u hu
  rw [hu] at h;simp only at h
  split at h
  ·rename_i hle
   rw [if_pos hle];exact ⟨rfl,u,hu,hle⟩
  ·cases h
 ·rename_i hu
  rw [hu] at h
  cases h
theorem Gr {f:List (Option Int)} {i:Nat} {d:Int} (h:(Au f i d).1=true):(Au f i d).2=f.set i (some d)/\∀e,f.getD i none=some e->d<e:=by
 unfold Au at h ⊢
 split
 ·rename_i u hu
  rw [hu] at h;simp only at h
  split at h
  ·cases h
  ·rename_i hle
   rw [if_neg hle];refine ⟨rfl,fun e he=>?_⟩;rw [hu] at he
   cases he
   omega
 ·rename_i hu
  exact ⟨rfl,fun e he=>by rw [hu] at he;cases he⟩
end
def Dm (w0 W:World) (xb hb:Nat) (back:Bool) (sb rb fb hp n:Nat) (va v:Value) (s':US) (e:Ending) (w':World):Prop:=
 e=.returned (.tuple #[])/\∃v',UpW w0 w' xb hb back sb rb fb hp n va v' s'/\OffX (UX sb rb fb hp va v) W w'/\(v'.ownBlock=v.ownBlock\/∃g,v'.ownBlock=some g/\W.heap.size<=g)
theorem Hd (w0 W:World) (xb hb:Nat) (back:Bool) (sb rb fb hp n:Nat) (va v:Value) (s:US) (u:Nat) (d b:Int) (h:UpW w0 W xb hb back sb rb fb hp n va v s) (hu:u<n) (hn:n<=60000):
  Calls Tryz.prog 235 #[.pointer (some ⟨xb,0,none⟩),.int .i64 (u:Int),.int .u64 d,.int .i64 b] W (Dm w0 W xb hb back sb rb fb hp n va v (Cy s u d b)):=by
 have HLS:=Bj3 (Lm sb rb u d s.far W h.sr.s1 (by rw [h.lens.1];exact hu));have HH:=Bj3 h;have HU:=Bj3 (show Cy s u d b=if (Au s.far u d).1 then ⟨(Au s.far u d).2,s.bys.set u b,(Bl s.l s.p u d).2.1,(Bl s.l s.p u d).2.2⟩ else s from rfl);obtain ⟨x2,-⟩:=h.bx 2 _ rfl;unfold Dm
 cases hle:(Au s.far u d).1 with
 |false=>
  have HF:=Bj3 (Fp hle);rw [hle] at HLS HU;clear hle h
  go_enter Tryz.func235,Tryz.ntmps235
  go_wp2_with (go_at_call 247;refine HLS.out.mono ?_;rintro e w1 ⟨rfl,hs1,ho1⟩;(have HS1:=Bj3 hs1);(have HO1:=Bj3 ho1);clear hs1 ho1)
  try simp only [Exit.noGoto]
  refine bodyPost_end (results_none rfl _ _ _) rfl ?_;refine ⟨rfl,v,?_,HO1.out.mono (fun k hk=>.inl hk),.inl rfl⟩;rw [HU.out,if_neg (by simp)];have h1:=HH.out;have h2:=HS1.out;rw [HF.out.1] at h2;exact ⟨h1.bx.eq (HO1.out.block _ h1.bx.lt (by rintro (e|e);exact h1.sx.2.1 e;exact h1.sx.2.2.1 e)),h1.sr.stamp h2 HO1.out,h1.ok,h1.lens,h1.sx⟩
 |true=>
  have HF:=Bj3 (Gr hle);rw [hle] at HLS HU;have HPT:=Bj3 (fun WX (hx:SrW w0 WX sb rb fb hp va v (Au s.far u d).2 (s.bys.set u b) s.l s.p)=>Hk hp u d v va s.l s.p WX hx.hp h.ok (by rw [h.lens.2.2];exact hu) (by have:=h.llen;omega));have hul:u<s.bys.length:=by rw [h.lens.2.1];exact hu
  have hu0:(0:Int)<=(u:Int):=by omega
  have hu1:(u:Int)<(n:Int):=by omega
  have hne:(xb=fb)=False:=by simpa using h.sx.2.2.2.1
  unfold Ft at HPT;clear hle h
  go_enter Tryz.func235,Tryz.ntmps235
  go_wp2_with (first
   |(go_at_call 247;refine HLS.out.mono ?_;rintro e w1 ⟨rfl,hs1,ho1⟩;(have hsr1:=HH.out.sr.stamp hs1 ho1);(have hbx1:=HH.out.bx.eq (ho1.block _ HH.out.bx.lt (by rintro (e|e);exact HH.out.sx.2.1 e;exact HH.out.sx.2.2.1 e)));(obtain ⟨x3,-⟩:=hbx1 3 _ rfl);(obtain ⟨x4,-⟩:=hbx1 4 _ rfl);(have x4s:(w1.setCell ⟨fb,u,none⟩ (.int .i64 b)).cell? ⟨xb,4,none⟩=some (.pointer (some ⟨hp,0,none⟩)):=by rw [Bk1 _ _ _ _ (fun e=>HH.out.sx.2.2.2.1 (by cases e;rfl))];exact x4);(have y0:=(hsr1.sp.cellAt u (by omega)).trans (Bj8 (by rw [Bn5];exact hul)));(have z0:=hsr1.sp.frozenAt u);(have HSR1:=Bj3 hsr1);(have HBX1:=Bj3 hbx1);(have HO1:=Bj3 ho1);(have HSR2:=Bj3 (hsr1.step u b));clear hs1 ho1 hsr1 hbx1)
   |(go_at_call 163;refine (HPT.out _ HSR2.out).mono ?_;rintro e w3 ⟨rfl,v3,hh3,ho3,hv3⟩;(have HSR3:=Bj3 (HSR2.out.heap hh3 ho3 hv3));(have HO3:=Bj3 ho3);(have HV3:=Bj3 hv3);clear hh3 ho3 hv3))
  try simp only [Exit.noGoto]
  refine bodyPost_end (results_none rfl _ _ _) rfl ?_;have hsz1:=HO1.out.size;have hwz:(w1.setCell ⟨fb,u,none⟩ (.int .i64 b)).heap.size=w1.heap.size:=by simp [World.setCell]
  have h0:=HH.out;have hx1:xb<w1.heap.size:=HBX1.out.lt;have hbx2:PB (w1.setCell ⟨fb,u,none⟩ (.int .i64 b)) xb _:=HBX1.out.setAt (fun e=>h0.sx.2.2.2.1 e.symm) _;obtain ⟨l1,l2,l3,-⟩:=Eb h0.ok (v:=u) (by rw [h0.lens.2.2];exact hu) d;refine ⟨rfl,v3,⟨?_,?_,?_,?_,?_⟩,?_,?_⟩
  ·exact hbx2.eq (HO3.out.block _ (by rw [hwz];exact hx1) h0.sx.2.2.2.2)
  ·rw [HU.out,if_pos (by simp)]
   exact HSR3.out
  ·rw [HU.out,if_pos (by simp)]
   exact l1
  ·rw [HU.out,if_pos (by simp)]
   exact ⟨(Rr _ _ _).trans h0.lens.1,Bk4.trans h0.lens.2.1,l2.trans h0.lens.2.2⟩
  ·refine ⟨h0.sx.1,h0.sx.2.1,h0.sx.2.2.1,h0.sx.2.2.2.1,?_⟩
   rintro (e|e|e)
   ·exact h0.sx.2.2.2.2 (.inl e)
   ·rcases HV3.out with k|⟨g,k,hg⟩
    ·exact h0.sx.2.2.2.2 (.inr (.inl (k.symm.trans e)))
    ·rw [k] at e
     cases e
     omega
   ·exact h0.sx.2.2.2.2 (.inr (.inr e))
  ·exact ((HO1.out.mono (fun k hk=>Or.inl hk)).trans (OffX.set (X:=UX sb rb fb hp va v) (b:=fb) (j:=u) (.int .i64 b) (.inr (.inl rfl)))).trans (HO3.out.mono (fun k hk=>.inr (.inr hk)))
  ·rcases HV3.out with k|⟨g,k,hg⟩
   ·exact .inl k
   ·exact .inr ⟨g,k,by omega⟩
end
section
open Go Go.Proofs Go.RowKit Go.Shelf Hp Ch
abbrev Az6:=List (List Int)×List (List Int)
def Gf (O:List (List Int)) (v:Int) (i:Nat):List (List Int):=O.set v.toNat (O.getD v.toNat []++[(i:Int)])
def Pm (R:List Int) (x:SC):Bool:=decide (rAt R x.t<rAt R x.f)
def Cn (R:List Int) (p:Az6) (x:SC) (i:Nat):Az6:=if Pm R x then (p.1,Gf p.2 x.t i) else (Gf p.1 x.f i,p.2)
def An (R:List Int) (S:List SC) (n:Nat):Nat->Az6
 |0=>(List.replicate n [],List.replicate n [])
 |k+1=>Cn R (An R S n k) (S.getD k scZ) k
theorem Rc (O:List (List Int)) (v:Int) (i:Nat):(Gf O v i).length=O.length:=Bk4
theorem Nv (R:List Int) (S:List SC) (n:Nat):∀k,(An R S n k).1.length=n/\(An R S n k).2.length=n
 |0=>⟨by simp [An],by simp [An]⟩
 |k+1=>by
  obtain ⟨h1,h2⟩:=Nv R S n k
  show (Cn _ _ _ _).1.length=n/\(Cn _ _ _ _).2.length=n
  unfold Cn
  split
  ·exact ⟨h1,by rw [Rc];exact h2⟩
  ·exact ⟨by rw [Rc];exact h1,h2⟩
theorem Lp {O:List (List Int)} {v:Int} {i:Nat} {u:Nat} (hv:v.toNat<O.length):(Gf O v i).getD u []=if u=v.toNat then O.getD u []++[(i:Int)] else O.getD u []:=by
 unfold Gf;rw [Bj9,List.getElem?_set]
 by_cases e:v.toNat=u
 ·subst e
  rw [if_pos rfl,if_pos rfl,if_pos hv];rfl
 ·rw [if_neg e,if_neg (fun h=>e h.symm),Bj9]
theorem Qc {j:Int} {k:Nat} {Q:Nat->Prop}:(∃i:Nat,j=(i:Int)/\i<k+1/\Q i)↔(∃i:Nat,j=(i:Int)/\i<k/\Q i)\/(j=(k:Int)/\Q k):=by
 constructor
 ·rintro ⟨i,h1,h2,h3⟩
  by_cases e:i=k
  ·subst e;exact .inr ⟨h1,h3⟩
  ·exact .inl ⟨i,h1,by omega,h3⟩
 ·rintro (⟨i,h1,h2,h3⟩|⟨h1,h2⟩)
  ·exact ⟨i,h1,by omega,h3⟩
  ·exact ⟨k,h1,by omega,h2⟩
theorem Ud (R:List Int) (S:List SC) (n:Nat) (hends:∀x∈S,Ac n x.f/\Ac n x.t):∀k,k<=S.length->∀(u:Nat),u<n->
  (∀j:Int,j∈(An R S n k).1.getD u []↔∃i:Nat,j=(i:Int)/\i<k/\(S.getD i scZ).f=(u:Int)/\Pm R (S.getD i scZ)=false)/\
  (∀j:Int,j∈(An R S n k).2.getD u []↔∃i:Nat,j=(i:Int)/\i<k/\(S.getD i scZ).t=(u:Int)/\Pm R (S.getD i scZ)=true)
 |0,_,u,hu=>by
  have hz:(List.replicate n ([]:List Int)).getD u []=[]:=by
   rw [Bj9,Bn3]
   split<;>rfl
  constructor<;>(intro j;show j∈(List.replicate n ([]:List Int)).getD u []↔_;rw [hz];constructor)
  ·intro h;cases h
  ·rintro ⟨i,_,hi,_⟩;omega
  ·intro h;cases h
  ·rintro ⟨i,_,hi,_⟩;omega
 |k+1,hk,u,hu=>by
  obtain ⟨ih1,ih2⟩:=Ud R S n hends k (by omega) u hu;obtain ⟨l1,l2⟩:=Nv R S n k;have hx:S.getD k scZ∈S:=by
   rw [Bj9,Bj8 (by omega)];exact Bk5 _
  obtain ⟨e1,e2⟩:=hends _ hx;have hstep:An R S n (k+1)=Cn R (An R S n k) (S.getD k scZ) k:=rfl;rw [hstep];unfold Cn
  cases hd:Pm R (S.getD k scZ) with
  |true=>
   rw [if_pos rfl];refine ⟨fun j=>?_,fun j=>?_⟩
   ·rw [Qc,<-ih1 j]
    constructor
    ·exact .inl
    ·rintro (h|⟨_,_,h⟩)
     ·exact h
     ·rw [hd] at h;cases h
   ·rw [Qc,<-ih2 j,Lp (by rw [l2];have:=e2.1;have:=e2.2;omega)]
    by_cases e:u=(S.getD k scZ).t.toNat
    ·rw [if_pos e,Bm6,Bl0]
     have e3:(S.getD k scZ).t=(u:Int):=by rw [e];have:=e2.1;omega
     constructor
     ·rintro (h|h)
      ·exact .inl h
      ·exact .inr ⟨h,e3,hd⟩
     ·rintro (h|⟨h,_⟩)
      ·exact .inl h
      ·exact .inr h
    ·rw [if_neg e]
     constructor
     ·exact .inl
     ·rintro (h|⟨_,h,_⟩)
      ·exact h
      ·exact absurd (by rw [h];rfl) e
  |false=>
   rw [if_neg (by simp)];refine ⟨fun j=>?_,fun j=>?_⟩
   ·rw [Qc,<-ih1 j,Lp (by rw [l1];have:=e1.1;have:=e1.2;omega)]
    by_cases e:u=(S.getD k scZ).f.toNat
    ·rw [if_pos e,Bm6,Bl0]
     have e3:(S.getD k scZ).f=(u:Int):=by rw [e];have:=e1.1;omega
     constructor
     ·rintro (h|h)
      ·exact .inl h
      ·exact .inr ⟨h,e3,hd⟩
     ·rintro (h|⟨h,_⟩)
      ·exact .inl h
      ·exact .inr h
    ·rw [if_neg e]
     constructor
     ·exact .inl
     ·rintro (h|⟨_,h,_⟩)
      ·exact h
      ·exact absurd (by rw [h];rfl) e
   ·rw [Qc,<-ih2 j]
    constructor
    ·exact .inl
    ·rintro (h|⟨_,_,h⟩)
     ·exact h
     ·rw [hd] at h;cases h
end
end Go.Proofs.YteaaapdjplbljaaGreat
