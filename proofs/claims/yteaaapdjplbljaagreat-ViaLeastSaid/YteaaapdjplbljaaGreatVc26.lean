/- Parts; no condition. -/
import Derived.Test.YteaaapdjplbljaaGreatVc25
set_option linter.unusedVariables false
set_option linter.unusedSimpArgs false
set_option linter.unnecessarySimpa false
set_option maxRecDepth 100000
set_option maxHeartbeats 8000000
namespace Go.Proofs.YteaaapdjplbljaaGreat
section
open Go Go.Proofs Go.RowKit Go.Shelf Hp Ch
theorem Bb6 {d:List Int} {v:Nat} {u x:Int} (hl:v<d.length) (hu:0<=u):gD (d.set v x) u=if u=(v:Int) then x else gD d u:=by
 have:=Hw (d:=d) (v:=(v:Int)) (u:=u) (x:=x) (by omega) (by rw [Bj9];exact hl) hu
 rwa [Bj9] at this
def Ba (v:Nat) (f:List Int) (x:Bt):List Int:=f.set v (min (gD f (v:Int)) (gD f x.2.1+x.2.2))
def Bn (v:Nat) (f:List Int) (l:List Bt):List Int:=l.foldl (Ba v) f
theorem Aa5 (v:Nat) (f:List Int) (l:List Bt) (x:Bt):Bn v f (l++[x])=Ba v (Bn v f l) x:=by unfold Bn;rw [List.foldl_append];rfl
theorem Xm (v:Nat) (f:List Int) (x:Bt):(Ba v f x).length=f.length:=by unfold Ba;rw [Bj6]
theorem Tu (v:Nat):∀(l:List Bt) (f:List Int),(Bn v f l).length=f.length
 |[],_=>rfl
 |x::l,f=>by show (Bn v (Ba v f x) l).length=_;rw [Tu v l,Xm]
theorem Ag2 {v:Nat} {f:List Int} (hv:v<f.length) (x:Bt) {u:Int} (hu:0<=u):gD (Ba v f x) u=if u=(v:Int) then min (gD f (v:Int)) (gD f x.2.1+x.2.2) else gD f u:=Bb6 hv hu
theorem Lh {v:Nat}:∀(l:List Bt) (f:List Int),v<f.length->(∀x∈l,0<=x.2.1/\x.2.1≠(v:Int))->
  (∀u,0<=u->u≠(v:Int)->gD (Bn v f l) u=gD f u)/\gD (Bn v f l) (v:Int)<=gD f (v:Int)/\(∀x∈l,gD (Bn v f l) (v:Int)<=gD f x.2.1+x.2.2)/\(gD (Bn v f l) (v:Int)=gD f (v:Int)\/∃x∈l,gD (Bn v f l) (v:Int)=gD f x.2.1+x.2.2)
 |[],f,_,_=>⟨fun _ _ _=>rfl,Int.le_refl _,fun _ h=>(by simp at h),.inl rfl⟩
 |x::l,f,hv,hl=>by
  obtain ⟨i1,i2,i3,i4⟩:=Lh l (Ba v f x) (by rw [Xm];exact hv) (fun y hy=>hl y (List.mem_cons_of_mem _ hy));have e:Bn v f (x::l)=Bn v (Ba v f x) l:=rfl;have hx:=hl x (List.mem_cons_self ..);have h0:gD (Ba v f x) (v:Int)=min (gD f (v:Int)) (gD f x.2.1+x.2.2):=by rw [Ag2 hv x (by omega),if_pos rfl]
  have h1:gD (Ba v f x) (v:Int)<=gD f (v:Int):=by rw [h0];exact Int.min_le_left _ _
  have h2:gD (Ba v f x) (v:Int)<=gD f x.2.1+x.2.2:=by rw [h0];exact Int.min_le_right _ _
  have hne:∀u,0<=u->u≠(v:Int)->gD (Ba v f x) u=gD f u:=fun u hu hn=>by rw [Ag2 hv x hu,if_neg hn]
  rw [e];refine ⟨fun u hu hn=>(i1 u hu hn).trans (hne u hu hn),by omega,?_,?_⟩
  ·intro y hy
   rcases Bl7.1 hy with rfl|hy
   ·omega
   ·have:=i3 y hy
    rw [hne _ (hl y (List.mem_cons_of_mem _ hy)).1 (hl y (List.mem_cons_of_mem _ hy)).2] at this;exact this
  ·rcases i4 with h|⟨y,hy,h⟩
   ·rw [h,h0]
    rcases Int.le_total (gD f (v:Int)) (gD f x.2.1+x.2.2) with k|k
    ·exact .inl (Int.min_eq_left k)
    ·exact .inr ⟨x,List.mem_cons_self ..,Int.min_eq_right k⟩
   ·rw [hne _ (hl y (List.mem_cons_of_mem _ hy)).1 (hl y (List.mem_cons_of_mem _ hy)).2] at h
    exact .inr ⟨y,List.mem_cons_of_mem _ hy,h⟩
def Kl (f:List Int) (l:List LB):List Int:=l.foldl (fun f a=>f.set a.v.toNat a.d) f
theorem Al3 (f:List Int) (l:List LB) (x:LB):Kl f (l++[x])=(Kl f l).set x.v.toNat x.d:=by unfold Kl;rw [List.foldl_append];rfl
theorem Xq:∀(l:List LB) (f:List Int),(Kl f l).length=f.length
 |[],_=>rfl
 |x::l,f=>by show (Kl (f.set x.v.toNat x.d) l).length=_;rw [Xq l,Bj6]
theorem Tx:∀(l:List LB) (f:List Int),(∀a∈l,Aa f.length a.v)->l.Pairwise (fun a b=>a.v≠b.v)->(∀a∈l,gD (Kl f l) a.v=a.d)/\∀u,0<=u->(∀a∈l,a.v≠u)->gD (Kl f l) u=gD f u
 |[],f,_,_=>⟨fun _ h=>(by simp at h),fun _ _ _=>rfl⟩
 |x::l,f,hn,hp=>by
  obtain ⟨h1,h2⟩:=List.pairwise_cons.1 hp;have hx:=hn x (List.mem_cons_self ..);have hxl:x.v.toNat<f.length:=by have:=hx.1;have:=hx.2;omega
  have e:Kl f (x::l)=Kl (f.set x.v.toNat x.d) l:=rfl;obtain ⟨i1,i2⟩:=Tx l (f.set x.v.toNat x.d) (fun a ha=>by rw [Bj6];exact hn a (List.mem_cons_of_mem _ ha)) h2;rw [e];refine ⟨fun a ha=>?_,fun u hu ha=>?_⟩
  ·rcases Bl7.1 ha with rfl|ha
   ·rw [i2 a.v hx.1 (fun b hb k=>h1 b hb k.symm),Hw hx.1 hxl hx.1,if_pos rfl]
   ·exact i1 a ha
  ·rw [i2 u hu (fun b hb=>ha b (List.mem_cons_of_mem _ hb)),Hw hx.1 hxl hu,if_neg (fun k=>ha x (List.mem_cons_self ..) k.symm)]
theorem Bf8 {n:Nat} {v:Int} (_hv:Aa n v):gD (List.replicate n FAR) v=FAR:=by
 unfold gD;rw [Bj1,Bm5]
 split<;>rfl
structure Swp (A:Int->Int->Int->Prop) (r:Int->Int) (s:Int) (n:Nat) (k:Nat) (f:List Int):Prop where
 kn:k<=n
 len:f.length=n
 val:∀v,Aa n v->gD f v=FAR\/(Way0 A Any s v (gD f v)/\gD f v<=211106232532992+((n:Int)-k)*17592186044416)
 pk:∀v d,Peak A r s v d->gD f v<=d/\d<=211106232532992
 dn:∀v,Aa n v->(k:Int)<=r v->∀d,Dist A s v d->gD f v=d/\d<=211106232532992+((n:Int)-k)*17592186044416
theorem Bh9:FAR=4611686018427387904:=rfl
theorem Swp.bd {A:Int->Int->Int->Prop} {r:Int->Int} {s:Int} {n k:Nat} {f:List Int} (hA:∀u v w,A u v w->1<=w) (hn:n<=12) (h:Swp A r s n k f) {v:Int} (hv:Aa n v):0<=gD f v/\gD f v<=4611686018427387904:=by
 have h1:=h.kn;have h2:((n:Int)-k)*17592186044416<=12*17592186044416:=Int.mul_le_mul_of_nonneg_right (by omega) (by decide)
 rcases h.val v hv with e|⟨e1,e2⟩
 ·rw [e,Bh9];omega
 ·have:=e1.nonneg hA
  omega
section
variable {es:List EdgeD} {n:Nat} {R:List Int} {S:List SC} {ro:List Int}
theorem Ao1 (h:HierOK es n R S ro) (back:Bool) {u:Nat} (hu:u<n) {i y w:Int} (hx:XN S back i y (u:Int) w) (hr:rk ro (u:Int)<rk ro y):∃j,(j,y,w)∈Cf R S n u (back != true):=by
 obtain ⟨x,h0,hx,rfl,he⟩:=hx;obtain ⟨hi,e⟩:=Bj8.1 hx;refine ⟨(i.toNat:Int),(Jn h _ hu _).2 ⟨i.toNat,hi,?_,?_⟩⟩
 ·rw [e]
  cases back with
  |true=>simp only [if_true,bne_self_eq_false,Bool.false_eq_true,if_false] at he ⊢;rw [he.1]
  |false=>simp only [Bool.false_eq_true,if_false,Bool.false_bne,if_true] at he ⊢;rw [he.1]
 ·rw [e]
  cases back with
  |true=>simp only [if_true,bne_self_eq_false,Bool.false_eq_true,if_false] at he ⊢;exact ⟨he.2,by rw [he.1,he.2];exact hr⟩
  |false=>simp only [Bool.false_eq_true,if_false,Bool.false_bne,if_true] at he ⊢;exact ⟨he.2,by rw [he.1,he.2];exact hr⟩
theorem Wj (h:HierOK es n R S ro) (hn:n<=12) (back:Bool) {u:Nat} (hu:u<n):∀x∈Cf R S n u (back != true),Ch.Way (Bw back (Am es)) Any x.2.1 (u:Int) x.2.2/\x.2.1≠(u:Int)/\Aa n x.2.1/\1<=x.2.2/\x.2.2<=17592186044416:=by
 intro x hx;obtain ⟨h1,h2,h3,h4⟩:=Nb h back hu hx;have hH:=h.hierB back;obtain ⟨k1,k2⟩:=hH.sound _ _ _ (Ae1.2 h1);have:=Yr hn;exact ⟨k2.imp (fun _ _=>trivial),k1,h2,h3,by omega⟩
theorem Swp.start {l:List LB} {s:Nat} {back:Bool} (hok:HierOK es n R S ro) (hn:n<=12) (hs:s<n) (h:Space (Bw back (Am es)) (XN S back) (rk ro) (s:Int) (l.map Cn)):Swp (Bw back (Am es)) (rk ro) (s:Int) n n (Kl (List.replicate n FAR) l):=by
 have hL:=Li hok h hs hn;have hpw:l.Pairwise (fun a b=>a.v≠b.v):=by
  have h9:=h.once;rw [List.pairwise_map] at h9;exact h9
 obtain ⟨l1,l2⟩:=Tx l (List.replicate n FAR) (fun a ha=>by rw [Bl6];exact (hL a ha).1) hpw;refine ⟨Bi7 _,by rw [Xq,Bl6],fun v hv=>?_,fun v d hp=>?_,fun v hv hk=>?_⟩
 ·by_cases e:∃a∈l,a.v=v
  ·obtain ⟨a,ha,rfl⟩:=e
   rw [l1 a ha];exact .inr ⟨h.sound (Cn a) (List.mem_map.2 ⟨a,ha,rfl⟩),by have:=(hL a ha).2.2;omega⟩
  ·rw [l2 v hv.1 (fun a ha k=>e ⟨a,ha,k⟩),Bf8 hv]
   exact .inl rfl
 ·obtain ⟨a,ha,e1,e2⟩:=h.peaks v d hp
  obtain ⟨x,hx,rfl⟩:=List.mem_map.1 ha;have e3:=l1 x hx;have e4:x.v=v:=e1;have e5:x.d=d:=e2;rw [<-e4,e3,e5];have:=(hL x hx).2.2;omega
 ·have h2:=hok.at1 v hv
  have h3:=Es hok.rank (rk ro v) (Bl3 h2);have:=hok.len;omega
theorem Swp.step {s v k:Nat} {back:Bool} {f:List Int} (hok:HierOK es n R S ro) (hn:n<=12) (hv:v<n) (hr:rk ro (v:Int)=(k:Int)) (h:Swp (Bw back (Am es)) (rk ro) (s:Int) n (k+1) f):Swp (Bw back (Am es)) (rk ro) (s:Int) n k (Bn v f (Cf R S n v (back != true))):=by
 have hH:=hok.hierB back;have hto:=Wj hok hn back hv;have hkn:=h.kn;obtain ⟨i1,i2,i3,i4⟩:=Lh (v:=v) (Cf R S n v (back != true)) f (by rw [h.len];exact hv) (fun x hx=>⟨(hto x hx).2.2.1.1,(hto x hx).2.1⟩);have hnv:Aa n (v:Int):=⟨by omega,by omega⟩;have hE:((n:Int)-(k:Nat))*17592186044416=((n:Int)-((k+1:Nat):Int))*17592186044416+17592186044416:=by
  have:((n:Int)-(k:Nat))=((n:Int)-((k+1:Nat):Int))+1:=by omega
  rw [this,Int.add_mul];omega
 have hF:=Bh9;have hE2:((n:Int)-((k+1:Nat):Int))*17592186044416<=12*17592186044416:=Int.mul_le_mul_of_nonneg_right (by omega) (by decide);have hval:∀u,Aa n u->gD (Bn v f (Cf R S n v (back != true))) u=FAR\/(Way0 (Bw back (Am es)) Any (s:Int) u (gD (Bn v f (Cf R S n v (back != true))) u)/\gD (Bn v f (Cf R S n v (back != true))) u<=211106232532992+((n:Int)-k)*17592186044416):=by
  intro u hu
  by_cases e:u=(v:Int)
  ·subst e
   rcases i4 with h4|⟨x,hx,h4⟩
   ·rw [h4]
    rcases h.val _ hnv with h5|⟨h5,h6⟩
    ·exact .inl h5
    ·exact .inr ⟨h5,by omega⟩
   ·obtain ⟨t1,t2,t3,t4,t5⟩:=hto x hx
    rcases h.val _ t3 with h5|⟨h5,h6⟩
    ·exfalso
     rw [h5] at h4
     rcases h.val _ hnv with h7|⟨_,h7⟩<;>omega
    ·refine .inr ⟨?_,by omega⟩
     rw [h4];exact h5.trans trivial (.inr t1)
  ·rw [i1 u hu.1 e]
   rcases h.val _ hu with h5|⟨h5,h6⟩
   ·exact .inl h5
   ·exact .inr ⟨h5,by omega⟩
 have hle:∀u,Aa n u->gD (Bn v f (Cf R S n v (back != true))) u<=gD f u:=by
  intro u hu
  by_cases e:u=(v:Int)
  ·subst e;exact i2
  ·rw [i1 u hu.1 e];exact Int.le_refl _
 refine ⟨by omega,by rw [Tu];exact h.len,hval,fun u d hp=>?_,fun u hu hk d hd=>?_⟩
 ·have h5:=h.pk u d hp
  have hu:0<=u:=by
   rcases hp.2.1.1 with ⟨e,_⟩|hw
   ·omega
   ·exact (hw.nodes hH.node).2.1
  by_cases e:u=(v:Int)
  ·subst e;omega
  ·rw [i1 u hu e];exact h5
 ·have fin:gD (Bn v f (Cf R S n v (back != true))) u<=d->d<=211106232532992+((n:Int)-k)*17592186044416->gD (Bn v f (Cf R S n v (back != true))) u=d/\d<=211106232532992+((n:Int)-k)*17592186044416:=by
   intro h5 h6;refine ⟨?_,h6⟩
   rcases hval u hu with h7|⟨h7,_⟩
   ·omega
   ·have:=hd.2 _ h7
    omega
  by_cases e:u=(v:Int)
  ·subst e
   rcases hd.down hH (fun v=>by unfold rk;omega) with hp|⟨y,w,⟨i,hx⟩,hry,hdy⟩
   ·have h5:=h.pk _ _ hp
    exact fin (by omega) (by omega)
   ·obtain ⟨j,hj⟩:=Ao1 hok back hv hx hry
    have h3:=i3 _ hj;obtain ⟨t1,t2,t3,t4,t5⟩:=hto _ hj;simp only at h3 t1 t2 t3 t4 t5;have h5:=h.dn y t3 (by omega) _ hdy;exact fin (by omega) (by omega)
  ·have hne:rk ro u≠(k:Int):=fun k'=>e (hH.inj _ _ hu hnv (by omega))
   have h5:=h.dn u hu (by omega) d hd;exact fin (by rw [i1 u hu.1 e];omega) (by omega)
end
theorem Swp.far {A:Int->Int->Int->Prop} {r:Int->Int} {s:Int} {n:Nat} {f:List Int} (hA:∀u v w,A u v w->1<=w) (hn:n<=12) (hr0:∀v,0<=r v) (h:Swp A r s n 0 f) {v:Int} (hv:Aa n v):FarV A s v (gD f v):=by
 have h2:((n:Int)-((0:Nat):Int))*17592186044416<=12*17592186044416:=Int.mul_le_mul_of_nonneg_right (by omega) (by decide)
 by_cases hd:∃e,Dist A s v e
 ·obtain ⟨e,he⟩:=hd
  have h3:=h.dn v hv (by have:=hr0 v;omega) e he;refine .inl ⟨by rw [h3.1];exact he,by rw [h3.1];exact he.1.nonneg hA,by omega⟩
 ·rcases h.val v hv with e|⟨e,_⟩
  ·exact .inr ⟨e,fun e he=>hd (Fu hA he)⟩
  ·exact absurd (Fu hA e) hd
def Rn (f:List Int) (l:List LB):List LB:=l.filter fun a=>!decide (gD f a.v<a.d)
def ExIs (A:Int->Int->Int->Prop) (r:Int->Int) (s:Int) (l:List LB):Prop:=l.Pairwise (fun a b=>a.v<b.v)/\∀v d,(∃x∈l,x.v=v/\x.d=d)↔Peak A r s v d
theorem An6 {A:Int->Int->Int->Prop} {X:Nums} {r:Int->Int} {s:Int} {n:Nat} {f:List Int} {l:List LB} (hH:Hier A X.rel r (Aa n)) (hr0:∀v,0<=r v) (h:Space A X r s (l.map Cn)) (ho:l.Pairwise (fun a b=>a.v<=b.v)) (hl:∀x∈l,Aa n x.v/\x.d<FAR) (hf:∀v,Aa n v->FarV A s v (gD f v)):ExIs A r s (Rn f l):=by
 have hpw:l.Pairwise (fun a b=>a.v≠b.v):=by
  have h9:=h.once;rw [List.pairwise_map] at h9;exact h9
 refine ⟨?_,fun v d=>⟨?_,fun hp=>?_⟩⟩
 ·exact ((ho.and hpw).imp (fun {a b} h=>by have:=h.1;have:=h.2;omega)).filter _
 ·rintro ⟨x,hx,rfl,rfl⟩
  obtain ⟨h1,h2⟩:=List.mem_filter.1 hx;have hm:Cn x∈l.map Cn:=List.mem_map.2 ⟨x,h1,rfl⟩;have hw:Way0 A Any s x.v x.d:=h.sound _ hm;obtain ⟨hn,hF⟩:=hl x h1;have h3:¬gD f x.v<x.d:=by simpa using h2
  rcases hf x.v hn with ⟨k,_⟩|⟨_,k⟩
  ·have h4:=k.2 _ hw
   have h5:gD f x.v=x.d:=by omega
   rw [h5] at k;exact h.peak hH hr0 hm k
  ·exact absurd hw (k _)
 ·obtain ⟨a,ha,e1,e2⟩:=h.peaks v d hp
  obtain ⟨x,hx,rfl⟩:=List.mem_map.1 ha;refine ⟨x,List.mem_filter.2 ⟨hx,?_⟩,e1,e2⟩;have e3:x.v=v:=e1;have e4:x.d=d:=e2
  rcases hf x.v (hl x hx).1 with ⟨k,_⟩|⟨k,_⟩
  ·rw [e3] at k
   have:=k.uniq hp.2.1;simp only [Bool.not_eq_true',decide_eq_false_iff_not];rw [e3];omega
  ·have:=(hl x hx).2
   simp only [Bool.not_eq_true',decide_eq_false_iff_not];omega
def Pj (R:List Int) (f:Int->Option Int) (back:Bool) (v d:Int) (x:SC):Bool:=
 decide ((if back then x.f else x.t)=v)&&decide (rAt R (if back then x.t else x.f)<rAt R (if back then x.f else x.t))&&(match f (if back then x.t else x.f) with|some e=>decide (e+x.w=d)|none=>false)
def El (R:List Int) (S:List SC) (f:Int->Option Int) (back:Bool) (v d:Int):Int:=match S.findIdx? (Pj R f back v d) with
 |some i=>(i:Int)
 |none=>-1
theorem Am9 {R:List Int} {S:List SC} {f:Int->Option Int} {back:Bool} {v d:Int} {i:Nat} (hi:i<S.length) (hp:Pj R f back v d S[i]=true) (hb:∀k (h:k<i),Pj R f back v d (S[k]'(by omega))=false):El R S f back v d=(i:Int):=by
 unfold El;have:S.findIdx? (Pj R f back v d)=some i:=by
  rw [List.findIdx?_eq_some_iff_getElem];exact ⟨hi,hp,fun k hk=>by rw [hb k hk];simp⟩
 rw [this]
theorem Am8 {R:List Int} {S:List SC} {f:Int->Option Int} {back:Bool} {v d:Int} (hb:∀k (h:k<S.length),Pj R f back v d S[k]=false):El R S f back v d= -1:=by
 unfold El;have:S.findIdx? (Pj R f back v d)=none:=by
  rw [List.findIdx?_eq_none_iff];intro a ha;obtain ⟨k,hk,rfl⟩:=Bm9.1 ha;exact hb k hk
 rw [this]
def Gz (l:List LB) (v:Int):LB:=(l.find? fun a=>decide (a.v=v)).getD ⟨0,0,0⟩
def Ie (l:List LB) (v:Int):Bool:=l.any fun a=>decide (a.v=v)
def Ev (l:List LB) (u:Int):Option Int:=(l.find? fun a=>decide (a.v=u)).map (·.d)
theorem Qz {l:List LB} {u:Int} (h:Ie l u=false):Ev l u=none:=by
 unfold Ev;have:l.find? (fun a=>decide (a.v=u))=none:=by
  rw [List.find?_eq_none];intro x hx k;unfold Ie at h;rw [List.any_eq_false] at h;exact h x hx k
 rw [this];rfl
theorem Qy {l:List LB} {u:Int} (h:Ie l u=true):Ev l u=some (Gz l u).d/\Gz l u∈l/\(Gz l u).v=u:=by
 unfold Ev Gz;unfold Ie at h;obtain ⟨x,hx,hk⟩:=List.any_eq_true.1 h
 cases hf:l.find? (fun a=>decide (a.v=u)) with
 |none=>rw [List.find?_eq_none] at hf;exact absurd hk (hf x hx)
 |some y=>
  have h1:=List.find?_some hf;have h2:=List.mem_of_find?_eq_some hf;exact ⟨rfl,h2,of_decide_eq_true h1⟩
theorem Nm:∀{l l':List LB},l.map (fun a=>(a.v,a.d))=l'.map (fun a=>(a.v,a.d))->Ev l=Ev l'
 |[],[],_=>rfl
 |[],_::_,h=>by simp at h
 |_::_,[],h=>by simp at h
 |x::l,y::l',h=>by
  simp only [List.map_cons,List.cons.injEq,Prod.mk.injEq] at h;have ih:=Nm (l:=l) (l':=l') h.2
  funext u
  have ihu:=congrFun ih u;unfold Ev at ihu ⊢;rw [List.find?_cons,List.find?_cons,h.1.1]
  split
  ·simp [h.1.2]
  ·exact ihu
def withB (R:List Int) (S:List SC) (back:Bool) (l:List LB):List LB:=l.map fun a=>⟨a.v,a.d,El R S (Ev l) back a.v a.d⟩
def Ga (R:List Int) (S:List SC) (back:Bool) (l:List LB) (k:Nat):List LB:=(withB R S back l).take k++l.drop k
theorem Jm (R:List Int) (S:List SC) (back:Bool) (l:List LB):(withB R S back l).length=l.length:=by simp [withB]
theorem Xj {R:List Int} {S:List SC} {back:Bool} {l:List LB} {k:Nat}:(Ga R S back l k).length=l.length:=by simp [Ga,withB];omega
theorem Ak7 (R:List Int) (S:List SC) (back:Bool) (l:List LB):Ga R S back l 0=l:=by simp [Ga]
theorem At4 (R:List Int) (S:List SC) (back:Bool) (l:List LB):Ga R S back l l.length=withB R S back l:=by
 unfold Ga;rw [List.take_of_length_le (by rw [Jm];exact Bi7 _),List.drop_of_length_le (Bi7 _),List.append_nil]
theorem Xk {R:List Int} {S:List SC} {back:Bool} {l:List LB} {k:Nat} (hk:k<l.length):(Ga R S back l k)[k]? =some l[k]:=by
 unfold Ga;rw [Bm3 (by simp [withB];omega),List.length_take,Jm,Nat.min_eq_left (by omega),Nat.sub_self,List.getElem?_drop,Nat.add_zero,Bj0 hk]
theorem At3 {R:List Int} {S:List SC} {back:Bool} {l:List LB} {k:Nat} (hk:k<l.length):(Ga R S back l k).set k ⟨l[k].v,l[k].d,El R S (Ev l) back l[k].v l[k].d⟩=Ga R S back l (k+1):=by
 apply List.ext_getElem?
 intro i;have hw:∀i (h:i<l.length),(withB R S back l)[i]? =some ⟨l[i].v,l[i].d,El R S (Ev l) back l[i].v l[i].d⟩:=fun i h=>by
  unfold withB;rw [Bk4,Bj0 h];rfl
 by_cases e:i=k
 ·subst e
  rw [Bn4 (by rw [Xj];exact hk)];unfold Ga;rw [Bm4 (by simp [withB];omega),Bn6 (by omega),hw i hk]
 ·rw [Bn3 (fun h=>e h.symm)]
  unfold Ga
  by_cases h:i<k
  ·rw [Bm4 (by simp [withB];omega),Bm4 (by simp [withB];omega),Bn6 h,Bn6 (by omega)]
  ·rw [Bm3 (by simp [withB];omega),Bm3 (by simp [withB];omega),List.length_take,List.length_take,Jm,Nat.min_eq_left (by omega),Nat.min_eq_left (by omega),List.getElem?_drop,List.getElem?_drop]
   congr 1
   omega
theorem Af9 (R:List Int) (S:List SC) (back:Bool) (l:List LB) (k:Nat):(Ga R S back l k).map (fun a=>(a.v,a.d))=l.map (fun a=>(a.v,a.d)):=by
 have h:(withB R S back l).map (fun a=>(a.v,a.d))=l.map (fun a=>(a.v,a.d)):=by simp [withB,Function.comp_def]
 unfold Ga;rw [Bm6,List.map_take,h,List.map_drop,List.take_append_drop]
theorem ExIs.withB {A:Int->Int->Int->Prop} {r:Int->Int} {s:Int} {l:List LB} (h:ExIs A r s l) (R:List Int) (S:List SC) (back:Bool):ExIs A r s (withB R S back l):=by
 refine ⟨?_,fun v d=>?_⟩
 ·unfold Go.Proofs.YteaaapdjplbljaaGreat.withB
  rw [List.pairwise_map];exact h.1
 ·rw [<-h.2 v d]
  unfold Go.Proofs.YteaaapdjplbljaaGreat.withB;constructor
  ·rintro ⟨x,hx,h1,h2⟩
   obtain ⟨y,hy,rfl⟩:=List.mem_map.1 hx;exact ⟨y,hy,h1,h2⟩
  ·rintro ⟨x,hx,h1,h2⟩
   exact ⟨_,List.mem_map.2 ⟨x,hx,rfl⟩,h1,h2⟩
end
section
open Go Go.Proofs Go.RowKit Go.Shelf Hp Ch
def Im (x:LB):Value:=.agg #[.int .i64 x.v,.int .u64 x.d,.int .i64 x.b]
theorem Kw (g:Nat) (cb:Array Value) (p:LB->Bool) (ao:Option Addr) (cap:Nat) (l:List LB) (w:World) (hen:Enters Tryz.prog g)
  (hp:Lm Tryz.prog g cb Im p l w) (hl:l.length<=9223372036854775807) (hc:Cel w ao (Ao l)):
  Calls Tryz.prog 200 #[.slice ao l.length cap,.func (.func g) #[] cb] w fun e w'=>e=.returned (.int .i64 (Fk p l))/\Below w.heap.size w w':=by
 have HP:=Bi5 hp;have HC:=Bi5 hc;clear hp hc;unfold Enters at hen
 go_enter Tryz.func200,Tryz.ntmps200
 go_wp2
 go_loopg [8] l.length (fun g i wr=>∃k:Nat,k<=l.length/\l.length-k<=g/\i=.int .i64 k/\Aside (Below w.heap.size w wr)/\Aside (∀j (h:j<l.length),j<k->p l[j]=false))
 case atStart=>exact ⟨0,Bi8 _,by omega,rfl,Below.refl _ _,fun j _ h=>absurd h (Nat.not_lt_zero _)⟩
 case round=>
  obtain ⟨k,hk,hg,rfl,HB,HA⟩:=hrel
  by_cases hlt:k<l.length
  ·obtain ⟨b,o,hao,hc1,hc2,hc3⟩:=(HC.out.below HB.out (Bi7 _)).lab hlt
   have HQ:=Bi5 (HP.out wr l[k] HB.out (Bj7 hlt));have HN:=Bi5 (fun h:p l[k]=true=>Jf p l k hlt h (fun j h1 h2=>HA.out j h1 h2));have HM:=Bi5 (fun h:p l[k]=false=>(fun j (h1:j<l.length) (h2:j<k+1)=>(by
    by_cases e:j=k
    ·subst e;exact h
    ·exact HA.out j h1 (by omega):p l[j]=false)))
   generalize hx:l[k]=x at*;clear hx;subst hao
   cases hq:p x with
   |true=>
    have HN2:=Bi5 (HN.out hq);have HQ2:=Bi5 (hq▸HQ.out);clear hq
    go_wp2_with (go_at_fn g;refine HQ2.out.mono ?_;rintro e w1 ⟨rfl,hb1⟩)
    go_ret
    exact ⟨by rw [HN2.out];rfl,HB.out.trans (hb1.mono (by have:=HB.out.size;omega))⟩
   |false=>
    have HN2:=Bi5 (HM.out hq);have HQ2:=Bi5 (hq▸HQ.out);clear hq
    go_wp2_with (go_at_fn g;refine HQ2.out.mono ?_;rintro e w1 ⟨rfl,hb1⟩)
    go_roundg (l.length-(k+1))
    case measure=>omega
    case rel=>exact ⟨k+1,by omega,by omega,by go_num,HB.out.trans (hb1.mono (by have:=HB.out.size;omega)),HN2.out⟩
  ·obtain rfl:k=l.length:=by omega
   have HN:=Bi5 (Ha p l (fun j h=>HA.out j h h))
   go_wp2
   go_ret
   exact ⟨by rw [HN.out];rfl,HB.out⟩
theorem An0 (x:LB) (v:Int) (b:Nat) (w:World) (hx:w.cell? ⟨b,0,none⟩=some (.int .i64 v)):
  Calls Tryz.prog 252 (#[Im x]++#[.pointer (some ⟨b,0,none⟩)]) w fun e w'=>e=.returned (.bool (decide (x.v=v)))/\Below w.heap.size w w':=by
 have f:=fun o=>Bi6 (Below.of_al w o) hx;have he:(x.v==v)=decide (x.v=v):=by rw [Bool.eq_iff_iff,beq_iff_eq,decide_eq_true_eq]
 unfold Im
 go_enter Tryz.func252,Tryz.ntmps252
 go_wp2
 go_ret
 exact ⟨by rw [<-he];rfl,Below.of_al _ _⟩
theorem Au8 (l:List LB) (v:Int):(Fk (fun a=>decide (a.v=v)) l<0/\Ie l v=false)\/∃i:Nat,∃h:i<l.length,Fk (fun a=>decide (a.v=v)) l=(i:Int)/\Ie l v=true/\l[i]=Gz l v:=by
 unfold Ie Gz
 induction l with
 |nil=>exact .inl ⟨by simp [Fk],rfl⟩
 |cons x l ih=>
  unfold Fk
  by_cases h:x.v=v
  ·refine .inr ⟨0,by simp,?_,?_,?_⟩
   ·simp [h]
   ·simp [h]
   ·simp [h]
  ·rcases ih with ⟨i1,i2⟩|⟨i,hi,i1,i2,i3⟩
   ·refine .inl ⟨?_,?_⟩
    ·simp [h,i1]
    ·simp [h]
     simpa using i2
   ·refine .inr ⟨i+1,by simp;omega,?_,?_,?_⟩
    ·simp [h,i1]
     omega
    ·simp [h]
     simpa using i2
    ·simp [h]
     exact i3
theorem Ag9 {W:World} {b:Nat} {a0 a1 a2:Value} (x y z:Value) (h0:W.cell? ⟨b,0,none⟩=some a0) (h1:W.cell? ⟨b,1,none⟩=some a1) (h2:W.cell? ⟨b,2,none⟩=some a2):
  (((W.setCell ⟨b,0,none⟩ x).setCell ⟨b,1,none⟩ y).setCell ⟨b,2,none⟩ z).cell? ⟨b,0,none⟩=some x/\(((W.setCell ⟨b,0,none⟩ x).setCell ⟨b,1,none⟩ y).setCell ⟨b,2,none⟩ z).cell? ⟨b,1,none⟩=some y/\(((W.setCell ⟨b,0,none⟩ x).setCell ⟨b,1,none⟩ y).setCell ⟨b,2,none⟩ z).cell? ⟨b,2,none⟩=some z:=by
 obtain ⟨r0,r1⟩:=Ep x y h0 h1;refine ⟨?_,?_,?_⟩
 ·rw [Bj3 _ _ _ _ (by simp)];exact r0
 ·rw [Bj3 _ _ _ _ (by simp)];exact r1
 ·refine Bj4 (u:=a2) _ _ _ ?_
  rw [Bj3 _ _ _ _ (by simp),Bj3 _ _ _ _ (by simp)];exact h2
theorem Rx {B b:Nat} {w W:World} (x y z:Value) (h:Below B w W) (hb:B<=b):Below B w (((W.setCell ⟨b,0,none⟩ x).setCell ⟨b,1,none⟩ y).setCell ⟨b,2,none⟩ z):=((h.setCell hb _).setCell hb _).setCell hb _
theorem Aa8 {l:List LB} {u:Int} (h:Ie l u=false):Gz l u=⟨0,0,0⟩:=by
 unfold Gz;have:l.find? (fun a=>decide (a.v=u))=none:=by
  rw [List.find?_eq_none];intro x hx k;unfold Ie at h;rw [List.any_eq_false] at h;exact h x hx k
 rw [this];rfl
theorem Yi (l:List LB) (ao:Option Addr) (cap:Nat) (v:Int) (w:World) (hc:Cel w ao (Ao l)) (hl:l.length<=1000000):
  Calls Tryz.prog 204 #[.slice ao l.length cap,.int .i64 v] w fun e w'=>e=.returned (.tuple #[Im (Gz l v),.bool (Ie l v)])/\Below w.heap.size w w':=by
 obtain ⟨W,hW⟩:∃W,W=(w.alloc (Obj.cells #[.int .i64 v] 3)).alloc (Obj.cells #[.int .i64 0,.int .u64 0,.int .i64 0] 150):=⟨_,rfl⟩;have hbw:Below w.heap.size w W:=by rw [hW];exact (Below.of_al _ _).al _
 have hsz:W.heap.size=w.heap.size+2:=by rw [hW];simp
 have c0:W.cell? ⟨w.heap.size,0,none⟩=some (.int .i64 v):=by rw [hW];go_simp
 have q0:W.cell? ⟨w.heap.size+1,0,none⟩=some (.int .i64 0):=by rw [hW];go_simp
 have q1:W.cell? ⟨w.heap.size+1,1,none⟩=some (.int .u64 0):=by rw [hW];go_simp
 have q2:W.cell? ⟨w.heap.size+1,2,none⟩=some (.int .i64 0):=by rw [hW];go_simp
 have z0:W.frozen? ⟨w.heap.size+1,0,none⟩=false:=by rw [hW];go_simp
 have z1:W.frozen? ⟨w.heap.size+1,1,none⟩=false:=by rw [hW];go_simp
 have z2:W.frozen? ⟨w.heap.size+1,2,none⟩=false:=by rw [hW];go_simp
 have HI:=Bi5 (Kw 252 #[.pointer (some ⟨w.heap.size,0,none⟩)] (fun a=>decide (a.v=v)) ao cap l W (enters_of Tryz.func252 (by kernel_rfl) rfl) (fun W' x hb hx=>An0 x v w.heap.size W' (Bi6 hb c0)) (by omega) (hc.go hbw));have HC:=Bi5 (hc.go hbw);have HB:=Bi5 hbw;have HSZ:=Bi5 hsz;have HW:=Bi5 hW;have hl2:(l.length:Int)<=1000000:=by omega
 clear hW hbw hc hsz c0
 rcases Au8 l v with ⟨h1,h2⟩|⟨i,hi,h1,h2,h3⟩
 ·have HL:=Bi5 (Aa8 h2)
  have HL2:=Bi5 h2;generalize Fk (fun a:LB=>decide (a.v=v)) l=r at*;clear h2
  go_enter Tryz.func204,Tryz.ntmps204
  go_upto_region 1 with (fail)
  rw [<-HW.out]
  go_upto_region 2 with (go_at_call 200;refine HI.out.mono ?_;rintro e w1 ⟨rfl,hb1⟩;(have HB1:=Bi5 hb1);(have p0:=Bi6 hb1 q0);(have p1:=Bi6 hb1 q1);(have p2:=Bi6 hb1 q2);(have y0:=(hb1.frozen (p:=⟨w.heap.size+1,0,none⟩) (by show w.heap.size+1<_;rw [HSZ.out];omega)).trans z0);(have y1:=(hb1.frozen (p:=⟨w.heap.size+1,1,none⟩) (by show w.heap.size+1<_;rw [HSZ.out];omega)).trans z1);(have y2:=(hb1.frozen (p:=⟨w.heap.size+1,2,none⟩) (by show w.heap.size+1<_;rw [HSZ.out];omega)).trans z2);clear hb1)
  clear q0 q1 q2 z0 z1 z2
  go_wp2
  obtain ⟨r0,r1,r2⟩:=Ag9 (.int .i64 0) (.int .u64 0) (.int .i64 0) p0 p1 p2;refine bodyPost_ret (v:=.tuple #[Im ⟨0,0,0⟩,.bool false]) (by simp [results,Tryz.results204,go_sem,r0,r1,r2,Im];try rfl) rfl ?_;exact ⟨by rw [HL.out,HL2.out],Rx _ _ _ (HB.out.st HB1.out) (Nat.le_succ _)⟩
 ·have HL:=Bi5 h3
  have HL2:=Bi5 h2;have hr0:¬Fk (fun a:LB=>decide (a.v=v)) l<0:=by omega
  rw [h1] at HI;obtain ⟨lb,lo,rfl,x0,x1,x2⟩:=HC.out.lab hi;have hi0:(0:Int)<=(i:Int):=by omega
  have hi1:(i:Int)<(l.length:Int):=by omega
  generalize l[i]=a at*;obtain ⟨av,ad,ab⟩:=a;simp only at x0 x1 x2;clear h1 h2 h3 hr0
  go_enter Tryz.func204,Tryz.ntmps204
  go_upto_region 1 with (fail)
  rw [<-HW.out]
  go_upto_region 2 with (go_at_call 200;refine HI.out.mono ?_;rintro e w1 ⟨rfl,hb1⟩;(have HB1:=Bi5 hb1);(have p0:=Bi6 hb1 q0);(have p1:=Bi6 hb1 q1);(have p2:=Bi6 hb1 q2);(have v0:=Bi6 hb1 x0);(have v1:=Bi6 hb1 x1);(have v2:=Bi6 hb1 x2);(have y0:=(hb1.frozen (p:=⟨w.heap.size+1,0,none⟩) (by show w.heap.size+1<_;rw [HSZ.out];omega)).trans z0);(have y1:=(hb1.frozen (p:=⟨w.heap.size+1,1,none⟩) (by show w.heap.size+1<_;rw [HSZ.out];omega)).trans z1);(have y2:=(hb1.frozen (p:=⟨w.heap.size+1,2,none⟩) (by show w.heap.size+1<_;rw [HSZ.out];omega)).trans z2);clear hb1)
  clear q0 q1 q2 z0 z1 z2 x0 x1 x2
  go_wp2
  obtain ⟨r0,r1,r2⟩:=Ag9 (.int .i64 av) (.int .u64 ad) (.int .i64 ab) p0 p1 p2;refine bodyPost_ret (v:=.tuple #[Im ⟨av,ad,ab⟩,.bool true]) (by simp [results,Tryz.results204,go_sem,r0,r1,r2,Im];try rfl) rfl ?_;exact ⟨by rw [<-HL.out,HL2.out],Rx _ _ _ (HB.out.st HB1.out) (Nat.le_succ _)⟩
structure DlI (p:LB->Bool) (l cur:List LB) (i j:Nat):Prop where
 le:i<=j
 jn:j<=l.length
 len:cur.length=l.length
 hd:cur.take i=(l.take j).filter (fun a=>!p a)
 tl:∀k,j<=k->cur[k]? =l[k]?
theorem DlI.drop {p:LB->Bool} {l cur:List LB} {i j:Nat} (h:DlI p l cur i j) (hj:j<l.length) (hp:p l[j]=true):DlI p l cur i (j+1):=
 ⟨by have:=h.le;omega,hj,h.len,by rw [h.hd,Bk3 hj,List.filter_append];simp [hp],fun k hk=>h.tl k (by omega)⟩
theorem DlI.keep {p:LB->Bool} {l cur:List LB} {i j:Nat} (h:DlI p l cur i j) (hj:j<l.length) (hp:p l[j]=false):DlI p l (cur.set i l[j]) (i+1) (j+1):=by
 have hle:=h.le;have hlen:=h.len;refine ⟨by omega,hj,by rw [Bj6];exact hlen,?_,fun k hk=>by rw [Bn3 (by omega)];exact h.tl k (by omega)⟩;rw [Bk3 (by rw [Bj6];omega),Bk3 hj,List.filter_append,<-h.hd];rw [List.getElem_set_self]
 congr 1
 ·rw [List.take_set_of_le (Bi7 _)]
 ·simp [hp]
theorem DlI.begin {p:LB->Bool} {l:List LB} {i:Nat} (hi:i<l.length) (hp:p l[i]=true) (hb:∀k (h:k<i),p (l[k]'(by omega))=false):DlI p l l i (i+1):=by
 refine ⟨by omega,hi,rfl,?_,fun _ _=>rfl⟩;rw [Bk3 hi,List.filter_append];have:(l.take i).filter (fun a=>!p a)=l.take i:=by
  rw [List.filter_eq_self];intro a ha;obtain ⟨k,hk,rfl⟩:=Bm9.1 ha;rw [List.getElem_take,hb k (by simp at hk;omega)];rfl
 rw [this];simp [hp]
theorem DlI.done {p:LB->Bool} {l cur:List LB} {i:Nat} (h:DlI p l cur i l.length):cur.take i=l.filter (fun a=>!p a):=by rw [h.hd,Bn1]
theorem Zo {P:Program} (w:World) (t e:TypeId) (z:Value) (ht:P.underlying t=some (.slice e)) (hv:∀w,(zeroValue e).run P w=.ok z w) (h2:z.cells.size=3) (h1:∀u∈z.cells.toList,u.oneCell'=true) (b o n c:Nat) (hn:0<n)
  (hc:∀j,j<n*3->(w.cell? ⟨b,o+j,none⟩).isSome=true) (hf:∀j,j<n*3->w.frozen? ⟨b,o+j,none⟩=false):
  ∃vs,vs.length=n*3/\∀ty,(Builtin.clear_ #[t] ty #[.slice (some ⟨b,o,none⟩) n c]).run P w=.ok (.tuple #[]) (w.setCells b o vs):=by
 have hzl:((Builtin.zeroCells z.cells n).toList).length=n*3:=by simp [Builtin.zeroCells,h2,Nat.mul_comm]
 have hst:=run_storeCells_cells (P:=P) b o (Builtin.zeroCells z.cells n).toList 0 w (by simpa [hzl] using hc) (by simpa [hzl] using hf) (by
  intro v hv'
  apply h1
  simp [Builtin.zeroCells] at hv';obtain ⟨k,hk,rfl⟩:=hv';rw [Array.getElem!_eq_getD];simp [Array.getD,h2,Nat.mod_lt])
 simp only [Nat.add_zero] at hst;obtain ⟨m,rfl⟩:∃m,n=m+1:=⟨n-1,by omega⟩;refine ⟨_,hzl,fun ty=>?_⟩;simp [Builtin.clear_,run_underlying ht,hv,hst]
theorem Rk:∀(l:List LB) (i:Nat),(Ao l).take (i*3)=Ao (l.take i)
 |[],i=>by simp [Ao]
 |x::l,0=>by simp [Ao]
 |x::l,i+1=>by
  rw [show (i+1)*3=i*3+1+1+1 by omega,Ao,List.take_succ_cons,List.take_succ_cons,List.take_succ_cons,Rk l i];rfl
theorem Ue:∀(l:List LB) (i:Nat) (q:LB),(((Ao l).set (i*3) (.int .i64 q.v)).set (i*3+1) (.int .u64 q.d)).set (i*3+2) (.int .i64 q.b)=Ao (l.set i q)
 |[],i,q=>by simp [Ao]
 |x::l,0,q=>rfl
 |x::l,i+1,q=>by
  rw [show (i+1)*3=i*3+1+1+1 by omega,Bk9]
  show _=_::_::_::Ao (l.set i q)
  rw [<-Ue l i q];rfl
theorem Av0 (a b c:Int):∀u∈((Value.agg #[.int .i64 a,.int .u64 b,.int .i64 c]).cells).toList,u.oneCell'=true:=by
 intro u hu;have h:((Value.agg #[.int .i64 a,.int .u64 b,.int .i64 c]).cells).toList=[Value.int .i64 a,.int .u64 b,.int .i64 c]:=rfl;rw [h] at hu;simp only [Bl7,List.not_mem_nil,or_false] at hu
 rcases hu with rfl|rfl|rfl<;>rfl
def Sh (base:Nat) (p:LB->Bool) (l:List LB) (ao:Option Addr) (cap:Nat) (w:World) (e:Ending) (w':World):Prop:=
 e=.returned (.slice ao (l.filter (fun a=>!p a)).length cap)/\w'.ownsRow base 150 3 (.slice ao (l.filter (fun a=>!p a)).length cap) (l.filter (fun a=>!p a)).length (Ao (l.filter (fun a=>!p a)))/\
  OffX (fun k=>(Value.slice ao l.length cap).ownBlock=some k) w w'
theorem Ap8 (w:World):(zeroValue 150).run Tryz.prog w=.ok (.agg #[.int .i64 0,.int .u64 0,.int .i64 0]) w:=by kernel_rfl
theorem Ac7 (base:Nat) (cb:Array Value) (p:LB->Bool) (l:List LB) (ao:Option Addr) (cap:Nat) (w:World) (h:w.ownsRow base 150 3 (.slice ao l.length cap) l.length (Ao l))
  (hp1:∀(W:World) (x:LB),OffX (fun k=>(Value.slice ao l.length cap).ownBlock=some k) w W->x∈l->Calls Tryz.prog 146 (#[Im x]++cb) W fun e w'=>e=.returned (.bool (p x))/\Below W.heap.size W w') (hl:l.length<=1000000):
  Calls Tryz.prog 145 #[.slice ao l.length cap,.func (.func 146) #[] cb] w (Sh base p l ao cap w):=by
 obtain ⟨ao',c',e,hc⟩:=Cel.of_owns h
 cases e
 have HI:=Bi5 (Kw 146 cb p ao cap l w (enters_of Tryz.func146 (by kernel_rfl) rfl) (fun W x hb hx=>hp1 W x (.of_below hb) hx) (by omega) hc);have HP1:=Bi5 hp1;have HO:=Bi5 h;have hl2:(l.length:Int)<=1000000:=by omega
 unfold Sh
 by_cases hex:∃i,∃hi:i<l.length,p l[i]=true/\∀k (h:k<i),p (l[k]'(by omega))=false
 ·obtain ⟨i,hi,hp,hb⟩:=hex
  obtain ⟨g,cg,e⟩:=Ap h (by omega)
  cases e
  rw [Jf p l i hi hp (fun j h h2=>hb j h2)] at HI;have HD:=Bi5 (DlI.begin hi hp hb);clear hp hb hc h hp1;have hi1:((i:Int)== -1)=false:=by rw [beq_eq_false_iff_ne];omega
  have hi2:(i:Int)<(l.length:Int):=by omega
  go_enter Tryz.func145,Tryz.ntmps145
  go_wp2_with (go_at_call 200;refine HI.out.mono ?_;rintro e w1 ⟨rfl,hb1⟩;(have HB1:=Bi5 hb1;clear hb1))
  go_loopg [5,6] l.length (fun gg v5 v6 wr=>∃(i j:Nat) (cur:List LB),i<j/\j<=l.length/\l.length-j<=gg/\v5=.int .i64 i/\v6=.int .i64 j/\Aside (DlI p l cur i j)/\Aside (wr.ownsRow base 150 3 (.slice (some ⟨g,0,none⟩) l.length cap) l.length (Ao cur))/\Aside (OffX (· =g) w wr))
  case atStart=>exact ⟨i,i+1,l,Nat.lt_succ_self i,hi,by omega,rfl,by go_num,HD.out,Af HO.out HB1.out,.of_below HB1.out⟩
  case round=>
   clear HD HI HB1 hi hi1 hi2;obtain ⟨i,j,cur,hij,hj,hg,rfl,rfl,HD,HR,HF⟩:=hrel;have hcl:=HD.out.len
   by_cases hlt:j<l.length
   ·have hlt2:(j:Int)<(l.length:Int):=by omega
    have hi2:(i:Int)<(l.length:Int):=by omega
    have hcj:cur[j]'(by omega)=l[j]:=by
     have:=HD.out.tl j (Bi7 _);rw [Bj0 (by omega),Bj0 hlt] at this;exact Bl4 this
    obtain ⟨x0,x1,x2⟩:=Fs cur j (by omega);rw [hcj] at x0 x1 x2;have y0:=(HR.out.cellAt (j*3) (by omega)).trans x0;have y1:=(HR.out.cellAt (j*3+1) (by omega)).trans x1;have y2:=(HR.out.cellAt (j*3+2) (by omega)).trans x2;clear x0 x1 x2 hcj;have HA:=Bi5 (fun o=>HP1.out (wr.alloc o) l[j] ((HF.out.mono (fun k e=>by rw [e];rfl)).trans (.of_below (Below.of_al wr o))) (Bj7 hlt));obtain ⟨x0,x1,x2⟩:=Fs cur i (by omega);have HP:=Bi5 (And.intro ((HR.out.cellAt (i*3) (by omega)).trans x0) (And.intro ((HR.out.cellAt (i*3+1) (by omega)).trans x1) ((HR.out.cellAt (i*3+2) (by omega)).trans x2)));have HIJ:=Bi5 hij;have hi0:(0:Int)<=(i:Int):=by omega
    clear x0 x1 x2
    cases hp:p l[j] with
    |true=>
     have HD2:=Bi5 (HD.out.drop hlt hp);rw [hp] at HA;clear hp;generalize l[j]=q at*
     go_wp2_with (go_at_call 146;refine (HA.out _).mono ?_;rintro e w5 ⟨rfl,hb5⟩;(have HB5:=Bi5 ((Below.of_al wr _).st hb5));clear hb5)
     go_roundg (l.length-(j+1))
     case measure=>omega
     case rel=>exact ⟨i,j+1,cur,by omega,by omega,Bi7 _,rfl,by go_num,HD2.out,Af HR.out HB5.out,HF.out.trans (.of_below HB5.out)⟩
    |false=>
     have HD2:=Bi5 (HD.out.keep hlt hp);rw [hp] at HA;clear hp;generalize l[j]=q at*
     go_wp2_with (go_at_call 146;refine (HA.out _).mono ?_;rintro e w5 ⟨rfl,hb5⟩;(have HB5:=Bi5 ((Below.of_al wr _).st hb5));(have c5:w5.cell? ⟨wr.heap.size,0,none⟩=some (.int .i64 q.v):=Bi6 hb5 (by go_simp));(have c6:w5.cell? ⟨wr.heap.size,1,none⟩=some (.int .u64 q.d):=Bi6 hb5 (by go_simp));(have c7:w5.cell? ⟨wr.heap.size,2,none⟩=some (.int .i64 q.b):=Bi6 hb5 (by go_simp));(have p0:=Bi6 HB5.out HP.out.1);(have p1:=Bi6 HB5.out HP.out.2.1);(have p2:=Bi6 HB5.out HP.out.2.2);(have z0:=(Af HR.out HB5.out).frozenAt (i*3));(have z1:=(Af HR.out HB5.out).frozenAt (i*3+1));(have z2:=(Af HR.out HB5.out).frozenAt (i*3+2));clear hb5)
     have hown:(((w5.setCell ⟨g,i*3,none⟩ (.int .i64 q.v)).setCell ⟨g,i*3+1,none⟩ (.int .u64 q.d)).setCell ⟨g,i*3+2,none⟩ (.int .i64 q.b)).ownsRow base 150 3 (.slice (some ⟨g,0,none⟩) l.length cap) l.length (Ao (cur.set i q)):=by
      have h1:=((Af HR.out HB5.out).stored (i*3) (.int .i64 q.v)).1;have h2:=(h1.stored (i*3+1) (.int .u64 q.d)).1;have h3:=(h2.stored (i*3+2) (.int .i64 q.b)).1;rw [Ue] at h3;exact h3
     go_roundg (l.length-(j+1))
     case measure=>omega
     case rel=>exact ⟨i+1,j+1,cur.set i q,by omega,by omega,Bi7 _,by go_num,by go_num,HD2.out,hown,(((HF.out.trans (.of_below HB5.out)).trans (.set _ rfl)).trans (.set _ rfl)).trans (.set _ rfl)⟩
   ·obtain rfl:j=l.length:=by omega
    obtain ⟨vs,hvs,hclr⟩:=Zo (P:=Tryz.prog) wr 145 150 _ Tryz.underlying145 Ap8 rfl (fun u hu=>Av0 0 0 0 u hu) g (i*3) (l.length-i) (cap-i) (by omega)
     (fun k hk=>by rw [HR.out.cellAt (i*3+k) (by omega),Bj0 (by rw [Hd];omega)];rfl) (fun k hk=>HR.out.frozenAt _)
    obtain ⟨ys,ho,hys,_,hof⟩:=Gp vs (i*3) wr _ HR.out (by rw [Hd];omega);have hcut:=Xf ho (Nat.le_of_lt hij);have hfl:(l.filter (fun a=>!p a)).length=i:=by rw [<-HD.out.done,List.length_take];omega
    have htk:ys.take (i*3)=Ao (l.filter (fun a=>!p a)):=by rw [hys,Rk,HD.out.done]
    rw [htk] at hcut;have HCUT:=Bi5 hcut;have HOF:=Bi5 (HF.out.trans hof);have HFL:=Bi5 hfl;have hcap:=Nj HR.out;have hi0:(0:Int)<=(i:Int):=by omega
    clear ho hys hof hcut hfl htk hvs
    go_wp2
    go_ret
    rw [HFL.out];exact ⟨rfl,HCUT.out,HOF.out.mono (fun k e=>by rw [e];rfl)⟩
 ·have hno:∀k (h:k<l.length),p l[k]=false:=by
   have:∀n k,k<n->∀(h:k<l.length),p l[k]=false:=by
    intro n
    induction n with
    |zero=>intro k hk;omega
    |succ n ih=>
     intro k hk h
     cases hp:p l[k] with
     |false=>rfl
     |true=>exact absurd ⟨k,h,hp,fun k' h'=>ih k' (by omega) (by omega)⟩ hex
   exact fun k h=>this (k+1) k (by omega) h
  rw [Ha p l hno] at HI;have hf:l.filter (fun a=>!p a)=l:=by
   rw [List.filter_eq_self];intro a ha;obtain ⟨k,hk,rfl⟩:=Bm9.1 ha;rw [hno k hk];rfl
  rw [hf];clear hf hno hex h hc hp1
  go_enter Tryz.func145,Tryz.ntmps145
  go_wp2_with (go_at_call 200;refine HI.out.mono ?_;rintro e w1 ⟨rfl,hb1⟩)
  go_ret
  exact ⟨rfl,Af HO.out hb1,.of_below hb1⟩
end
end Go.Proofs.YteaaapdjplbljaaGreat
