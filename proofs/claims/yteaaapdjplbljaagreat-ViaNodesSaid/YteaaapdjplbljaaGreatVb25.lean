/- Parts; no condition. -/
import Derived.Test.YteaaapdjplbljaaGreatVb24
set_option linter.unusedVariables false
set_option linter.unusedSimpArgs false
set_option linter.unnecessarySimpa false
set_option maxRecDepth 100000
set_option maxHeartbeats 8000000
namespace Go.Proofs.YteaaapdjplbljaaGreat
section
open Go Go.Proofs Go.RowKit Go.Shelf Hp Ch
theorem Bf1 {d:List Int} {v:Nat} {u x:Int} (hl:v<d.length) (hu:0<=u):gD (d.set v x) u=if u=(v:Int) then x else gD d u:=by
 have:=Ii (d:=d) (v:=(v:Int)) (u:=u) (x:=x) (by omega) (by rw [Bn4];exact hl) hu
 rwa [Bn4] at this
def Bb (v:Nat) (f:List Int) (x:Bz):List Int:=f.set v (min (gD f (v:Int)) (gD f x.2.1+x.2.2))
def Bq (v:Nat) (f:List Int) (l:List Bz):List Int:=l.foldl (Bb v) f
theorem Ad2 (v:Nat) (f:List Int) (l:List Bz) (x:Bz):Bq v f (l++[x])=Bb v (Bq v f l) x:=by unfold Bq;rw [List.foldl_append];rfl
theorem Yn (v:Nat) (f:List Int) (x:Bz):(Bb v f x).length=f.length:=by unfold Bb;rw [Bn1]
theorem Ur (v:Nat):∀(l:List Bz) (f:List Int),(Bq v f l).length=f.length
 |[],_=>rfl
 |x::l,f=>by show (Bq v (Bb v f x) l).length=_;rw [Ur v l,Yn]
theorem Aj0 {v:Nat} {f:List Int} (hv:v<f.length) (x:Bz) {u:Int} (hu:0<=u):gD (Bb v f x) u=if u=(v:Int) then min (gD f (v:Int)) (gD f x.2.1+x.2.2) else gD f u:=Bf1 hv hu
theorem Md {v:Nat}:∀(l:List Bz) (f:List Int),v<f.length->(∀x∈l,0<=x.2.1/\x.2.1≠(v:Int))->
  (∀u,0<=u->u≠(v:Int)->gD (Bq v f l) u=gD f u)/\gD (Bq v f l) (v:Int)<=gD f (v:Int)/\(∀x∈l,gD (Bq v f l) (v:Int)<=gD f x.2.1+x.2.2)/\(gD (Bq v f l) (v:Int)=gD f (v:Int)\/∃x∈l,gD (Bq v f l) (v:Int)=gD f x.2.1+x.2.2)
 |[],f,_,_=>⟨fun _ _ _=>rfl,Int.le_refl _,fun _ h=>(by simp at h),.inl rfl⟩
 |x::l,f,hv,hl=>by
  obtain ⟨i1,i2,i3,i4⟩:=Md l (Bb v f x) (by rw [Yn];exact hv) (fun y hy=>hl y (List.mem_cons_of_mem _ hy));have e:Bq v f (x::l)=Bq v (Bb v f x) l:=rfl;have hx:=hl x (List.mem_cons_self ..);have h0:gD (Bb v f x) (v:Int)=min (gD f (v:Int)) (gD f x.2.1+x.2.2):=by rw [Aj0 hv x (by omega),if_pos rfl]
  have h1:gD (Bb v f x) (v:Int)<=gD f (v:Int):=by rw [h0];exact Int.min_le_left _ _
  have h2:gD (Bb v f x) (v:Int)<=gD f x.2.1+x.2.2:=by rw [h0];exact Int.min_le_right _ _
  have hne:∀u,0<=u->u≠(v:Int)->gD (Bb v f x) u=gD f u:=fun u hu hn=>by rw [Aj0 hv x hu,if_neg hn]
  rw [e];refine ⟨fun u hu hn=>(i1 u hu hn).trans (hne u hu hn),by omega,?_,?_⟩
  ·intro y hy
   rcases Bp2.1 hy with rfl|hy
   ·omega
   ·have:=i3 y hy
    rw [hne _ (hl y (List.mem_cons_of_mem _ hy)).1 (hl y (List.mem_cons_of_mem _ hy)).2] at this;exact this
  ·rcases i4 with h|⟨y,hy,h⟩
   ·rw [h,h0]
    rcases Int.le_total (gD f (v:Int)) (gD f x.2.1+x.2.2) with k|k
    ·exact .inl (Int.min_eq_left k)
    ·exact .inr ⟨x,List.mem_cons_self ..,Int.min_eq_right k⟩
   ·rw [hne _ (hl y (List.mem_cons_of_mem _ hy)).1 (hl y (List.mem_cons_of_mem _ hy)).2] at h
    exact .inr ⟨y,List.mem_cons_of_mem _ hy,h⟩
def Lb (f:List Int) (l:List LB):List Int:=l.foldl (fun f a=>f.set a.v.toNat a.d) f
theorem Ao7 (f:List Int) (l:List LB) (x:LB):Lb f (l++[x])=(Lb f l).set x.v.toNat x.d:=by unfold Lb;rw [List.foldl_append];rfl
theorem Yq:∀(l:List LB) (f:List Int),(Lb f l).length=f.length
 |[],_=>rfl
 |x::l,f=>by show (Lb (f.set x.v.toNat x.d) l).length=_;rw [Yq l,Bn1]
theorem Uv:∀(l:List LB) (f:List Int),(∀a∈l,Ac f.length a.v)->l.Pairwise (fun a b=>a.v≠b.v)->(∀a∈l,gD (Lb f l) a.v=a.d)/\∀u,0<=u->(∀a∈l,a.v≠u)->gD (Lb f l) u=gD f u
 |[],f,_,_=>⟨fun _ h=>(by simp at h),fun _ _ _=>rfl⟩
 |x::l,f,hn,hp=>by
  obtain ⟨h1,h2⟩:=List.pairwise_cons.1 hp;have hx:=hn x (List.mem_cons_self ..);have hxl:x.v.toNat<f.length:=by have:=hx.1;have:=hx.2;omega
  have e:Lb f (x::l)=Lb (f.set x.v.toNat x.d) l:=rfl;obtain ⟨i1,i2⟩:=Uv l (f.set x.v.toNat x.d) (fun a ha=>by rw [Bn1];exact hn a (List.mem_cons_of_mem _ ha)) h2;rw [e];refine ⟨fun a ha=>?_,fun u hu ha=>?_⟩
  ·rcases Bp2.1 ha with rfl|ha
   ·rw [i2 a.v hx.1 (fun b hb k=>h1 b hb k.symm),Ii hx.1 hxl hx.1,if_pos rfl]
   ·exact i1 a ha
  ·rw [i2 u hu (fun b hb=>ha b (List.mem_cons_of_mem _ hb)),Ii hx.1 hxl hu,if_neg (fun k=>ha x (List.mem_cons_self ..) k.symm)]
theorem Bj6 {n:Nat} {v:Int} (_hv:Ac n v):gD (List.replicate n FAR) v=FAR:=by
 unfold gD;rw [Bm6,Bq0]
 split<;>rfl
structure Swp (A:Int->Int->Int->Prop) (r:Int->Int) (s:Int) (n:Nat) (k:Nat) (f:List Int):Prop where
 kn:k<=n
 len:f.length=n
 val:∀v,Ac n v->gD f v=FAR\/(Way0 A Any s v (gD f v)/\gD f v<=211106232532992+((n:Int)-k)*17592186044416)
 pk:∀v d,Peak A r s v d->gD f v<=d/\d<=211106232532992
 dn:∀v,Ac n v->(k:Int)<=r v->∀d,Dist A s v d->gD f v=d/\d<=211106232532992+((n:Int)-k)*17592186044416
theorem Bl3:FAR=4611686018427387904:=rfl
theorem Swp.bd {A:Int->Int->Int->Prop} {r:Int->Int} {s:Int} {n k:Nat} {f:List Int} (hA:∀u v w,A u v w->1<=w) (hn:n<=12) (h:Swp A r s n k f) {v:Int} (hv:Ac n v):0<=gD f v/\gD f v<=4611686018427387904:=by
 have h1:=h.kn;have h2:((n:Int)-k)*17592186044416<=12*17592186044416:=Int.mul_le_mul_of_nonneg_right (by omega) (by decide)
 rcases h.val v hv with e|⟨e1,e2⟩
 ·rw [e,Bl3];omega
 ·have:=e1.nonneg hA
  omega
section
variable {es:List EdgeD} {n:Nat} {R:List Int} {S:List SC} {ro:List Int}
theorem Ar3 (h:HierOK es n R S ro) (back:Bool) {u:Nat} (hu:u<n) {i y w:Int} (hx:XN S back i y (u:Int) w) (hr:rk ro (u:Int)<rk ro y):∃j,(j,y,w)∈Ci R S n u (back != true):=by
 obtain ⟨x,h0,hx,rfl,he⟩:=hx;obtain ⟨hi,e⟩:=Bn3.1 hx;refine ⟨(i.toNat:Int),(Kc h _ hu _).2 ⟨i.toNat,hi,?_,?_⟩⟩
 ·rw [e]
  cases back with
  |true=>simp only [if_true,bne_self_eq_false,Bool.false_eq_true,if_false] at he ⊢;rw [he.1]
  |false=>simp only [Bool.false_eq_true,if_false,Bool.false_bne,if_true] at he ⊢;rw [he.1]
 ·rw [e]
  cases back with
  |true=>simp only [if_true,bne_self_eq_false,Bool.false_eq_true,if_false] at he ⊢;exact ⟨he.2,by rw [he.1,he.2];exact hr⟩
  |false=>simp only [Bool.false_eq_true,if_false,Bool.false_bne,if_true] at he ⊢;exact ⟨he.2,by rw [he.1,he.2];exact hr⟩
theorem Xl (h:HierOK es n R S ro) (hn:n<=12) (back:Bool) {u:Nat} (hu:u<n):∀x∈Ci R S n u (back != true),Ch.Way (Bd back (Am es)) Any x.2.1 (u:Int) x.2.2/\x.2.1≠(u:Int)/\Ac n x.2.1/\1<=x.2.2/\x.2.2<=17592186044416:=by
 intro x hx;obtain ⟨h1,h2,h3,h4⟩:=Nx h back hu hx;have hH:=h.hierB back;obtain ⟨k1,k2⟩:=hH.sound _ _ _ (Ag7.2 h1);have:=Zs hn;exact ⟨k2.imp (fun _ _=>trivial),k1,h2,h3,by omega⟩
theorem Swp.start {l:List LB} {s:Nat} {back:Bool} (hok:HierOK es n R S ro) (hn:n<=12) (hs:s<n) (h:Space (Bd back (Am es)) (XN S back) (rk ro) (s:Int) (l.map Cp)):Swp (Bd back (Am es)) (rk ro) (s:Int) n n (Lb (List.replicate n FAR) l):=by
 have hL:=Me hok h hs hn;have hpw:l.Pairwise (fun a b=>a.v≠b.v):=by
  have h9:=h.once;rw [List.pairwise_map] at h9;exact h9
 obtain ⟨l1,l2⟩:=Uv l (List.replicate n FAR) (fun a ha=>by rw [Bp1];exact (hL a ha).1) hpw;refine ⟨Bm2 _,by rw [Yq,Bp1],fun v hv=>?_,fun v d hp=>?_,fun v hv hk=>?_⟩
 ·by_cases e:∃a∈l,a.v=v
  ·obtain ⟨a,ha,rfl⟩:=e
   rw [l1 a ha];exact .inr ⟨h.sound (Cp a) (List.mem_map.2 ⟨a,ha,rfl⟩),by have:=(hL a ha).2.2;omega⟩
  ·rw [l2 v hv.1 (fun a ha k=>e ⟨a,ha,k⟩),Bj6 hv]
   exact .inl rfl
 ·obtain ⟨a,ha,e1,e2⟩:=h.peaks v d hp
  obtain ⟨x,hx,rfl⟩:=List.mem_map.1 ha;have e3:=l1 x hx;have e4:x.v=v:=e1;have e5:x.d=d:=e2;rw [<-e4,e3,e5];have:=(hL x hx).2.2;omega
 ·have h2:=hok.at1 v hv
  have h3:=Ez hok.rank (rk ro v) (Bo8 h2);have:=hok.len;omega
theorem Swp.step {s v k:Nat} {back:Bool} {f:List Int} (hok:HierOK es n R S ro) (hn:n<=12) (hv:v<n) (hr:rk ro (v:Int)=(k:Int)) (h:Swp (Bd back (Am es)) (rk ro) (s:Int) n (k+1) f):Swp (Bd back (Am es)) (rk ro) (s:Int) n k (Bq v f (Ci R S n v (back != true))):=by
 have hH:=hok.hierB back;have hto:=Xl hok hn back hv;have hkn:=h.kn;obtain ⟨i1,i2,i3,i4⟩:=Md (v:=v) (Ci R S n v (back != true)) f (by rw [h.len];exact hv) (fun x hx=>⟨(hto x hx).2.2.1.1,(hto x hx).2.1⟩);have hnv:Ac n (v:Int):=⟨by omega,by omega⟩;have hE:((n:Int)-(k:Nat))*17592186044416=((n:Int)-((k+1:Nat):Int))*17592186044416+17592186044416:=by
  have:((n:Int)-(k:Nat))=((n:Int)-((k+1:Nat):Int))+1:=by omega
  rw [this,Int.add_mul];omega
 have hF:=Bl3;have hE2:((n:Int)-((k+1:Nat):Int))*17592186044416<=12*17592186044416:=Int.mul_le_mul_of_nonneg_right (by omega) (by decide);have hval:∀u,Ac n u->gD (Bq v f (Ci R S n v (back != true))) u=FAR\/(Way0 (Bd back (Am es)) Any (s:Int) u (gD (Bq v f (Ci R S n v (back != true))) u)/\gD (Bq v f (Ci R S n v (back != true))) u<=211106232532992+((n:Int)-k)*17592186044416):=by
  intro u hu
  by_cases e:u=(v:Int)
  ·subst e
   rcases i4 with h4|⟨x,hx,h4⟩
   ·rw [h4]
    rcases h.val _ hnv with h5|⟨h5,h6⟩
    ·exact .inl h5
    ·exact .inr ⟨h5,by omega⟩
   ·obtain ⟨t1,t2,t3,t4,t5⟩:=hto x hx
    rcases h.val _ t3 with h5|⟨h5,h6⟩
    ·exfalso
     rw [h5] at h4
     rcases h.val _ hnv with h7|⟨_,h7⟩<;>omega
    ·refine .inr ⟨?_,by omega⟩
     rw [h4];exact h5.trans trivial (.inr t1)
  ·rw [i1 u hu.1 e]
   rcases h.val _ hu with h5|⟨h5,h6⟩
   ·exact .inl h5
   ·exact .inr ⟨h5,by omega⟩
 have hle:∀u,Ac n u->gD (Bq v f (Ci R S n v (back != true))) u<=gD f u:=by
  intro u hu
  by_cases e:u=(v:Int)
  ·subst e;exact i2
  ·rw [i1 u hu.1 e];exact Int.le_refl _
 refine ⟨by omega,by rw [Ur];exact h.len,hval,fun u d hp=>?_,fun u hu hk d hd=>?_⟩
 ·have h5:=h.pk u d hp
  have hu:0<=u:=by
   rcases hp.2.1.1 with ⟨e,_⟩|hw
   ·omega
   ·exact (hw.nodes hH.node).2.1
  by_cases e:u=(v:Int)
  ·subst e;omega
  ·rw [i1 u hu e];exact h5
 ·have fin:gD (Bq v f (Ci R S n v (back != true))) u<=d->d<=211106232532992+((n:Int)-k)*17592186044416->gD (Bq v f (Ci R S n v (back != true))) u=d/\d<=211106232532992+((n:Int)-k)*17592186044416:=by
   intro h5 h6;refine ⟨?_,h6⟩
   rcases hval u hu with h7|⟨h7,_⟩
   ·omega
   ·have:=hd.2 _ h7
    omega
  by_cases e:u=(v:Int)
  ·subst e
   rcases hd.down hH (fun v=>by unfold rk;omega) with hp|⟨y,w,⟨i,hx⟩,hry,hdy⟩
   ·have h5:=h.pk _ _ hp
    exact fin (by omega) (by omega)
   ·obtain ⟨j,hj⟩:=Ar3 hok back hv hx hry
    have h3:=i3 _ hj;obtain ⟨t1,t2,t3,t4,t5⟩:=hto _ hj;simp only at h3 t1 t2 t3 t4 t5;have h5:=h.dn y t3 (by omega) _ hdy;exact fin (by omega) (by omega)
  ·have hne:rk ro u≠(k:Int):=fun k'=>e (hH.inj _ _ hu hnv (by omega))
   have h5:=h.dn u hu (by omega) d hd;exact fin (by rw [i1 u hu.1 e];omega) (by omega)
end
theorem Swp.far {A:Int->Int->Int->Prop} {r:Int->Int} {s:Int} {n:Nat} {f:List Int} (hA:∀u v w,A u v w->1<=w) (hn:n<=12) (hr0:∀v,0<=r v) (h:Swp A r s n 0 f) {v:Int} (hv:Ac n v):FarV A s v (gD f v):=by
 have h2:((n:Int)-((0:Nat):Int))*17592186044416<=12*17592186044416:=Int.mul_le_mul_of_nonneg_right (by omega) (by decide)
 by_cases hd:∃e,Dist A s v e
 ·obtain ⟨e,he⟩:=hd
  have h3:=h.dn v hv (by have:=hr0 v;omega) e he;refine .inl ⟨by rw [h3.1];exact he,by rw [h3.1];exact he.1.nonneg hA,by omega⟩
 ·rcases h.val v hv with e|⟨e,_⟩
  ·exact .inr ⟨e,fun e he=>hd (Ga hA he)⟩
  ·exact absurd (Ga hA e) hd
def Sh (f:List Int) (l:List LB):List LB:=l.filter fun a=>!decide (gD f a.v<a.d)
def ExIs (A:Int->Int->Int->Prop) (r:Int->Int) (s:Int) (l:List LB):Prop:=l.Pairwise (fun a b=>a.v<b.v)/\∀v d,(∃x∈l,x.v=v/\x.d=d)↔Peak A r s v d
theorem Aq8 {A:Int->Int->Int->Prop} {X:Nums} {r:Int->Int} {s:Int} {n:Nat} {f:List Int} {l:List LB} (hH:Hier A X.rel r (Ac n)) (hr0:∀v,0<=r v) (h:Space A X r s (l.map Cp)) (ho:l.Pairwise (fun a b=>a.v<=b.v)) (hl:∀x∈l,Ac n x.v/\x.d<FAR) (hf:∀v,Ac n v->FarV A s v (gD f v)):ExIs A r s (Sh f l):=by
 have hpw:l.Pairwise (fun a b=>a.v≠b.v):=by
  have h9:=h.once;rw [List.pairwise_map] at h9;exact h9
 refine ⟨?_,fun v d=>⟨?_,fun hp=>?_⟩⟩
 ·exact ((ho.and hpw).imp (fun {a b} h=>by have:=h.1;have:=h.2;omega)).filter _
 ·rintro ⟨x,hx,rfl,rfl⟩
  obtain ⟨h1,h2⟩:=List.mem_filter.1 hx;have hm:Cp x∈l.map Cp:=List.mem_map.2 ⟨x,h1,rfl⟩;have hw:Way0 A Any s x.v x.d:=h.sound _ hm;obtain ⟨hn,hF⟩:=hl x h1;have h3:¬gD f x.v<x.d:=by simpa using h2
  rcases hf x.v hn with ⟨k,_⟩|⟨_,k⟩
  ·have h4:=k.2 _ hw
   have h5:gD f x.v=x.d:=by omega
   rw [h5] at k;exact h.peak hH hr0 hm k
  ·exact absurd hw (k _)
 ·obtain ⟨a,ha,e1,e2⟩:=h.peaks v d hp
  obtain ⟨x,hx,rfl⟩:=List.mem_map.1 ha;refine ⟨x,List.mem_filter.2 ⟨hx,?_⟩,e1,e2⟩;have e3:x.v=v:=e1;have e4:x.d=d:=e2
  rcases hf x.v (hl x hx).1 with ⟨k,_⟩|⟨k,_⟩
  ·rw [e3] at k
   have:=k.uniq hp.2.1;simp only [Bool.not_eq_true',decide_eq_false_iff_not];rw [e3];omega
  ·have:=(hl x hx).2
   simp only [Bool.not_eq_true',decide_eq_false_iff_not];omega
def Qd (R:List Int) (f:Int->Option Int) (back:Bool) (v d:Int) (x:SC):Bool:=
 decide ((if back then x.f else x.t)=v)&&decide (rAt R (if back then x.t else x.f)<rAt R (if back then x.f else x.t))&&(match f (if back then x.t else x.f) with|some e=>decide (e+x.w=d)|none=>false)
def Er (R:List Int) (S:List SC) (f:Int->Option Int) (back:Bool) (v d:Int):Int:=match S.findIdx? (Qd R f back v d) with
 |some i=>(i:Int)
 |none=>-1
theorem Aq1 {R:List Int} {S:List SC} {f:Int->Option Int} {back:Bool} {v d:Int} {i:Nat} (hi:i<S.length) (hp:Qd R f back v d S[i]=true) (hb:∀k (h:k<i),Qd R f back v d (S[k]'(by omega))=false):Er R S f back v d=(i:Int):=by
 unfold Er;have:S.findIdx? (Qd R f back v d)=some i:=by
  rw [List.findIdx?_eq_some_iff_getElem];exact ⟨hi,hp,fun k hk=>by rw [hb k hk];simp⟩
 rw [this]
theorem Aq0 {R:List Int} {S:List SC} {f:Int->Option Int} {back:Bool} {v d:Int} (hb:∀k (h:k<S.length),Qd R f back v d S[k]=false):Er R S f back v d= -1:=by
 unfold Er;have:S.findIdx? (Qd R f back v d)=none:=by
  rw [List.findIdx?_eq_none_iff];intro a ha;obtain ⟨k,hk,rfl⟩:=Bq4.1 ha;exact hb k hk
 rw [this]
def Hm (l:List LB) (v:Int):LB:=(l.find? fun a=>decide (a.v=v)).getD ⟨0,0,0⟩
def Iv (l:List LB) (v:Int):Bool:=l.any fun a=>decide (a.v=v)
def Fb (l:List LB) (u:Int):Option Int:=(l.find? fun a=>decide (a.v=u)).map (·.d)
theorem Ru {l:List LB} {u:Int} (h:Iv l u=false):Fb l u=none:=by
 unfold Fb;have:l.find? (fun a=>decide (a.v=u))=none:=by
  rw [List.find?_eq_none];intro x hx k;unfold Iv at h;rw [List.any_eq_false] at h;exact h x hx k
 rw [this];rfl
theorem Rt {l:List LB} {u:Int} (h:Iv l u=true):Fb l u=some (Hm l u).d/\Hm l u∈l/\(Hm l u).v=u:=by
 unfold Fb Hm;unfold Iv at h;obtain ⟨x,hx,hk⟩:=List.any_eq_true.1 h
 cases hf:l.find? (fun a=>decide (a.v=u)) with
 |none=>rw [List.find?_eq_none] at hf;exact absurd hk (hf x hx)
 |some y=>
  have h1:=List.find?_some hf;have h2:=List.mem_of_find?_eq_some hf;exact ⟨rfl,h2,of_decide_eq_true h1⟩
theorem Og:∀{l l':List LB},l.map (fun a=>(a.v,a.d))=l'.map (fun a=>(a.v,a.d))->Fb l=Fb l'
 |[],[],_=>rfl
 |[],_::_,h=>by simp at h
 |_::_,[],h=>by simp at h
 |x::l,y::l',h=>by
  simp only [List.map_cons,List.cons.injEq,Prod.mk.injEq] at h;have ih:=Og (l:=l) (l':=l') h.2
  funext u
  have ihu:=congrFun ih u;unfold Fb at ihu ⊢;rw [List.find?_cons,List.find?_cons,h.1.1]
  split
  ·simp [h.1.2]
  ·exact ihu
def withB (R:List Int) (S:List SC) (back:Bool) (l:List LB):List LB:=l.map fun a=>⟨a.v,a.d,Er R S (Fb l) back a.v a.d⟩
def Gh (R:List Int) (S:List SC) (back:Bool) (l:List LB) (k:Nat):List LB:=(withB R S back l).take k++l.drop k
theorem Kb (R:List Int) (S:List SC) (back:Bool) (l:List LB):(withB R S back l).length=l.length:=by simp [withB]
theorem Yk {R:List Int} {S:List SC} {back:Bool} {l:List LB} {k:Nat}:(Gh R S back l k).length=l.length:=by simp [Gh,withB];omega
theorem Ao1 (R:List Int) (S:List SC) (back:Bool) (l:List LB):Gh R S back l 0=l:=by simp [Gh]
theorem Aw5 (R:List Int) (S:List SC) (back:Bool) (l:List LB):Gh R S back l l.length=withB R S back l:=by
 unfold Gh;rw [List.take_of_length_le (by rw [Kb];exact Bm2 _),List.drop_of_length_le (Bm2 _),List.append_nil]
theorem Yl {R:List Int} {S:List SC} {back:Bool} {l:List LB} {k:Nat} (hk:k<l.length):(Gh R S back l k)[k]? =some l[k]:=by
 unfold Gh;rw [Bp8 (by simp [withB];omega),List.length_take,Kb,Nat.min_eq_left (by omega),Nat.sub_self,List.getElem?_drop,Nat.add_zero,Bm5 hk]
theorem Aw4 {R:List Int} {S:List SC} {back:Bool} {l:List LB} {k:Nat} (hk:k<l.length):(Gh R S back l k).set k ⟨l[k].v,l[k].d,Er R S (Fb l) back l[k].v l[k].d⟩=Gh R S back l (k+1):=by
 apply List.ext_getElem?
 intro i;have hw:∀i (h:i<l.length),(withB R S back l)[i]? =some ⟨l[i].v,l[i].d,Er R S (Fb l) back l[i].v l[i].d⟩:=fun i h=>by
  unfold withB;rw [Bn9,Bm5 h];rfl
 by_cases e:i=k
 ·subst e
  rw [Bq9 (by rw [Yk];exact hk)];unfold Gh;rw [Bp9 (by simp [withB];omega),Br1 (by omega),hw i hk]
 ·rw [Bq8 (fun h=>e h.symm)]
  unfold Gh
  by_cases h:i<k
  ·rw [Bp9 (by simp [withB];omega),Bp9 (by simp [withB];omega),Br1 h,Br1 (by omega)]
  ·rw [Bp8 (by simp [withB];omega),Bp8 (by simp [withB];omega),List.length_take,List.length_take,Kb,Nat.min_eq_left (by omega),Nat.min_eq_left (by omega),List.getElem?_drop,List.getElem?_drop]
   congr 1
   omega
theorem Ai7 (R:List Int) (S:List SC) (back:Bool) (l:List LB) (k:Nat):(Gh R S back l k).map (fun a=>(a.v,a.d))=l.map (fun a=>(a.v,a.d)):=by
 have h:(withB R S back l).map (fun a=>(a.v,a.d))=l.map (fun a=>(a.v,a.d)):=by simp [withB,Function.comp_def]
 unfold Gh;rw [Bq1,List.map_take,h,List.map_drop,List.take_append_drop]
theorem ExIs.withB {A:Int->Int->Int->Prop} {r:Int->Int} {s:Int} {l:List LB} (h:ExIs A r s l) (R:List Int) (S:List SC) (back:Bool):ExIs A r s (withB R S back l):=by
 refine ⟨?_,fun v d=>?_⟩
 ·unfold Go.Proofs.YteaaapdjplbljaaGreat.withB
  rw [List.pairwise_map];exact h.1
 ·rw [<-h.2 v d]
  unfold Go.Proofs.YteaaapdjplbljaaGreat.withB;constructor
  ·rintro ⟨x,hx,h1,h2⟩
   obtain ⟨y,hy,rfl⟩:=List.mem_map.1 hx;exact ⟨y,hy,h1,h2⟩
  ·rintro ⟨x,hx,h1,h2⟩
   exact ⟨_,List.mem_map.2 ⟨x,hx,rfl⟩,h1,h2⟩
end
section
open Go Go.Proofs Go.RowKit Go.Shelf Hp Ch
def Jd (x:LB):Value:=.agg #[.int .i64 x.v,.int .u64 x.d,.int .i64 x.b]
theorem Ln (g:Nat) (cb:Array Value) (p:LB->Bool) (ao:Option Addr) (cap:Nat) (l:List LB) (w:World) (hen:Enters Tryz.prog g)
  (hp:Ip Tryz.prog g cb Jd p l w) (hl:l.length<=9223372036854775807) (hc:Cel w ao (Ap l)):
  Calls Tryz.prog 200 #[.slice ao l.length cap,.func (.func g) #[] cb] w fun e w'=>e=.returned (.int .i64 (Fc p l))/\Below w.heap.size w w':=by
 have HP:=Bm0 hp;have HC:=Bm0 hc;clear hp hc;unfold Enters at hen
 go_enter Tryz.func200,Tryz.ntmps200
 go_wp2
 go_loopg [8] l.length (fun g i wr=>∃k:Nat,k<=l.length/\l.length-k<=g/\i=.int .i64 k/\Aside (Below w.heap.size w wr)/\Aside (∀j (h:j<l.length),j<k->p l[j]=false))
 case atStart=>exact ⟨0,Bm3 _,by omega,rfl,Below.refl _ _,fun j _ h=>absurd h (Nat.not_lt_zero _)⟩
 case round=>
  obtain ⟨k,hk,hg,rfl,HB,HA⟩:=hrel
  by_cases hlt:k<l.length
  ·obtain ⟨b,o,hao,hc1,hc2,hc3⟩:=(HC.out.below HB.out (Bm2 _)).lab hlt
   have HQ:=Bm0 (HP.out wr l[k] HB.out (Bn2 hlt));have HN:=Bm0 (fun h:p l[k]=true=>Hn p l k hlt h (fun j h1 h2=>HA.out j h1 h2));have HM:=Bm0 (fun h:p l[k]=false=>(fun j (h1:j<l.length) (h2:j<k+1)=>(by
    by_cases e:j=k
    ·subst e;exact h
    ·exact HA.out j h1 (by omega):p l[j]=false)))
   generalize hx:l[k]=x at*;clear hx;subst hao
   cases hq:p x with
   |true=>
    have HN2:=Bm0 (HN.out hq);have HQ2:=Bm0 (hq▸HQ.out);clear hq
    go_wp2_with (go_at_fn g;refine HQ2.out.mono ?_;rintro e w1 ⟨rfl,hb1⟩)
    go_ret
    exact ⟨by rw [HN2.out];rfl,HB.out.trans (hb1.mono (by have:=HB.out.size;omega))⟩
   |false=>
    have HN2:=Bm0 (HM.out hq);have HQ2:=Bm0 (hq▸HQ.out);clear hq
    go_wp2_with (go_at_fn g;refine HQ2.out.mono ?_;rintro e w1 ⟨rfl,hb1⟩)
    go_roundg (l.length-(k+1))
    case measure=>omega
    case rel=>exact ⟨k+1,by omega,by omega,by go_num,HB.out.trans (hb1.mono (by have:=HB.out.size;omega)),HN2.out⟩
  ·obtain rfl:k=l.length:=by omega
   have HN:=Bm0 (Fx p l (fun j h=>HA.out j h h))
   go_wp2
   go_ret
   exact ⟨by rw [HN.out];rfl,HB.out⟩
theorem Aq2 (x:LB) (v:Int) (b:Nat) (w:World) (hx:w.cell? ⟨b,0,none⟩=some (.int .i64 v)):
  Calls Tryz.prog 252 (#[Jd x]++#[.pointer (some ⟨b,0,none⟩)]) w fun e w'=>e=.returned (.bool (decide (x.v=v)))/\Below w.heap.size w w':=by
 have f:=fun o=>Bm1 (Below.of_al w o) hx;have he:(x.v==v)=decide (x.v=v):=by rw [Bool.eq_iff_iff,beq_iff_eq,decide_eq_true_eq]
 unfold Jd
 go_enter Tryz.func252,Tryz.ntmps252
 go_wp2
 go_ret
 exact ⟨by rw [<-he];rfl,Below.of_al _ _⟩
theorem Ay0 (l:List LB) (v:Int):(Fc (fun a=>decide (a.v=v)) l<0/\Iv l v=false)\/∃i:Nat,∃h:i<l.length,Fc (fun a=>decide (a.v=v)) l=(i:Int)/\Iv l v=true/\l[i]=Hm l v:=by
 unfold Iv Hm
 induction l with
 |nil=>exact .inl ⟨by simp [Fc],rfl⟩
 |cons x l ih=>
  unfold Fc
  by_cases h:x.v=v
  ·refine .inr ⟨0,by simp,?_,?_,?_⟩
   ·simp [h]
   ·simp [h]
   ·simp [h]
  ·rcases ih with ⟨i1,i2⟩|⟨i,hi,i1,i2,i3⟩
   ·refine .inl ⟨?_,?_⟩
    ·simp [h,i1]
    ·simp [h]
     simpa using i2
   ·refine .inr ⟨i+1,by simp;omega,?_,?_,?_⟩
    ·simp [h,i1]
     omega
    ·simp [h]
     simpa using i2
    ·simp [h]
     exact i3
theorem Aj7 {W:World} {b:Nat} {a0 a1 a2:Value} (x y z:Value) (h0:W.cell? ⟨b,0,none⟩=some a0) (h1:W.cell? ⟨b,1,none⟩=some a1) (h2:W.cell? ⟨b,2,none⟩=some a2):
  (((W.setCell ⟨b,0,none⟩ x).setCell ⟨b,1,none⟩ y).setCell ⟨b,2,none⟩ z).cell? ⟨b,0,none⟩=some x/\(((W.setCell ⟨b,0,none⟩ x).setCell ⟨b,1,none⟩ y).setCell ⟨b,2,none⟩ z).cell? ⟨b,1,none⟩=some y/\(((W.setCell ⟨b,0,none⟩ x).setCell ⟨b,1,none⟩ y).setCell ⟨b,2,none⟩ z).cell? ⟨b,2,none⟩=some z:=by
 obtain ⟨r0,r1⟩:=Cc x y h0 h1;refine ⟨?_,?_,?_⟩
 ·rw [Bm8 _ _ _ _ (by simp)];exact r0
 ·rw [Bm8 _ _ _ _ (by simp)];exact r1
 ·refine Bm9 (u:=a2) _ _ _ ?_
  rw [Bm8 _ _ _ _ (by simp),Bm8 _ _ _ _ (by simp)];exact h2
theorem Ss {B b:Nat} {w W:World} (x y z:Value) (h:Below B w W) (hb:B<=b):Below B w (((W.setCell ⟨b,0,none⟩ x).setCell ⟨b,1,none⟩ y).setCell ⟨b,2,none⟩ z):=((h.setCell hb _).setCell hb _).setCell hb _
theorem Ad5 {l:List LB} {u:Int} (h:Iv l u=false):Hm l u=⟨0,0,0⟩:=by
 unfold Hm;have:l.find? (fun a=>decide (a.v=u))=none:=by
  rw [List.find?_eq_none];intro x hx k;unfold Iv at h;rw [List.any_eq_false] at h;exact h x hx k
 rw [this];rfl
theorem Zk (l:List LB) (ao:Option Addr) (cap:Nat) (v:Int) (w:World) (hc:Cel w ao (Ap l)) (hl:l.length<=1000000):
  Calls Tryz.prog 204 #[.slice ao l.length cap,.int .i64 v] w fun e w'=>e=.returned (.tuple #[Jd (Hm l v),.bool (Iv l v)])/\Below w.heap.size w w':=by
 obtain ⟨W,hW⟩:∃W,W=(w.alloc (Obj.cells #[.int .i64 v] 3)).alloc (Obj.cells #[.int .i64 0,.int .u64 0,.int .i64 0] 150):=⟨_,rfl⟩;have hbw:Below w.heap.size w W:=by rw [hW];exact (Below.of_al _ _).al _
 have hsz:W.heap.size=w.heap.size+2:=by rw [hW];simp
 have c0:W.cell? ⟨w.heap.size,0,none⟩=some (.int .i64 v):=by rw [hW];go_simp
 have q0:W.cell? ⟨w.heap.size+1,0,none⟩=some (.int .i64 0):=by rw [hW];go_simp
 have q1:W.cell? ⟨w.heap.size+1,1,none⟩=some (.int .u64 0):=by rw [hW];go_simp
 have q2:W.cell? ⟨w.heap.size+1,2,none⟩=some (.int .i64 0):=by rw [hW];go_simp
 have z0:W.frozen? ⟨w.heap.size+1,0,none⟩=false:=by rw [hW];go_simp
 have z1:W.frozen? ⟨w.heap.size+1,1,none⟩=false:=by rw [hW];go_simp
 have z2:W.frozen? ⟨w.heap.size+1,2,none⟩=false:=by rw [hW];go_simp
 have HI:=Bm0 (Ln 252 #[.pointer (some ⟨w.heap.size,0,none⟩)] (fun a=>decide (a.v=v)) ao cap l W (enters_of Tryz.func252 (by kernel_rfl) rfl) (fun W' x hb hx=>Aq2 x v w.heap.size W' (Bm1 hb c0)) (by omega) (hc.go hbw));have HC:=Bm0 (hc.go hbw);have HB:=Bm0 hbw;have HSZ:=Bm0 hsz;have HW:=Bm0 hW;have hl2:(l.length:Int)<=1000000:=by omega
 clear hW hbw hc hsz c0
 rcases Ay0 l v with ⟨h1,h2⟩|⟨i,hi,h1,h2,h3⟩
 ·have HL:=Bm0 (Ad5 h2)
  have HL2:=Bm0 h2;generalize Fc (fun a:LB=>decide (a.v=v)) l=r at*;clear h2
  go_enter Tryz.func204,Tryz.ntmps204
  go_upto_region 1 with (fail)
  rw [<-HW.out]
  go_upto_region 2 with (go_at_call 200;refine HI.out.mono ?_;rintro e w1 ⟨rfl,hb1⟩;(have HB1:=Bm0 hb1);(have p0:=Bm1 hb1 q0);(have p1:=Bm1 hb1 q1);(have p2:=Bm1 hb1 q2);(have y0:=(hb1.frozen (p:=⟨w.heap.size+1,0,none⟩) (by show w.heap.size+1<_;rw [HSZ.out];omega)).trans z0);(have y1:=(hb1.frozen (p:=⟨w.heap.size+1,1,none⟩) (by show w.heap.size+1<_;rw [HSZ.out];omega)).trans z1);(have y2:=(hb1.frozen (p:=⟨w.heap.size+1,2,none⟩) (by show w.heap.size+1<_;rw [HSZ.out];omega)).trans z2);clear hb1)
  clear q0 q1 q2 z0 z1 z2
  go_wp2
  obtain ⟨r0,r1,r2⟩:=Aj7 (.int .i64 0) (.int .u64 0) (.int .i64 0) p0 p1 p2;refine bodyPost_ret (v:=.tuple #[Jd ⟨0,0,0⟩,.bool false]) (by simp [results,Tryz.results204,go_sem,r0,r1,r2,Jd];try rfl) rfl ?_;exact ⟨by rw [HL.out,HL2.out],Ss _ _ _ (HB.out.st HB1.out) (Nat.le_succ _)⟩
 ·have HL:=Bm0 h3
  have HL2:=Bm0 h2;have hr0:¬Fc (fun a:LB=>decide (a.v=v)) l<0:=by omega
  rw [h1] at HI;obtain ⟨lb,lo,rfl,x0,x1,x2⟩:=HC.out.lab hi;have hi0:(0:Int)<=(i:Int):=by omega
  have hi1:(i:Int)<(l.length:Int):=by omega
  generalize l[i]=a at*;obtain ⟨av,ad,ab⟩:=a;simp only at x0 x1 x2;clear h1 h2 h3 hr0
  go_enter Tryz.func204,Tryz.ntmps204
  go_upto_region 1 with (fail)
  rw [<-HW.out]
  go_upto_region 2 with (go_at_call 200;refine HI.out.mono ?_;rintro e w1 ⟨rfl,hb1⟩;(have HB1:=Bm0 hb1);(have p0:=Bm1 hb1 q0);(have p1:=Bm1 hb1 q1);(have p2:=Bm1 hb1 q2);(have v0:=Bm1 hb1 x0);(have v1:=Bm1 hb1 x1);(have v2:=Bm1 hb1 x2);(have y0:=(hb1.frozen (p:=⟨w.heap.size+1,0,none⟩) (by show w.heap.size+1<_;rw [HSZ.out];omega)).trans z0);(have y1:=(hb1.frozen (p:=⟨w.heap.size+1,1,none⟩) (by show w.heap.size+1<_;rw [HSZ.out];omega)).trans z1);(have y2:=(hb1.frozen (p:=⟨w.heap.size+1,2,none⟩) (by show w.heap.size+1<_;rw [HSZ.out];omega)).trans z2);clear hb1)
  clear q0 q1 q2 z0 z1 z2 x0 x1 x2
  go_wp2
  obtain ⟨r0,r1,r2⟩:=Aj7 (.int .i64 av) (.int .u64 ad) (.int .i64 ab) p0 p1 p2;refine bodyPost_ret (v:=.tuple #[Jd ⟨av,ad,ab⟩,.bool true]) (by simp [results,Tryz.results204,go_sem,r0,r1,r2,Jd];try rfl) rfl ?_;exact ⟨by rw [<-HL.out,HL2.out],Ss _ _ _ (HB.out.st HB1.out) (Nat.le_succ _)⟩
structure DlI (p:LB->Bool) (l cur:List LB) (i j:Nat):Prop where
 le:i<=j
 jn:j<=l.length
 len:cur.length=l.length
 hd:cur.take i=(l.take j).filter (fun a=>!p a)
 tl:∀k,j<=k->cur[k]? =l[k]?
theorem DlI.drop {p:LB->Bool} {l cur:List LB} {i j:Nat} (h:DlI p l cur i j) (hj:j<l.length) (hp:p l[j]=true):DlI p l cur i (j+1):=
 ⟨by have:=h.le;omega,hj,h.len,by rw [h.hd,Bn8 hj,List.filter_append];simp [hp],fun k hk=>h.tl k (by omega)⟩
theorem DlI.keep {p:LB->Bool} {l cur:List LB} {i j:Nat} (h:DlI p l cur i j) (hj:j<l.length) (hp:p l[j]=false):DlI p l (cur.set i l[j]) (i+1) (j+1):=by
 have hle:=h.le;have hlen:=h.len;refine ⟨by omega,hj,by rw [Bn1];exact hlen,?_,fun k hk=>by rw [Bq8 (by omega)];exact h.tl k (by omega)⟩;rw [Bn8 (by rw [Bn1];omega),Bn8 hj,List.filter_append,<-h.hd];rw [List.getElem_set_self]
 congr 1
 ·rw [List.take_set_of_le (Bm2 _)]
 ·simp [hp]
theorem DlI.begin {p:LB->Bool} {l:List LB} {i:Nat} (hi:i<l.length) (hp:p l[i]=true) (hb:∀k (h:k<i),p (l[k]'(by omega))=false):DlI p l l i (i+1):=by
 refine ⟨by omega,hi,rfl,?_,fun _ _=>rfl⟩;rw [Bn8 hi,List.filter_append];have:(l.take i).filter (fun a=>!p a)=l.take i:=by
  rw [List.filter_eq_self];intro a ha;obtain ⟨k,hk,rfl⟩:=Bq4.1 ha;rw [List.getElem_take,hb k (by simp at hk;omega)];rfl
 rw [this];simp [hp]
theorem DlI.done {p:LB->Bool} {l cur:List LB} {i:Nat} (h:DlI p l cur i l.length):cur.take i=l.filter (fun a=>!p a):=by rw [h.hd,Bq6]
theorem Ab6 {P:Program} (w:World) (t e:TypeId) (z:Value) (ht:P.underlying t=some (.slice e)) (hv:∀w,(zeroValue e).run P w=.ok z w) (h2:z.cells.size=3) (h1:∀u∈z.cells.toList,u.oneCell'=true) (b o n c:Nat) (hn:0<n)
  (hc:∀j,j<n*3->(w.cell? ⟨b,o+j,none⟩).isSome=true) (hf:∀j,j<n*3->w.frozen? ⟨b,o+j,none⟩=false):
  ∃vs,vs.length=n*3/\∀ty,(Builtin.clear_ #[t] ty #[.slice (some ⟨b,o,none⟩) n c]).run P w=.ok (.tuple #[]) (w.setCells b o vs):=by
 have hzl:((Builtin.zeroCells z.cells n).toList).length=n*3:=by simp [Builtin.zeroCells,h2,Nat.mul_comm]
 have hst:=run_storeCells_cells (P:=P) b o (Builtin.zeroCells z.cells n).toList 0 w (by simpa [hzl] using hc) (by simpa [hzl] using hf) (by
  intro v hv'
  apply h1
  simp [Builtin.zeroCells] at hv';obtain ⟨k,hk,rfl⟩:=hv';rw [Array.getElem!_eq_getD];simp [Array.getD,h2,Nat.mod_lt])
 simp only [Nat.add_zero] at hst;obtain ⟨m,rfl⟩:∃m,n=m+1:=⟨n-1,by omega⟩;refine ⟨_,hzl,fun ty=>?_⟩;simp [Builtin.clear_,run_underlying ht,hv,hst]
theorem Sf:∀(l:List LB) (i:Nat),(Ap l).take (i*3)=Ap (l.take i)
 |[],i=>by simp [Ap]
 |x::l,0=>by simp [Ap]
 |x::l,i+1=>by
  rw [show (i+1)*3=i*3+1+1+1 by omega,Ap,List.take_succ_cons,List.take_succ_cons,List.take_succ_cons,Sf l i];rfl
theorem Vc:∀(l:List LB) (i:Nat) (q:LB),(((Ap l).set (i*3) (.int .i64 q.v)).set (i*3+1) (.int .u64 q.d)).set (i*3+2) (.int .i64 q.b)=Ap (l.set i q)
 |[],i,q=>by simp [Ap]
 |x::l,0,q=>rfl
 |x::l,i+1,q=>by
  rw [show (i+1)*3=i*3+1+1+1 by omega,Bo4]
  show _=_::_::_::Ap (l.set i q)
  rw [<-Vc l i q];rfl
theorem Ay2 (a b c:Int):∀u∈((Value.agg #[.int .i64 a,.int .u64 b,.int .i64 c]).cells).toList,u.oneCell'=true:=by
 intro u hu;have h:((Value.agg #[.int .i64 a,.int .u64 b,.int .i64 c]).cells).toList=[Value.int .i64 a,.int .u64 b,.int .i64 c]:=rfl;rw [h] at hu;simp only [Bp2,List.not_mem_nil,or_false] at hu
 rcases hu with rfl|rfl|rfl<;>rfl
def Tc (base:Nat) (p:LB->Bool) (l:List LB) (ao:Option Addr) (cap:Nat) (w:World) (e:Ending) (w':World):Prop:=
 e=.returned (.slice ao (l.filter (fun a=>!p a)).length cap)/\w'.ownsRow base 150 3 (.slice ao (l.filter (fun a=>!p a)).length cap) (l.filter (fun a=>!p a)).length (Ap (l.filter (fun a=>!p a)))/\
  OffX (fun k=>(Value.slice ao l.length cap).ownBlock=some k) w w'
theorem As9 (w:World):(zeroValue 150).run Tryz.prog w=.ok (.agg #[.int .i64 0,.int .u64 0,.int .i64 0]) w:=by kernel_rfl
theorem Af4 (base:Nat) (cb:Array Value) (p:LB->Bool) (l:List LB) (ao:Option Addr) (cap:Nat) (w:World) (h:w.ownsRow base 150 3 (.slice ao l.length cap) l.length (Ap l))
  (hp1:∀(W:World) (x:LB),OffX (fun k=>(Value.slice ao l.length cap).ownBlock=some k) w W->x∈l->Calls Tryz.prog 146 (#[Jd x]++cb) W fun e w'=>e=.returned (.bool (p x))/\Below W.heap.size W w') (hl:l.length<=1000000):
  Calls Tryz.prog 145 #[.slice ao l.length cap,.func (.func 146) #[] cb] w (Tc base p l ao cap w):=by
 obtain ⟨ao',c',e,hc⟩:=Cel.of_owns h
 cases e
 have HI:=Bm0 (Ln 146 cb p ao cap l w (enters_of Tryz.func146 (by kernel_rfl) rfl) (fun W x hb hx=>hp1 W x (.of_below hb) hx) (by omega) hc);have HP1:=Bm0 hp1;have HO:=Bm0 h;have hl2:(l.length:Int)<=1000000:=by omega
 unfold Tc
 by_cases hex:∃i,∃hi:i<l.length,p l[i]=true/\∀k (h:k<i),p (l[k]'(by omega))=false
 ·obtain ⟨i,hi,hp,hb⟩:=hex
  obtain ⟨g,cg,e⟩:=Ao h (by omega)
  cases e
  rw [Hn p l i hi hp (fun j h h2=>hb j h2)] at HI;have HD:=Bm0 (DlI.begin hi hp hb);clear hp hb hc h hp1;have hi1:((i:Int)== -1)=false:=by rw [beq_eq_false_iff_ne];omega
  have hi2:(i:Int)<(l.length:Int):=by omega
  go_enter Tryz.func145,Tryz.ntmps145
  go_wp2_with (go_at_call 200;refine HI.out.mono ?_;rintro e w1 ⟨rfl,hb1⟩;(have HB1:=Bm0 hb1;clear hb1))
  go_loopg [5,6] l.length (fun gg v5 v6 wr=>∃(i j:Nat) (cur:List LB),i<j/\j<=l.length/\l.length-j<=gg/\v5=.int .i64 i/\v6=.int .i64 j/\Aside (DlI p l cur i j)/\Aside (wr.ownsRow base 150 3 (.slice (some ⟨g,0,none⟩) l.length cap) l.length (Ap cur))/\Aside (OffX (· =g) w wr))
  case atStart=>exact ⟨i,i+1,l,Nat.lt_succ_self i,hi,by omega,rfl,by go_num,HD.out,Ag HO.out HB1.out,.of_below HB1.out⟩
  case round=>
   clear HD HI HB1 hi hi1 hi2;obtain ⟨i,j,cur,hij,hj,hg,rfl,rfl,HD,HR,HF⟩:=hrel;have hcl:=HD.out.len
   by_cases hlt:j<l.length
   ·have hlt2:(j:Int)<(l.length:Int):=by omega
    have hi2:(i:Int)<(l.length:Int):=by omega
    have hcj:cur[j]'(by omega)=l[j]:=by
     have:=HD.out.tl j (Bm2 _);rw [Bm5 (by omega),Bm5 hlt] at this;exact Bo9 this
    obtain ⟨x0,x1,x2⟩:=Fy cur j (by omega);rw [hcj] at x0 x1 x2;have y0:=(HR.out.cellAt (j*3) (by omega)).trans x0;have y1:=(HR.out.cellAt (j*3+1) (by omega)).trans x1;have y2:=(HR.out.cellAt (j*3+2) (by omega)).trans x2;clear x0 x1 x2 hcj;have HA:=Bm0 (fun o=>HP1.out (wr.alloc o) l[j] ((HF.out.mono (fun k e=>by rw [e];rfl)).trans (.of_below (Below.of_al wr o))) (Bn2 hlt));obtain ⟨x0,x1,x2⟩:=Fy cur i (by omega);have HP:=Bm0 (And.intro ((HR.out.cellAt (i*3) (by omega)).trans x0) (And.intro ((HR.out.cellAt (i*3+1) (by omega)).trans x1) ((HR.out.cellAt (i*3+2) (by omega)).trans x2)));have HIJ:=Bm0 hij;have hi0:(0:Int)<=(i:Int):=by omega
    clear x0 x1 x2
    cases hp:p l[j] with
    |true=>
     have HD2:=Bm0 (HD.out.drop hlt hp);rw [hp] at HA;clear hp;generalize l[j]=q at*
     go_wp2_with (go_at_call 146;refine (HA.out _).mono ?_;rintro e w5 ⟨rfl,hb5⟩;(have HB5:=Bm0 ((Below.of_al wr _).st hb5));clear hb5)
     go_roundg (l.length-(j+1))
     case measure=>omega
     case rel=>exact ⟨i,j+1,cur,by omega,by omega,Bm2 _,rfl,by go_num,HD2.out,Ag HR.out HB5.out,HF.out.trans (.of_below HB5.out)⟩
    |false=>
     have HD2:=Bm0 (HD.out.keep hlt hp);rw [hp] at HA;clear hp;generalize l[j]=q at*
     go_wp2_with (go_at_call 146;refine (HA.out _).mono ?_;rintro e w5 ⟨rfl,hb5⟩;(have HB5:=Bm0 ((Below.of_al wr _).st hb5));(have c5:w5.cell? ⟨wr.heap.size,0,none⟩=some (.int .i64 q.v):=Bm1 hb5 (by go_simp));(have c6:w5.cell? ⟨wr.heap.size,1,none⟩=some (.int .u64 q.d):=Bm1 hb5 (by go_simp));(have c7:w5.cell? ⟨wr.heap.size,2,none⟩=some (.int .i64 q.b):=Bm1 hb5 (by go_simp));(have p0:=Bm1 HB5.out HP.out.1);(have p1:=Bm1 HB5.out HP.out.2.1);(have p2:=Bm1 HB5.out HP.out.2.2);(have z0:=(Ag HR.out HB5.out).frozenAt (i*3));(have z1:=(Ag HR.out HB5.out).frozenAt (i*3+1));(have z2:=(Ag HR.out HB5.out).frozenAt (i*3+2));clear hb5)
     have hown:(((w5.setCell ⟨g,i*3,none⟩ (.int .i64 q.v)).setCell ⟨g,i*3+1,none⟩ (.int .u64 q.d)).setCell ⟨g,i*3+2,none⟩ (.int .i64 q.b)).ownsRow base 150 3 (.slice (some ⟨g,0,none⟩) l.length cap) l.length (Ap (cur.set i q)):=by
      have h1:=((Ag HR.out HB5.out).stored (i*3) (.int .i64 q.v)).1;have h2:=(h1.stored (i*3+1) (.int .u64 q.d)).1;have h3:=(h2.stored (i*3+2) (.int .i64 q.b)).1;rw [Vc] at h3;exact h3
     go_roundg (l.length-(j+1))
     case measure=>omega
     case rel=>exact ⟨i+1,j+1,cur.set i q,by omega,by omega,Bm2 _,by go_num,by go_num,HD2.out,hown,(((HF.out.trans (.of_below HB5.out)).trans (.set _ rfl)).trans (.set _ rfl)).trans (.set _ rfl)⟩
   ·obtain rfl:j=l.length:=by omega
    obtain ⟨vs,hvs,hclr⟩:=Ab6 (P:=Tryz.prog) wr 145 150 _ Tryz.underlying145 As9 rfl (fun u hu=>Ay2 0 0 0 u hu) g (i*3) (l.length-i) (cap-i) (by omega)
     (fun k hk=>by rw [HR.out.cellAt (i*3+k) (by omega),Bm5 (by rw [Hs];omega)];rfl) (fun k hk=>HR.out.frozenAt _)
    obtain ⟨ys,ho,hys,_,hof⟩:=Ha vs (i*3) wr _ HR.out (by rw [Hs];omega);have hcut:=Yf ho (Nat.le_of_lt hij);have hfl:(l.filter (fun a=>!p a)).length=i:=by rw [<-HD.out.done,List.length_take];omega
    have htk:ys.take (i*3)=Ap (l.filter (fun a=>!p a)):=by rw [hys,Sf,HD.out.done]
    rw [htk] at hcut;have HCUT:=Bm0 hcut;have HOF:=Bm0 (HF.out.trans hof);have HFL:=Bm0 hfl;have hcap:=Oe HR.out;have hi0:(0:Int)<=(i:Int):=by omega
    clear ho hys hof hcut hfl htk hvs
    go_wp2
    go_ret
    rw [HFL.out];exact ⟨rfl,HCUT.out,HOF.out.mono (fun k e=>by rw [e];rfl)⟩
 ·have hno:∀k (h:k<l.length),p l[k]=false:=by
   have:∀n k,k<n->∀(h:k<l.length),p l[k]=false:=by
    intro n
    induction n with
    |zero=>intro k hk;omega
    |succ n ih=>
     intro k hk h
     cases hp:p l[k] with
     |false=>rfl
     |true=>exact absurd ⟨k,h,hp,fun k' h'=>ih k' (by omega) (by omega)⟩ hex
   exact fun k h=>this (k+1) k (by omega) h
  rw [Fx p l hno] at HI;have hf:l.filter (fun a=>!p a)=l:=by
   rw [List.filter_eq_self];intro a ha;obtain ⟨k,hk,rfl⟩:=Bq4.1 ha;rw [hno k hk];rfl
  rw [hf];clear hf hno hex h hc hp1
  go_enter Tryz.func145,Tryz.ntmps145
  go_wp2_with (go_at_call 200;refine HI.out.mono ?_;rintro e w1 ⟨rfl,hb1⟩)
  go_ret
  exact ⟨rfl,Ag HO.out hb1,.of_below hb1⟩
end
section
open Go Go.Proofs Go.RowKit
variable {F:Fence} {n:Nat} {P:Program}
theorem Vm {α:Type} {g:Operand} {ps:Array Tmp} {assign body:Code} {Q:Exit->Act->World->Prop} {a:Act} {w:World}
  (hro:F.round=none) (h1:1<=n) {gf:Nat} {lb:Array Value} (hg:a.eval g=.func (.func gf) #[] lb) (hFg:F.fn gf) (eg:∀args w,(callFunc gf args).run P w=.ok (.enter gf args) w)
  {encs:α->Array Value} {parts:List α} {Kp:Nat->Prop} (hseq:SeqK F (n-1) P gf lb encs parts Kp w) (hB:∀k,Kp k->k<w.heap.size) (hps:∀x,(encs x).size=ps.size)
  (I:List α->World->Prop) (Ix:Code->List α->World->Prop)
  (hI:∀pre W W',I pre W->OffX (Av w.heap.size) W W'->I pre W') (hIx:∀c pre W W',Ix c pre W->OffX (Av w.heap.size) W W'->Ix c pre W') (h0:I [] w)
  (hround:∀(l:Nat) (pre:List α) (x:α) (W0:World) (K:Act->World->Prop),I pre W0->(pre++[x]) <+:parts->w.heap.size<=l->l<=w.heap.size+1->w.heap.size+2<=W0.heap.size->
   (∀a' W',Below W0.heap.size W0 W'->(∀Wb,OffX (Av w.heap.size) W' Wb->I pre Wb->(∃r,Wb.heap[l]? =some (.loop r))->body.wpIn (F.inRound l) (n-1-1) P (Av2 (Np Kp w.heap.size) I Ix (pre++[x]) Wb) a' Wb)->K a' W')->
   assign.wpIn (F.inRound l) (n-1-1) P (Exit.then K (fun _ _ _=>False)) { tmps:=(ps.zip (encs x)).foldl (fun t (p,v)=>t.setIfInBounds p v) a.tmps,defers:=[] } W0)
  (hdone:∀(D:Nat) (W:World),D=w.heap.size->I parts W->W.heap[D]? =some (.deferred (some []))->Q .normal { a with defers:={ target:=.collected D,args:=#[] }::a.defers } W)
  (hstop:∀(D:Nat) (c:Code) (pre:List α) (W:World),D=w.heap.size->pre <+:parts->Ix c pre W->W.heap[D]? =some (.deferred (some []))->c.wpIn F n P Q { a with defers:={ target:=.collected D,args:=#[] }::a.defers } W):
  (Code.rangeFunc g ps assign body).wpIn F n P Q a w:=by
 refine wpIn_rangeFunc fun fn hfn=>?_;rw [hro];obtain ⟨R,hR⟩:∃R:LoopState->Option Code->Loop,R=fun st pe=>{ state:=st,pending:=pe,fn,tmps:=a.tmps,params:=ps,assign,body,defers:=w.heap.size }:=⟨_,rfl⟩;obtain ⟨D,hD⟩:∃D,w.heap.size=D:=⟨_,rfl⟩;obtain ⟨V,hV⟩:∃V,V=(w.alloc (.deferred (some []))).alloc (.loop (R .ready none)):=⟨_,rfl⟩;have loopV:V.heap[D+1]? =some (.loop (R .ready none)):=by
  have:=World.alloc_heap_new (w.alloc (.deferred (some []))) (.loop (R .ready none));rw [World.size_alloc,hD] at this;rw [hV];exact this
 have markV:V.heap[D]? =some (.deferred (some [])):=by
  have:=World.alloc_heap_new w (.deferred (some []));rw [hD] at this;rw [hV,Below.heap_alloc _ _ _ (by rw [World.size_alloc];omega)];exact this
 have growV:Below w.heap.size w V:=by rw [hV];exact ((Below.refl _ w).alloc (Bm2 _) _).alloc (by simp) _
 have sizeV:V.heap.size=D+2:=by rw [hV];simp;omega
 have isR:∀st pe,(R st pe).params=ps/\(R st pe).tmps=a.tmps/\(R st pe).fn=fn/\(R st pe).assign=assign/\(R st pe).body=body/\(R st pe).state=st/\(R st pe).pending=pe:=fun st pe=>by rw [hR];exact ⟨rfl,rfl,rfl,rfl,rfl,rfl,rfl⟩
 refine ⟨D+1,[{ target:=.collected D,args:=#[] }],V,{ target:=.fn (.func gf) lb,args:=#[.func (.yield (D+1)) #[] #[]] },V,gf,#[.func (.yield (D+1)) #[] #[]]++lb,V,?_,?_,?_,?_,fun _=>h1,?_⟩
 ·have:=run_enterLoop_outer (P:=P) (w:=w) fn a.tmps ps assign body
  rw [this,hV,hR,hD]
 ·simp only [resolve,hg]
  simp [go_sem]
 ·intro f' hf'
  simp [Target.leads] at hf';subst hf';exact hFg
 ·simp [invoke,go_sem,eg]
 ·rw [hD] at hI hIx hround hdone hstop hB growV
  refine (hseq (D+1) (fun pre W=>I pre W/\W.heap[D+1]? =some (.loop (R .ready none))/\W.heap[D]? =some (.deferred (some [])))
   (fun pre W=>∃c,Ix c pre W/\W.heap[D+1]? =some (.loop (R .done (some c)))/\W.heap[D]? =some (.deferred (some [])))
   V ⟨growV.size,fun k hk=>growV.block k (by have:=hB k hk;omega)⟩ ?_ ?_ ?round ⟨hI _ _ _ h0 (.of_below (by rw [hD];exact growV)),loopV,markV⟩).mono ?_
  ·rintro pre W1 W2 ⟨hi,hl,hk⟩ ho
   refine ⟨hI _ _ _ hi (ho.mono fun k e=>e.elim),?_,?_⟩
   ·rw [ho.block (D+1) (Bm7.1 hl).1 (fun e=>e.elim)];exact hl
   ·rw [ho.block D (Bm7.1 hk).1 (fun e=>e.elim)];exact hk
  ·rintro pre W1 W2 ⟨c,hi,hl,hk⟩ ho
   refine ⟨c,hIx _ _ _ _ hi (ho.mono fun k e=>e.elim),?_,?_⟩
   ·rw [ho.block (D+1) (Bm7.1 hl).1 (fun e=>e.elim)];exact hl
   ·rw [ho.block D (Bm7.1 hk).1 (fun e=>e.elim)];exact hk
  case round=>
   rintro pre x W0 ⟨hi0,hl0,hk0⟩ hpx;have hlt0:D+1<W0.heap.size:=(Bm7.1 hl0).1;obtain ⟨e1,e2,e3,e4,e5,e6,e7⟩:=isR .ready none;have hy:=run_yield (P:=P) (args:=encs x) hl0 (by rw [e1];exact hps x);rw [e1,e2,e3,e4,e5] at hy;refine ⟨fn,_,assign,body,hy,roundIn_of_wpIn hfn (hround _ pre x W0 _ hi0 hpx (by omega) (by omega) (by omega) ?_)⟩;intro a₁ W hgr hbody;have hl:W.heap[D+1]? =some (.loop (R .ready none)):=(hgr.block _ hlt0).trans hl0;have hk:W.heap[D]? =some (.deferred (some [])):=(hgr.block _ (by omega)).trans hk0;have hi:I pre W:=hI _ _ _ hi0 (.of_below hgr);have hk00:KeepX Kp W0 W:=⟨hgr.size,fun k hk=>hgr.block k (by have:=hB k hk;omega)⟩;refine ⟨_,run_beginRound hl e6,?_⟩;have hlt:D+1<W.heap.size:=(Bm7.1 hl).1;obtain ⟨Wb,hWb⟩:∃Wb,Wb=W.putObj (D+1) (.loop { R .ready none with state:=.busy }):=⟨_,rfl⟩;rw [<-hWb];have hlb:Wb.heap[D+1]? =some (.loop { R .ready none with state:=.busy }):=by rw [hWb];exact World.putObj_heap_same hlt
   have hkb:Wb.heap[D]? =some (.deferred (some [])):=by rw [hWb];exact (World.putObj_heap_other (by omega)).trans hk
   have hob:OffX (Av D) W Wb:=by rw [hWb];exact .put _ rfl
   have hsb:W.heap.size<=Wb.heap.size:=hob.size;have hkx:KeepX Kp W Wb:=⟨hsb,fun k hk=>by
    rw [hWb];exact World.putObj_heap_other (by have:=hB k hk;omega)⟩
   refine wpIn_mono (hbody Wb hob (hI _ _ _ hi hob) ⟨_,hlb⟩) ?_;have fin:∀(jump:Option Code) (W3:World),KeepX (Np Kp D) Wb W3->∃W4,(Instr.endRound (D+1) jump).run P W3=.ok (.bool jump.isNone) W4/\OffX (Av D) W3 W4/\KeepX Kp W0 W4/\
     W4.heap[D+1]? =some (.loop (R (if jump.isNone then .ready else .done) jump))/\W4.heap[D]? =some (.deferred (some [])):=by
    intro jump W3 hk3;have hl3:W3.heap[D+1]? =some (.loop { R .ready none with state:=.busy }):=(hk3.2 _ (.inr (.inr rfl))).trans hlb;have hd3:W3.heap[D]? =some (.deferred (some [])):=(hk3.2 _ (.inr (.inl rfl))).trans hkb;have he:=run_endRound (P:=P) jump hl3;refine ⟨_,he,.put _ rfl,hk00.trans (hkx.trans ((hk3.mono fun k h=>.inl h).trans ⟨(OffX.put (X:=Av D) _ rfl).size,fun k hk=>World.putObj_heap_other (by have:=hB k hk;omega)⟩)),?_,(World.putObj_heap_other (by omega)).trans hd3⟩;rw [World.putObj_heap_same (Bm7.1 hl3).1,hR]
   rintro e a3 W3 hp
   cases e with
   |normal=>
    obtain ⟨hk3,hi3⟩:=hp;obtain ⟨W4,r1,r2,r3,r4,r5⟩:=fin none W3 hk3;exact ⟨_,_,r1,.inl ⟨rfl,⟨hI _ _ _ hi3 r2,r4,r5⟩,r3⟩⟩
   |ret=>
    obtain ⟨hk3,hi3⟩:=hp;obtain ⟨W4,r1,r2,r3,r4,r5⟩:=fin (some .ret) W3 hk3;exact ⟨_,_,r1,.inr ⟨rfl,.ret,hIx _ _ _ _ hi3 r2,r4,r5⟩⟩
   |exit id=>
    obtain ⟨hk3,hi3⟩:=hp;obtain ⟨W4,r1,r2,r3,r4,r5⟩:=fin (some (.exit id)) W3 hk3;exact ⟨_,_,r1,.inr ⟨rfl,.exit id,hIx _ _ _ _ hi3 r2,r4,r5⟩⟩
   |goto t=>
    obtain ⟨hk3,hi3⟩:=hp;obtain ⟨W4,r1,r2,r3,r4,r5⟩:=fin (some (.goto t)) W3 hk3;exact ⟨_,_,r1,.inr ⟨rfl,.goto t,hIx _ _ _ _ hi3 r2,r4,r5⟩⟩
   |panic ch=>exact hp.elim
   |outgrown=>exact hp.elim
  ·rintro e W2 ⟨⟨v,rfl⟩,⟨hi,hl,hk⟩|⟨pre,hpp,c,hi,hl,hk⟩⟩
   ·obtain ⟨e1,e2,e3,e4,e5,e6,e7⟩:=isR .ready none
    have he:=run_endLoop (P:=P) hl (by rw [e6];simp);rw [e7] at he;exact ⟨none,_,he,hdone D _ rfl (hI _ _ _ hi (.put _ rfl)) ((World.putObj_heap_other (by omega)).trans hk)⟩
   ·obtain ⟨e1,e2,e3,e4,e5,e6,e7⟩:=isR .done (some c)
    have he:=run_endLoop (P:=P) hl (by rw [e6];simp);rw [e7] at he;exact ⟨some c,_,he,hstop D c pre _ rfl hpp (hIx _ _ _ _ hi (.put _ rfl)) ((World.putObj_heap_other (by omega)).trans hk)⟩
def Bh3 (Kp:Nat->Prop) (D k:Nat):Prop:=Kp k\/k=D
def Ka (D k:Nat):Prop:=k=D
theorem Vn {α:Type} {g:Operand} {ps:Array Tmp} {assign body:Code} {Q:Exit->Act->World->Prop} {a:Act} {w:World}
  {l₀:Nat} {r₀:Loop} (hro:F.round=some l₀) (hl₀:w.heap[l₀]? =some (.loop r₀)) (h1:1<=n) {gf:Nat} {lb:Array Value} (hg:a.eval g=.func (.func gf) #[] lb) (hFg:F.fn gf) (eg:∀args w,(callFunc gf args).run P w=.ok (.enter gf args) w)
  {encs:α->Array Value} {parts:List α} {Kp:Nat->Prop} (hseq:SeqK F (n-1) P gf lb encs parts Kp w) (hB:∀k,Kp k->k<w.heap.size) (hps:∀x,(encs x).size=ps.size)
  (I:List α->World->Prop) (Ix:Code->List α->World->Prop)
  (hI:∀pre W W',I pre W->OffX (Ka w.heap.size) W W'->I pre W') (hIx:∀c pre W W',Ix c pre W->OffX (Ka w.heap.size) W W'->Ix c pre W') (h0:I [] w)
  (hround:∀(l:Nat) (pre:List α) (x:α) (W0:World) (K:Act->World->Prop),I pre W0->(pre++[x]) <+:parts->l=w.heap.size->w.heap.size+1<=W0.heap.size->
   (∀a' W',Below W0.heap.size W0 W'->(∀Wb,OffX (Ka w.heap.size) W' Wb->I pre Wb->body.wpIn (F.inRound l) (n-1-1) P (Av2 (Bh3 Kp w.heap.size) I Ix (pre++[x]) Wb) a' Wb)->K a' W')->
   assign.wpIn (F.inRound l) (n-1-1) P (Exit.then K (fun _ _ _=>False)) { tmps:=(ps.zip (encs x)).foldl (fun t (p,v)=>t.setIfInBounds p v) a.tmps,defers:=[] } W0)
  (hdone:∀(W:World),I parts W->Q .normal a W)
  (hstop:∀(c:Code) (pre:List α) (W:World),pre <+:parts->Ix c pre W->c.wpIn F n P Q a W):
  (Code.rangeFunc g ps assign body).wpIn F n P Q a w:=by
 refine wpIn_rangeFunc fun fn hfn=>?_;rw [hro];obtain ⟨R,hR⟩:∃R:LoopState->Option Code->Loop,R=fun st pe=>{ state:=st,pending:=pe,fn,tmps:=a.tmps,params:=ps,assign,body,defers:=r₀.defers }:=⟨_,rfl⟩;obtain ⟨D,hD⟩:∃D,w.heap.size=D:=⟨_,rfl⟩;obtain ⟨V,hV⟩:∃V,V=w.alloc (.loop (R .ready none)):=⟨_,rfl⟩;have loopV:V.heap[D]? =some (.loop (R .ready none)):=by
  rw [hV,<-hD];exact World.alloc_heap_new w _
 have growV:Below w.heap.size w V:=by rw [hV];exact (Below.refl _ w).alloc (Bm2 _) _
 have sizeV:V.heap.size=D+1:=by rw [hV];simp;omega
 have isR:∀st pe,(R st pe).params=ps/\(R st pe).tmps=a.tmps/\(R st pe).fn=fn/\(R st pe).assign=assign/\(R st pe).body=body/\(R st pe).state=st/\(R st pe).pending=pe:=fun st pe=>by rw [hR];exact ⟨rfl,rfl,rfl,rfl,rfl,rfl,rfl⟩
 refine ⟨D,[],V,{ target:=.fn (.func gf) lb,args:=#[.func (.yield D) #[] #[]] },V,gf,#[.func (.yield D) #[] #[]]++lb,V,?_,?_,?_,?_,fun _=>h1,?_⟩
 ·have:=run_enterLoop_inner (P:=P) hl₀ fn a.tmps ps assign body
  rw [this,hV,hR,hD]
 ·simp only [resolve,hg]
  simp [go_sem]
 ·intro f' hf'
  simp [Target.leads] at hf';subst hf';exact hFg
 ·simp [invoke,go_sem,eg]
 ·rw [hD] at hI hIx hround hB growV
  refine (hseq D (fun pre W=>I pre W/\W.heap[D]? =some (.loop (R .ready none)))
   (fun pre W=>∃c,Ix c pre W/\W.heap[D]? =some (.loop (R .done (some c))))
   V ⟨growV.size,fun k hk=>growV.block k (by have:=hB k hk;omega)⟩ ?_ ?_ ?round ⟨hI _ _ _ h0 (.of_below (by rw [hD];exact growV)),loopV⟩).mono ?_
  ·rintro pre W1 W2 ⟨hi,hl⟩ ho
   refine ⟨hI _ _ _ hi (ho.mono fun k e=>e.elim),?_⟩;rw [ho.block D (Bm7.1 hl).1 (fun e=>e.elim)];exact hl
  ·rintro pre W1 W2 ⟨c,hi,hl⟩ ho
   refine ⟨c,hIx _ _ _ _ hi (ho.mono fun k e=>e.elim),?_⟩;rw [ho.block D (Bm7.1 hl).1 (fun e=>e.elim)];exact hl
  case round=>
   rintro pre x W0 ⟨hi0,hl0⟩ hpx;have hlt0:D<W0.heap.size:=(Bm7.1 hl0).1;obtain ⟨e1,e2,e3,e4,e5,e6,e7⟩:=isR .ready none;have hy:=run_yield (P:=P) (args:=encs x) hl0 (by rw [e1];exact hps x);rw [e1,e2,e3,e4,e5] at hy;refine ⟨fn,_,assign,body,hy,roundIn_of_wpIn hfn (hround _ pre x W0 _ hi0 hpx (by omega) (by omega) ?_)⟩;intro a₁ W hgr hbody;have hl:W.heap[D]? =some (.loop (R .ready none)):=(hgr.block _ hlt0).trans hl0;have hi:I pre W:=hI _ _ _ hi0 (.of_below hgr);have hk00:KeepX Kp W0 W:=⟨hgr.size,fun k hk=>hgr.block k (by have:=hB k hk;omega)⟩;refine ⟨_,run_beginRound hl e6,?_⟩;have hlt:D<W.heap.size:=(Bm7.1 hl).1;obtain ⟨Wb,hWb⟩:∃Wb,Wb=W.putObj D (.loop { R .ready none with state:=.busy }):=⟨_,rfl⟩;rw [<-hWb];have hlb:Wb.heap[D]? =some (.loop { R .ready none with state:=.busy }):=by rw [hWb];exact World.putObj_heap_same hlt
   have hob:OffX (Ka D) W Wb:=by rw [hWb];exact .put _ rfl
   have hsb:W.heap.size<=Wb.heap.size:=hob.size;have hkx:KeepX Kp W Wb:=⟨hsb,fun k hk=>by
    rw [hWb];exact World.putObj_heap_other (by have:=hB k hk;omega)⟩
   refine wpIn_mono (hbody Wb hob (hI _ _ _ hi hob)) ?_;have fin:∀(jump:Option Code) (W3:World),KeepX (Bh3 Kp D) Wb W3->∃W4,(Instr.endRound D jump).run P W3=.ok (.bool jump.isNone) W4/\OffX (Ka D) W3 W4/\KeepX Kp W0 W4/\
     W4.heap[D]? =some (.loop (R (if jump.isNone then .ready else .done) jump)):=by
    intro jump W3 hk3;have hl3:W3.heap[D]? =some (.loop { R .ready none with state:=.busy }):=(hk3.2 _ (.inr rfl)).trans hlb;have he:=run_endRound (P:=P) jump hl3;refine ⟨_,he,.put _ rfl,hk00.trans (hkx.trans ((hk3.mono fun k h=>.inl h).trans ⟨(OffX.put (X:=Ka D) _ rfl).size,fun k hk=>World.putObj_heap_other (by have:=hB k hk;omega)⟩)),?_⟩;rw [World.putObj_heap_same (Bm7.1 hl3).1,hR]
   rintro e a3 W3 hp
   cases e with
   |normal=>
    obtain ⟨hk3,hi3⟩:=hp;obtain ⟨W4,r1,r2,r3,r4⟩:=fin none W3 hk3;exact ⟨_,_,r1,.inl ⟨rfl,⟨hI _ _ _ hi3 r2,r4⟩,r3⟩⟩
   |ret=>
    obtain ⟨hk3,hi3⟩:=hp;obtain ⟨W4,r1,r2,r3,r4⟩:=fin (some .ret) W3 hk3;exact ⟨_,_,r1,.inr ⟨rfl,.ret,hIx _ _ _ _ hi3 r2,r4⟩⟩
   |exit id=>
    obtain ⟨hk3,hi3⟩:=hp;obtain ⟨W4,r1,r2,r3,r4⟩:=fin (some (.exit id)) W3 hk3;exact ⟨_,_,r1,.inr ⟨rfl,.exit id,hIx _ _ _ _ hi3 r2,r4⟩⟩
   |goto t=>
    obtain ⟨hk3,hi3⟩:=hp;obtain ⟨W4,r1,r2,r3,r4⟩:=fin (some (.goto t)) W3 hk3;exact ⟨_,_,r1,.inr ⟨rfl,.goto t,hIx _ _ _ _ hi3 r2,r4⟩⟩
   |panic ch=>exact hp.elim
   |outgrown=>exact hp.elim
  ·rintro e W2 ⟨⟨v,rfl⟩,⟨hi,hl⟩|⟨pre,hpp,c,hi,hl⟩⟩
   ·obtain ⟨e1,e2,e3,e4,e5,e6,e7⟩:=isR .ready none
    have he:=run_endLoop (P:=P) hl (by rw [e6];simp);rw [e7] at he;exact ⟨none,_,he,hdone _ (hI _ _ _ hi (.put _ rfl))⟩
   ·obtain ⟨e1,e2,e3,e4,e5,e6,e7⟩:=isR .done (some c)
    have he:=run_endLoop (P:=P) hl (by rw [e6];simp);rw [e7] at he;exact ⟨some c,_,he,hstop c pre _ hpp (hIx _ _ _ _ hi (.put _ rfl))⟩
end
section
open Go Go.Proofs Go.RowKit Go.Shelf Hp Ch
def KpB (B:Nat) (ao:Option Addr) (k:Nat):Prop:=k=B\/∃b o,ao=some ⟨b,o,none⟩/\k=b
def Zq (l:List Int):List (Nat×Int):=(List.range l.length).reverse.map fun i=>(i,l.getD i 0)
theorem Sr (l:List Int):(Zq l).length=l.length:=by simp [Zq]
theorem Ba7 {l:List Int} {j:Nat} (hj:j<l.length):(Zq l)[j]? =some (l.length-1-j,l.getD (l.length-1-j) 0):=by
 unfold Zq;rw [Bn9,List.getElem?_reverse (by simpa using hj),List.length_range,List.getElem?_range (by omega)];rfl
theorem Ak9 {l:List Int} {pre:List (Nat×Int)} {x:Nat×Int} (h:(pre++[x]) <+:Zq l):x.1+pre.length+1=l.length/\x.2=l.getD x.1 0:=by
 have hl:=h.length_le;rw [Sr,Bp0,List.length_singleton] at hl;obtain ⟨t,e⟩:=h;have h1:(Zq l)[pre.length]? =some x:=by rw [<-e,Bp9 (by simp),Bp8 (Bm2 _)];simp
 rw [Ba7 (by omega)] at h1
 cases h1
 exact ⟨by simp only;omega,rfl⟩
theorem Xg (ao:Option Addr) (n cap:Nat) (w:World):Calls Tryz.prog 198 #[.slice ao n cap] w fun e w'=>e=.returned (.func (.func 249) #[] #[.pointer (some ⟨w.heap.size,0,none⟩)])/\Below w.heap.size w w'/\w'.heap.size=w.heap.size+1/\w'.cell? ⟨w.heap.size,0,none⟩=some (.slice ao n cap):=by
 go_enter Tryz.func198,Tryz.ntmps198
 go_wp2
 go_ret
 exact ⟨rfl,Below.of_al _ _,by simp,by go_simp⟩
theorem Su (n:Nat) (hn:1<=n) (ao:Option Addr) (cap B:Nat) (r:List Int) (w:World) (hr:r.length<=1000000) (h0:w.cell? ⟨B,0,none⟩=some (.slice ao r.length cap)) (hc:Cel w ao (r.map Ai)):
  SeqK Fence.wide n Tryz.prog 249 #[.pointer (some ⟨B,0,none⟩)] (fun x:Nat×Int=>#[.int .i64 x.1,.int .i64 x.2]) (Zq r) (KpB B ao) w:=by
 intro l J Jx W hk hJ hJx hY hJ0;refine callsIn_of_wp Tryz.func249 rfl trivial ?_ rfl;simp only [Tryz.ntmps249,List.size_toArray,Bn5,Bn6,Nat.reduceAdd,Nat.reduceSub,Array.replicate_succ,Array.replicate_zero,List.push_toArray,List.append_toArray,List.nil_append,List.cons_append];have e0:W.cell? ⟨B,0,none⟩=some (.slice ao r.length cap):=by rw [Bo7 (w:=w) (hk.2 B (.inl rfl))];exact h0
 have hcW:∀W',KeepX (KpB B ao) W W'->Cel W' ao (r.map Ai):=fun W' h i u hu=>by
  obtain ⟨b,o,e,h1⟩:=hc i u hu;exact ⟨b,o,e,(Bo7 (w:=w) ((h.2 b (.inr ⟨b,o,e,rfl⟩)).trans (hk.2 b (.inr ⟨b,o,e,rfl⟩)))).trans h1⟩
 have HC:=Bm0 hcW;have HY:=Bm0 hY;have HBL:=Bm0 (Sr r);have HAT:=Bm0 (fun pre x=>Ak9 (l:=r) (pre:=pre) (x:=x));generalize Zq r=parts at*;clear hY hk h0 hc hcW hJ hJx
 gi_wp2
 gi_loopg [3] r.length (fun gg vi wr=>∃(pre:List (Nat×Int)) (m:Nat),pre <+:parts/\pre.length+m=r.length/\m<=gg/\vi=.int .i64 ((m:Int)-1)/\Aside (KeepX (KpB B ao) W wr)/\Aside (J pre wr))
 case atStart=>exact ⟨[],r.length,List.nil_prefix,by simp,Bm2 _,rfl,⟨Bm2 _,fun _ _=>rfl⟩,hJ0⟩
 case round=>
  clear hJ0;obtain ⟨pre,m,hpp,hm,hgg,rfl,HK,HJ⟩:=hrel;have f0:=(Bo7 (a:=⟨B,0,none⟩) (HK.out.2 B (.inl rfl))).trans e0;clear e0
  cases m with
  |zero=>
   have hpe:pre=parts:=hpp.eq_of_length (by rw [HBL.out];omega)
   gi_wp2
   go_end0
   exact ⟨⟨_,rfl⟩,.inl (by rw [<-hpe];exact HJ.out)⟩
  |succ i=>
   have hx:∃x,(pre++[x]) <+:parts:=by
    have hbl:=HBL.out;obtain ⟨t,rfl⟩:=hpp
    cases t with
    |nil=>simp at hbl;omega
    |cons a t=>exact ⟨a,t,by simp⟩
   obtain ⟨⟨xi,xv⟩,hpx⟩:=hx;obtain ⟨h1,h2⟩:=HAT.out pre (xi,xv) hpx;simp only at h1 h2;obtain rfl:i=xi:=by omega
   have hir:i<r.length:=by omega
   obtain ⟨g,go,rfl,c1⟩:=(HC.out wr HK.out).at hir;have hxr:r[i]=xv:=by rw [h2];simp [List.getD,hir]
   rw [hxr] at c1;obtain ⟨fn,tmps,assign,body,hy,hR⟩:=HY.out pre (i,xv) wr HJ.out hpx
   dsimp only at hy
   have HR:=Bm0 hR;clear hR h1 h2 hxr;have hii:((i+1:Nat):Int)-1=(i:Int):=by omega
   rw [hii];have hi0:(0:Int)<=(i:Int):=by omega
   have hil:(i:Int)<(r.length:Int):=by omega
   gi_wp2
   refine HR.out.mono ?_;rintro e W' (⟨rfl,hJ',hk⟩|⟨rfl,hJx'⟩)
   ·have HJ2:=Bm0 hJ'
    have HK2:=Bm0 (HK.out.trans hk);clear hJ' hk f0 c1
    gi_wp2
    gi_roundg i
    case rel=>exact ⟨pre++[(i,xv)],i,hpx,by simp;omega,Bm2 _,by go_num,HK2.out,HJ2.out⟩
    case measure=>omega
   ·have HJ2:=Bm0 hJx'
    clear hJx'
    gi_wp2
    refine bodyPost_ret (results_none rfl _ _ _) rfl ?_;exact ⟨⟨_,rfl⟩,.inr ⟨pre++[(i,xv)],hpx,HJ2.out⟩⟩
end
end Go.Proofs.YteaaapdjplbljaaGreat
