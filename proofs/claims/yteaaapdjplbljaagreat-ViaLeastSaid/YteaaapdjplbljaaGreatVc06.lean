/- Parts; no condition. -/
import Derived.Test.YteaaapdjplbljaaGreatVc05
import Derived.Test.YteaaapdjplbljaaGreatVc04
set_option linter.unusedVariables false
set_option linter.unusedSimpArgs false
set_option linter.unnecessarySimpa false
set_option maxRecDepth 100000
set_option maxHeartbeats 8000000
namespace Go.Proofs.YteaaapdjplbljaaGreat
section
namespace Ch
structure SC where
 f:Int
 t:Int
 w:Int
 e:Int
 a:Int
 b:Int
 deriving DecidableEq
structure CoreD where
 O:List (List (Int×Int))
 p:Int->Int->Option Nat
 S:List SC
def Cl (O:List (List (Int×Int))) (u:Int):List (Int×Int):=O.getD u.toNat []
def Ls (S:List SC):Int->Int->Int->Prop:=fun u v w=>∃x∈S,x.f=u/\x.t=v/\x.w=w
abbrev Aa (n:Nat) (v:Int):Prop:=0<=v/\v<(n:Int)
structure InvN (n:Nat) (c:CoreD):Prop where
 len:c.O.length=n
 arc:∀u v w,Aa n u->((v,w)∈Cl c.O u↔∃i x,c.p u v=some i/\c.S[i]? =some x/\x.w=w)
 at1:∀u v i,c.p u v=some i->∃x,c.S[i]? =some x/\x.f=u/\x.t=v
 low:∀x∈c.S,∃i y,c.p x.f x.t=some i/\c.S[i]? =some y/\y.w<=x.w
 ends:∀x∈c.S,Aa n x.f/\Aa n x.t/\x.f≠x.t/\1<=x.w
 ltr:∀(i j:Nat) (x y:SC),i<j->c.S[i]? =some x->c.S[j]? =some y->x.f=y.f->x.t=y.t->y.w<x.w
def Ed (c:CoreD) (x:SC):CoreD:=
 match c.p x.f x.t with
 |some i=>if (c.S.getD i x).w<=x.w then c else ⟨c.O.set x.f.toNat ((Cl c.O x.f).filter (fun a=>decide (a.1≠x.t))++[(x.t,x.w)]),fun u v=>if u=x.f/\v=x.t then some c.S.length else c.p u v,c.S++[x]⟩
 |none=>⟨c.O.set x.f.toNat ((Cl c.O x.f).filter (fun a=>decide (a.1≠x.t))++[(x.t,x.w)]),fun u v=>if u=x.f/\v=x.t then some c.S.length else c.p u v,c.S++[x]⟩
def So (c:CoreD) (x:SC):CoreD:=⟨c.O.set x.f.toNat ((Cl c.O x.f).filter (fun a=>decide (a.1≠x.t))++[(x.t,x.w)]),fun u v=>if u=x.f/\v=x.t then some c.S.length else c.p u v,c.S++[x]⟩
theorem Gc {n:Nat} {c:CoreD} (h:InvN n c) (x:SC):(Ed c x=c/\∃i y,c.p x.f x.t=some i/\c.S[i]? =some y/\y.w<=x.w)\/
  (Ed c x=So c x/\∀i y,c.p x.f x.t=some i->c.S[i]? =some y->x.w<y.w):=by
 unfold Ed
 cases hp:c.p x.f x.t with
 |none=>exact .inr ⟨rfl,fun i y h=>by cases h⟩
 |some i=>
  obtain ⟨y,hy,_,_⟩:=h.at1 _ _ _ hp;have hg:c.S.getD i x=y:=by rw [Bj1,hy];rfl
  simp only;rw [hg]
  split
  ·rename_i hle
   exact .inl ⟨rfl,i,y,rfl,hy,hle⟩
  ·rename_i hle
   refine .inr ⟨rfl,?_⟩;intro j z e hz
   cases e
   rw [hy] at hz
   cases hz
   omega
theorem Ar5 {O:List (List (Int×Int))} {n:Nat} (hO:O.length=n) {u v:Int} (hu:Aa n u) (hv:Aa n v) (l:List (Int×Int)):Cl (O.set u.toNat l) v=if v=u then l else Cl O v:=by
 unfold Cl;rw [Bj1,List.getElem?_set,Bj1]
 by_cases e:u.toNat=v.toNat
 ·rw [if_pos e,if_pos (by omega),if_pos (by omega)]
  rfl
 ·rw [if_neg e,if_neg (by rintro rfl;exact e rfl)]
theorem InvN.put {n:Nat} {c:CoreD} (h:InvN n c) {x:SC} (hx:Aa n x.f/\Aa n x.t/\x.f≠x.t/\1<=x.w) (hlt:∀i y,c.p x.f x.t=some i->c.S[i]? =some y->x.w<y.w):InvN n (So c x):=by
 have hnew:(c.S++[x])[c.S.length]? =some x:=by simp
 have hold:∀{i:Nat} {y:SC},c.S[i]? =some y->(c.S++[x])[i]? =some y:=fun {i y} k=>by
  rw [Bm4 (Bj8.1 k).1];exact k
 refine ⟨by show (c.O.set _ _).length=n;rw [Bj6];exact h.len,?_,?_,?_,?_,?_⟩
 ·intro u v w hu
  show (v,w)∈Cl (c.O.set x.f.toNat _) u↔_
  rw [Ar5 h.len hx.1 hu];have hp:(So c x).p u v=if u=x.f/\v=x.t then some c.S.length else c.p u v:=rfl
  have hS:(So c x).S=c.S++[x]:=rfl;rw [hp,hS]
  by_cases e:u=x.f
  ·subst e
   rw [if_pos rfl,Bl8,List.mem_filter,Bk2]
   by_cases e2:v=x.t
   ·subst e2
    rw [if_pos ⟨rfl,rfl⟩];constructor
    ·rintro (⟨_,k⟩|k)
     ·simp at k
     ·cases k
      exact ⟨_,x,rfl,hnew,rfl⟩
    ·rintro ⟨i,y,k1,k2,rfl⟩
     cases k1
     rw [hnew] at k2
     cases k2
     exact .inr rfl
   ·rw [if_neg (fun k=>e2 k.2)]
    constructor
    ·rintro (⟨k,_⟩|k)
     ·obtain ⟨i,y,k1,k2,k3⟩:=(h.arc _ _ _ hu).1 k
      exact ⟨i,y,k1,hold k2,k3⟩
     ·exact absurd (Prod.mk.inj k).1 e2
    ·rintro ⟨i,y,k1,k2,k3⟩
     refine .inl ⟨(h.arc _ _ _ hu).2 ?_,by simpa using e2⟩;obtain ⟨z,z1,_⟩:=h.at1 _ _ _ k1;have:=hold z1;rw [k2] at this
     cases this
     exact ⟨i,y,k1,z1,k3⟩
  ·rw [if_neg e,if_neg (fun k=>e k.1)]
   constructor
   ·intro k
    obtain ⟨i,y,k1,k2,k3⟩:=(h.arc _ _ _ hu).1 k;exact ⟨i,y,k1,hold k2,k3⟩
   ·rintro ⟨i,y,k1,k2,k3⟩
    refine (h.arc _ _ _ hu).2 ?_;obtain ⟨z,z1,_⟩:=h.at1 _ _ _ k1;have:=hold z1;rw [k2] at this
    cases this
    exact ⟨i,y,k1,z1,k3⟩
 ·intro u v i k
  have hp:(So c x).p u v=if u=x.f/\v=x.t then some c.S.length else c.p u v:=rfl
  rw [hp] at k
  split at k
  ·rename_i e
   cases k
   exact ⟨x,hnew,e.1.symm,e.2.symm⟩
  ·obtain ⟨y,y1,y2⟩:=h.at1 _ _ _ k
   exact ⟨y,hold y1,y2⟩
 ·intro y hy
  have hp:(So c x).p y.f y.t=if y.f=x.f/\y.t=x.t then some c.S.length else c.p y.f y.t:=rfl
  rw [hp]
  rcases Bl8.1 (show y∈c.S++[x] from hy) with hy|hy
  ·obtain ⟨i,z,z1,z2,z3⟩:=h.low y hy
   by_cases e:y.f=x.f/\y.t=x.t
   ·rw [if_pos e]
    refine ⟨_,x,rfl,hnew,?_⟩;rw [e.1,e.2] at z1;have:=hlt _ _ z1 z2;omega
   ·rw [if_neg e]
    exact ⟨i,z,z1,hold z2,z3⟩
  ·rw [Bk2] at hy
   subst hy;rw [if_pos ⟨rfl,rfl⟩];exact ⟨_,y,rfl,hnew,Int.le_refl _⟩
 ·intro y hy
  rcases Bl8.1 (show y∈c.S++[x] from hy) with hy|hy
  ·exact h.ends y hy
  ·rw [Bk2] at hy
   subst hy;exact hx
 ·intro i j y z hij hi hj e1 e2
  have hi':(c.S++[x])[i]? =some y:=hi;have hj':(c.S++[x])[j]? =some z:=hj;have hjl:=(Bj8.1 hj').1;simp at hjl;rw [Bm4 (by omega)] at hi'
  by_cases hl:j<c.S.length
  ·rw [Bm4 hl] at hj'
   exact h.ltr i j y z hij hi' hj' e1 e2
  ·have:j=c.S.length:=by omega
   subst this;rw [hnew] at hj'
   cases hj'
   obtain ⟨k,u,k1,k2,k3⟩:=h.low y (Bl3 hi');rw [e1,e2] at k1;have:=hlt _ _ k1 k2;omega
theorem InvN.add {n:Nat} {c:CoreD} (h:InvN n c) {x:SC} (hx:Aa n x.f/\Aa n x.t/\x.f≠x.t/\1<=x.w):InvN n (Ed c x):=by
 rcases Gc h x with ⟨e,_⟩|⟨e,hlt⟩
 ·rw [e];exact h
 ·rw [e];exact h.put hx hlt
theorem Og {n:Nat} {c:CoreD} (h:InvN n c) (x:SC):(Ed c x).S=c.S\/(Ed c x).S=c.S++[x]:=by
 rcases Gc h x with ⟨e,_⟩|⟨e,_⟩
 ·rw [e];exact .inl rfl
 ·rw [e];exact .inr rfl
theorem Yv {n:Nat} {c:CoreD} (h:InvN n c) (x:SC):∃y∈(Ed c x).S,y.f=x.f/\y.t=x.t/\y.w<=x.w:=by
 rcases Gc h x with ⟨e,i,y,h1,h2,h3⟩|⟨e,_⟩
 ·rw [e]
  obtain ⟨z,z1,z2,z3⟩:=h.at1 _ _ _ h1;rw [h2] at z1
  cases z1
  exact ⟨y,Bl3 h2,z2,z3,h3⟩
 ·rw [e]
  exact ⟨x,by show x∈c.S++[x];simp,rfl,rfl,Int.le_refl _⟩
theorem Bg5 {n:Nat} {c:CoreD} (h:InvN n c) {x:SC} {u v:Int} (hne:¬(u=x.f/\v=x.t)):(Ed c x).p u v=c.p u v:=by
 rcases Gc h x with ⟨e,_⟩|⟨e,_⟩
 ·rw [e]
 ·rw [e];exact if_neg hne
theorem Sb {n:Nat} {c:CoreD} (h:InvN n c) (x:SC) {i:Nat} {y:SC} (k:c.S[i]? =some y):(Ed c x).S[i]? =some y:=by
 rcases Og h x with e|e
 ·rw [e];exact k
 ·rw [e,Bm4 (Bj8.1 k).1];exact k
def Qv (E:Int->Int->Int->Int->Prop) (r:Int->Int) (S:List SC) (j:Nat) (x:SC):Prop:=
 (E x.e x.f x.t x.w/\0<=x.e/\x.a= -1/\x.b= -1)\/
 (x.e= -1/\∃a b y z,x.a=(a:Nat)/\x.b=(b:Nat)/\a<j/\b<j/\S[a]? =some y/\S[b]? =some z/\y.f=x.f/\y.t=z.f/\z.t=x.t/\y.w+z.w=x.w/\r y.t<r x.f/\r y.t<r x.t)
def Made (E:Int->Int->Int->Int->Prop) (r:Int->Int) (S:List SC):Prop:=∀(j:Nat) (x:SC),S[j]? =some x->Qv E r S j x
theorem Made.snoc {E:Int->Int->Int->Int->Prop} {r:Int->Int} {S:List SC} (h:Made E r S) {x:SC} (hx:Qv E r S S.length x):Made E r (S++[x]):=by
 have hold:∀{i:Nat} {y:SC},S[i]? =some y->(S++[x])[i]? =some y:=fun {i y} k=>by
  rw [Bm4 (Bj8.1 k).1];exact k
 have lift:∀{j:Nat} {y:SC},Qv E r S j y->Qv E r (S++[x]) j y:=by
  rintro j y (k|⟨k,a,b,u,v,k1,k2,k3,k4,k5,k6,k7⟩)
  ·exact .inl k
  ·exact .inr ⟨k,a,b,u,v,k1,k2,k3,k4,hold k5,hold k6,k7⟩
 intro j y hj
 by_cases hl:j<S.length
 ·rw [Bm4 hl] at hj
  exact lift (h j y hj)
 ·have:j=S.length:=by
   have:=(Bj8.1 hj).1;simp at this;omega
  subst this;simp at hj;subst hj;exact lift hx
theorem Made.mono {E:Int->Int->Int->Int->Prop} {r r':Int->Int} {S:List SC} (h:Made E r S) (hr:∀u v,r u<r v->r' u<r' v):Made E r' S:=by
 intro j x hj
 rcases h j x hj with k|⟨k,a,b,u,v,k1,k2,k3,k4,k5,k6,k7,k8,k9,k10,k11,k12⟩
 ·exact .inl k
 ·exact .inr ⟨k,a,b,u,v,k1,k2,k3,k4,k5,k6,k7,k8,k9,k10,hr _ _ k11,hr _ _ k12⟩
theorem Az9 {out:List Int} {z:Int} (hz:z∉out) {m u:Int} (hm:rk out m<rk out u):rk (out++[z]) m<rk (out++[z]) u:=by
 have hm2:m∈out:=Gu.1 (by have:=Ar6 out u;omega);rw [Th hm2]
 by_cases hu:u∈out
 ·rw [Th hu];exact hm
 ·have:=Gu.2 hm2
  by_cases e:u=z
  ·subst e
   rw [Iw hz];exact this
  ·rw [Fy hu e]
   omega
def Bh6 (O:List (List (Int×Int))) (n:Nat) (out:List Int) (z:Int):Int->Int->Int->Prop:=
 fun u v w=>Aa n u/\(v,w)∈Cl O u/\v∉out/\v≠z
structure KeptOK (c:CoreD) (n:Nat) (out:List Int) (z:Int) (l:List (Int×Int×Int)):Prop where
 is:∀y∈l,Aa n y.1/\Aa n y.2.1/\y.1∉out/\y.2.1∉out/\y.1≠z/\y.2.1≠z/\y.1≠y.2.1/\∃a b,(z,a)∈Cl c.O y.1/\(y.2.1,b)∈Cl c.O z/\y.2.2=a+b
 all:∀u v a b,Aa n u->Aa n v->u∉out->v∉out->u≠z->v≠z->u≠v->(z,a)∈Cl c.O u->(v,b)∈Cl c.O z->
  (u,v,a+b)∈l\/∃e,e<a+b/\Way (Bh6 c.O n out z) Any u v e
def Fg (c:CoreD) (z:Int) (y:Int×Int×Int):SC:=⟨y.1,y.2.1,y.2.2,-1,(c.p y.1 z).elim 0 (fun i=>(i:Int)),(c.p z y.2.1).elim 0 (fun i=>(i:Int))⟩
def addL (c:CoreD) (z:Int) (l:List (Int×Int×Int)):CoreD:=l.foldl (fun c y=>Ed c (Fg c z y)) c
structure Core (A:Int->Int->Int->Prop) (E:Int->Int->Int->Int->Prop) (n:Nat) (out:List Int) (c:CoreD):Prop where
 inv:InvN n c
 part:Part A (Ls c.S) out
 made:Made E (rk out) c.S
 big:∀x∈c.S,x.w<=4294967296*2 ^ out.length
variable {A:Int->Int->Int->Prop} {E:Int->Int->Int->Int->Prop} {n:Nat} {out:List Int} {c:CoreD} {z:Int}
theorem Core.arcS (h:Core A E n out c) {u v w:Int} (hu:Aa n u) (k:(v,w)∈Cl c.O u):Ls c.S u v w/\∃i x,c.p u v=some i/\c.S[i]? =some x/\x.f=u/\x.t=v/\x.w=w:=by
 obtain ⟨i,x,h1,h2,h3⟩:=(h.inv.arc _ _ _ hu).1 k;obtain ⟨y,y1,y2,y3⟩:=h.inv.at1 _ _ _ h1;rw [h2] at y1
 cases y1
 exact ⟨⟨x,Bl3 h2,y2,y3,h3⟩,i,x,h1,h2,y2,y3,h3⟩
theorem Core.addL (h:Core A E n out c) (hz:Aa n z) (hzo:z∉out) {l:List (Int×Int×Int)} (hl:KeptOK c n out z l):
  InvN n (addL c z l)/\(∀(i:Nat) (x:SC),c.S[i]? =some x->(addL c z l).S[i]? =some x)/\Made E (rk (out++[z])) (addL c z l).S/\(∀x∈(addL c z l).S,x.w<=4294967296*2 ^ (out++[z]).length)/\
  (∀x∈(addL c z l).S,x∈c.S\/∃y∈l,x.f=y.1/\x.t=y.2.1/\x.w=y.2.2)/\(∀y∈l,∃x∈(addL c z l).S,x.f=y.1/\x.t=y.2.1/\x.w<=y.2.2):=by
 have hpow:(4294967296:Int)*2 ^ (out++[z]).length=2*(4294967296*2 ^ out.length):=by
  rw [Bl5];simp only [List.length_singleton];rw [Int.pow_succ];omega
 have key:∀(k:List (Int×Int×Int)) (c':CoreD),(∀y∈k,y∈l)->InvN n c'->(∀(i:Nat) (x:SC),c.S[i]? =some x->c'.S[i]? =some x)->(∀u v,u=z\/v=z->c'.p u v=c.p u v)->Made E (rk (out++[z])) c'.S->
   (∀x∈c'.S,x.w<=4294967296*2 ^ (out++[z]).length)->(∀x∈c'.S,x∈c.S\/∃y∈l,x.f=y.1/\x.t=y.2.1/\x.w=y.2.2)->
   InvN n (Ch.addL c' z k)/\(∀(i:Nat) (x:SC),c'.S[i]? =some x->(Ch.addL c' z k).S[i]? =some x)/\Made E (rk (out++[z])) (Ch.addL c' z k).S/\(∀x∈(Ch.addL c' z k).S,x.w<=4294967296*2 ^ (out++[z]).length)/\
   (∀x∈(Ch.addL c' z k).S,x∈c.S\/∃y∈l,x.f=y.1/\x.t=y.2.1/\x.w=y.2.2)/\(∀y∈k,∃x∈(Ch.addL c' z k).S,x.f=y.1/\x.t=y.2.1/\x.w<=y.2.2):=by
  intro k
  induction k with
  |nil=>intro c' _ h1 h2 h3 h4 h5 h6;exact ⟨h1,fun _ _ h=>h,h4,h5,h6,by simp⟩
  |cons y k ih=>
   intro c' hk h1 h2 h3 h4 h5 h6;obtain ⟨i1,i2,i3,i4,i5,i6,i7,a,b,ia,ib,ie⟩:=hl.is y (hk y (by simp));obtain ⟨⟨sa,sa1,sa2,sa3,sa4⟩,ja,xa,ja1,ja2,ja3,ja4,ja5⟩:=h.arcS i1 ia;obtain ⟨⟨sb,sb1,sb2,sb3,sb4⟩,jb,xb,jb1,jb2,jb3,jb4,jb5⟩:=h.arcS hz ib;have hxa:=Bl3 ja2;have hxb:=Bl3 jb2;have hea:=(h.inv.ends xa hxa).2.2.2;have heb:=(h.inv.ends xb hxb).2.2.2;have hsc:Fg c' z y=⟨y.1,y.2.1,y.2.2,-1,(ja:Int),(jb:Int)⟩:=by
    unfold Fg;rw [h3 _ _ (.inr rfl),h3 _ _ (.inl rfl),ja1,jb1];rfl
   have hends:Aa n (Fg c' z y).f/\Aa n (Fg c' z y).t/\(Fg c' z y).f≠(Fg c' z y).t/\1<=(Fg c' z y).w:=by
    rw [hsc];exact ⟨i1,i2,i7,by show 1<=y.2.2;omega⟩
   have hmade:Qv E (rk (out++[z])) c'.S c'.S.length (Fg c' z y):=by
    rw [hsc];refine .inr ⟨rfl,ja,jb,xa,xb,rfl,rfl,?_,?_,h2 _ _ ja2,h2 _ _ jb2,ja3,?_,jb4,?_,?_,?_⟩
    ·exact (Bj8.1 (h2 _ _ ja2)).1
    ·exact (Bj8.1 (h2 _ _ jb2)).1
    ·rw [ja4,jb3]
    ·show xa.w+xb.w=y.2.2
     omega
    ·rw [ja4]
     show rk (out++[z]) z<rk (out++[z]) y.1
     rw [Iw hzo,Fy i3 i5];omega
    ·rw [ja4]
     show rk (out++[z]) z<rk (out++[z]) y.2.1
     rw [Iw hzo,Fy i4 i6];omega
   have hmade2:Made E (rk (out++[z])) (Ed c' (Fg c' z y)).S:=by
    rcases Og h1 (Fg c' z y) with e|e
    ·rw [e];exact h4
    ·rw [e];exact h4.snoc hmade
   have hxw:(Fg c' z y).w<=4294967296*2 ^ (out++[z]).length:=by
    rw [hsc,hpow]
    show y.2.2<=_
    have:=h.big xa hxa;have:=h.big xb hxb;omega
   have hbig2:∀x∈(Ed c' (Fg c' z y)).S,x.w<=4294967296*2 ^ (out++[z]).length:=by
    intro x hx
    rcases Og h1 (Fg c' z y) with e|e
    ·rw [e] at hx;exact h5 x hx
    ·rw [e] at hx
     rcases Bl8.1 hx with hx|hx
     ·exact h5 x hx
     ·rw [Bk2] at hx
      exact hx▸hxw
   have hnew2:∀x∈(Ed c' (Fg c' z y)).S,x∈c.S\/∃y∈l,x.f=y.1/\x.t=y.2.1/\x.w=y.2.2:=by
    intro x hx
    rcases Og h1 (Fg c' z y) with e|e
    ·rw [e] at hx;exact h6 x hx
    ·rw [e] at hx
     rcases Bl8.1 hx with hx|hx
     ·exact h6 x hx
     ·rw [Bk2] at hx
      refine .inr ⟨y,hk y (by simp),?_⟩;rw [hx,hsc];exact ⟨rfl,rfl,rfl⟩
   have hp2:∀u v,u=z\/v=z->(Ed c' (Fg c' z y)).p u v=c.p u v:=by
    intro u v huv;rw [Bg5 h1 (by
     rw [hsc];rintro ⟨rfl,rfl⟩
     rcases huv with e|e
     ·exact i5 e
     ·exact i6 e)]
    exact h3 u v huv
   obtain ⟨r1,r2,r3,r4,r5,r6⟩:=ih (Ed c' (Fg c' z y)) (fun x hx=>hk x (by simp [hx])) (h1.add hends) (fun i x hx=>Sb h1 _ (h2 i x hx)) hp2 hmade2 hbig2 hnew2;refine ⟨r1,fun i x hx=>r2 i x (Sb h1 _ hx),r3,r4,r5,?_⟩;intro q hq
   rcases Bl7.1 hq with rfl|hq
   ·obtain ⟨x,x1,x2,x3,x4⟩:=Yv h1 (Fg c' z q)
    rw [hsc] at x2 x3 x4;obtain ⟨i,hi,e⟩:=Bm9.1 x1;have:=r2 i x (by rw [Bj0 hi,e]);exact ⟨x,Bl3 this,x2,x3,x4⟩
   ·exact r6 q hq
 obtain ⟨r1,r2,r3,r4,r5,r6⟩:=key l c (fun _ h=>h) h.inv (fun _ _ h=>h) (fun _ _ _=>rfl) (h.made.mono fun u v=>Az9 hzo) (fun x hx=>by have:=h.big x hx;rw [hpow];have h2:0<=(2:Int) ^ out.length:=Int.pow_nonneg (by decide);omega) (fun x hx=>.inl hx);exact ⟨r1,r2,r3,r4,r5,r6⟩
theorem Core.go (hA:∀u v w,A u v w->1<=w) (h:Core A E n out c) (hz:Aa n z) (hzo:z∉out) {l:List (Int×Int×Int)} (hl:KeptOK c n out z l):Core A E n (out++[z]) (Ch.addL c z l):=by
 obtain ⟨r1,r2,r3,r4,r5,r6⟩:=h.addL hz hzo hl;have hsound:∀u v w,Ls c.S u v w->Way0 A Any u v w:=fun u v w k=>.inr ((h.part.sound _ _ _ k).2.imp fun _ _=>trivial);have hS:∀u v w,Ls c.S u v w->Ls (Ch.addL c z l).S u v w:=by
  rintro u v w ⟨x,hx,e⟩;obtain ⟨i,hi,e2⟩:=Bm9.1 hx;exact ⟨x,Bl3 (r2 i x (by rw [Bj0 hi,e2])),e⟩
 have hnew:∀u v w,Ls (Ch.addL c z l).S u v w->Ls c.S u v w\/(u∉out/\v∉out/\u≠z/\v≠z/\u≠v/\∃a b,Ls c.S u z a/\Ls c.S z v b/\w=a+b):=by
  rintro u v w ⟨x,hx,rfl,rfl,rfl⟩
  rcases r5 x hx with k|⟨y,hy,e1,e2,e3⟩
  ·exact .inl ⟨x,k,rfl,rfl,rfl⟩
  ·obtain ⟨i1,i2,i3,i4,i5,i6,i7,a,b,ia,ib,ie⟩:=hl.is y hy
   rw [e1,e2,e3];exact .inr ⟨i3,i4,i5,i6,i7,a,b,(h.arcS i1 ia).1,(h.arcS hz ib).1,ie⟩
 refine ⟨r1,h.part.go hA hzo hS hnew ?_,r3,r4⟩;intro u v a b h1 h2 h3 h4 h5 ka kb hd;obtain ⟨d1,d2⟩:=hd.parts (hsound _ _ _ ka) (hsound _ _ _ kb);have light:∀{u v w},Ls c.S u v w->Dist A u v w->Aa n u/\Aa n v/\(v,w)∈Cl c.O u:=by
  rintro u v w ⟨x,hx,rfl,rfl,rfl⟩ hd;obtain ⟨i,y,y1,y2,y3⟩:=h.inv.low x hx;obtain ⟨q,q1,q2,q3⟩:=h.inv.at1 _ _ _ y1;rw [y2] at q1
  cases q1
  have he:=h.inv.ends x hx;have:=hd.2 _ (hsound _ _ _ ⟨y,Bl3 y2,q2,q3,rfl⟩);exact ⟨he.1,he.2.1,(h.inv.arc _ _ _ he.1).2 ⟨i,y,y1,y2,by omega⟩⟩
 obtain ⟨n1,_,m1⟩:=light ka d1;obtain ⟨_,n2,m2⟩:=light kb d2
 rcases hl.all u v a b n1 n2 h1 h2 h3 h4 h5 m1 m2 with k|⟨e,k1,k2⟩
 ·obtain ⟨x,x1,x2,x3,x4⟩:=r6 _ k
  simp only at x2 x3 x4;have hw:Way0 A Any x.f x.t x.w:=by
   rcases hnew _ _ _ ⟨x,x1,rfl,rfl,rfl⟩ with k|⟨_,_,_,_,_,a',b',ka',kb',e⟩
   ·exact hsound _ _ _ k
   ·rw [e];exact (hsound _ _ _ ka').trans trivial (hsound _ _ _ kb')
  rw [x2,x3] at hw;have:=hd.2 _ hw;exact ⟨x,x1,x2,x3,by omega⟩
 ·exfalso
  have hway:∀{u v e},Way (Bh6 c.O n out z) Any u v e->Way0 A Any u v e:=by
   intro u v e k
   induction k with
   |one k=>exact hsound _ _ _ (h.arcS k.1 k.2.1).1
   |cons k _ _ ih=>exact (hsound _ _ _ (h.arcS k.1 k.2.1).1).trans trivial ih
  have:=hd.2 _ (hway k2);omega
end Ch
end
section
namespace Ch
open Hp
theorem Ae7:∀(a b:List Int),a.Nodup->(∀x∈a,x∈b)->a.length<=b.length
 |[],_,_,_=>by simp
 |x::r,b,hn,hs=>by
  have hx:=hs x (by simp);obtain ⟨h1,h2⟩:=List.nodup_cons.1 hn;have h3:=Ae7 r (b.erase x) h2 (fun y hy=>(List.mem_erase_of_ne (by rintro rfl;exact h1 hy)).2 (hs y (by simp [hy])));have h4:=List.length_erase_of_mem hx;have h5:=List.length_pos_of_mem hx;rw [Bk0];omega
theorem Mh {l:List IK} {p:List Int} (h:HeapOK l p):l.length<=p.length:=by
 have h1:(l.map (·.1)).Nodup:=by
  rw [List.nodup_iff_pairwise_ne,List.pairwise_iff_getElem];intro i j hi hj hlt e;simp only [Bm7] at hi hj;rw [List.getElem_map,List.getElem_map] at e;have:=h.c.inj (i:=i) (j:=j) hi hj (by rw [Jg hi,Jg hj];exact e);omega
 have h2:∀x∈l.map (·.1),x∈(List.range p.length).map Int.ofNat:=by
  intro x hx;obtain ⟨y,hy,rfl⟩:=List.mem_map.1 hx;obtain ⟨j,hj,rfl⟩:=Du.1 hy;have:=h.c.pos j hj;exact List.mem_map.2 ⟨(gI l j).1.toNat,Bl9.2 this.2.1,by show (((gI l j).1.toNat:Nat):Int)=_;omega⟩
 have:=Ae7 _ _ h1 h2
 simpa using this
def NR (O:List (List (Int×Int))) (gone:List Bool):Int->Int->Int->Prop:=fun u v w=>Aa O.length u/\(v,w)∈Cl O u/\gone.getD v.toNat true=false
structure NetOK (O:List (List (Int×Int))) (gone:List Bool) (B:Int):Prop where
 len:gone.length=O.length
 arcs:∀u a,Aa O.length u->a∈Cl O u->Aa O.length a.1/\1<=a.2/\a.2<=B
variable {O:List (List (Int×Int))} {gone:List Bool} {B M:Int} {s:Int} {far:List (Option Int)} {l:List IK} {p:List Int}
structure SInv (O:List (List (Int×Int))) (gone:List Bool) (B M:Int) (s:Int) (far:List (Option Int)) (l:List IK) (p:List Int):Prop where
 ok:HeapOK l p
 lp:p.length=O.length
 lf:far.length=O.length
 hp:∀v k,(v,k)∈l->far.getD v.toNat none=some k
 way:∀v d,Aa O.length v->far.getD v.toNat none=some d->Way0 (NR O gone) Any s v d/\0<=d/\d<=M+B
theorem Dw {α:Type} (l:List α) (i j:Nat) (x d:α) (hi:i<l.length):(l.set i x).getD j d=if j=i then x else l.getD j d:=by
 rw [Bj1,List.getElem?_set,Bj1]
 by_cases e:i=j
 ·subst e;simp [hi]
 ·rw [if_neg e,if_neg (fun h=>e h.symm)]
theorem SInv.pop (h:SInv O gone B M s far l p) {x:IK} {r:List IK} (hl:l=x::r):Aa O.length x.1/\far.getD x.1.toNat none=some x.2/\Way0 (NR O gone) Any s x.1 x.2/\0<=x.2/\x.2<=M+B/\
  SInv O gone B M s far (Az l p x.1.toNat 0).1 (Az l p x.1.toNat 0).2:=by
 subst hl;have hp0:=h.ok.c.pos 0 (by simp);have hg:gI (x::r) 0=x:=rfl;rw [hg] at hp0;have hn:Aa O.length x.1:=⟨hp0.1,by have:=h.lp;omega⟩;have hf:=h.hp x.1 x.2 (by simp);obtain ⟨w1,w2,w3⟩:=h.way _ _ hn hf;obtain ⟨d1,d2,d3,d4⟩:=Ke h.ok hp0.2.1 (i:=0) (by simp) hp0.2.2 (by rw [hg];omega);refine ⟨hn,hf,w1,w2,w3,d1,by rw [d2];exact h.lp,h.lf,?_,h.way⟩;intro v k hk;exact h.hp v k ((d4 _).1 hk).1
theorem SInv.relax (hO:NetOK O gone B) (h:SInv O gone B M s far l p) {u:Int} {d:Int} (hu:Aa O.length u) (hd:Way0 (NR O gone) Any s u d) (hd0:0<=d) (hdM:d<M) {a:Int×Int} (ha:a∈Cl O u) (hg:gone.getD a.1.toNat true=false)
  (hless:∀k,far.getD a.1.toNat none=some k->d+a.2<k):
  SInv O gone B M s (far.set a.1.toNat (some (d+a.2))) (Bf l p a.1.toNat (d+a.2)).2.1 (Bf l p a.1.toNat (d+a.2)).2.2:=by
 obtain ⟨an,a1,a2⟩:=hO.arcs u a hu ha;have hlt:a.1.toNat<p.length:=by have:=h.lp;omega
 have hlf:a.1.toNat<far.length:=by have:=h.lf;omega
 have hcast:((a.1.toNat:Nat):Int)=a.1:=by omega
 obtain ⟨q1,q2,q3,q4,_⟩:=Dt h.ok hlt (d+a.2);have htrue:(Bf l p a.1.toNat (d+a.2)).1=true:=by
  cases e:(Bf l p a.1.toNat (d+a.2)).1 with
  |true=>rfl
  |false=>
   obtain ⟨_,k,hk,hle⟩:=q4 e;rw [hcast] at hk;have:=hless k (h.hp _ _ hk);omega
 have q3:=q3 htrue;rw [hcast] at q3;refine ⟨q1,by rw [q2];exact h.lp,by rw [Bj6];exact h.lf,?_,?_⟩
 ·intro v k hk
  rw [Dw _ _ _ _ _ hlf]
  rcases (q3 _).1 hk with e|⟨e1,e2⟩
  ·obtain ⟨rfl,rfl⟩:=Prod.mk.inj e
   rw [if_pos rfl]
  ·have hv:=h.ok.c
   obtain ⟨j,hj,ej⟩:=Du.1 e1;have hpos:=(hv.pos j hj).1;rw [ej] at hpos;simp only at hpos e2;rw [if_neg (by omega)];exact h.hp v k e1
 ·intro v e hv hve
  rw [Dw _ _ _ _ _ hlf] at hve
  split at hve
  ·rename_i e2
   obtain rfl:v=a.1:=by omega
   cases hve
   exact ⟨hd.trans trivial (.inr (.one ⟨hu,ha,hg⟩)),by omega,by omega⟩
  ·exact h.way v e hv hve
theorem SInv.begin (hs:Aa O.length s) (hM:0<=M+B):SInv O gone B M s ((List.replicate O.length none).set s.toNat (some 0)) (Bf [] (List.replicate O.length (-1)) s.toNat 0).2.1 (Bf [] (List.replicate O.length (-1)) s.toNat 0).2.2:=by
 have hlt:s.toNat<(List.replicate O.length (-1:Int)).length:=by simp;omega
 have hlf:s.toNat<(List.replicate O.length (none:Option Int)).length:=by simp;omega
 have hcast:((s.toNat:Nat):Int)=s:=by omega
 obtain ⟨q1,q2,q3,q4,_⟩:=Dt (Gb O.length) hlt 0;have htrue:(Bf [] (List.replicate O.length (-1)) s.toNat 0).1=true:=by
  cases e:(Bf [] (List.replicate O.length (-1)) s.toNat 0).1 with
  |true=>rfl
  |false=>
   obtain ⟨_,k,hk,_⟩:=q4 e;simp at hk
 have q3:=q3 htrue;rw [hcast] at q3;refine ⟨q1,by rw [q2];simp,by simp,?_,?_⟩
 ·intro v k hk
  rw [Dw _ _ _ _ _ hlf]
  rcases (q3 _).1 hk with e|⟨e1,_⟩
  ·obtain ⟨rfl,rfl⟩:=Prod.mk.inj e
   rw [if_pos rfl]
  ·simp at e1
 ·intro v e hv hve
  rw [Dw _ _ _ _ _ hlf] at hve
  split at hve
  ·rename_i e2
   obtain rfl:v=s:=by omega
   cases hve
   exact ⟨.inl ⟨rfl,rfl⟩,Int.le_refl _,hM⟩
  ·exfalso
   rw [Bj1,Bm5] at hve
   split at hve<;>simp at hve
end Ch
end
section
open Go Go.Proofs Go.RowKit Go.Shelf Hp Ch
abbrev Ip (b:Bool):Value:=.bool b
def NetW (w:World) (vo vg:Value) (O:List (List (Int×Int))) (gone:List Bool):Prop:=
 ∃ao co go cg rows,vo=.slice ao O.length co/\vg=.slice go gone.length cg/\Cel w ao rows/\rows.length=O.length/\Cel w go (gone.map Ip)/\
  ∀i (h:i<O.length),∃ai ci,rows[i]? =some (.slice ai O[i].length ci)/\Cel w ai (Aq O[i])
theorem NetW.go {w w':World} {vo vg:Value} {O:List (List (Int×Int))} {gone:List Bool} (h:NetW w vo vg O gone) (hb:Below w.heap.size w w'):NetW w' vo vg O gone:=by
 obtain ⟨ao,co,go,cg,rows,h1,h2,h3,h4,h5,h6⟩:=h;refine ⟨ao,co,go,cg,rows,h1,h2,h3.go hb,h4,h5.go hb,fun i hi=>?_⟩;obtain ⟨ai,ci,h7,h8⟩:=h6 i hi;exact ⟨ai,ci,h7,h8.go hb⟩
structure SrW (w0 W:World) (sb rb fb hb:Nat) (va v:Value) (far:List (Option Int)) (st:List Int) (l:List IK) (p:List Int):Prop where
 s1:StW W sb rb far
 hp:HeapW W hb v va l p
 sp:W.ownsRow 0 3 1 (.slice (some ⟨fb,0,none⟩) st.length st.length) st.length (st.map Aj)
 bel:Below w0.heap.size w0 W
 ge:w0.heap.size<=sb/\w0.heap.size<=rb/\w0.heap.size<=fb/\∀k,HX hb v va k->w0.heap.size<=k
 sep:∀k,HX hb v va k->k≠sb/\k≠rb/\k≠fb
 sf:fb≠sb/\fb≠rb
variable {w0 W W':World} {sb rb fb hb:Nat} {va v:Value} {far:List (Option Int)} {st:List Int} {l:List IK} {p:List Int}
theorem SrW.go (h:SrW w0 W sb rb fb hb va v far st l p) (hb':Below W.heap.size W W'):SrW w0 W' sb rb fb hb va v far st l p:=
 ⟨h.s1.go hb',h.hp.go hb',Af h.sp hb',h.bel.st hb',h.ge,h.sep,h.sf⟩
theorem Ni {X:Nat->Prop} {w w':World} {base:Nat} {e:TypeId} {size n g c:Nat} {xs:List Value} (h:w.ownsRow base e size (.slice (some ⟨g,0,none⟩) n c) n xs) (ho:OffX X w w') (hn:¬X g):w'.ownsRow base e size (.slice (some ⟨g,0,none⟩) n c) n xs:=by
 refine ⟨h.1,?_⟩;have hl:=(h.lt g rfl).2
 rcases h.2 with h2'|⟨g',cap,cur,hv,hbg,hg,r⟩
 ·exact .inl h2'
 ·cases hv
  exact .inr ⟨_,_,cur,rfl,hbg,by rw [ho.block _ hl hn];exact hg,r⟩
theorem SrW.heap {v':Value} {l':List IK} {p':List Int} (h:SrW w0 W sb rb fb hb va v far st l p) (hh:HeapW W' hb v' va l' p') (ho:OffX (HX hb v va) W W') (hv:v'.ownBlock=v.ownBlock\/∃g,v'.ownBlock=some g/\W.heap.size<=g):SrW w0 W' sb rb fb hb va v' far st l' p':=by
 have hfb:fb<W.heap.size:=(h.sp.lt fb rfl).2;have hs:=h.s1.lt;have hw0:=h.bel.size;have hsub:∀k,HX hb v' va k->HX hb v va k\/W.heap.size<=k:=by
  rintro k (hk|hk|hk)
  ·exact .inl (.inl hk)
  ·rcases hv with e|⟨g,e,hg⟩
   ·exact .inl (.inr (.inl (e.symm.trans hk)))
   ·rw [e] at hk
    cases hk
    exact .inr hg
  ·exact .inl (.inr (.inr hk))
 refine ⟨h.s1.off ho (fun k=>(h.sep _ k).1 rfl) (fun k=>(h.sep _ k).2.1 rfl),hh,Ni h.sp ho (fun k=>(h.sep _ k).2.2 rfl),h.bel.trans (ho.below h.bel.size h.ge.2.2.2),⟨h.ge.1,h.ge.2.1,h.ge.2.2.1,?_⟩,?_,h.sf⟩
 ·intro k hk
  rcases hsub k hk with hk|hk
  ·exact h.ge.2.2.2 k hk
  ·omega
 ·intro k hk
  rcases hsub k hk with hk|hk
  ·exact h.sep k hk
  ·omega
theorem SrW.stamp {far':List (Option Int)} (h:SrW w0 W sb rb fb hb va v far st l p) (hh:StW W' sb rb far') (ho:OffX (SX sb rb) W W'):SrW w0 W' sb rb fb hb va v far' st l p:=by
 have hnot:∀k,HX hb v va k->¬SX sb rb k:=by
  rintro k hk (e|e)
  ·exact (h.sep k hk).1 e
  ·exact (h.sep k hk).2.1 e
 refine ⟨hh,?_,Ni h.sp ho (by rintro (e|e);exact h.sf.1 e;exact h.sf.2 e),h.bel.trans (ho.below h.bel.size (by rintro k (rfl|rfl);exact h.ge.1;exact h.ge.2.1)),h.ge,h.sep,h.sf⟩;refine ⟨h.hp.pb.eq (ho.block _ h.hp.pb.lt (hnot _ (.inl rfl))),?_,?_,h.hp.d1,h.hp.d2,h.hp.d3⟩
 ·obtain ⟨ao,c,rfl,-⟩:=Cel.of_owns h.hp.ol
  refine ⟨h.hp.ol.1,?_⟩
  rcases h.hp.ol.2 with h2'|⟨g',cap,cur,hv,hbg,hg,r⟩
  ·exact .inl h2'
  ·cases hv
   exact .inr ⟨_,_,cur,rfl,hbg,by rw [ho.block _ (Bj2.1 hg).1 (hnot _ (.inr (.inl rfl)))];exact hg,r⟩
 ·refine ⟨h.hp.oa.1,?_⟩
  rcases h.hp.oa.2 with h2'|⟨g',cap,cur,hv,hbg,hg,r⟩
  ·exact .inl h2'
  ·exact .inr ⟨g',cap,cur,hv,hbg,by rw [ho.block _ (Bj2.1 hg).1 (hnot _ (.inr (.inr (by rw [hv];rfl))))];exact hg,r⟩
theorem SrW.step (h:SrW w0 W sb rb fb hb va v far st l p) (i:Nat) (x:Int):SrW w0 (W.setCell ⟨fb,i,none⟩ (.int .i64 x)) sb rb fb hb va v far (st.set i x) l p:=by
 have ho:OffX (· =fb) W (W.setCell ⟨fb,i,none⟩ (.int .i64 x)):=.set _ rfl;have hnot:∀k,HX hb v va k->¬k=fb:=fun k hk e=>(h.sep k hk).2.2 e;refine ⟨h.s1.off ho (fun e=>h.sf.1 e.symm) (fun e=>h.sf.2 e.symm),?_,?_,h.bel.setCell h.ge.2.2.1 _,h.ge,h.sep,h.sf⟩
 ·exact ⟨h.hp.pb.setAt (fun e=>hnot hb (.inl rfl) e.symm) _,ownsRow_setCell_other (a:=⟨fb,i,none⟩) h.hp.ol (fun e=>hnot fb (.inr (.inl e)) rfl) _,ownsRow_setCell_other (a:=⟨fb,i,none⟩) h.hp.oa (fun e=>hnot fb (.inr (.inr e)) rfl) _,h.hp.d1,h.hp.d2,h.hp.d3⟩
 ·have h1:=(h.sp.stored i (.int .i64 x)).1
  rw [<-List.map_set (f:=Aj)] at h1;rw [Bj6];exact h1
end
end Go.Proofs.YteaaapdjplbljaaGreat
