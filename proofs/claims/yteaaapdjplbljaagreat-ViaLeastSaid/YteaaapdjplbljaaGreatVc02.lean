/- Parts; no condition. -/
import Derived.Test.YteaaapdjplbljaaGreatVc01
set_option linter.unusedVariables false
set_option linter.unusedSimpArgs false
set_option linter.unnecessarySimpa false
set_option maxRecDepth 100000
set_option maxHeartbeats 8000000
namespace Go.Proofs.YteaaapdjplbljaaGreat
namespace Hp
abbrev IK:=Int×Int
def Bc (a b:IK):Bool:=decide (a.2<b.2)||(decide (a.2=b.2)&&decide (a.1<b.1))
theorem Jw {a b:IK}:Bc a b=true↔a.2<b.2\/(a.2=b.2/\a.1<b.1):=by simp [Bc]
theorem Bp {a b:IK}:Bc a b=false↔b.2<a.2\/(b.2=a.2/\b.1<=a.1):=by
 rw [<-Bool.not_eq_true,Jw];omega
def gI (l:List IK) (j:Nat):IK:=l.getD j (0,0)
theorem Jg {l:List IK} {j:Nat} (h:j<l.length):gI l j=l[j]:=by simp [gI,h]
theorem Av {l:List IK} {i j:Nat} {y:IK} (hi:i<l.length):gI (l.set i y) j=if j=i then y else gI l j:=by
 unfold gI;rw [Bj1,List.getElem?_set,Bj1]
 by_cases e:i=j
 ·subst e;simp [hi]
 ·rw [if_neg e,if_neg (fun h=>e h.symm)]
theorem Nr {l:List IK} {j:Nat} (h:j<l.length):gI l j∈l:=by rw [Jg h];exact Bj7 h
def gP (p:List Int) (v:Nat):Int:=p.getD v (-1)
theorem Dx {p:List Int} {i j:Nat} {y:Int} (hi:i<p.length):gP (p.set i y) j=if j=i then y else gP p j:=by
 unfold gP;rw [Bj1,List.getElem?_set,Bj1]
 by_cases e:i=j
 ·subst e;simp [hi]
 ·rw [if_neg e,if_neg (fun h=>e h.symm)]
def Cx (l:List IK) (p:List Int) (i:Nat) (x:IK):List IK×List Int:=
 if _h:0<i/\Bc x (gI l ((i-1) / 2))=true then
  Cx (l.set i (gI l ((i-1) / 2))) (p.set (gI l ((i-1) / 2)).1.toNat (i:Int)) ((i-1) / 2) x
 else (l.set i x,p.set x.1.toNat (i:Int))
termination_by i
decreasing_by omega
theorem Ws {l:List IK} {p:List Int} {i:Nat} {x:IK} (h0:0<i) (h:Bc x (gI l ((i-1) / 2))=true):
  Cx l p i x=Cx (l.set i (gI l ((i-1) / 2))) (p.set (gI l ((i-1) / 2)).1.toNat (i:Int)) ((i-1) / 2) x:=by
 rw [Cx,dif_pos ⟨h0,h⟩]
theorem Nh {l:List IK} {p:List Int} {i:Nat} {x:IK} (h:i=0\/Bc x (gI l ((i-1) / 2))=false):Cx l p i x=(l.set i x,p.set x.1.toNat (i:Int)):=by
 rw [Cx,dif_neg];rintro ⟨a,b⟩
 rcases h with h|h
 ·omega
 ·rw [h] at b;cases b
def Ba (l:List IK) (i:Nat):Nat:=if 2*i+1+1<l.length/\Bc (gI l (2*i+1+1)) (gI l (2*i+1))=true then 2*i+1+1 else 2*i+1
theorem Ag1 (l:List IK) (i:Nat):2*i+1<=Ba l i/\Ba l i<=2*i+2:=by unfold Ba;split<;>omega
def Bj (l:List IK) (p:List Int) (i:Nat) (x:IK):List IK×List Int:=
 if h:Ba l i<l.length/\Bc (gI l (Ba l i)) x=true then
  Bj (l.set i (gI l (Ba l i))) (p.set (gI l (Ba l i)).1.toNat (i:Int)) (Ba l i) x
 else (l.set i x,p.set x.1.toNat (i:Int))
termination_by l.length-i
decreasing_by
 have:=(Ag1 l i).1;rw [Bj6];omega
theorem Lu {l:List IK} {p:List Int} {i:Nat} {x:IK} (h0:Ba l i<l.length) (h:Bc (gI l (Ba l i)) x=true):
  Bj l p i x=Bj (l.set i (gI l (Ba l i))) (p.set (gI l (Ba l i)).1.toNat (i:Int)) (Ba l i) x:=by
 rw [Bj,dif_pos ⟨h0,h⟩]
theorem Gt {l:List IK} {p:List Int} {i:Nat} {x:IK} (h:l.length<=Ba l i\/Bc (gI l (Ba l i)) x=false):Bj l p i x=(l.set i x,p.set x.1.toNat (i:Int)):=by
 rw [Bj,dif_neg];rintro ⟨a,b⟩
 rcases h with h|h
 ·omega
 ·rw [h] at b;cases b
structure Hole (l:List IK) (p:List Int) (i:Nat) (x:IK):Prop where
 hi:i<l.length
 hx:0<=x.1/\x.1.toNat<p.length
 pos:∀j,j<l.length->j≠i->0<=(gI l j).1/\(gI l j).1.toNat<p.length/\gP p (gI l j).1.toNat=(j:Int)/\(gI l j).1≠x.1
 inv:∀v,v<p.length->(v:Int)≠x.1->gP p v= -1\/∃j,j<l.length/\j≠i/\gP p v=(j:Int)/\(gI l j).1=(v:Int)
structure Cons (l:List IK) (p:List Int):Prop where
 pos:∀j,j<l.length->0<=(gI l j).1/\(gI l j).1.toNat<p.length/\gP p (gI l j).1.toNat=(j:Int)
 inv:∀v,v<p.length->gP p v= -1\/∃j,j<l.length/\gP p v=(j:Int)/\(gI l j).1=(v:Int)
def Wa (l:List IK) (i:Nat) (x y:IK):Prop:=y=x\/∃j,j<l.length/\j≠i/\gI l j=y
theorem Du {l:List IK} {y:IK}:y∈l↔∃j,j<l.length/\gI l j=y:=by
 constructor
 ·intro h
  obtain ⟨j,hj,e⟩:=Bm9.1 h;exact ⟨j,hj,by rw [Jg hj];exact e⟩
 ·rintro ⟨j,hj,rfl⟩
  exact Nr hj
theorem Hole.fill {l:List IK} {p:List Int} {i:Nat} {x:IK} (h:Hole l p i x):Cons (l.set i x) (p.set x.1.toNat (i:Int))/\∀y,y∈l.set i x↔Wa l i x y:=by
 refine ⟨⟨?_,?_⟩,?_⟩
 ·intro j hj
  rw [Bj6] at hj;rw [Av h.hi,Bj6]
  by_cases e:j=i
  ·subst e
   rw [if_pos rfl];refine ⟨h.hx.1,h.hx.2,?_⟩;rw [Dx h.hx.2,if_pos rfl]
  ·rw [if_neg e]
   obtain ⟨a,b,c,d⟩:=h.pos j hj e;refine ⟨a,b,?_⟩;rw [Dx h.hx.2,if_neg]
   ·exact c
   ·have:=h.hx.1
    omega
 ·intro v hv
  rw [Bj6] at hv;rw [Dx h.hx.2]
  by_cases e:v=x.1.toNat
  ·rw [if_pos e]
   refine .inr ⟨i,by rw [Bj6];exact h.hi,rfl,?_⟩;rw [Av h.hi,if_pos rfl];have:=h.hx.1;omega
  ·rw [if_neg e]
   rcases h.inv v hv (by have:=h.hx.1;omega) with h1|⟨j,a,b,c,d⟩
   ·exact .inl h1
   ·exact .inr ⟨j,by rw [Bj6];exact a,c,by rw [Av h.hi,if_neg b];exact d⟩
 ·intro y
  rw [Du];constructor
  ·rintro ⟨j,hj,e⟩
   rw [Bj6] at hj;rw [Av h.hi] at e
   by_cases e2:j=i
   ·rw [if_pos e2] at e
    exact .inl e.symm
   ·rw [if_neg e2] at e
    exact .inr ⟨j,hj,e2,e⟩
  ·rintro (rfl|⟨j,hj,e2,e⟩)
   ·exact ⟨i,by rw [Bj6];exact h.hi,by rw [Av h.hi,if_pos rfl]⟩
   ·exact ⟨j,by rw [Bj6];exact hj,by rw [Av h.hi,if_neg e2];exact e⟩
theorem Hole.move {l:List IK} {p:List Int} {i k:Nat} {x:IK} (h:Hole l p i x) (hk:k<l.length) (hne:k≠i):
  Hole (l.set i (gI l k)) (p.set (gI l k).1.toNat (i:Int)) k x/\∀y,Wa (l.set i (gI l k)) k x y↔Wa l i x y:=by
 obtain ⟨ka,kb,kc,kd⟩:=h.pos k hk hne;refine ⟨⟨by rw [Bj6];exact hk,by rw [Bj6];exact h.hx,?_,?_⟩,?_⟩
 ·intro j hj hjk
  rw [Bj6] at hj;rw [Av h.hi,Bj6]
  by_cases e:j=i
  ·rw [if_pos e]
   exact ⟨ka,kb,by rw [Dx kb,if_pos rfl,e],kd⟩
  ·rw [if_neg e]
   obtain ⟨a,b,c,d⟩:=h.pos j hj e;refine ⟨a,b,?_,d⟩;rw [Dx kb,if_neg]
   ·exact c
   ·intro e2
    rw [e2,kc] at c;omega
 ·intro v hv hvx
  rw [Bj6] at hv;rw [Dx kb]
  by_cases e:v=(gI l k).1.toNat
  ·rw [if_pos e]
   refine .inr ⟨i,by rw [Bj6];exact h.hi,fun e=>hne e.symm,rfl,?_⟩;rw [Av h.hi,if_pos rfl];omega
  ·rw [if_neg e]
   rcases h.inv v hv hvx with h1|⟨j,a,b,c,d⟩
   ·exact .inl h1
   ·refine .inr ⟨j,by rw [Bj6];exact a,?_,c,by rw [Av h.hi,if_neg b];exact d⟩
    rintro rfl;omega
 ·intro y
  unfold Wa;rw [Bj6];constructor
  ·rintro (e|⟨j,hj,e2,e⟩)
   ·exact .inl e
   ·rw [Av h.hi] at e
    by_cases e3:j=i
    ·rw [if_pos e3] at e
     exact .inr ⟨k,hk,hne,e⟩
    ·rw [if_neg e3] at e
     exact .inr ⟨j,hj,e3,e⟩
  ·rintro (e|⟨j,hj,e2,e⟩)
   ·exact .inl e
   ·by_cases e3:j=k
    ·subst e3
     exact .inr ⟨i,h.hi,fun e=>hne e.symm,by rw [Av h.hi,if_pos rfl];exact e⟩
    ·exact .inr ⟨j,hj,e3,by rw [Av h.hi,if_neg e2];exact e⟩
def OrdI (l:List IK):Prop:=∀j,j<l.length->0<j->Bc (gI l j) (gI l ((j-1) / 2))=false
structure OrdH (l:List IK) (i:Nat):Prop where
 a:∀j,j<l.length->0<j->j≠i->(j-1) / 2≠i->Bc (gI l j) (gI l ((j-1) / 2))=false
 c:0<i->∀j,j<l.length->0<j->(j-1) / 2=i->Bc (gI l j) (gI l ((i-1) / 2))=false
def Yz (l:List IK) (i:Nat) (x:IK):Prop:=∀j,j<l.length->0<j->(j-1) / 2=i->Bc (gI l j) x=false
def UpH (l:List IK) (i:Nat) (x:IK):Prop:=0<i->Bc x (gI l ((i-1) / 2))=false
theorem OrdH.fill {l:List IK} {i:Nat} {x:IK} (hi:i<l.length) (h:OrdH l i) (hl:Yz l i x) (hu:UpH l i x):OrdI (l.set i x):=by
 intro j hj h0;rw [Bj6] at hj;rw [Av hi,Av hi]
 by_cases e:j=i
 ·subst e
  rw [if_pos rfl,if_neg (by omega)];exact hu h0
 ·rw [if_neg e]
  by_cases e2:(j-1) / 2=i
  ·rw [if_pos e2]
   exact hl j hj h0 e2
  ·rw [if_neg e2]
   exact h.a j hj h0 e e2
theorem Ng:∀(i:Nat) (l:List IK) (p:List Int) (x:IK),Hole l p i x->OrdH l i->Yz l i x->
  Cons (Cx l p i x).1 (Cx l p i x).2/\OrdI (Cx l p i x).1/\(∀y,y∈(Cx l p i x).1↔Wa l i x y)/\(Cx l p i x).1.length=l.length/\(Cx l p i x).2.length=p.length:=by
 intro i
 induction i using Nat.strongRecOn with
 |_ i ih=>
  intro l p x h ho hl
  by_cases hs:0<i/\Bc x (gI l ((i-1) / 2))=true
  ·obtain ⟨h0,hs⟩:=hs
   have hu:(i-1) / 2<i:=by omega
   have hk:(i-1) / 2<l.length:=by have:=h.hi;omega
   obtain ⟨m1,m2⟩:=h.move hk (by omega);have hsi:=Jw.1 hs;have o1:OrdH (l.set i (gI l ((i-1) / 2))) ((i-1) / 2):=by
    refine ⟨?_,?_⟩
    ·intro j hj hj0 e1 e2
     rw [Bj6] at hj;rw [Av h.hi,Av h.hi]
     by_cases e:j=i
     ·subst e
      exact absurd rfl e2
     ·rw [if_neg e]
      by_cases e3:(j-1) / 2=i
      ·rw [if_pos e3]
       exact ho.c h0 j hj hj0 e3
      ·rw [if_neg e3]
       exact ho.a j hj hj0 e e3
    ·intro hu0 j hj hj0 e2
     rw [Bj6] at hj;rw [Av h.hi,Av h.hi,if_neg (show ((i-1) / 2-1) / 2≠i by omega)];have h1:=ho.a ((i-1) / 2) hk hu0 (by omega) (by omega)
     by_cases e:j=i
     ·rw [if_pos e]
      exact h1
     ·rw [if_neg e]
      have h2:=ho.a j hj hj0 e (by omega);rw [e2] at h2;rw [Bp] at h1 h2 ⊢;omega
   have l1:Yz (l.set i (gI l ((i-1) / 2))) ((i-1) / 2) x:=by
    intro j hj hj0 e2;rw [Bj6] at hj;rw [Av h.hi]
    by_cases e:j=i
    ·rw [if_pos e,Bp]
     omega
    ·rw [if_neg e]
     have h2:=ho.a j hj hj0 e (by omega);rw [e2] at h2;rw [Bp] at h2 ⊢;omega
   obtain ⟨r1,r2,r3,r4,r5⟩:=ih _ hu _ _ x m1 o1 l1;rw [Ws h0 hs];exact ⟨r1,r2,fun y=>(r3 y).trans (m2 y),by rw [r4,Bj6],by rw [r5,Bj6]⟩
  ·have he:i=0\/Bc x (gI l ((i-1) / 2))=false:=by
    by_cases h0:i=0
    ·exact .inl h0
    ·refine .inr ?_
     rw [<-Bool.not_eq_true];exact fun h=>hs ⟨by omega,h⟩
   rw [Nh he];obtain ⟨f1,f2⟩:=h.fill;refine ⟨f1,ho.fill h.hi hl ?_,f2,by rw [Bj6],by rw [Bj6]⟩;intro h0
   rcases he with he|he
   ·omega
   ·exact he
theorem Tv {l:List IK} {i:Nat} (j:Nat) (hj:j<l.length) (hj0:0<j) (e:(j-1) / 2=i):Ba l i<l.length/\Bc (gI l j) (gI l (Ba l i))=false:=by
 have hc:j=2*i+1\/j=2*i+1+1:=by omega
 unfold Ba
 split
 ·rename_i h
  refine ⟨h.1,?_⟩;have h2:=Jw.1 h.2
  rcases hc with rfl|rfl<;>rw [Bp]<;>omega
 ·rename_i h
  refine ⟨by omega,?_⟩
  rcases hc with rfl|rfl
  ·rw [Bp];omega
  ·rw [<-Bool.not_eq_true]
   exact fun h2=>h ⟨hj,h2⟩
theorem Tf:∀(n:Nat) (l:List IK) (p:List Int) (i:Nat) (x:IK),l.length-i=n->Hole l p i x->OrdH l i->
  (Cons (Bj l p i x).1 (Bj l p i x).2/\(∀y,y∈(Bj l p i x).1↔Wa l i x y)/\(Bj l p i x).1.length=l.length/\(Bj l p i x).2.length=p.length)/\
  ((Bj l p i x=(l.set i x,p.set x.1.toNat (i:Int))/\Yz l i x)\/(OrdI (Bj l p i x).1/\∃k,i<k/\gP (Bj l p i x).2 x.1.toNat=(k:Int)))/\
  (UpH l i x->OrdI (Bj l p i x).1)/\∃k,i<=k/\gP (Bj l p i x).2 x.1.toNat=(k:Int):=by
 intro n
 induction n using Nat.strongRecOn with
 |_ n ih=>
  intro l p i x hn h ho
  by_cases hs:Ba l i<l.length/\Bc (gI l (Ba l i)) x=true
  ·obtain ⟨h0,hs⟩:=hs
   have hb:=Ag1 l i;obtain ⟨m1,m2⟩:=h.move h0 (by omega);have hsi:=Jw.1 hs;have hpar:(Ba l i-1) / 2=i:=by omega
   have o1:OrdH (l.set i (gI l (Ba l i))) (Ba l i):=by
    refine ⟨?_,?_⟩
    ·intro j hj hj0 e1 e2
     rw [Bj6] at hj;rw [Av h.hi,Av h.hi]
     by_cases e:j=i
     ·subst e
      rw [if_pos rfl,if_neg (by omega)];exact ho.c hj0 _ h0 (by omega) hpar
     ·rw [if_neg e]
      by_cases e3:(j-1) / 2=i
      ·rw [if_pos e3]
       exact (Tv j hj hj0 e3).2
      ·rw [if_neg e3]
       exact ho.a j hj hj0 e e3
    ·intro hu0 j hj hj0 e2
     rw [Bj6] at hj;rw [Av h.hi,Av h.hi,if_neg (by omega),hpar,if_pos rfl];have:=ho.a j hj hj0 (by omega) (by omega);rw [e2] at this;exact this
   have u1:UpH (l.set i (gI l (Ba l i))) (Ba l i) x:=by
    intro _;rw [Av h.hi,hpar,if_pos rfl,Bp];omega
   obtain ⟨⟨r1,r2,r3,r4⟩,-,r6,k,r7,r8⟩:=ih _ (by rw [Bj6];have:=h.hi;omega) _ _ (Ba l i) x rfl m1 o1;rw [Lu h0 hs];have r6:=r6 u1;exact ⟨⟨r1,fun y=>(r2 y).trans (m2 y),by rw [r3,Bj6],by rw [r4,Bj6]⟩,.inr ⟨r6,k,by omega,r8⟩,fun _=>r6,k,by omega,r8⟩
  ·have he:l.length<=Ba l i\/Bc (gI l (Ba l i)) x=false:=by
    by_cases h0:l.length<=Ba l i
    ·exact .inl h0
    ·refine .inr ?_
     rw [<-Bool.not_eq_true];exact fun h=>hs ⟨by omega,h⟩
   rw [Gt he];obtain ⟨f1,f2⟩:=h.fill;have hl:Yz l i x:=by
    intro j hj hj0 e;obtain ⟨c1,c2⟩:=Tv j hj hj0 e
    rcases he with he|he
    ·omega
    ·rw [Bp] at c2 he ⊢
     omega
   refine ⟨⟨f1,f2,by rw [Bj6],by rw [Bj6]⟩,.inl ⟨rfl,hl⟩,fun hu=>ho.fill h.hi hl hu,i,Bi7 _,?_⟩
   show gP (p.set x.1.toNat (i:Int)) x.1.toNat=_
   rw [Dx h.hx.2,if_pos rfl]
structure HeapOK (l:List IK) (p:List Int):Prop where
 c:Cons l p
 o:OrdI l
theorem Cons.hole {l:List IK} {p:List Int} (h:Cons l p) {i:Nat} (hi:i<l.length) {x:IK} (hx:x.1=(gI l i).1):Hole l p i x:=by
 obtain ⟨a,b,c⟩:=h.pos i hi;refine ⟨hi,by rw [hx];exact ⟨a,b⟩,?_,?_⟩
 ·intro j hj hne
  obtain ⟨a',b',c'⟩:=h.pos j hj;refine ⟨a',b',c',?_⟩;intro e;rw [e,hx,c] at c';omega
 ·intro v hv hne
  rcases h.inv v hv with h1|⟨j,j1,j2,j3⟩
  ·exact .inl h1
  ·refine .inr ⟨j,j1,?_,j2,j3⟩
   rintro rfl;rw [hx,j3] at hne;exact hne rfl
theorem OrdI.hole {l:List IK} (h:OrdI l) (i:Nat):OrdH l i:=by
 refine ⟨fun j hj h0 _ _=>h j hj h0,?_⟩;intro hi j hj h0 e;have h1:=h j hj h0;rw [e] at h1;have h2:=h i (by omega) hi;rw [Bp] at h1 h2 ⊢;omega
theorem Cons.inj {l:List IK} {p:List Int} (h:Cons l p) {i j:Nat} (hi:i<l.length) (hj:j<l.length) (e:(gI l i).1=(gI l j).1):i=j:=by
 have h1:=(h.pos i hi).2.2;have h2:=(h.pos j hj).2.2;rw [e,h2] at h1;omega
theorem Cons.key {l:List IK} {p:List Int} (h:Cons l p) {v k k':Int} (h1:(v,k)∈l) (h2:(v,k')∈l):k=k':=by
 obtain ⟨i,hi,ei⟩:=Du.1 h1;obtain ⟨j,hj,ej⟩:=Du.1 h2;obtain rfl:=h.inj hi hj (by rw [ei,ej]);rw [ei] at ej;exact (Prod.mk.inj ej).2
theorem Cons.place {l:List IK} {p:List Int} (h:Cons l p) {v:Nat} (hv:v<p.length):(gP p v= -1/\∀k,((v:Int),k)∉l)\/∃i,i<l.length/\gP p v=(i:Int)/\(gI l i).1=(v:Int):=by
 rcases h.inv v hv with h1|h1
 ·refine .inl ⟨h1,?_⟩
  intro k hk;obtain ⟨i,hi,ei⟩:=Du.1 hk;have:=(h.pos i hi).2.2;rw [ei] at this;simp at this;omega
 ·exact .inr h1
def Bf (l:List IK) (p:List Int) (v:Nat) (key:Int):Bool×List IK×List Int:=
 if gP p v= -1 then (true,Cx (l++[((v:Int),key)]) p l.length ((v:Int),key))
 else if (gI l (gP p v).toNat).2<=key then (false,l,p)
 else (true,Cx l p (gP p v).toNat ((v:Int),key))
theorem Bl {l:List IK} {j:Nat} (h:j<l.length) (r:List IK):gI (l++r) j=gI l j:=by
 unfold gI;rw [Bj1,Bj1,Bm4 h]
theorem Dt {l:List IK} {p:List Int} (h:HeapOK l p) {v:Nat} (hv:v<p.length) (key:Int):
  HeapOK (Bf l p v key).2.1 (Bf l p v key).2.2/\(Bf l p v key).2.2.length=p.length/\
  ((Bf l p v key).1=true->∀y,y∈(Bf l p v key).2.1↔(y=((v:Int),key)\/(y∈l/\y.1≠(v:Int))))/\
  ((Bf l p v key).1=false->(Bf l p v key).2.1=l/\∃k,((v:Int),k)∈l/\k<=key)/\(Bf l p v key).2.1.length<=l.length+1:=by
 unfold Bf
 rcases h.c.place hv with ⟨h1,h2⟩|⟨i,hi,h1,h2⟩
 ·rw [if_pos h1]
  have hh:Hole (l++[((v:Int),key)]) p l.length ((v:Int),key):=by
   refine ⟨by simp,⟨by simp,by simpa using hv⟩,?_,?_⟩
   ·intro j hj hne
    have hj2:j<l.length:=by simp at hj;omega
    rw [Bl hj2];obtain ⟨a,b,c⟩:=h.c.pos j hj2;refine ⟨a,b,c,?_⟩;intro e
    apply h2 (gI l j).2
    have:((v:Int),(gI l j).2)=gI l j:=Prod.ext e.symm rfl;rw [this];exact Nr hj2
   ·intro u hu hne
    rcases h.c.inv u hu with h3|⟨j,j1,j2,j3⟩
    ·exact .inl h3
    ·exact .inr ⟨j,by simp;omega,by omega,j2,by rw [Bl j1];exact j3⟩
  have ho:OrdH (l++[((v:Int),key)]) l.length:=by
   refine ⟨?_,?_⟩
   ·intro j hj h0 e1 e2
    have hj2:j<l.length:=by simp at hj;omega
    rw [Bl hj2,Bl (by omega)];exact h.o j hj2 h0
   ·intro h0 j hj hj0 e
    simp at hj;omega
  have hl:Yz (l++[((v:Int),key)]) l.length ((v:Int),key):=by
   intro j hj hj0 e;simp at hj;omega
  obtain ⟨r1,r2,r3,r4,r5⟩:=Ng _ _ p _ hh ho hl;refine ⟨⟨r1,r2⟩,r5,?_,fun e=>(by cases e),by rw [r4];simp⟩;intro _ y
  show y∈(Cx _ _ _ _).1↔_
  rw [r3];constructor
  ·rintro (e|⟨j,hj,hne,e⟩)
   ·exact .inl e
   ·have hj2:j<l.length:=by simp at hj;omega
    rw [Bl hj2] at e;refine .inr ⟨e▸Nr hj2,?_⟩;intro e2
    apply h2 y.2
    have:((v:Int),y.2)=y:=Prod.ext e2.symm rfl;rw [this,<-e];exact Nr hj2
  ·rintro (e|⟨hm,hne⟩)
   ·exact .inl e
   ·obtain ⟨j,hj,e⟩:=Du.1 hm
    exact .inr ⟨j,by simp;omega,by omega,by rw [Bl hj];exact e⟩
 ·rw [if_neg (by omega),h1]
  have hin:(i:Int).toNat=i:=by omega
  rw [hin]
  split
  ·rename_i hk
   refine ⟨h,rfl,fun e=>(by cases e),fun _=>⟨rfl,(gI l i).2,?_,hk⟩,by simp⟩;have:((v:Int),(gI l i).2)=gI l i:=Prod.ext h2.symm rfl;rw [this];exact Nr hi
  ·rename_i hk
   have hh:Hole l p i ((v:Int),key):=h.c.hole hi h2.symm;have hl:Yz l i ((v:Int),key):=by
    intro j hj hj0 e;have:=h.o j hj hj0;rw [e] at this;rw [Bp] at this ⊢;simp only;omega
   obtain ⟨r1,r2,r3,r4,r5⟩:=Ng _ _ p _ hh (h.o.hole i) hl;refine ⟨⟨r1,r2⟩,r5,?_,fun e=>(by cases e),by rw [r4];simp⟩;intro _ y
   show y∈(Cx _ _ _ _).1↔_
   rw [r3];constructor
   ·rintro (e|⟨j,hj,hne,e⟩)
    ·exact .inl e
    ·refine .inr ⟨e▸Nr hj,?_⟩
     rw [<-e];exact (hh.pos j hj hne).2.2.2
   ·rintro (e|⟨hm,hne⟩)
    ·exact .inl e
    ·obtain ⟨j,hj,e⟩:=Du.1 hm
     refine .inr ⟨j,hj,?_,e⟩;rintro rfl;rw [<-e] at hne;exact hne h2
def Az (l:List IK) (p:List Int) (v i:Nat):List IK×List Int:=
 if i=l.length-1 then (l.take (l.length-1),p.set v (-1))
 else if gP (Bj (l.take (l.length-1)) (p.set v (-1)) i (gI l (l.length-1))).2 (gI l (l.length-1)).1.toNat=(i:Int) then
  Cx (Bj (l.take (l.length-1)) (p.set v (-1)) i (gI l (l.length-1))).1 (Bj (l.take (l.length-1)) (p.set v (-1)) i (gI l (l.length-1))).2 i (gI l (l.length-1))
 else Bj (l.take (l.length-1)) (p.set v (-1)) i (gI l (l.length-1))
theorem Cj {l:List IK} {j n:Nat} (h:j<n):gI (l.take n) j=gI l j:=by
 unfold gI;rw [Bj1,Bj1,List.getElem?_take,if_pos h]
theorem Ao0 {l:List IK} {p:List Int} (h:HeapOK l p) {v i:Nat} (hv:v<p.length) (hi:i<l.length) (hp:gP p v=(i:Int)) (hg:(gI l i).1=(v:Int)) (hl:¬i=l.length-1):
  Hole (l.take (l.length-1)) (p.set v (-1)) i (gI l (l.length-1)):=by
 have hlt:(l.take (l.length-1)).length=l.length-1:=by simp
 have hv0:∀j,j<l.length->j≠i->(gI l j).1≠(v:Int):=fun j hj hne e=>hne (h.c.inj hj hi (by rw [e,hg]));have hi2:i<l.length-1:=by omega
 obtain ⟨xa,xb,xc⟩:=h.c.pos (l.length-1) (by omega);refine ⟨by rw [hlt];exact hi2,by rw [Bj6];exact ⟨xa,xb⟩,?_,?_⟩
 ·intro j hj hne
  rw [hlt] at hj;rw [Cj hj,Bj6];obtain ⟨a,b,c⟩:=h.c.pos j (by omega);refine ⟨a,b,?_,?_⟩
  ·rw [Dx hv,if_neg]
   ·exact c
   ·have:=hv0 j (by omega) hne
    omega
  ·intro e
   have:=h.c.inj (i:=j) (j:=l.length-1) (by omega) (by omega) e;omega
 ·intro u hu hne
  rw [Bj6] at hu;rw [Dx hv]
  by_cases e:u=v
  ·rw [if_pos e]
   exact .inl rfl
  ·rw [if_neg e]
   rcases h.c.inv u hu with h1|⟨j,j1,j2,j3⟩
   ·exact .inl h1
   ·have hne2:j≠i:=by
     rintro rfl;omega
    have hne3:j≠l.length-1:=by
     rintro rfl;exact hne j3.symm
    exact .inr ⟨j,by rw [hlt];omega,hne2,j2,by rw [Cj (by omega)];exact j3⟩
theorem Ke {l:List IK} {p:List Int} (h:HeapOK l p) {v i:Nat} (hv:v<p.length) (hi:i<l.length) (hp:gP p v=(i:Int)) (hg:(gI l i).1=(v:Int)):
  HeapOK (Az l p v i).1 (Az l p v i).2/\(Az l p v i).2.length=p.length/\(Az l p v i).1.length=l.length-1/\∀y,y∈(Az l p v i).1↔y∈l/\y.1≠(v:Int):=by
 have hlt:(l.take (l.length-1)).length=l.length-1:=by simp
 have hord:∀j,j<l.length-1->0<j->Bc (gI (l.take (l.length-1)) j) (gI (l.take (l.length-1)) ((j-1) / 2))=false:=by
  intro j hj h0;rw [Cj hj,Cj (by omega)];exact h.o j (by omega) h0
 have hv0:∀j,j<l.length->j≠i->(gI l j).1≠(v:Int):=fun j hj hne e=>hne (h.c.inj hj hi (by rw [e,hg]));unfold Az
 by_cases hl:i=l.length-1
 ·rw [if_pos hl]
  refine ⟨⟨⟨?_,?_⟩,?_⟩,by simp,hlt,?_⟩
  ·intro j hj
   have hj:j<l.length-1:=by rw [<-hlt];exact hj
   show 0<=(gI (l.take (l.length-1)) j).1/\_
   rw [Cj hj,Bj6];obtain ⟨a,b,c⟩:=h.c.pos j (by omega);refine ⟨a,b,?_⟩;rw [Dx hv,if_neg]
   ·exact c
   ·have:=hv0 j (by omega) (by omega)
    omega
  ·intro u hu
   rw [Bj6] at hu;rw [Dx hv]
   by_cases e:u=v
   ·rw [if_pos e]
    exact .inl rfl
   ·rw [if_neg e]
    rcases h.c.inv u hu with h1|⟨j,j1,j2,j3⟩
    ·exact .inl h1
    ·have hne:j≠i:=by
      rintro rfl;omega
     refine .inr ⟨j,by show j<(l.take (l.length-1)).length;rw [hlt];omega,j2,?_⟩
     show (gI (l.take (l.length-1)) j).1=_
     rw [Cj (by omega)];exact j3
  ·intro j hj h0
   exact hord j (by rw [<-hlt];exact hj) h0
  ·intro y
   show y∈l.take (l.length-1)↔_
   rw [Du,Du,hlt];constructor
   ·rintro ⟨j,hj,e⟩
    rw [Cj hj] at e;exact ⟨⟨j,by omega,e⟩,by rw [<-e];exact hv0 j (by omega) (by omega)⟩
   ·rintro ⟨⟨j,hj,e⟩,hne⟩
    have:j≠i:=by
     rintro rfl;rw [<-e] at hne;exact hne hg
    exact ⟨j,by omega,by rw [Cj (by omega)];exact e⟩
 ·rw [if_neg hl]
  have hi2:i<l.length-1:=by omega
  obtain ⟨xa,xb,xc⟩:=h.c.pos (l.length-1) (by omega);have hxv:=hv0 (l.length-1) (by omega) (by omega);have hh:Hole (l.take (l.length-1)) (p.set v (-1)) i (gI l (l.length-1)):=by
   refine ⟨by rw [hlt];exact hi2,by rw [Bj6];exact ⟨xa,xb⟩,?_,?_⟩
   ·intro j hj hne
    rw [hlt] at hj;rw [Cj hj,Bj6];obtain ⟨a,b,c⟩:=h.c.pos j (by omega);refine ⟨a,b,?_,?_⟩
    ·rw [Dx hv,if_neg]
     ·exact c
     ·have:=hv0 j (by omega) hne
      omega
    ·intro e
     have:=h.c.inj (i:=j) (j:=l.length-1) (by omega) (by omega) e;omega
   ·intro u hu hne
    rw [Bj6] at hu;rw [Dx hv]
    by_cases e:u=v
    ·rw [if_pos e]
     exact .inl rfl
    ·rw [if_neg e]
     rcases h.c.inv u hu with h1|⟨j,j1,j2,j3⟩
     ·exact .inl h1
     ·have hne2:j≠i:=by
       rintro rfl;omega
      have hne3:j≠l.length-1:=by
       rintro rfl;exact hne j3.symm
      exact .inr ⟨j,by rw [hlt];omega,hne2,j2,by rw [Cj (by omega)];exact j3⟩
  have hoI:OrdI (l.take (l.length-1)):=fun j hj h0=>hord j (by rw [<-hlt];exact hj) h0;have hmem:∀y,Wa (l.take (l.length-1)) i (gI l (l.length-1)) y↔y∈l/\y.1≠(v:Int):=by
   intro y;unfold Wa;rw [Du,hlt];constructor
   ·rintro (e|⟨j,hj,hne,e⟩)
    ·exact ⟨⟨_,by omega,e.symm⟩,by rw [e];exact hxv⟩
    ·rw [Cj hj] at e
     exact ⟨⟨j,by omega,e⟩,by rw [<-e];exact hv0 j (by omega) hne⟩
   ·rintro ⟨⟨j,hj,e⟩,hne⟩
    have hji:j≠i:=by
     rintro rfl;rw [<-e] at hne;exact hne hg
    by_cases e2:j=l.length-1
    ·subst e2
     exact .inl e.symm
    ·exact .inr ⟨j,by omega,hji,by rw [Cj (by omega)];exact e⟩
  obtain ⟨⟨r1,r2,r3,r4⟩,r5,-,-⟩:=Tf _ _ _ i (gI l (l.length-1)) rfl hh (hoI.hole i)
  rcases r5 with ⟨e,hlow⟩|⟨ho,k,hk,hp2⟩
  ·have hset:gP (p.set v (-1) |>.set (gI l (l.length-1)).1.toNat (i:Int)) (gI l (l.length-1)).1.toNat=(i:Int):=by
    rw [Dx hh.hx.2,if_pos rfl]
   have hc:=r1;rw [e] at hc r2 r3 r4;rw [e]
   show HeapOK (if gP (p.set v (-1) |>.set _ _) _=_ then _ else _:List IK×List Int).1 _/\_
   rw [if_pos hset];have hgi:gI ((l.take (l.length-1)).set i (gI l (l.length-1))) i=gI l (l.length-1):=by rw [Av hh.hi,if_pos rfl]
   have hh2:Hole ((l.take (l.length-1)).set i (gI l (l.length-1))) (p.set v (-1) |>.set (gI l (l.length-1)).1.toNat (i:Int)) i (gI l (l.length-1)):=hc.hole (by rw [Bj6];exact hh.hi) (by rw [hgi]);have ho2:OrdH ((l.take (l.length-1)).set i (gI l (l.length-1))) i:=by
    have hH:=hoI.hole i;refine ⟨?_,?_⟩
    ·intro j hj h0 e1 e2
     rw [Bj6] at hj;rw [Av hh.hi,Av hh.hi,if_neg e1,if_neg e2];exact hH.a j hj h0 e1 e2
    ·intro h0 j hj hj0 e2
     rw [Bj6] at hj;rw [Av hh.hi,Av hh.hi,if_neg (by omega),if_neg (by omega)];exact hH.c h0 j hj hj0 e2
   have hl2:Yz ((l.take (l.length-1)).set i (gI l (l.length-1))) i (gI l (l.length-1)):=by
    intro j hj hj0 e2;rw [Bj6] at hj;rw [Av hh.hi,if_neg (by omega)];exact hlow j hj hj0 e2
   obtain ⟨s1,s2,s3,s4,s5⟩:=Ng _ _ _ _ hh2 ho2 hl2;refine ⟨⟨s1,s2⟩,?_,?_,?_⟩
   ·rw [s5];simp
   ·rw [s4];simp
   ·intro y
    refine (s3 y).trans (Iff.trans ?_ (hmem y));unfold Wa;rw [Bj6];constructor
    ·rintro (e3|⟨j,hj,hne,e3⟩)
     ·exact .inl e3
     ·rw [Av hh.hi,if_neg hne] at e3
      exact .inr ⟨j,hj,hne,e3⟩
    ·rintro (e3|⟨j,hj,hne,e3⟩)
     ·exact .inl e3
     ·exact .inr ⟨j,hj,hne,by rw [Av hh.hi,if_neg hne];exact e3⟩
  ·rw [if_neg (by rw [hp2];omega)]
   exact ⟨⟨r1,ho⟩,by rw [r4];simp,by rw [r3,hlt],fun y=>(r2 y).trans (hmem y)⟩
theorem OrdI.first {l:List IK} (h:OrdI l):∀j,j<l.length->Bc (gI l j) (gI l 0)=false:=by
 intro j
 induction j using Nat.strongRecOn with
 |_ j ih=>
  intro hj
  by_cases h0:j=0
  ·subst h0
   rw [Bp];omega
  ·have h1:=h j hj (by omega)
   have h2:=ih ((j-1) / 2) (by omega) (by omega);rw [Bp] at h1 h2 ⊢;omega
theorem HeapOK.least {l:List IK} {p:List Int} (h:HeapOK l p) {y:IK} (hy:y∈l):(gI l 0).2<=y.2:=by
 obtain ⟨j,hj,rfl⟩:=Du.1 hy;have:=h.o.first j hj;rw [Bp] at this;omega
theorem Gb (n:Nat):HeapOK [] (List.replicate n (-1)):=by
 refine ⟨⟨fun j hj=>absurd hj (by simp),?_⟩,fun j hj=>absurd hj (by simp)⟩;intro v hv;refine .inl ?_;unfold gP;rw [Bj1,Bm5]
 split<;>rfl
end Hp
end Go.Proofs.YteaaapdjplbljaaGreat
