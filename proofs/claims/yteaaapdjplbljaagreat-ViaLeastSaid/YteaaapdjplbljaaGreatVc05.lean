/- Parts; no condition. -/
import Derived.Test.YteaaapdjplbljaaGreatVc01
set_option linter.unusedVariables false
set_option linter.unusedSimpArgs false
set_option linter.unnecessarySimpa false
set_option maxRecDepth 100000
set_option maxHeartbeats 8000000
namespace Go.Proofs.YteaaapdjplbljaaGreat
section
namespace Ch
inductive Way (A:Int->Int->Int->Prop) (p:Int->Prop):Int->Int->Int->Prop
 |one {u v w:Int}:A u v w->Way A p u v w
 |cons {u m v w d:Int}:A u m w->p m->Way A p m v d->Way A p u v (w+d)
variable {A B:Int->Int->Int->Prop} {p q:Int->Prop} {u v m s t:Int} {d e:Int}
theorem Way.mono (hA:∀u v w,A u v w->B u v w) (hp:∀m,p m->q m) (h:Way A p u v d):Way B q u v d:=by
 induction h with
 |one h=>exact .one (hA _ _ _ h)
 |cons h1 h2 _ ih=>exact .cons (hA _ _ _ h1) (hp _ h2) ih
theorem Way.imp (hp:∀m,p m->q m) (h:Way A p u v d):Way A q u v d:=h.mono (fun _ _ _ h=>h) hp
theorem Way.trans (h:Way A p u m d) (hm:p m) (k:Way A p m v e):Way A p u v (d+e):=by
 induction h with
 |one h=>exact .cons h hm k
 |cons h1 h2 _ ih=>rw [Int.add_assoc];exact .cons h1 h2 (ih hm k)
theorem Way.snoc (h:Way A p u m d) (hm:p m) {w:Int} (k:A m v w):Way A p u v (d+w):=h.trans hm (.one k)
theorem Way.pos (hA:∀u v w,A u v w->1<=w) (h:Way A p u v d):1<=d:=by
 induction h with
 |one h=>exact hA _ _ _ h
 |cons h1 _ _ ih=>have:=hA _ _ _ h1;omega
def Pk (A:Int->Int->Int->Prop):Int->Int->Int->Prop:=fun u v w=>A v u w
theorem Way.turn (h:Way A p u v d):Way (Pk A) p v u d:=by
 induction h with
 |one h=>exact .one h
 |cons h1 h2 _ ih=>rw [Int.add_comm];exact ih.snoc h2 h1
def Way0 (A:Int->Int->Int->Prop) (p:Int->Prop) (u v d:Int):Prop:=(u=v/\d=0)\/Way A p u v d
theorem Way0.imp (hp:∀m,p m->q m) (h:Way0 A p u v d):Way0 A q u v d:=Or.imp id (Way.imp hp) h
theorem Way0.nonneg (hA:∀u v w,A u v w->1<=w) (h:Way0 A p u v d):0<=d:=by
 rcases h with ⟨_,rfl⟩|h
 ·exact Int.le_refl _
 ·have:=h.pos hA;omega
theorem Way0.trans (h:Way0 A p u m d) (hm:p m) (k:Way0 A p m v e):Way0 A p u v (d+e):=by
 rcases h with ⟨rfl,rfl⟩|h
 ·rw [Int.zero_add];exact k
 ·rcases k with ⟨rfl,rfl⟩|k
  ·rw [Int.add_zero];exact .inr h
  ·exact .inr (h.trans hm k)
theorem Way0.turn (h:Way0 A p u v d):Way0 (Pk A) p v u d:=by
 rcases h with ⟨rfl,rfl⟩|h
 ·exact .inl ⟨rfl,rfl⟩
 ·exact .inr h.turn
abbrev Any:Int->Prop:=fun _=>True
def Dist (A:Int->Int->Int->Prop) (u v d:Int):Prop:=Way0 A Any u v d/\∀e,Way0 A Any u v e->d<=e
theorem Dist.uniq (h:Dist A u v d) (k:Dist A u v e):d=e:=Int.le_antisymm (h.2 _ k.1) (k.2 _ h.1)
theorem Dist.self (hA:∀u v w,A u v w->1<=w) (u:Int):Dist A u u 0:=⟨.inl ⟨rfl,rfl⟩,fun _ h=>h.nonneg hA⟩
theorem Dist.turn (h:Dist A u v d):Dist (Pk A) v u d:=⟨h.1.turn,fun e k=>h.2 e k.turn⟩
theorem Dist.parts {a b:Int} (h:Dist A u v (a+b)) (h1:Way0 A Any u m a) (h2:Way0 A Any m v b):Dist A u m a/\Dist A m v b:=
 ⟨⟨h1,fun e k=>by have:=h.2 _ (k.trans trivial h2);omega⟩,⟨h2,fun e k=>by have:=h.2 _ (h1.trans trivial k);omega⟩⟩
theorem Way.top (r:Int->Int) (h:Way A p u v d):∃x a b,d=a+b/\Way A (fun m=>p m/\r m<r x) x v b/\((x=u/\a=0)\/(p x/\r u<=r x/\Way A (fun m=>p m/\r m<=r x) u x a)):=by
 induction h with
 |@one u v w h=>exact ⟨u,0,w,by omega,.one h,.inl ⟨rfl,rfl⟩⟩
 |@cons u m v w d h1 h2 h3 ih=>
  obtain ⟨x,a,b,rfl,hb,hx⟩:=ih
  by_cases hu:r x<r u
  ·refine ⟨u,0,w+(a+b),by omega,?_,.inl ⟨rfl,rfl⟩⟩
   have hb':Way A (fun m=>p m/\r m<r u) x v b:=hb.imp fun k hk=>⟨hk.1,by omega⟩
   rcases hx with ⟨rfl,rfl⟩|⟨px,hx1,hx2⟩
   ·rw [Int.zero_add]
    exact .cons h1 ⟨h2,hu⟩ hb'
   ·exact .cons h1 ⟨h2,by omega⟩ ((hx2.imp fun k hk=>⟨hk.1,by omega⟩).trans ⟨px,hu⟩ hb')
  ·refine ⟨x,w+a,b,by omega,hb,.inr ?_⟩
   rcases hx with ⟨rfl,rfl⟩|⟨px,hx1,hx2⟩
   ·rw [Int.add_zero]
    exact ⟨h2,by omega,.one h1⟩
   ·exact ⟨px,by omega,.cons h1 ⟨h2,by omega⟩ hx2⟩
structure Hier (A S:Int->Int->Int->Prop) (r:Int->Int) (N:Int->Prop):Prop where
 sound:∀u v w,S u v w->u≠v/\Way A (fun m=>r m<r u/\r m<r v) u v w
 full:∀u v w,u≠v->Dist A u v w->Way A (fun m=>r m<r u/\r m<r v) u v w->S u v w
 pos:∀u v w,A u v w->1<=w
 node:∀u v w,A u v w->N u/\N v
 inj:∀u v,N u->N v->r u=r v->u=v
theorem Way.nodes {N:Int->Prop} (hA:∀u v w,A u v w->N u/\N v) (h:Way A p u v d):N u/\N v:=by
 induction h with
 |one h=>exact hA _ _ _ h
 |cons h1 _ _ ih=>exact ⟨(hA _ _ _ h1).1,ih.2⟩
theorem Way.within {N:Int->Prop} (hA:∀u v w,A u v w->N u/\N v) (h:Way A p u v d):Way A (fun m=>p m/\N m) u v d:=by
 induction h with
 |one h=>exact .one h
 |cons h1 h2 _ ih=>exact .cons h1 ⟨h2,(hA _ _ _ h1).2⟩ ih
theorem Hier.turn {S:Int->Int->Int->Prop} {r:Int->Int} {N:Int->Prop} (h:Hier A S r N):Hier (Pk A) (Pk S) r N:=by
 refine ⟨?_,?_,fun u v w k=>h.pos _ _ _ k,fun u v w k=>(h.node _ _ _ k).symm,h.inj⟩
 ·intro u v w k
  obtain ⟨a,b⟩:=h.sound _ _ _ k;exact ⟨fun e=>a e.symm,b.turn.imp fun m hm=>⟨hm.2,hm.1⟩⟩
 ·intro u v w hne hd hw
  exact h.full _ _ _ (fun e=>hne e.symm) hd.turn (hw.turn.imp fun m hm=>⟨hm.2,hm.1⟩)
def Peak (A:Int->Int->Int->Prop) (r:Int->Int) (s v d:Int):Prop:=r s<=r v/\Dist A s v d/\Way0 A (fun m=>r m<=r v) s v d
theorem Peak.self (hA:∀u v w,A u v w->1<=w) (r:Int->Int) (s:Int):Peak A r s s 0:=⟨Int.le_refl _,.self hA s,.inl ⟨rfl,rfl⟩⟩
theorem Peak.step {S:Int->Int->Int->Prop} {r:Int->Int} {N:Int->Prop} (h:Hier A S r N) (hp:Peak A r s v d) (hne:s≠v):
  ∃x a b,d=a+b/\Peak A r s x a/\S x v b/\r x<r v/\N x/\1<=b:=by
 obtain ⟨hr,hd,hw⟩:=hp
 rcases hw with ⟨e,_⟩|hw
 ·exact absurd e hne
 obtain ⟨x,a,b,rfl,hb,hx⟩:=(hw.within h.node).top r;have hb1:1<=b:=hb.pos h.pos;have hbA:Way0 A Any x v b:=.inr (hb.imp fun _ _=>trivial);have hxA:Way0 A Any s x a:=by
  rcases hx with ⟨rfl,rfl⟩|⟨_,_,hx⟩
  ·exact .inl ⟨rfl,rfl⟩
  ·exact .inr (hx.imp fun _ _=>trivial)
 obtain ⟨d1,d2⟩:=hd.parts hxA hbA;have hNx:N x:=(hb.nodes h.node).1;have hNv:N v:=(hb.nodes h.node).2;have hxv:x≠v:=by
  rintro rfl;have:=hd.2 _ hxA;omega
 have hrx:r x<r v:=by
  have hle:r x<=r v:=by
   rcases hx with ⟨rfl,_⟩|⟨⟨hx,_⟩,_⟩
   ·exact hr
   ·exact hx
  have:r x≠r v:=fun e=>hxv (h.inj _ _ hNx hNv e);omega
 have hS:S x v b:=h.full _ _ _ hxv d2 (hb.imp fun m hm=>⟨hm.2,by omega⟩);refine ⟨x,a,b,rfl,⟨?_,d1,?_⟩,hS,hrx,hNx,hb1⟩
 ·rcases hx with ⟨rfl,_⟩|⟨_,hx,_⟩
  ·exact Int.le_refl _
  ·exact hx
 ·rcases hx with ⟨rfl,rfl⟩|⟨_,_,hx⟩
  ·exact .inl ⟨rfl,rfl⟩
  ·exact .inr (hx.imp fun m hm=>hm.2)
theorem Nk {S:Int->Int->Int->Prop} {r:Int->Int} {N:Int->Prop} (h:Hier A S r N) (hd:Dist A s t d):
  ∃x a b,d=a+b/\Peak A r s x a/\Peak (Pk A) r t x b:=by
 rcases hd.1 with ⟨rfl,rfl⟩|hw
 ·exact ⟨s,0,0,rfl,.self h.pos r s,.self h.turn.pos r s⟩
 obtain ⟨x,a,b,rfl,hb,hx⟩:=(hw.within h.node).top r
 by_cases ht:r x<r t
 ·refine ⟨t,a+b,0,by omega,⟨?_,hd,?_⟩,.self h.turn.pos r t⟩
  ·rcases hx with ⟨rfl,_⟩|⟨_,hx,_⟩<;>omega
  ·have hb2:Way A (fun m=>r m<=r t) x t b:=hb.imp fun m hm=>by have:=hm.2;omega
   rcases hx with ⟨rfl,rfl⟩|⟨_,_,hx⟩
   ·rw [Int.zero_add];exact .inr hb2
   ·exact .inr ((hx.imp fun m hm=>by have:=hm.2;omega).trans (by omega) hb2)
 ·have hbA:Way0 A Any x t b:=.inr (hb.imp fun _ _=>trivial)
  have hxA:Way0 A Any s x a:=by
   rcases hx with ⟨rfl,rfl⟩|⟨_,_,hx⟩
   ·exact .inl ⟨rfl,rfl⟩
   ·exact .inr (hx.imp fun _ _=>trivial)
  obtain ⟨d1,d2⟩:=hd.parts hxA hbA;refine ⟨x,a,b,rfl,⟨?_,d1,?_⟩,⟨by omega,d2.turn,?_⟩⟩
  ·rcases hx with ⟨rfl,_⟩|⟨_,hx,_⟩
   ·exact Int.le_refl _
   ·exact hx
  ·rcases hx with ⟨rfl,rfl⟩|⟨_,_,hx⟩
   ·exact .inl ⟨rfl,rfl⟩
   ·exact .inr (hx.imp fun m hm=>hm.2)
  ·exact .inr ((hb.imp fun m hm=>by have:=hm.2;omega).turn)
def rk (out:List Int) (v:Int):Int:=(out.idxOf v:Nat)
theorem Ar6 (out:List Int) (v:Int):rk out v<=out.length:=by
 unfold rk;have:=List.idxOf_le_length (a:=v) (l:=out);omega
theorem Gu {out:List Int} {v:Int}:rk out v<out.length↔v∈out:=by
 unfold rk;rw [Int.ofNat_lt,List.idxOf_lt_length_iff]
theorem Iv {out:List Int} {v:Int} (h:v∉out):rk out v=out.length:=by
 have h1:=Ar6 out v;have h2:¬rk out v<out.length:=fun k=>h (Gu.1 k);omega
theorem Th {out:List Int} {v z:Int} (h:v∈out):rk (out++[z]) v=rk out v:=by
 unfold rk;rw [List.idxOf_append,if_pos h]
theorem Iw {out:List Int} {z:Int} (h:z∉out):rk (out++[z]) z=out.length:=by
 unfold rk;rw [List.idxOf_append,if_neg h];simp
theorem Fy {out:List Int} {v z:Int} (h:v∉out) (hz:v≠z):rk (out++[z]) v=out.length+1:=by
 rw [Iv (by simp [h,hz])];simp
theorem Be4 {out:List Int} {u v:Int} (hu:u∈out) (h:rk out u=rk out v):u=v:=by
 have h1:=Gu.2 hu;have h2:v∈out:=Gu.1 (by omega);unfold rk at h;have h3:out.idxOf u=out.idxOf v:=by omega
 have e1:=List.getElem_idxOf (List.idxOf_lt_length_iff.2 hu);have e2:=List.getElem_idxOf (List.idxOf_lt_length_iff.2 h2);simp only [h3] at e1;exact e1.symm.trans e2
theorem Way.last (z:Int) (h:Way A p u v d):Way A (fun m=>p m/\m≠z) u v d\/∃a b,d=a+b/\p z/\Way A p u z a/\Way A (fun m=>p m/\m≠z) z v b:=by
 induction h with
 |one h=>exact .inl (.one h)
 |@cons u m v w d h1 h2 h3 ih=>
  rcases ih with h|⟨a,b,rfl,hz,ha,hb⟩
  ·by_cases e:m=z
   ·subst e
    exact .inr ⟨w,d,rfl,h2,.one h1,h⟩
   ·exact .inl (.cons h1 ⟨h2,e⟩ h)
  ·exact .inr ⟨w+a,b,by omega,hz,.cons h1 h2 ha,hb⟩
theorem Way.once (hA:∀u v w,A u v w->1<=w) (z:Int) (h:Way A p u v d) (hd:Dist A u v d):Way A (fun m=>p m/\m≠z) u v d\/∃a b,d=a+b/\p z/\Way A (fun m=>p m/\m≠z) u z a/\Way A (fun m=>p m/\m≠z) z v b:=by
 rcases h.last z with h|⟨a,b,rfl,hz,ha,hb⟩
 ·exact .inl h
 ·rcases ha.last z with ha|⟨a1,a2,rfl,_,ha1,ha2⟩
  ·exact .inr ⟨a,b,rfl,hz,ha,hb⟩
  ·have h2:=ha2.pos hA
   have:=hd.2 (a1+b) (.inr ((ha1.imp fun _ _=>trivial).trans trivial (hb.imp fun _ _=>trivial)));omega
structure Part (A S:Int->Int->Int->Prop) (out:List Int):Prop where
 sound:∀u v w,S u v w->u≠v/\Way A (fun m=>rk out m<rk out u/\rk out m<rk out v) u v w
 full:∀u v w,u≠v->Dist A u v w->Way A (fun m=>rk out m<rk out u/\rk out m<rk out v) u v w->S u v w
theorem Part.start {S:Int->Int->Int->Prop} (h1:∀u v w,S u v w->u≠v/\A u v w) (h2:∀u v w,u≠v->A u v w->Dist A u v w->S u v w):Part A S []:=by
 refine ⟨fun u v w h=>⟨(h1 _ _ _ h).1,.one (h1 _ _ _ h).2⟩,?_⟩;intro u v w hne hd hw;have hr:∀x,rk [] x=0:=fun x=>by simp [rk]
 cases hw with
 |one h=>exact h2 _ _ _ hne h hd
 |cons _ h _=>simp [hr] at h
theorem Part.go {S S':Int->Int->Int->Prop} {out:List Int} {z:Int} (hA:∀u v w,A u v w->1<=w) (h:Part A S out) (hz:z∉out)
  (hS:∀u v w,S u v w->S' u v w)
  (hnew:∀u v w,S' u v w->S u v w\/(u∉out/\v∉out/\u≠z/\v≠z/\u≠v/\∃a b,S u z a/\S z v b/\w=a+b))
  (hall:∀u v a b,u∉out->v∉out->u≠z->v≠z->u≠v->S u z a->S z v b->Dist A u v (a+b)->S' u v (a+b)):Part A S' (out++[z]):=by
 have hmono:∀m u,rk out m<rk out u->rk (out++[z]) m<rk (out++[z]) u:=by
  intro m u hm;have hm2:m∈out:=Gu.1 (by have:=Ar6 out u;omega);rw [Th hm2]
  by_cases hu:u∈out
  ·rw [Th hu];exact hm
  ·have:=Gu.2 hm2
   by_cases e:u=z
   ·subst e
    rw [Iw hz];exact this
   ·rw [Fy hu e]
    omega
 refine ⟨?_,?_⟩
 ·intro u v w k
  rcases hnew _ _ _ k with k|⟨h1,h2,h3,h4,h5,a,b,ka,kb,rfl⟩
  ·obtain ⟨a,b⟩:=h.sound _ _ _ k
   exact ⟨a,b.imp fun m hm=>⟨hmono _ _ hm.1,hmono _ _ hm.2⟩⟩
  ·refine ⟨h5,?_⟩
   rw [Fy h1 h3,Fy h2 h4];have hin:∀m,rk out m<rk out z->rk (out++[z]) m<out.length+1/\rk (out++[z]) m<out.length+1:=fun m hm=>by
    have:=hmono _ _ hm;rw [Iw hz] at this;omega
   exact ((h.sound _ _ _ ka).2.imp fun m hm=>hin m hm.2).trans (by rw [Iw hz];omega) ((h.sound _ _ _ kb).2.imp fun m hm=>hin m hm.1)
 ·intro u v w hne hd hw
  have old:(u∈out++[z]\/v∈out++[z])->S u v w:=by
   intro ho;refine h.full _ _ _ hne hd (hw.imp fun m hm=>?_);have hm2:m∈out:=by
    rcases ho with ho|ho
    ·have h1:rk (out++[z]) u<=out.length:=by have:=Gu.2 ho;simp at this;omega
     by_cases hmo:m∈out
     ·exact hmo
     ·by_cases e:m=z
      ·subst e;have:=Iw hz;omega
      ·have:=Fy hmo e;omega
    ·have h1:rk (out++[z]) v<=out.length:=by have:=Gu.2 ho;simp at this;omega
     by_cases hmo:m∈out
     ·exact hmo
     ·by_cases e:m=z
      ·subst e;have:=Iw hz;omega
      ·have:=Fy hmo e;omega
   have hlt:=Gu.2 hm2;have each:∀x,rk (out++[z]) m<rk (out++[z]) x->rk out m<rk out x:=by
    intro x hx
    by_cases hxo:x∈out
    ·rw [Th hm2,Th hxo] at hx
     exact hx
    ·rw [Iv hxo]
     exact hlt
   exact ⟨each _ hm.1,each _ hm.2⟩
  by_cases hu:u∈out++[z]
  ·exact hS _ _ _ (old (.inl hu))
  by_cases hv:v∈out++[z]
  ·exact hS _ _ _ (old (.inr hv))
  have hu1:u∉out:=fun k=>hu (by simp [k]);have hu2:u≠z:=fun k=>hu (by simp [k]);have hv1:v∉out:=fun k=>hv (by simp [k]);have hv2:v≠z:=fun k=>hv (by simp [k]);rw [Fy hu1 hu2,Fy hv1 hv2] at hw;have hin:∀m,rk (out++[z]) m<out.length+1/\m≠z->m∈out:=by
   rintro m ⟨hm,hmz⟩
   by_cases hmo:m∈out
   ·exact hmo
   ·have:=Fy hmo hmz;omega
  rcases hw.once hA z hd with hw|⟨a,b,rfl,_,ha,hb⟩
  ·refine hS _ _ _ (h.full _ _ _ hne hd (hw.imp fun m hm=>?_))
   rw [Iv hu1,Iv hv1];have:=Gu.2 (hin m ⟨hm.1.1,hm.2⟩);exact ⟨this,this⟩
  ·obtain ⟨d1,d2⟩:=hd.parts (.inr (ha.imp fun _ _=>trivial)) (.inr (hb.imp fun _ _=>trivial))
   refine hall _ _ _ _ hu1 hv1 hu2 hv2 hne (h.full _ _ _ hu2 d1 (ha.imp fun m hm=>?_)) (h.full _ _ _ (fun e=>hv2 e.symm) d2 (hb.imp fun m hm=>?_)) hd
   ·rw [Iv hu1,Iv hz]
    have:=Gu.2 (hin m ⟨hm.1.1,hm.2⟩);exact ⟨this,this⟩
   ·rw [Iv hv1,Iv hz]
    have:=Gu.2 (hin m ⟨hm.1.1,hm.2⟩);exact ⟨this,this⟩
theorem Part.hier {S:Int->Int->Int->Prop} {out:List Int} {N:Int->Prop} (h:Part A S out) (hA:∀u v w,A u v w->1<=w) (hN:∀u v w,A u v w->N u/\N v) (hall:∀v,N v->v∈out):Hier A S (rk out) N:=
 ⟨h.sound,h.full,hA,hN,fun _ _ hu _ e=>Be4 (hall _ hu) e⟩
end Ch
end
section
namespace Ch
structure Lab where
 v:Int
 d:Int
 b:Int
 deriving DecidableEq
abbrev Nums:=Int->Int->Int->Int->Prop
abbrev Nums.rel (X:Nums):Int->Int->Int->Prop:=fun u v w=>∃i,X i u v w
def upd {α:Type} (f:Int->α) (v:Int) (x:α):Int->α:=fun u=>if u=v then x else f u
theorem Aw {α:Type} (f:Int->α) (v:Int) (x:α):upd f v x v=x:=if_pos rfl
theorem Ar {α:Type} (f:Int->α) {v u:Int} (x:α) (h:u≠v):upd f v x u=f u:=if_neg h
structure Run (A:Int->Int->Int->Prop) (X:Nums) (r:Int->Int) (s:Int) (far:Int->Option Int) (by':Int->Int) (l:List (Int×Int)) (cur:Int) (out:List Lab) (done:Int->Int->Prop):Prop where
 sound:∀v d,far v=some d->Way0 A Any s v d
 start:far s=some 0
 heap:∀v k,(v,k)∈l->far v=some k/\cur<=k
 lab:∀a∈out,far a.v=some a.d/\a.d<=cur/\(∀k,(a.v,k)∉l)/\a.b=by' a.v
 rest:∀v d,far v=some d->(v,d)∈l\/((∃a∈out,a.v=v)\/∃e,Way0 A Any s v e/\e<d)/\d<=cur
 way:∀v d,far v=some d->(v=s/\d=0/\by' v= -1)\/∃x w,X (by' v) x v w/\r x<r v/\∃a∈out,a.v=x/\a.d+w=d
 gone:∀a∈out,∀i v w,done a.v i->X i a.v v w->r a.v<r v->∃e,far v=some e/\e<=a.d+w
 once:out.Pairwise (fun a b=>a.v≠b.v)
 low:0<=cur
variable {A:Int->Int->Int->Prop} {X:Nums} {r:Int->Int} {N:Int->Prop} {s:Int} {far:Int->Option Int} {by':Int->Int} {l:List (Int×Int)} {cur:Int} {out:List Lab} {done:Int->Int->Prop}
theorem Run.begin (s:Int) (by':Int->Int) (done:Int->Int->Prop):Run A X r s (upd (fun _=>none) s (some 0)) (upd by' s (-1)) [(s,0)] 0 [] done:=by
 refine ⟨?_,Aw _ _ _,?_,by simp,?_,?_,by simp,.nil,Int.le_refl _⟩
 ·intro v d h
  by_cases e:v=s
  ·subst e
   rw [Aw] at h
   cases h
   exact .inl ⟨rfl,rfl⟩
  ·rw [Ar _ _ e] at h
   cases h
 ·intro v k h
  simp at h;obtain ⟨rfl,rfl⟩:=h;exact ⟨Aw _ _ _,Int.le_refl _⟩
 ·intro v d h
  by_cases e:v=s
  ·subst e
   rw [Aw] at h
   cases h
   exact .inl (by simp)
  ·rw [Ar _ _ e] at h
   cases h
 ·intro v d h
  by_cases e:v=s
  ·subst e
   rw [Aw] at h
   cases h
   exact .inl ⟨rfl,rfl,Aw _ _ _⟩
  ·rw [Ar _ _ e] at h
   cases h
theorem Run.stall (h:Run A X r s far by' l cur out done) {v d:Int} {l':List (Int×Int)} (hin:(v,d)∈l) (hmin:∀y∈l,d<=y.2) (hl:∀y,y∈l'↔y∈l/\y.1≠v)
  {e:Int} (hw:Way0 A Any s v e) (he:e<d):Run A X r s far by' l' d out done:=by
 have hc:=(h.heap v d hin).2;refine ⟨h.sound,h.start,?_,?_,?_,h.way,h.gone,h.once,by have:=h.low;omega⟩
 ·intro u k hk
  have:=(hl _).1 hk;exact ⟨(h.heap u k this.1).1,hmin _ this.1⟩
 ·intro a ha
  obtain ⟨a1,a2,a3,a4⟩:=h.lab a ha;exact ⟨a1,by omega,fun k hk=>a3 k ((hl _).1 hk).1,a4⟩
 ·intro u k hk
  rcases h.rest u k hk with h1|⟨h1,h2⟩
  ·by_cases e2:u=v
   ·subst e2
    have hd:=(h.heap u d hin).1;rw [hk] at hd
    cases hd
    exact .inr ⟨.inr ⟨e,hw,he⟩,Int.le_refl _⟩
   ·exact .inl ((hl _).2 ⟨h1,e2⟩)
  ·exact .inr ⟨h1,by omega⟩
theorem Run.pop (h:Run A X r s far by' l cur out done) {v d:Int} {l':List (Int×Int)} (hin:(v,d)∈l) (hmin:∀y∈l,d<=y.2) (hl:∀y,y∈l'↔y∈l/\y.1≠v)
  (hdone:∀i,¬done v i):Run A X r s far by' l' d (out++[⟨v,d,by' v⟩]) done/\∀a∈out,a.v≠v:=by
 obtain ⟨hf,hc⟩:=h.heap v d hin;have hnew:∀a∈out,a.v≠v:=by
  intro a ha e;have:=(h.lab a ha).2.2.1 d;rw [e] at this;exact this hin
 refine ⟨⟨h.sound,h.start,?_,?_,?_,?_,?_,?_,by have:=h.low;omega⟩,hnew⟩
 ·intro u k hk
  have:=(hl _).1 hk;exact ⟨(h.heap u k this.1).1,hmin _ this.1⟩
 ·intro a ha
  rcases Bl8.1 ha with ha|ha
  ·obtain ⟨a1,a2,a3,a4⟩:=h.lab a ha
   exact ⟨a1,by omega,fun k hk=>a3 k ((hl _).1 hk).1,a4⟩
  ·rw [Bk2] at ha
   subst ha;exact ⟨hf,Int.le_refl _,fun k hk=>((hl _).1 hk).2 rfl,rfl⟩
 ·intro u k hk
  rcases h.rest u k hk with h1|⟨h1|h1,h2⟩
  ·by_cases e2:u=v
   ·subst e2
    rw [hk] at hf
    cases hf
    exact .inr ⟨.inl ⟨⟨u,d,by' u⟩,by simp,rfl⟩,Int.le_refl _⟩
   ·exact .inl ((hl _).2 ⟨h1,e2⟩)
  ·obtain ⟨a,ha,e⟩:=h1
   exact .inr ⟨.inl ⟨a,by simp [ha],e⟩,by omega⟩
  ·exact .inr ⟨.inr h1,by omega⟩
 ·intro u k hk
  rcases h.way u k hk with h1|⟨x,w,h1,h2,a,ha,h3⟩
  ·exact .inl h1
  ·exact .inr ⟨x,w,h1,h2,a,by simp [ha],h3⟩
 ·intro a ha i u w hd hx hr
  rcases Bl8.1 ha with ha|ha
  ·exact h.gone a ha i u w hd hx hr
  ·rw [Bk2] at ha
   subst ha;exact absurd hd (hdone i)
 ·rw [Bn5]
  refine ⟨h.once,by simp,?_⟩;intro a ha b hb;rw [Bk2] at hb;subst hb;exact hnew a ha
theorem Run.skip (h:Run A X r s far by' l cur out done) {a:Lab} (ha:a∈out) {i v w e:Int} (huniq:∀v' w',X i a.v v' w'->v'=v/\w'=w) (hfar:far v=some e) (he:e<=a.d+w):
  Run A X r s far by' l cur out (fun u j=>done u j\/(u=a.v/\j=i)):=by
 refine ⟨h.sound,h.start,h.heap,h.lab,h.rest,h.way,?_,h.once,h.low⟩;intro b hb j u x hd hx hr
 rcases hd with hd|⟨e1,rfl⟩
 ·exact h.gone b hb j u x hd hx hr
 ·have hba:b.d=a.d:=by
   have h1:=(h.lab b hb).1;rw [e1,(h.lab a ha).1] at h1;exact (Bl4 h1).symm
  rw [e1] at hx;obtain ⟨rfl,rfl⟩:=huniq _ _ hx;exact ⟨e,hfar,by omega⟩
theorem Run.reach (hsound:∀i u v w,X i u v w->Way A Any u v w/\1<=w) (h:Run A X r s far by' l cur out done) {a:Lab} (ha:a∈out) (hcur:a.d=cur) {i v w:Int} (hx:X i a.v v w) (hr:r a.v<r v)
  (huniq:∀v' w',X i a.v v' w'->v'=v/\w'=w) (hfar:∀e,far v=some e->a.d+w<e) {l':List (Int×Int)} (hl:∀y,y∈l'↔y=(v,a.d+w)\/(y∈l/\y.1≠v)):
  Run A X r s (upd far v (some (a.d+w))) (upd by' v i) l' cur out (fun u j=>done u j\/(u=a.v/\j=i)):=by
 obtain ⟨hw,hw1⟩:=hsound _ _ _ _ hx;have hlow:=h.low;have hav:Way0 A Any s v (a.d+w):=(h.sound _ _ (h.lab a ha).1).trans trivial (.inr hw);have hvo:∀b∈out,b.v≠v:=by
  intro b hb e;obtain ⟨b1,b2,_⟩:=h.lab b hb;rw [e] at b1;have:=hfar _ b1;omega
 have hvs:v≠s:=by
  intro e;have:=hfar 0 (by rw [e];exact h.start);omega
 refine ⟨?_,?_,?_,?_,?_,?_,?_,h.once,hlow⟩
 ·intro u d hd
  by_cases e:u=v
  ·subst e
   rw [Aw] at hd
   cases hd
   exact hav
  ·rw [Ar _ _ e] at hd
   exact h.sound _ _ hd
 ·rw [Ar _ _ (fun e=>hvs e.symm)]
  exact h.start
 ·intro u k hk
  rcases (hl _).1 hk with e|⟨h1,h2⟩
  ·cases e
   exact ⟨Aw _ _ _,by omega⟩
  ·rw [Ar _ _ h2]
   exact h.heap u k h1
 ·intro b hb
  obtain ⟨b1,b2,b3,b4⟩:=h.lab b hb;have hne:=hvo b hb;refine ⟨by rw [Ar _ _ hne];exact b1,b2,?_,by rw [Ar _ _ hne];exact b4⟩;intro k hk
  rcases (hl _).1 hk with e|⟨h1,h2⟩
  ·exact hne (Prod.mk.inj e).1
  ·exact b3 k h1
 ·intro u d hd
  by_cases e:u=v
  ·subst e
   rw [Aw] at hd
   cases hd
   exact .inl ((hl _).2 (.inl rfl))
  ·rw [Ar _ _ e] at hd
   rcases h.rest u d hd with h1|h1
   ·exact .inl ((hl _).2 (.inr ⟨h1,e⟩))
   ·exact .inr h1
 ·intro u d hd
  by_cases e:u=v
  ·subst e
   rw [Aw] at hd
   cases hd
   rw [Aw];exact .inr ⟨a.v,w,hx,hr,a,ha,rfl,rfl⟩
  ·rw [Ar _ _ e] at hd
   rw [Ar _ _ e];exact h.way u d hd
 ·intro b hb j u x hd hx2 hr2
  have key:∃e,far u=some e/\e<=b.d+x\/(u=v/\a.d+w<=b.d+x):=by
   rcases hd with hd|⟨e1,rfl⟩
   ·obtain ⟨e,h1,h2⟩:=h.gone b hb j u x hd hx2 hr2
    exact ⟨e,.inl ⟨h1,h2⟩⟩
   ·have hba:b.d=a.d:=by
     have h1:=(h.lab b hb).1;rw [e1,(h.lab a ha).1] at h1;exact (Bl4 h1).symm
    rw [e1] at hx2;obtain ⟨rfl,rfl⟩:=huniq _ _ hx2;exact ⟨0,.inr ⟨rfl,by omega⟩⟩
  obtain ⟨e,⟨h1,h2⟩|⟨rfl,h2⟩⟩:=key
  ·by_cases e2:u=v
   ·subst e2
    have:=hfar _ h1;exact ⟨_,Aw _ _ _,by omega⟩
   ·exact ⟨e,by rw [Ar _ _ e2];exact h1,h2⟩
  ·exact ⟨_,Aw _ _ _,h2⟩
structure Space (A:Int->Int->Int->Prop) (X:Nums) (r:Int->Int) (s:Int) (out:List Lab):Prop where
 once:out.Pairwise (fun a b=>a.v≠b.v)
 sound:∀a∈out,Way0 A Any s a.v a.d
 root:(⟨s,0,-1⟩:Lab)∈out
 way:∀a∈out,(a.v=s/\a.d=0/\a.b= -1)\/∃x w,X a.b x a.v w/\r x<r a.v/\∃b∈out,b.v=x/\b.d+w=a.d
 peaks:∀v d,Peak A r s v d->∃a∈out,a.v=v/\a.d=d
theorem Run.space (hH:Hier A X.rel r N) (h:Run A X r s far by' [] cur out done) (hall:∀a∈out,∀i,done a.v i) (hr0:∀v,0<=r v):Space A X r s out:=by
 have hpk:∀n v d,(r v).toNat=n->Peak A r s v d->∃a∈out,a.v=v/\a.d=d:=by
  intro n
  induction n using Nat.strongRecOn with
  |_ n ih=>
   intro v d hn hp;have final:far v=some d->∃a∈out,a.v=v/\a.d=d:=by
    intro hf
    rcases h.rest v d hf with h1|⟨⟨a,ha,e⟩|⟨e,h1,h2⟩,_⟩
    ·simp at h1
    ·refine ⟨a,ha,e,?_⟩
     have:=(h.lab a ha).1;rw [e,hf] at this;exact (Bl4 this).symm
    ·have:=hp.2.1.2 _ h1
     omega
   by_cases e:s=v
   ·subst e
    obtain rfl:=hp.2.1.uniq (.self hH.pos s);exact final h.start
   ·obtain ⟨x,a,b,rfl,h1,⟨i,h2⟩,h3,_,h4⟩:=hp.step hH e
    obtain ⟨c,hc,rfl,rfl⟩:=ih (r x).toNat (by have:=hr0 x;have:=hr0 v;omega) x a rfl h1;obtain ⟨k,hk,hk2⟩:=h.gone c hc i v b (hall c hc i) h2 h3;have:=hp.2.1.2 _ (h.sound _ _ hk);obtain rfl:k=c.d+b:=by omega
    exact final hk
 have hlab:∀a∈out,(a.v=s/\a.d=0/\a.b= -1)\/∃x w,X a.b x a.v w/\r x<r a.v/\∃b∈out,b.v=x/\b.d+w=a.d:=by
  intro a ha;obtain ⟨a1,_,_,a4⟩:=h.lab a ha;rw [a4];exact h.way _ _ a1
 refine ⟨h.once,fun a ha=>h.sound _ _ (h.lab a ha).1,?_,hlab,fun v d hp=>hpk _ v d rfl hp⟩;obtain ⟨a,ha,e1,e2⟩:=hpk _ s 0 rfl (.self hH.pos r s)
 rcases hlab a ha with ⟨_,_,e3⟩|⟨x,w,hx,h2,b,hb,_,e3⟩
 ·have:a=⟨s,0,-1⟩:=by cases a;simp_all
  exact this▸ha
 ·have h1:=(h.sound _ _ (h.lab b hb).1).nonneg hH.pos
  rw [e2] at e3;have h4:1<=w:=by
   exact (hH.sound _ _ _ ⟨_,hx⟩).2.pos hH.pos
  omega
end Ch
end
section
namespace Ch
variable {A:Int->Int->Int->Prop} {X:Nums} {r:Int->Int} {N:Int->Prop} {s t:Int} {out la lb:List Lab}
theorem Space.up (hH:Hier A X.rel r N) (h:Space A X r s out) (hr0:∀v,0<=r v):∀a∈out,r s<=r a.v/\Way0 A (fun m=>r m<=r a.v) s a.v a.d:=by
 have key:∀n,∀a∈out,(r a.v).toNat=n->r s<=r a.v/\Way0 A (fun m=>r m<=r a.v) s a.v a.d:=by
  intro n
  induction n using Nat.strongRecOn with
  |_ n ih=>
   intro a ha hn
   rcases h.way a ha with ⟨e1,e2,_⟩|⟨x,w,hx,hr,b,hb,rfl,e⟩
   ·rw [e1,e2]
    exact ⟨Int.le_refl _,.inl ⟨rfl,rfl⟩⟩
   ·obtain ⟨i1,i2⟩:=ih (r b.v).toNat (by have:=hr0 b.v;have:=hr0 a.v;omega) b hb rfl
    refine ⟨by omega,?_⟩;rw [<-e];exact (i2.imp fun m hm=>by omega).trans (by omega) (.inr ((hH.sound _ _ _ ⟨_,hx⟩).2.imp fun m hm=>by omega))
 exact fun a ha=>key _ a ha rfl
theorem Space.peak (hH:Hier A X.rel r N) (h:Space A X r s out) (hr0:∀v,0<=r v) {a:Lab} (ha:a∈out) (hd:Dist A s a.v a.d):Peak A r s a.v a.d:=by
 obtain ⟨h1,h2⟩:=h.up hH hr0 a ha;exact ⟨h1,hd,h2⟩
theorem Af6:∀{out:List Lab},out.Pairwise (fun a b=>a.v≠b.v)->∀{a b:Lab},a∈out->b∈out->a.v=b.v->a=b
 |[],_,a,b,ha,_,_=>by simp at ha
 |x::l,h,a,b,ha,hb,e=>by
  obtain ⟨h2,h3⟩:=List.pairwise_cons.1 h
  rcases Bl7.1 ha with h4|h4
  ·rcases Bl7.1 hb with h5|h5
   ·rw [h4,h5]
   ·rw [h4] at e
    exact absurd e (h2 b h5)
  ·rcases Bl7.1 hb with h5|h5
   ·rw [h5] at e
    exact absurd e.symm (h2 a h4)
   ·exact Af6 h3 h4 h5 e
theorem Space.fn (h:Space A X r s out) {a b:Lab} (ha:a∈out) (hb:b∈out) (e:a.v=b.v):a=b:=Af6 h.once ha hb e
theorem Space.both (hH:Hier A X.rel r N) {Y:Nums} (ha:Space A X r s la) (hb:Space (Pk A) Y r t lb):
  (∀a∈la,∀b∈lb,a.v=b.v->Way0 A Any s t (a.d+b.d))/\(∀d,Dist A s t d->∃a∈la,∃b∈lb,a.v=b.v/\a.d+b.d=d):=by
 refine ⟨?_,?_⟩
 ·intro a h1 b h2 e
  have h3:=ha.sound a h1;have h4:=(hb.sound b h2).turn;rw [e] at h3;exact h3.trans trivial h4
 ·intro d hd
  obtain ⟨x,p,q,rfl,h1,h2⟩:=Nk hH hd;obtain ⟨a,a1,a2,a3⟩:=ha.peaks _ _ h1;obtain ⟨b,b1,b2,b3⟩:=hb.peaks _ _ h2;exact ⟨a,a1,b,b1,by rw [a2,b2],by rw [a3,b3]⟩
inductive Chain (S:Int->Int->Int->Prop) (r:Int->Int):Int->Int->Int->Prop
 |none (u:Int):Chain S r u u 0
 |cons {u m v w d:Int}:S u m w->r u<r m->Chain S r m v d->Chain S r u v (w+d)
theorem Chain.snoc {S:Int->Int->Int->Prop} {u m v w d:Int} (h:Chain S r u m d) (h1:S m v w) (h2:r m<r v):Chain S r u v (d+w):=by
 induction h with
 |none u=>rw [Int.zero_add,<-Int.add_zero w];exact .cons h1 h2 (.none _)
 |cons a b _ ih=>rw [Int.add_assoc];exact .cons a b (ih h1 h2)
theorem Peak.chain (hH:Hier A X.rel r N) (hr0:∀v,0<=r v):∀{v d:Int},Peak A r s v d->Chain X.rel r s v d:=by
 have key:∀n v d,(r v).toNat=n->Peak A r s v d->Chain X.rel r s v d:=by
  intro n
  induction n using Nat.strongRecOn with
  |_ n ih=>
   intro v d hn hp
   by_cases e:s=v
   ·subst e
    obtain rfl:=hp.2.1.uniq (.self hH.pos s);exact .none _
   ·obtain ⟨x,a,b,rfl,h1,h2,h3,_,_⟩:=hp.step hH e
    exact (ih (r x).toNat (by have:=hr0 x;have:=hr0 v;omega) x a rfl h1).snoc h2 h3
 exact @fun v d hp=>key _ v d rfl hp
theorem Chain.way (hH:Hier A X.rel r N) {u v d:Int} (h:Chain X.rel r u v d):Way0 A Any u v d:=by
 induction h with
 |none u=>exact .inl ⟨rfl,rfl⟩
 |cons a _ _ ih=>exact Way0.trans (.inr ((hH.sound _ _ _ a).2.imp fun _ _=>trivial)) trivial ih
theorem Dist.down (hH:Hier A X.rel r N) (hr0:∀v,0<=r v) {v d:Int} (hd:Dist A s v d):Peak A r s v d\/∃y w,X.rel y v w/\r v<r y/\Dist A s y (d-w):=by
 obtain ⟨x,a,b,rfl,h1,h2⟩:=Nk hH hd;have hc:Chain (Pk X.rel) r v x b:=Peak.chain (X:=fun i u v w=>X i v u w) hH.turn hr0 h2;have hHt:Hier (Pk A) (Nums.rel fun i u v w=>X i v u w) r N:=hH.turn
 cases hc with
 |none=>exact .inl (by rw [Int.add_zero];exact h1)
 |@cons _ y _ w e k1 k2 k3=>
  refine .inr ⟨y,w,k1,k2,?_⟩;have h3:Way0 A Any x y e:=(Chain.way (X:=fun i u v w=>X i v u w) hHt k3).turn;have h4:Way0 A Any y v w:=.inr ((hH.sound _ _ _ k1).2.imp fun _ _=>trivial);have h5:Way0 A Any s y (a+e):=h1.2.1.1.trans trivial h3;rw [show a+(w+e)=(a+e)+w by omega] at hd;rw [show a+(w+e)-w=a+e by omega];exact (hd.parts h5 h4).1
theorem Fu (hA:∀u v w,A u v w->1<=w) {u v d:Int} (h:Way0 A Any u v d):∃e,Dist A u v e:=by
 have key:∀n d,d.toNat=n->Way0 A Any u v d->∃e,Dist A u v e:=by
  intro n
  induction n using Nat.strongRecOn with
  |_ n ih=>
   intro d hn h
   by_cases hl:∃e,Way0 A Any u v e/\e<d
   ·obtain ⟨e,h1,h2⟩:=hl
    exact ih e.toNat (by have:=h1.nonneg hA;omega) e rfl h1
   ·exact ⟨d,h,fun e k=>by
     have:¬e<d:=fun h2=>hl ⟨e,k,h2⟩;omega⟩
 exact key _ d rfl h
theorem Way.lastArc {p:Int->Prop} {u v d:Int} (h:Way A p u v d):∃m w,A m v w/\((m=u/\d=w)\/(p m/\Way A p u m (d-w))):=by
 induction h with
 |one h=>exact ⟨_,_,h,.inl ⟨rfl,rfl⟩⟩
 |@cons u m v w d h1 h2 h3 ih=>
  obtain ⟨x,y,a,b⟩:=ih;refine ⟨x,y,a,.inr ?_⟩
  rcases b with ⟨rfl,rfl⟩|⟨b1,b2⟩
  ·exact ⟨h2,by rw [show w+d-d=w by omega];exact .one h1⟩
  ·exact ⟨b1,by rw [show w+d-y=w+(d-y) by omega];exact .cons h1 h2 b2⟩
theorem Dist.pred {u v d:Int} (hd:Dist A u v d) (hne:u≠v):∃m w,A m v w/\Dist A u m (d-w):=by
 rcases hd.1 with ⟨e,_⟩|h
 ·exact absurd e hne
 obtain ⟨m,w,h1,h2⟩:=h.lastArc;refine ⟨m,w,h1,?_⟩;have h3:Way0 A Any u m (d-w):=by
  rcases h2 with ⟨rfl,rfl⟩|⟨_,h2⟩
  ·exact .inl ⟨rfl,by omega⟩
  ·exact .inr h2
 have hd2:Dist A u v (d-w+w):=by rw [show d-w+w=d by omega];exact hd
 exact (hd2.parts h3 (.inr (.one h1))).1
end Ch
end
end Go.Proofs.YteaaapdjplbljaaGreat
