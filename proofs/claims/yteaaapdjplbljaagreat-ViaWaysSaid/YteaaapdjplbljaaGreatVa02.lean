/- Parts; no condition. -/
import Derived.Test.YteaaapdjplbljaaGreatVa01
set_option linter.unusedVariables false
set_option linter.unusedSimpArgs false
set_option linter.unnecessarySimpa false
set_option maxRecDepth 100000
set_option maxHeartbeats 8000000
namespace Go.Proofs.YteaaapdjplbljaaGreat
section
namespace Ch
structure Lab where
 v:Int
 d:Int
 b:Int
 deriving DecidableEq
abbrev Nums:=Int->Int->Int->Int->Prop
abbrev Nums.rel (X:Nums):Int->Int->Int->Prop:=fun u v w=>∃i,X i u v w
def upd {α:Type} (f:Int->α) (v:Int) (x:α):Int->α:=fun u=>if u=v then x else f u
theorem Ax {α:Type} (f:Int->α) (v:Int) (x:α):upd f v x v=x:=if_pos rfl
theorem As {α:Type} (f:Int->α) {v u:Int} (x:α) (h:u≠v):upd f v x u=f u:=if_neg h
structure Run (A:Int->Int->Int->Prop) (X:Nums) (r:Int->Int) (s:Int) (far:Int->Option Int) (by':Int->Int) (l:List (Int×Int)) (cur:Int) (out:List Lab) (done:Int->Int->Prop):Prop where
 sound:∀v d,far v=some d->Way0 A Any s v d
 start:far s=some 0
 heap:∀v k,(v,k)∈l->far v=some k/\cur<=k
 lab:∀a∈out,far a.v=some a.d/\a.d<=cur/\(∀k,(a.v,k)∉l)/\a.b=by' a.v
 rest:∀v d,far v=some d->(v,d)∈l\/((∃a∈out,a.v=v)\/∃e,Way0 A Any s v e/\e<d)/\d<=cur
 way:∀v d,far v=some d->(v=s/\d=0/\by' v= -1)\/∃x w,X (by' v) x v w/\r x<r v/\∃a∈out,a.v=x/\a.d+w=d
 gone:∀a∈out,∀i v w,done a.v i->X i a.v v w->r a.v<r v->∃e,far v=some e/\e<=a.d+w
 once:out.Pairwise (fun a b=>a.v≠b.v)
 low:0<=cur
variable {A:Int->Int->Int->Prop} {X:Nums} {r:Int->Int} {N:Int->Prop} {s:Int} {far:Int->Option Int} {by':Int->Int} {l:List (Int×Int)} {cur:Int} {out:List Lab} {done:Int->Int->Prop}
theorem Run.begin (s:Int) (by':Int->Int) (done:Int->Int->Prop):Run A X r s (upd (fun _=>none) s (some 0)) (upd by' s (-1)) [(s,0)] 0 [] done:=by
 refine ⟨?_,Ax _ _ _,?_,by simp,?_,?_,by simp,.nil,Int.le_refl _⟩
 ·intro v d h
  by_cases e:v=s
  ·subst e
   rw [Ax] at h
   cases h
   exact .inl ⟨rfl,rfl⟩
  ·rw [As _ _ e] at h
   cases h
 ·intro v k h
  simp at h;obtain ⟨rfl,rfl⟩:=h;exact ⟨Ax _ _ _,Int.le_refl _⟩
 ·intro v d h
  by_cases e:v=s
  ·subst e
   rw [Ax] at h
   cases h
   exact .inl (by simp)
  ·rw [As _ _ e] at h
   cases h
 ·intro v d h
  by_cases e:v=s
  ·subst e
   rw [Ax] at h
   cases h
   exact .inl ⟨rfl,rfl,Ax _ _ _⟩
  ·rw [As _ _ e] at h
   cases h
theorem Run.stall (h:Run A X r s far by' l cur out done) {v d:Int} {l':List (Int×Int)} (hin:(v,d)∈l) (hmin:∀y∈l,d<=y.2) (hl:∀y,y∈l'↔y∈l/\y.1≠v)
  {e:Int} (hw:Way0 A Any s v e) (he:e<d):Run A X r s far by' l' d out done:=by
 have hc:=(h.heap v d hin).2;refine ⟨h.sound,h.start,?_,?_,?_,h.way,h.gone,h.once,by have:=h.low;omega⟩
 ·intro u k hk
  have:=(hl _).1 hk;exact ⟨(h.heap u k this.1).1,hmin _ this.1⟩
 ·intro a ha
  obtain ⟨a1,a2,a3,a4⟩:=h.lab a ha;exact ⟨a1,by omega,fun k hk=>a3 k ((hl _).1 hk).1,a4⟩
 ·intro u k hk
  rcases h.rest u k hk with h1|⟨h1,h2⟩
  ·by_cases e2:u=v
   ·subst e2
    have hd:=(h.heap u d hin).1;rw [hk] at hd
    cases hd
    exact .inr ⟨.inr ⟨e,hw,he⟩,Int.le_refl _⟩
   ·exact .inl ((hl _).2 ⟨h1,e2⟩)
  ·exact .inr ⟨h1,by omega⟩
theorem Run.pop (h:Run A X r s far by' l cur out done) {v d:Int} {l':List (Int×Int)} (hin:(v,d)∈l) (hmin:∀y∈l,d<=y.2) (hl:∀y,y∈l'↔y∈l/\y.1≠v)
  (hdone:∀i,¬done v i):Run A X r s far by' l' d (out++[⟨v,d,by' v⟩]) done/\∀a∈out,a.v≠v:=by
 obtain ⟨hf,hc⟩:=h.heap v d hin;have hnew:∀a∈out,a.v≠v:=by
  intro a ha e;have:=(h.lab a ha).2.2.1 d;rw [e] at this;exact this hin
 refine ⟨⟨h.sound,h.start,?_,?_,?_,?_,?_,?_,by have:=h.low;omega⟩,hnew⟩
 ·intro u k hk
  have:=(hl _).1 hk;exact ⟨(h.heap u k this.1).1,hmin _ this.1⟩
 ·intro a ha
  rcases Bm6.1 ha with ha|ha
  ·obtain ⟨a1,a2,a3,a4⟩:=h.lab a ha
   exact ⟨a1,by omega,fun k hk=>a3 k ((hl _).1 hk).1,a4⟩
  ·rw [Bl0] at ha
   subst ha;exact ⟨hf,Int.le_refl _,fun k hk=>((hl _).1 hk).2 rfl,rfl⟩
 ·intro u k hk
  rcases h.rest u k hk with h1|⟨h1|h1,h2⟩
  ·by_cases e2:u=v
   ·subst e2
    rw [hk] at hf
    cases hf
    exact .inr ⟨.inl ⟨⟨u,d,by' u⟩,by simp,rfl⟩,Int.le_refl _⟩
   ·exact .inl ((hl _).2 ⟨h1,e2⟩)
  ·obtain ⟨a,ha,e⟩:=h1
   exact .inr ⟨.inl ⟨a,by simp [ha],e⟩,by omega⟩
  ·exact .inr ⟨.inr h1,by omega⟩
 ·intro u k hk
  rcases h.way u k hk with h1|⟨x,w,h1,h2,a,ha,h3⟩
  ·exact .inl h1
  ·exact .inr ⟨x,w,h1,h2,a,by simp [ha],h3⟩
 ·intro a ha i u w hd hx hr
  rcases Bm6.1 ha with ha|ha
  ·exact h.gone a ha i u w hd hx hr
  ·rw [Bl0] at ha
   subst ha;exact absurd hd (hdone i)
 ·rw [Bo3]
  refine ⟨h.once,by simp,?_⟩;intro a ha b hb;rw [Bl0] at hb;subst hb;exact hnew a ha
theorem Run.skip (h:Run A X r s far by' l cur out done) {a:Lab} (ha:a∈out) {i v w e:Int} (huniq:∀v' w',X i a.v v' w'->v'=v/\w'=w) (hfar:far v=some e) (he:e<=a.d+w):
  Run A X r s far by' l cur out (fun u j=>done u j\/(u=a.v/\j=i)):=by
 refine ⟨h.sound,h.start,h.heap,h.lab,h.rest,h.way,?_,h.once,h.low⟩;intro b hb j u x hd hx hr
 rcases hd with hd|⟨e1,rfl⟩
 ·exact h.gone b hb j u x hd hx hr
 ·have hba:b.d=a.d:=by
   have h1:=(h.lab b hb).1;rw [e1,(h.lab a ha).1] at h1;exact (Bm2 h1).symm
  rw [e1] at hx;obtain ⟨rfl,rfl⟩:=huniq _ _ hx;exact ⟨e,hfar,by omega⟩
theorem Run.reach (hsound:∀i u v w,X i u v w->Way A Any u v w/\1<=w) (h:Run A X r s far by' l cur out done) {a:Lab} (ha:a∈out) (hcur:a.d=cur) {i v w:Int} (hx:X i a.v v w) (hr:r a.v<r v)
  (huniq:∀v' w',X i a.v v' w'->v'=v/\w'=w) (hfar:∀e,far v=some e->a.d+w<e) {l':List (Int×Int)} (hl:∀y,y∈l'↔y=(v,a.d+w)\/(y∈l/\y.1≠v)):
  Run A X r s (upd far v (some (a.d+w))) (upd by' v i) l' cur out (fun u j=>done u j\/(u=a.v/\j=i)):=by
 obtain ⟨hw,hw1⟩:=hsound _ _ _ _ hx;have hlow:=h.low;have hav:Way0 A Any s v (a.d+w):=(h.sound _ _ (h.lab a ha).1).trans trivial (.inr hw);have hvo:∀b∈out,b.v≠v:=by
  intro b hb e;obtain ⟨b1,b2,_⟩:=h.lab b hb;rw [e] at b1;have:=hfar _ b1;omega
 have hvs:v≠s:=by
  intro e;have:=hfar 0 (by rw [e];exact h.start);omega
 refine ⟨?_,?_,?_,?_,?_,?_,?_,h.once,hlow⟩
 ·intro u d hd
  by_cases e:u=v
  ·subst e
   rw [Ax] at hd
   cases hd
   exact hav
  ·rw [As _ _ e] at hd
   exact h.sound _ _ hd
 ·rw [As _ _ (fun e=>hvs e.symm)]
  exact h.start
 ·intro u k hk
  rcases (hl _).1 hk with e|⟨h1,h2⟩
  ·cases e
   exact ⟨Ax _ _ _,by omega⟩
  ·rw [As _ _ h2]
   exact h.heap u k h1
 ·intro b hb
  obtain ⟨b1,b2,b3,b4⟩:=h.lab b hb;have hne:=hvo b hb;refine ⟨by rw [As _ _ hne];exact b1,b2,?_,by rw [As _ _ hne];exact b4⟩;intro k hk
  rcases (hl _).1 hk with e|⟨h1,h2⟩
  ·exact hne (Prod.mk.inj e).1
  ·exact b3 k h1
 ·intro u d hd
  by_cases e:u=v
  ·subst e
   rw [Ax] at hd
   cases hd
   exact .inl ((hl _).2 (.inl rfl))
  ·rw [As _ _ e] at hd
   rcases h.rest u d hd with h1|h1
   ·exact .inl ((hl _).2 (.inr ⟨h1,e⟩))
   ·exact .inr h1
 ·intro u d hd
  by_cases e:u=v
  ·subst e
   rw [Ax] at hd
   cases hd
   rw [Ax];exact .inr ⟨a.v,w,hx,hr,a,ha,rfl,rfl⟩
  ·rw [As _ _ e] at hd
   rw [As _ _ e];exact h.way u d hd
 ·intro b hb j u x hd hx2 hr2
  have key:∃e,far u=some e/\e<=b.d+x\/(u=v/\a.d+w<=b.d+x):=by
   rcases hd with hd|⟨e1,rfl⟩
   ·obtain ⟨e,h1,h2⟩:=h.gone b hb j u x hd hx2 hr2
    exact ⟨e,.inl ⟨h1,h2⟩⟩
   ·have hba:b.d=a.d:=by
     have h1:=(h.lab b hb).1;rw [e1,(h.lab a ha).1] at h1;exact (Bm2 h1).symm
    rw [e1] at hx2;obtain ⟨rfl,rfl⟩:=huniq _ _ hx2;exact ⟨0,.inr ⟨rfl,by omega⟩⟩
  obtain ⟨e,⟨h1,h2⟩|⟨rfl,h2⟩⟩:=key
  ·by_cases e2:u=v
   ·subst e2
    have:=hfar _ h1;exact ⟨_,Ax _ _ _,by omega⟩
   ·exact ⟨e,by rw [As _ _ e2];exact h1,h2⟩
  ·exact ⟨_,Ax _ _ _,h2⟩
structure Space (A:Int->Int->Int->Prop) (X:Nums) (r:Int->Int) (s:Int) (out:List Lab):Prop where
 once:out.Pairwise (fun a b=>a.v≠b.v)
 sound:∀a∈out,Way0 A Any s a.v a.d
 root:(⟨s,0,-1⟩:Lab)∈out
 way:∀a∈out,(a.v=s/\a.d=0/\a.b= -1)\/∃x w,X a.b x a.v w/\r x<r a.v/\∃b∈out,b.v=x/\b.d+w=a.d
 peaks:∀v d,Peak A r s v d->∃a∈out,a.v=v/\a.d=d
theorem Run.space (hH:Hier A X.rel r N) (h:Run A X r s far by' [] cur out done) (hall:∀a∈out,∀i,done a.v i) (hr0:∀v,0<=r v):Space A X r s out:=by
 have hpk:∀n v d,(r v).toNat=n->Peak A r s v d->∃a∈out,a.v=v/\a.d=d:=by
  intro n
  induction n using Nat.strongRecOn with
  |_ n ih=>
   intro v d hn hp;have final:far v=some d->∃a∈out,a.v=v/\a.d=d:=by
    intro hf
    rcases h.rest v d hf with h1|⟨⟨a,ha,e⟩|⟨e,h1,h2⟩,_⟩
    ·simp at h1
    ·refine ⟨a,ha,e,?_⟩
     have:=(h.lab a ha).1;rw [e,hf] at this;exact (Bm2 this).symm
    ·have:=hp.2.1.2 _ h1
     omega
   by_cases e:s=v
   ·subst e
    obtain rfl:=hp.2.1.uniq (.self hH.pos s);exact final h.start
   ·obtain ⟨x,a,b,rfl,h1,⟨i,h2⟩,h3,_,h4⟩:=hp.step hH e
    obtain ⟨c,hc,rfl,rfl⟩:=ih (r x).toNat (by have:=hr0 x;have:=hr0 v;omega) x a rfl h1;obtain ⟨k,hk,hk2⟩:=h.gone c hc i v b (hall c hc i) h2 h3;have:=hp.2.1.2 _ (h.sound _ _ hk);obtain rfl:k=c.d+b:=by omega
    exact final hk
 have hlab:∀a∈out,(a.v=s/\a.d=0/\a.b= -1)\/∃x w,X a.b x a.v w/\r x<r a.v/\∃b∈out,b.v=x/\b.d+w=a.d:=by
  intro a ha;obtain ⟨a1,_,_,a4⟩:=h.lab a ha;rw [a4];exact h.way _ _ a1
 refine ⟨h.once,fun a ha=>h.sound _ _ (h.lab a ha).1,?_,hlab,fun v d hp=>hpk _ v d rfl hp⟩;obtain ⟨a,ha,e1,e2⟩:=hpk _ s 0 rfl (.self hH.pos r s)
 rcases hlab a ha with ⟨_,_,e3⟩|⟨x,w,hx,h2,b,hb,_,e3⟩
 ·have:a=⟨s,0,-1⟩:=by cases a;simp_all
  exact this▸ha
 ·have h1:=(h.sound _ _ (h.lab b hb).1).nonneg hH.pos
  rw [e2] at e3;have h4:1<=w:=by
   exact (hH.sound _ _ _ ⟨_,hx⟩).2.pos hH.pos
  omega
end Ch
end
section
namespace Ch
variable {A:Int->Int->Int->Prop} {X:Nums} {r:Int->Int} {N:Int->Prop} {s t:Int} {out la lb:List Lab}
theorem Space.up (hH:Hier A X.rel r N) (h:Space A X r s out) (hr0:∀v,0<=r v):∀a∈out,r s<=r a.v/\Way0 A (fun m=>r m<=r a.v) s a.v a.d:=by
 have key:∀n,∀a∈out,(r a.v).toNat=n->r s<=r a.v/\Way0 A (fun m=>r m<=r a.v) s a.v a.d:=by
  intro n
  induction n using Nat.strongRecOn with
  |_ n ih=>
   intro a ha hn
   rcases h.way a ha with ⟨e1,e2,_⟩|⟨x,w,hx,hr,b,hb,rfl,e⟩
   ·rw [e1,e2]
    exact ⟨Int.le_refl _,.inl ⟨rfl,rfl⟩⟩
   ·obtain ⟨i1,i2⟩:=ih (r b.v).toNat (by have:=hr0 b.v;have:=hr0 a.v;omega) b hb rfl
    refine ⟨by omega,?_⟩;rw [<-e];exact (i2.imp fun m hm=>by omega).trans (by omega) (.inr ((hH.sound _ _ _ ⟨_,hx⟩).2.imp fun m hm=>by omega))
 exact fun a ha=>key _ a ha rfl
theorem Space.peak (hH:Hier A X.rel r N) (h:Space A X r s out) (hr0:∀v,0<=r v) {a:Lab} (ha:a∈out) (hd:Dist A s a.v a.d):Peak A r s a.v a.d:=by
 obtain ⟨h1,h2⟩:=h.up hH hr0 a ha;exact ⟨h1,hd,h2⟩
theorem Ah7:∀{out:List Lab},out.Pairwise (fun a b=>a.v≠b.v)->∀{a b:Lab},a∈out->b∈out->a.v=b.v->a=b
 |[],_,a,b,ha,_,_=>by simp at ha
 |x::l,h,a,b,ha,hb,e=>by
  obtain ⟨h2,h3⟩:=List.pairwise_cons.1 h
  rcases Bm5.1 ha with h4|h4
  ·rcases Bm5.1 hb with h5|h5
   ·rw [h4,h5]
   ·rw [h4] at e
    exact absurd e (h2 b h5)
  ·rcases Bm5.1 hb with h5|h5
   ·rw [h5] at e
    exact absurd e.symm (h2 a h4)
   ·exact Ah7 h3 h4 h5 e
theorem Space.fn (h:Space A X r s out) {a b:Lab} (ha:a∈out) (hb:b∈out) (e:a.v=b.v):a=b:=Ah7 h.once ha hb e
theorem Space.both (hH:Hier A X.rel r N) {Y:Nums} (ha:Space A X r s la) (hb:Space (Pv A) Y r t lb):
  (∀a∈la,∀b∈lb,a.v=b.v->Way0 A Any s t (a.d+b.d))/\(∀d,Dist A s t d->∃a∈la,∃b∈lb,a.v=b.v/\a.d+b.d=d):=by
 refine ⟨?_,?_⟩
 ·intro a h1 b h2 e
  have h3:=ha.sound a h1;have h4:=(hb.sound b h2).turn;rw [e] at h3;exact h3.trans trivial h4
 ·intro d hd
  obtain ⟨x,p,q,rfl,h1,h2⟩:=Um hH hd;obtain ⟨a,a1,a2,a3⟩:=ha.peaks _ _ h1;obtain ⟨b,b1,b2,b3⟩:=hb.peaks _ _ h2;exact ⟨a,a1,b,b1,by rw [a2,b2],by rw [a3,b3]⟩
inductive Chain (S:Int->Int->Int->Prop) (r:Int->Int):Int->Int->Int->Prop
 |none (u:Int):Chain S r u u 0
 |cons {u m v w d:Int}:S u m w->r u<r m->Chain S r m v d->Chain S r u v (w+d)
theorem Chain.snoc {S:Int->Int->Int->Prop} {u m v w d:Int} (h:Chain S r u m d) (h1:S m v w) (h2:r m<r v):Chain S r u v (d+w):=by
 induction h with
 |none u=>rw [Int.zero_add,<-Int.add_zero w];exact .cons h1 h2 (.none _)
 |cons a b _ ih=>rw [Int.add_assoc];exact .cons a b (ih h1 h2)
theorem Peak.chain (hH:Hier A X.rel r N) (hr0:∀v,0<=r v):∀{v d:Int},Peak A r s v d->Chain X.rel r s v d:=by
 have key:∀n v d,(r v).toNat=n->Peak A r s v d->Chain X.rel r s v d:=by
  intro n
  induction n using Nat.strongRecOn with
  |_ n ih=>
   intro v d hn hp
   by_cases e:s=v
   ·subst e
    obtain rfl:=hp.2.1.uniq (.self hH.pos s);exact .none _
   ·obtain ⟨x,a,b,rfl,h1,h2,h3,_,_⟩:=hp.step hH e
    exact (ih (r x).toNat (by have:=hr0 x;have:=hr0 v;omega) x a rfl h1).snoc h2 h3
 exact @fun v d hp=>key _ v d rfl hp
theorem Chain.way (hH:Hier A X.rel r N) {u v d:Int} (h:Chain X.rel r u v d):Way0 A Any u v d:=by
 induction h with
 |none u=>exact .inl ⟨rfl,rfl⟩
 |cons a _ _ ih=>exact Way0.trans (.inr ((hH.sound _ _ _ a).2.imp fun _ _=>trivial)) trivial ih
theorem Dist.down (hH:Hier A X.rel r N) (hr0:∀v,0<=r v) {v d:Int} (hd:Dist A s v d):Peak A r s v d\/∃y w,X.rel y v w/\r v<r y/\Dist A s y (d-w):=by
 obtain ⟨x,a,b,rfl,h1,h2⟩:=Um hH hd;have hc:Chain (Pv X.rel) r v x b:=Peak.chain (X:=fun i u v w=>X i v u w) hH.turn hr0 h2;have hHt:Hier (Pv A) (Nums.rel fun i u v w=>X i v u w) r N:=hH.turn
 cases hc with
 |none=>exact .inl (by rw [Int.add_zero];exact h1)
 |@cons _ y _ w e k1 k2 k3=>
  refine .inr ⟨y,w,k1,k2,?_⟩;have h3:Way0 A Any x y e:=(Chain.way (X:=fun i u v w=>X i v u w) hHt k3).turn;have h4:Way0 A Any y v w:=.inr ((hH.sound _ _ _ k1).2.imp fun _ _=>trivial);have h5:Way0 A Any s y (a+e):=h1.2.1.1.trans trivial h3;rw [show a+(w+e)=(a+e)+w by omega] at hd;rw [show a+(w+e)-w=a+e by omega];exact (hd.parts h5 h4).1
theorem Fz (hA:∀u v w,A u v w->1<=w) {u v d:Int} (h:Way0 A Any u v d):∃e,Dist A u v e:=by
 have key:∀n d,d.toNat=n->Way0 A Any u v d->∃e,Dist A u v e:=by
  intro n
  induction n using Nat.strongRecOn with
  |_ n ih=>
   intro d hn h
   by_cases hl:∃e,Way0 A Any u v e/\e<d
   ·obtain ⟨e,h1,h2⟩:=hl
    exact ih e.toNat (by have:=h1.nonneg hA;omega) e rfl h1
   ·exact ⟨d,h,fun e k=>by
     have:¬e<d:=fun h2=>hl ⟨e,k,h2⟩;omega⟩
 exact key _ d rfl h
theorem Way.lastArc {p:Int->Prop} {u v d:Int} (h:Way A p u v d):∃m w,A m v w/\((m=u/\d=w)\/(p m/\Way A p u m (d-w))):=by
 induction h with
 |one h=>exact ⟨_,_,h,.inl ⟨rfl,rfl⟩⟩
 |@cons u m v w d h1 h2 h3 ih=>
  obtain ⟨x,y,a,b⟩:=ih;refine ⟨x,y,a,.inr ?_⟩
  rcases b with ⟨rfl,rfl⟩|⟨b1,b2⟩
  ·exact ⟨h2,by rw [show w+d-d=w by omega];exact .one h1⟩
  ·exact ⟨b1,by rw [show w+d-y=w+(d-y) by omega];exact .cons h1 h2 b2⟩
theorem Dist.pred {u v d:Int} (hd:Dist A u v d) (hne:u≠v):∃m w,A m v w/\Dist A u m (d-w):=by
 rcases hd.1 with ⟨e,_⟩|h
 ·exact absurd e hne
 obtain ⟨m,w,h1,h2⟩:=h.lastArc;refine ⟨m,w,h1,?_⟩;have h3:Way0 A Any u m (d-w):=by
  rcases h2 with ⟨rfl,rfl⟩|⟨_,h2⟩
  ·exact .inl ⟨rfl,by omega⟩
  ·exact .inr h2
 have hd2:Dist A u v (d-w+w):=by rw [show d-w+w=d by omega];exact hd
 exact (hd2.parts h3 (.inr (.one h1))).1
end Ch
end
section
namespace Dj
open Ch
structure Dj (X:Nums) (s:Int) (far:Int->Option Int) (l:List (Int×Int)) (cur:Int) (out:List (Int×Int)) (done:Int->Int->Prop):Prop where
 sound:∀v d,far v=some d->Way0 X.rel Any s v d
 start:far s=some 0
 heap:∀v k,(v,k)∈l->far v=some k/\cur<=k
 lab:∀a∈out,far a.1=some a.2/\a.2<=cur/\(∀k,(a.1,k)∉l)/\Dist X.rel s a.1 a.2
 rest:∀v d,far v=some d->(v,d)∈l\/∃a∈out,a.1=v
 gone:∀a∈out,∀i v w,done a.1 i->X i a.1 v w->∃e,far v=some e/\e<=a.2+w
 once:out.Pairwise (fun a b=>a.1≠b.1)
 low:0<=cur
variable {X:Nums} {s:Int} {far:Int->Option Int} {l:List (Int×Int)} {cur:Int} {out:List (Int×Int)} {done:Int->Int->Prop}
theorem Dj.begin (X:Nums) (s:Int) (done:Int->Int->Prop):Dj X s (upd (fun _=>none) s (some 0)) [(s,0)] 0 [] done:=by
 refine ⟨?_,Ax _ _ _,?_,by simp,?_,by simp,.nil,Int.le_refl _⟩
 ·intro v d h
  by_cases e:v=s
  ·subst e
   rw [Ax] at h
   cases h
   exact .inl ⟨rfl,rfl⟩
  ·rw [As _ _ e] at h
   cases h
 ·intro v k h
  simp at h;obtain ⟨rfl,rfl⟩:=h;exact ⟨Ax _ _ _,Int.le_refl _⟩
 ·intro v d h
  by_cases e:v=s
  ·subst e
   rw [Ax] at h
   cases h
   exact .inl (by simp)
  ·rw [As _ _ e] at h
   cases h
theorem Dj.front (hA:∀u v w,X.rel u v w->1<=w) (h:Dj X s far l cur out done) (hd:∀a∈out,∀i v w,X i a.1 v w->done a.1 i):∀(k:Nat) (v e:Int),e.toNat<=k->Way0 X.rel Any s v e->(∃a∈out,a.1=v/\a.2<=e)\/∃y∈l,y.2<=e
 |k,v,e,hk,hw=>by
  rcases hw with ⟨rfl,rfl⟩|hw
  ·rcases h.rest _ _ h.start with h1|⟨a,ha,h1⟩
   ·exact .inr ⟨_,h1,Int.le_refl _⟩
   ·have:=(h.lab a ha).1
    rw [h1,h.start] at this;exact .inl ⟨a,ha,h1,by have:=Bm2 this;omega⟩
  ·have hpos:=hw.pos hA
   obtain ⟨m,w,h1,h2⟩:=hw.lastArc;have hw1:=hA _ _ _ h1;have h3:Way0 X.rel Any s m (e-w):=by
    rcases h2 with ⟨rfl,rfl⟩|⟨_,h2⟩
    ·exact .inl ⟨rfl,by omega⟩
    ·exact .inr h2
   have h4:=h3.nonneg hA
   cases k with
   |zero=>omega
   |succ k=>
    rcases Dj.front hA h hd k m (e-w) (by omega) h3 with ⟨a,ha,rfl,h5⟩|⟨y,hy,h5⟩
    ·obtain ⟨i,hi⟩:=h1
     obtain ⟨f,h6,h7⟩:=h.gone a ha i v w (hd a ha i v w hi) hi
     rcases h.rest _ _ h6 with h8|⟨b,hb,rfl⟩
     ·exact .inr ⟨_,h8,by show f<=e;omega⟩
     ·have:=(h.lab b hb).1
      rw [h6] at this;have:=Bm2 this;exact .inl ⟨b,hb,rfl,by omega⟩
    ·exact .inr ⟨y,hy,by omega⟩
theorem Dj.pop (hA:∀u v w,X.rel u v w->1<=w) (h:Dj X s far l cur out done) (hd:∀a∈out,∀i v w,X i a.1 v w->done a.1 i) {v d:Int} {l':List (Int×Int)} (hin:(v,d)∈l) (hmin:∀y∈l,d<=y.2) (hl:∀y,y∈l'↔y∈l/\y.1≠v)
  (hdone:∀i,¬done v i):Dj X s far l' d (out++[(v,d)]) done/\(∀a∈out,a.1≠v)/\Dist X.rel s v d:=by
 obtain ⟨hf,hc⟩:=h.heap v d hin;have hnew:∀a∈out,a.1≠v:=by
  intro a ha e;have:=(h.lab a ha).2.2.1 d;rw [e] at this;exact this hin
 have hdist:Dist X.rel s v d:=by
  refine ⟨h.sound _ _ hf,fun e he=>?_⟩
  rcases Dj.front hA h hd _ v e (Bj5 _) he with ⟨a,ha,h1,-⟩|⟨y,hy,h1⟩
  ·exact absurd h1 (hnew a ha)
  ·have:=hmin y hy
   omega
 refine ⟨⟨h.sound,h.start,?_,?_,?_,?_,?_,by have:=h.low;omega⟩,hnew,hdist⟩
 ·intro u k hk
  have:=(hl _).1 hk;exact ⟨(h.heap u k this.1).1,hmin _ this.1⟩
 ·intro a ha
  rcases Bm6.1 ha with ha|ha
  ·obtain ⟨a1,a2,a3,a4⟩:=h.lab a ha
   exact ⟨a1,by omega,fun k hk=>a3 k ((hl _).1 hk).1,a4⟩
  ·rw [Bl0] at ha
   subst ha;exact ⟨hf,Int.le_refl _,fun k hk=>((hl _).1 hk).2 rfl,hdist⟩
 ·intro u k hk
  rcases h.rest u k hk with h1|⟨a,ha,h1⟩
  ·by_cases e2:u=v
   ·subst e2
    rw [hk] at hf
    cases hf
    exact .inr ⟨(u,d),by simp,rfl⟩
   ·exact .inl ((hl _).2 ⟨h1,e2⟩)
  ·exact .inr ⟨a,by simp [ha],h1⟩
 ·intro a ha i u w hd hx
  rcases Bm6.1 ha with ha|ha
  ·exact h.gone a ha i u w hd hx
  ·rw [Bl0] at ha
   subst ha;exact absurd hd (hdone i)
 ·rw [Bo3]
  refine ⟨h.once,by simp,?_⟩;intro a ha b hb;rw [Bl0] at hb;subst hb;exact hnew a ha
theorem Dj.skip (h:Dj X s far l cur out done) {a:Int×Int} (ha:a∈out) {i v w e:Int} (huniq:∀v' w',X i a.1 v' w'->v'=v/\w'=w) (hfar:far v=some e) (he:e<=a.2+w):
  Dj X s far l cur out (fun u j=>done u j\/(u=a.1/\j=i)):=by
 refine ⟨h.sound,h.start,h.heap,h.lab,h.rest,?_,h.once,h.low⟩;intro b hb j u x hd hx
 rcases hd with hd|⟨e1,rfl⟩
 ·exact h.gone b hb j u x hd hx
 ·have hba:b.2=a.2:=by
   have h1:=(h.lab b hb).1;rw [e1,(h.lab a ha).1] at h1;exact (Bm2 h1).symm
  rw [e1] at hx;obtain ⟨rfl,rfl⟩:=huniq _ _ hx;exact ⟨e,hfar,by omega⟩
theorem Dj.reach (hA:∀u v w,X.rel u v w->1<=w) (h:Dj X s far l cur out done) {a:Int×Int} (ha:a∈out) (hcur:a.2=cur) {i v w:Int} (hx:X i a.1 v w)
  (huniq:∀v' w',X i a.1 v' w'->v'=v/\w'=w) (hfar:∀e,far v=some e->a.2+w<e) {l':List (Int×Int)} (hl:∀y,y∈l'↔y=(v,a.2+w)\/(y∈l/\y.1≠v)):
  Dj X s (upd far v (some (a.2+w))) l' cur out (fun u j=>done u j\/(u=a.1/\j=i)):=by
 have hw1:=hA _ _ _ ⟨i,hx⟩;have hlow:=h.low;have hav:Way0 X.rel Any s v (a.2+w):=(h.sound _ _ (h.lab a ha).1).trans trivial (.inr (.one ⟨i,hx⟩));have hvo:∀b∈out,b.1≠v:=by
  intro b hb e;obtain ⟨b1,b2,_⟩:=h.lab b hb;rw [e] at b1;have:=hfar _ b1;omega
 have hvs:v≠s:=by
  intro e;have:=hfar 0 (by rw [e];exact h.start);omega
 refine ⟨?_,?_,?_,?_,?_,?_,h.once,hlow⟩
 ·intro u d hd
  by_cases e:u=v
  ·subst e
   rw [Ax] at hd
   cases hd
   exact hav
  ·rw [As _ _ e] at hd
   exact h.sound _ _ hd
 ·rw [As _ _ (fun e=>hvs e.symm)]
  exact h.start
 ·intro u k hk
  rcases (hl _).1 hk with e|⟨h1,h2⟩
  ·cases e
   exact ⟨Ax _ _ _,by omega⟩
  ·rw [As _ _ h2]
   exact h.heap u k h1
 ·intro b hb
  obtain ⟨b1,b2,b3,b4⟩:=h.lab b hb;have hne:=hvo b hb;refine ⟨by rw [As _ _ hne];exact b1,b2,?_,b4⟩;intro k hk
  rcases (hl _).1 hk with e|⟨h1,h2⟩
  ·exact hne (Prod.mk.inj e).1
  ·exact b3 k h1
 ·intro u d hd
  by_cases e:u=v
  ·subst e
   rw [Ax] at hd
   cases hd
   exact .inl ((hl _).2 (.inl rfl))
  ·rw [As _ _ e] at hd
   rcases h.rest u d hd with h1|h1
   ·exact .inl ((hl _).2 (.inr ⟨h1,e⟩))
   ·exact .inr h1
 ·intro b hb j u x hd hx'
  by_cases e:u=v
  ·subst e
   rw [Ax]
   rcases hd with hd|⟨e1,rfl⟩
   ·obtain ⟨f,h1,h2⟩:=h.gone b hb j u x hd hx'
    exact ⟨_,rfl,by have:=hfar _ h1;omega⟩
   ·have hba:b.2=a.2:=by
     have h1:=(h.lab b hb).1;rw [e1,(h.lab a ha).1] at h1;exact (Bm2 h1).symm
    rw [e1] at hx';have:=(huniq _ _ hx').2;exact ⟨_,rfl,by omega⟩
  ·rw [As _ _ e]
   rcases hd with hd|⟨e1,rfl⟩
   ·exact h.gone b hb j u x hd hx'
   ·rw [e1] at hx'
    exact absurd (huniq _ _ hx').1 e
theorem Dj.all (hA:∀u v w,X.rel u v w->1<=w) (h:Dj X s far [] cur out done) (hd:∀a∈out,∀i v w,X i a.1 v w->done a.1 i) {v e:Int} (hw:Way0 X.rel Any s v e):∃a∈out,a.1=v:=by
 rcases Dj.front hA h hd _ v e (Bj5 _) hw with ⟨a,ha,h1,-⟩|⟨y,hy,-⟩
 ·exact ⟨a,ha,h1⟩
 ·cases hy
end Dj
end
section
namespace Hp
abbrev IK:=Int×Int
def Bf (a b:IK):Bool:=decide (a.2<b.2)||(decide (a.2=b.2)&&decide (a.1<b.1))
theorem Ki {a b:IK}:Bf a b=true↔a.2<b.2\/(a.2=b.2/\a.1<b.1):=by simp [Bf]
theorem Bt {a b:IK}:Bf a b=false↔b.2<a.2\/(b.2=a.2/\b.1<=a.1):=by
 rw [<-Bool.not_eq_true,Ki];omega
def gI (l:List IK) (j:Nat):IK:=l.getD j (0,0)
theorem Jv {l:List IK} {j:Nat} (h:j<l.length):gI l j=l[j]:=by simp [gI,h]
theorem Aw {l:List IK} {i j:Nat} {y:IK} (hi:i<l.length):gI (l.set i y) j=if j=i then y else gI l j:=by
 unfold gI;rw [Bj9,List.getElem?_set,Bj9]
 by_cases e:i=j
 ·subst e;simp [hi]
 ·rw [if_neg e,if_neg (fun h=>e h.symm)]
theorem Ol {l:List IK} {j:Nat} (h:j<l.length):gI l j∈l:=by rw [Jv h];exact Bk5 h
def gP (p:List Int) (v:Nat):Int:=p.getD v (-1)
theorem Eh {p:List Int} {i j:Nat} {y:Int} (hi:i<p.length):gP (p.set i y) j=if j=i then y else gP p j:=by
 unfold gP;rw [Bj9,List.getElem?_set,Bj9]
 by_cases e:i=j
 ·subst e;simp [hi]
 ·rw [if_neg e,if_neg (fun h=>e h.symm)]
def Db (l:List IK) (p:List Int) (i:Nat) (x:IK):List IK×List Int:=
 if _h:0<i/\Bf x (gI l ((i-1) / 2))=true then
  Db (l.set i (gI l ((i-1) / 2))) (p.set (gI l ((i-1) / 2)).1.toNat (i:Int)) ((i-1) / 2) x
 else (l.set i x,p.set x.1.toNat (i:Int))
termination_by i
decreasing_by omega
theorem Xu {l:List IK} {p:List Int} {i:Nat} {x:IK} (h0:0<i) (h:Bf x (gI l ((i-1) / 2))=true):
  Db l p i x=Db (l.set i (gI l ((i-1) / 2))) (p.set (gI l ((i-1) / 2)).1.toNat (i:Int)) ((i-1) / 2) x:=by
 rw [Db,dif_pos ⟨h0,h⟩]
theorem Nx {l:List IK} {p:List Int} {i:Nat} {x:IK} (h:i=0\/Bf x (gI l ((i-1) / 2))=false):Db l p i x=(l.set i x,p.set x.1.toNat (i:Int)):=by
 rw [Db,dif_neg];rintro ⟨a,b⟩
 rcases h with h|h
 ·omega
 ·rw [h] at b;cases b
def Bc (l:List IK) (i:Nat):Nat:=if 2*i+1+1<l.length/\Bf (gI l (2*i+1+1)) (gI l (2*i+1))=true then 2*i+1+1 else 2*i+1
theorem Ai4 (l:List IK) (i:Nat):2*i+1<=Bc l i/\Bc l i<=2*i+2:=by unfold Bc;split<;>omega
def Bn (l:List IK) (p:List Int) (i:Nat) (x:IK):List IK×List Int:=
 if h:Bc l i<l.length/\Bf (gI l (Bc l i)) x=true then
  Bn (l.set i (gI l (Bc l i))) (p.set (gI l (Bc l i)).1.toNat (i:Int)) (Bc l i) x
 else (l.set i x,p.set x.1.toNat (i:Int))
termination_by l.length-i
decreasing_by
 have:=(Ai4 l i).1;rw [Bk4];omega
theorem Mh {l:List IK} {p:List Int} {i:Nat} {x:IK} (h0:Bc l i<l.length) (h:Bf (gI l (Bc l i)) x=true):
  Bn l p i x=Bn (l.set i (gI l (Bc l i))) (p.set (gI l (Bc l i)).1.toNat (i:Int)) (Bc l i) x:=by
 rw [Bn,dif_pos ⟨h0,h⟩]
theorem Hb {l:List IK} {p:List Int} {i:Nat} {x:IK} (h:l.length<=Bc l i\/Bf (gI l (Bc l i)) x=false):Bn l p i x=(l.set i x,p.set x.1.toNat (i:Int)):=by
 rw [Bn,dif_neg];rintro ⟨a,b⟩
 rcases h with h|h
 ·omega
 ·rw [h] at b;cases b
structure Hole (l:List IK) (p:List Int) (i:Nat) (x:IK):Prop where
 hi:i<l.length
 hx:0<=x.1/\x.1.toNat<p.length
 pos:∀j,j<l.length->j≠i->0<=(gI l j).1/\(gI l j).1.toNat<p.length/\gP p (gI l j).1.toNat=(j:Int)/\(gI l j).1≠x.1
 inv:∀v,v<p.length->(v:Int)≠x.1->gP p v= -1\/∃j,j<l.length/\j≠i/\gP p v=(j:Int)/\(gI l j).1=(v:Int)
structure Cons (l:List IK) (p:List Int):Prop where
 pos:∀j,j<l.length->0<=(gI l j).1/\(gI l j).1.toNat<p.length/\gP p (gI l j).1.toNat=(j:Int)
 inv:∀v,v<p.length->gP p v= -1\/∃j,j<l.length/\gP p v=(j:Int)/\(gI l j).1=(v:Int)
def Xe (l:List IK) (i:Nat) (x y:IK):Prop:=y=x\/∃j,j<l.length/\j≠i/\gI l j=y
theorem Ed {l:List IK} {y:IK}:y∈l↔∃j,j<l.length/\gI l j=y:=by
 constructor
 ·intro h
  obtain ⟨j,hj,e⟩:=Bn7.1 h;exact ⟨j,hj,by rw [Jv hj];exact e⟩
 ·rintro ⟨j,hj,rfl⟩
  exact Ol hj
theorem Hole.fill {l:List IK} {p:List Int} {i:Nat} {x:IK} (h:Hole l p i x):Cons (l.set i x) (p.set x.1.toNat (i:Int))/\∀y,y∈l.set i x↔Xe l i x y:=by
 refine ⟨⟨?_,?_⟩,?_⟩
 ·intro j hj
  rw [Bk4] at hj;rw [Aw h.hi,Bk4]
  by_cases e:j=i
  ·subst e
   rw [if_pos rfl];refine ⟨h.hx.1,h.hx.2,?_⟩;rw [Eh h.hx.2,if_pos rfl]
  ·rw [if_neg e]
   obtain ⟨a,b,c,d⟩:=h.pos j hj e;refine ⟨a,b,?_⟩;rw [Eh h.hx.2,if_neg]
   ·exact c
   ·have:=h.hx.1
    omega
 ·intro v hv
  rw [Bk4] at hv;rw [Eh h.hx.2]
  by_cases e:v=x.1.toNat
  ·rw [if_pos e]
   refine .inr ⟨i,by rw [Bk4];exact h.hi,rfl,?_⟩;rw [Aw h.hi,if_pos rfl];have:=h.hx.1;omega
  ·rw [if_neg e]
   rcases h.inv v hv (by have:=h.hx.1;omega) with h1|⟨j,a,b,c,d⟩
   ·exact .inl h1
   ·exact .inr ⟨j,by rw [Bk4];exact a,c,by rw [Aw h.hi,if_neg b];exact d⟩
 ·intro y
  rw [Ed];constructor
  ·rintro ⟨j,hj,e⟩
   rw [Bk4] at hj;rw [Aw h.hi] at e
   by_cases e2:j=i
   ·rw [if_pos e2] at e
    exact .inl e.symm
   ·rw [if_neg e2] at e
    exact .inr ⟨j,hj,e2,e⟩
  ·rintro (rfl|⟨j,hj,e2,e⟩)
   ·exact ⟨i,by rw [Bk4];exact h.hi,by rw [Aw h.hi,if_pos rfl]⟩
   ·exact ⟨j,by rw [Bk4];exact hj,by rw [Aw h.hi,if_neg e2];exact e⟩
theorem Hole.move {l:List IK} {p:List Int} {i k:Nat} {x:IK} (h:Hole l p i x) (hk:k<l.length) (hne:k≠i):
  Hole (l.set i (gI l k)) (p.set (gI l k).1.toNat (i:Int)) k x/\∀y,Xe (l.set i (gI l k)) k x y↔Xe l i x y:=by
 obtain ⟨ka,kb,kc,kd⟩:=h.pos k hk hne;refine ⟨⟨by rw [Bk4];exact hk,by rw [Bk4];exact h.hx,?_,?_⟩,?_⟩
 ·intro j hj hjk
  rw [Bk4] at hj;rw [Aw h.hi,Bk4]
  by_cases e:j=i
  ·rw [if_pos e]
   exact ⟨ka,kb,by rw [Eh kb,if_pos rfl,e],kd⟩
  ·rw [if_neg e]
   obtain ⟨a,b,c,d⟩:=h.pos j hj e;refine ⟨a,b,?_,d⟩;rw [Eh kb,if_neg]
   ·exact c
   ·intro e2
    rw [e2,kc] at c;omega
 ·intro v hv hvx
  rw [Bk4] at hv;rw [Eh kb]
  by_cases e:v=(gI l k).1.toNat
  ·rw [if_pos e]
   refine .inr ⟨i,by rw [Bk4];exact h.hi,fun e=>hne e.symm,rfl,?_⟩;rw [Aw h.hi,if_pos rfl];omega
  ·rw [if_neg e]
   rcases h.inv v hv hvx with h1|⟨j,a,b,c,d⟩
   ·exact .inl h1
   ·refine .inr ⟨j,by rw [Bk4];exact a,?_,c,by rw [Aw h.hi,if_neg b];exact d⟩
    rintro rfl;omega
 ·intro y
  unfold Xe;rw [Bk4];constructor
  ·rintro (e|⟨j,hj,e2,e⟩)
   ·exact .inl e
   ·rw [Aw h.hi] at e
    by_cases e3:j=i
    ·rw [if_pos e3] at e
     exact .inr ⟨k,hk,hne,e⟩
    ·rw [if_neg e3] at e
     exact .inr ⟨j,hj,e3,e⟩
  ·rintro (e|⟨j,hj,e2,e⟩)
   ·exact .inl e
   ·by_cases e3:j=k
    ·subst e3
     exact .inr ⟨i,h.hi,fun e=>hne e.symm,by rw [Aw h.hi,if_pos rfl];exact e⟩
    ·exact .inr ⟨j,hj,e3,by rw [Aw h.hi,if_neg e2];exact e⟩
def OrdI (l:List IK):Prop:=∀j,j<l.length->0<j->Bf (gI l j) (gI l ((j-1) / 2))=false
structure OrdH (l:List IK) (i:Nat):Prop where
 a:∀j,j<l.length->0<j->j≠i->(j-1) / 2≠i->Bf (gI l j) (gI l ((j-1) / 2))=false
 c:0<i->∀j,j<l.length->0<j->(j-1) / 2=i->Bf (gI l j) (gI l ((i-1) / 2))=false
def Aa0 (l:List IK) (i:Nat) (x:IK):Prop:=∀j,j<l.length->0<j->(j-1) / 2=i->Bf (gI l j) x=false
def UpH (l:List IK) (i:Nat) (x:IK):Prop:=0<i->Bf x (gI l ((i-1) / 2))=false
theorem OrdH.fill {l:List IK} {i:Nat} {x:IK} (hi:i<l.length) (h:OrdH l i) (hl:Aa0 l i x) (hu:UpH l i x):OrdI (l.set i x):=by
 intro j hj h0;rw [Bk4] at hj;rw [Aw hi,Aw hi]
 by_cases e:j=i
 ·subst e
  rw [if_pos rfl,if_neg (by omega)];exact hu h0
 ·rw [if_neg e]
  by_cases e2:(j-1) / 2=i
  ·rw [if_pos e2]
   exact hl j hj h0 e2
  ·rw [if_neg e2]
   exact h.a j hj h0 e e2
theorem Nw:∀(i:Nat) (l:List IK) (p:List Int) (x:IK),Hole l p i x->OrdH l i->Aa0 l i x->
  Cons (Db l p i x).1 (Db l p i x).2/\OrdI (Db l p i x).1/\(∀y,y∈(Db l p i x).1↔Xe l i x y)/\(Db l p i x).1.length=l.length/\(Db l p i x).2.length=p.length:=by
 intro i
 induction i using Nat.strongRecOn with
 |_ i ih=>
  intro l p x h ho hl
  by_cases hs:0<i/\Bf x (gI l ((i-1) / 2))=true
  ·obtain ⟨h0,hs⟩:=hs
   have hu:(i-1) / 2<i:=by omega
   have hk:(i-1) / 2<l.length:=by have:=h.hi;omega
   obtain ⟨m1,m2⟩:=h.move hk (by omega);have hsi:=Ki.1 hs;have o1:OrdH (l.set i (gI l ((i-1) / 2))) ((i-1) / 2):=by
    refine ⟨?_,?_⟩
    ·intro j hj hj0 e1 e2
     rw [Bk4] at hj;rw [Aw h.hi,Aw h.hi]
     by_cases e:j=i
     ·subst e
      exact absurd rfl e2
     ·rw [if_neg e]
      by_cases e3:(j-1) / 2=i
      ·rw [if_pos e3]
       exact ho.c h0 j hj hj0 e3
      ·rw [if_neg e3]
       exact ho.a j hj hj0 e e3
    ·intro hu0 j hj hj0 e2
     rw [Bk4] at hj;rw [Aw h.hi,Aw h.hi,if_neg (show ((i-1) / 2-1) / 2≠i by omega)];have h1:=ho.a ((i-1) / 2) hk hu0 (by omega) (by omega)
     by_cases e:j=i
     ·rw [if_pos e]
      exact h1
     ·rw [if_neg e]
      have h2:=ho.a j hj hj0 e (by omega);rw [e2] at h2;rw [Bt] at h1 h2 ⊢;omega
   have l1:Aa0 (l.set i (gI l ((i-1) / 2))) ((i-1) / 2) x:=by
    intro j hj hj0 e2;rw [Bk4] at hj;rw [Aw h.hi]
    by_cases e:j=i
    ·rw [if_pos e,Bt]
     omega
    ·rw [if_neg e]
     have h2:=ho.a j hj hj0 e (by omega);rw [e2] at h2;rw [Bt] at h2 ⊢;omega
   obtain ⟨r1,r2,r3,r4,r5⟩:=ih _ hu _ _ x m1 o1 l1;rw [Xu h0 hs];exact ⟨r1,r2,fun y=>(r3 y).trans (m2 y),by rw [r4,Bk4],by rw [r5,Bk4]⟩
  ·have he:i=0\/Bf x (gI l ((i-1) / 2))=false:=by
    by_cases h0:i=0
    ·exact .inl h0
    ·refine .inr ?_
     rw [<-Bool.not_eq_true];exact fun h=>hs ⟨by omega,h⟩
   rw [Nx he];obtain ⟨f1,f2⟩:=h.fill;refine ⟨f1,ho.fill h.hi hl ?_,f2,by rw [Bk4],by rw [Bk4]⟩;intro h0
   rcases he with he|he
   ·omega
   ·exact he
theorem Us {l:List IK} {i:Nat} (j:Nat) (hj:j<l.length) (hj0:0<j) (e:(j-1) / 2=i):Bc l i<l.length/\Bf (gI l j) (gI l (Bc l i))=false:=by
 have hc:j=2*i+1\/j=2*i+1+1:=by omega
 unfold Bc
 split
 ·rename_i h
  refine ⟨h.1,?_⟩;have h2:=Ki.1 h.2
  rcases hc with rfl|rfl<;>rw [Bt]<;>omega
 ·rename_i h
  refine ⟨by omega,?_⟩
  rcases hc with rfl|rfl
  ·rw [Bt];omega
  ·rw [<-Bool.not_eq_true]
   exact fun h2=>h ⟨hj,h2⟩
theorem Uc:∀(n:Nat) (l:List IK) (p:List Int) (i:Nat) (x:IK),l.length-i=n->Hole l p i x->OrdH l i->
  (Cons (Bn l p i x).1 (Bn l p i x).2/\(∀y,y∈(Bn l p i x).1↔Xe l i x y)/\(Bn l p i x).1.length=l.length/\(Bn l p i x).2.length=p.length)/\
  ((Bn l p i x=(l.set i x,p.set x.1.toNat (i:Int))/\Aa0 l i x)\/(OrdI (Bn l p i x).1/\∃k,i<k/\gP (Bn l p i x).2 x.1.toNat=(k:Int)))/\
  (UpH l i x->OrdI (Bn l p i x).1)/\∃k,i<=k/\gP (Bn l p i x).2 x.1.toNat=(k:Int):=by
 intro n
 induction n using Nat.strongRecOn with
 |_ n ih=>
  intro l p i x hn h ho
  by_cases hs:Bc l i<l.length/\Bf (gI l (Bc l i)) x=true
  ·obtain ⟨h0,hs⟩:=hs
   have hb:=Ai4 l i;obtain ⟨m1,m2⟩:=h.move h0 (by omega);have hsi:=Ki.1 hs;have hpar:(Bc l i-1) / 2=i:=by omega
   have o1:OrdH (l.set i (gI l (Bc l i))) (Bc l i):=by
    refine ⟨?_,?_⟩
    ·intro j hj hj0 e1 e2
     rw [Bk4] at hj;rw [Aw h.hi,Aw h.hi]
     by_cases e:j=i
     ·subst e
      rw [if_pos rfl,if_neg (by omega)];exact ho.c hj0 _ h0 (by omega) hpar
     ·rw [if_neg e]
      by_cases e3:(j-1) / 2=i
      ·rw [if_pos e3]
       exact (Us j hj hj0 e3).2
      ·rw [if_neg e3]
       exact ho.a j hj hj0 e e3
    ·intro hu0 j hj hj0 e2
     rw [Bk4] at hj;rw [Aw h.hi,Aw h.hi,if_neg (by omega),hpar,if_pos rfl];have:=ho.a j hj hj0 (by omega) (by omega);rw [e2] at this;exact this
   have u1:UpH (l.set i (gI l (Bc l i))) (Bc l i) x:=by
    intro _;rw [Aw h.hi,hpar,if_pos rfl,Bt];omega
   obtain ⟨⟨r1,r2,r3,r4⟩,-,r6,k,r7,r8⟩:=ih _ (by rw [Bk4];have:=h.hi;omega) _ _ (Bc l i) x rfl m1 o1;rw [Mh h0 hs];have r6:=r6 u1;exact ⟨⟨r1,fun y=>(r2 y).trans (m2 y),by rw [r3,Bk4],by rw [r4,Bk4]⟩,.inr ⟨r6,k,by omega,r8⟩,fun _=>r6,k,by omega,r8⟩
  ·have he:l.length<=Bc l i\/Bf (gI l (Bc l i)) x=false:=by
    by_cases h0:l.length<=Bc l i
    ·exact .inl h0
    ·refine .inr ?_
     rw [<-Bool.not_eq_true];exact fun h=>hs ⟨by omega,h⟩
   rw [Hb he];obtain ⟨f1,f2⟩:=h.fill;have hl:Aa0 l i x:=by
    intro j hj hj0 e;obtain ⟨c1,c2⟩:=Us j hj hj0 e
    rcases he with he|he
    ·omega
    ·rw [Bt] at c2 he ⊢
     omega
   refine ⟨⟨f1,f2,by rw [Bk4],by rw [Bk4]⟩,.inl ⟨rfl,hl⟩,fun hu=>ho.fill h.hi hl hu,i,Bj5 _,?_⟩
   show gP (p.set x.1.toNat (i:Int)) x.1.toNat=_
   rw [Eh h.hx.2,if_pos rfl]
structure HeapOK (l:List IK) (p:List Int):Prop where
 c:Cons l p
 o:OrdI l
theorem Cons.hole {l:List IK} {p:List Int} (h:Cons l p) {i:Nat} (hi:i<l.length) {x:IK} (hx:x.1=(gI l i).1):Hole l p i x:=by
 obtain ⟨a,b,c⟩:=h.pos i hi;refine ⟨hi,by rw [hx];exact ⟨a,b⟩,?_,?_⟩
 ·intro j hj hne
  obtain ⟨a',b',c'⟩:=h.pos j hj;refine ⟨a',b',c',?_⟩;intro e;rw [e,hx,c] at c';omega
 ·intro v hv hne
  rcases h.inv v hv with h1|⟨j,j1,j2,j3⟩
  ·exact .inl h1
  ·refine .inr ⟨j,j1,?_,j2,j3⟩
   rintro rfl;rw [hx,j3] at hne;exact hne rfl
theorem OrdI.hole {l:List IK} (h:OrdI l) (i:Nat):OrdH l i:=by
 refine ⟨fun j hj h0 _ _=>h j hj h0,?_⟩;intro hi j hj h0 e;have h1:=h j hj h0;rw [e] at h1;have h2:=h i (by omega) hi;rw [Bt] at h1 h2 ⊢;omega
theorem Cons.inj {l:List IK} {p:List Int} (h:Cons l p) {i j:Nat} (hi:i<l.length) (hj:j<l.length) (e:(gI l i).1=(gI l j).1):i=j:=by
 have h1:=(h.pos i hi).2.2;have h2:=(h.pos j hj).2.2;rw [e,h2] at h1;omega
theorem Cons.key {l:List IK} {p:List Int} (h:Cons l p) {v k k':Int} (h1:(v,k)∈l) (h2:(v,k')∈l):k=k':=by
 obtain ⟨i,hi,ei⟩:=Ed.1 h1;obtain ⟨j,hj,ej⟩:=Ed.1 h2;obtain rfl:=h.inj hi hj (by rw [ei,ej]);rw [ei] at ej;exact (Prod.mk.inj ej).2
theorem Cons.place {l:List IK} {p:List Int} (h:Cons l p) {v:Nat} (hv:v<p.length):(gP p v= -1/\∀k,((v:Int),k)∉l)\/∃i,i<l.length/\gP p v=(i:Int)/\(gI l i).1=(v:Int):=by
 rcases h.inv v hv with h1|h1
 ·refine .inl ⟨h1,?_⟩
  intro k hk;obtain ⟨i,hi,ei⟩:=Ed.1 hk;have:=(h.pos i hi).2.2;rw [ei] at this;simp at this;omega
 ·exact .inr h1
def Bl (l:List IK) (p:List Int) (v:Nat) (key:Int):Bool×List IK×List Int:=
 if gP p v= -1 then (true,Db (l++[((v:Int),key)]) p l.length ((v:Int),key))
 else if (gI l (gP p v).toNat).2<=key then (false,l,p)
 else (true,Db l p (gP p v).toNat ((v:Int),key))
theorem Bp {l:List IK} {j:Nat} (h:j<l.length) (r:List IK):gI (l++r) j=gI l j:=by
 unfold gI;rw [Bj9,Bj9,Bn2 h]
theorem Eb {l:List IK} {p:List Int} (h:HeapOK l p) {v:Nat} (hv:v<p.length) (key:Int):
  HeapOK (Bl l p v key).2.1 (Bl l p v key).2.2/\(Bl l p v key).2.2.length=p.length/\
  ((Bl l p v key).1=true->∀y,y∈(Bl l p v key).2.1↔(y=((v:Int),key)\/(y∈l/\y.1≠(v:Int))))/\
  ((Bl l p v key).1=false->(Bl l p v key).2.1=l/\∃k,((v:Int),k)∈l/\k<=key)/\(Bl l p v key).2.1.length<=l.length+1:=by
 unfold Bl
 rcases h.c.place hv with ⟨h1,h2⟩|⟨i,hi,h1,h2⟩
 ·rw [if_pos h1]
  have hh:Hole (l++[((v:Int),key)]) p l.length ((v:Int),key):=by
   refine ⟨by simp,⟨by simp,by simpa using hv⟩,?_,?_⟩
   ·intro j hj hne
    have hj2:j<l.length:=by simp at hj;omega
    rw [Bp hj2];obtain ⟨a,b,c⟩:=h.c.pos j hj2;refine ⟨a,b,c,?_⟩;intro e
    apply h2 (gI l j).2
    have:((v:Int),(gI l j).2)=gI l j:=Prod.ext e.symm rfl;rw [this];exact Ol hj2
   ·intro u hu hne
    rcases h.c.inv u hu with h3|⟨j,j1,j2,j3⟩
    ·exact .inl h3
    ·exact .inr ⟨j,by simp;omega,by omega,j2,by rw [Bp j1];exact j3⟩
  have ho:OrdH (l++[((v:Int),key)]) l.length:=by
   refine ⟨?_,?_⟩
   ·intro j hj h0 e1 e2
    have hj2:j<l.length:=by simp at hj;omega
    rw [Bp hj2,Bp (by omega)];exact h.o j hj2 h0
   ·intro h0 j hj hj0 e
    simp at hj;omega
  have hl:Aa0 (l++[((v:Int),key)]) l.length ((v:Int),key):=by
   intro j hj hj0 e;simp at hj;omega
  obtain ⟨r1,r2,r3,r4,r5⟩:=Nw _ _ p _ hh ho hl;refine ⟨⟨r1,r2⟩,r5,?_,fun e=>(by cases e),by rw [r4];simp⟩;intro _ y
  show y∈(Db _ _ _ _).1↔_
  rw [r3];constructor
  ·rintro (e|⟨j,hj,hne,e⟩)
   ·exact .inl e
   ·have hj2:j<l.length:=by simp at hj;omega
    rw [Bp hj2] at e;refine .inr ⟨e▸Ol hj2,?_⟩;intro e2
    apply h2 y.2
    have:((v:Int),y.2)=y:=Prod.ext e2.symm rfl;rw [this,<-e];exact Ol hj2
  ·rintro (e|⟨hm,hne⟩)
   ·exact .inl e
   ·obtain ⟨j,hj,e⟩:=Ed.1 hm
    exact .inr ⟨j,by simp;omega,by omega,by rw [Bp hj];exact e⟩
 ·rw [if_neg (by omega),h1]
  have hin:(i:Int).toNat=i:=by omega
  rw [hin]
  split
  ·rename_i hk
   refine ⟨h,rfl,fun e=>(by cases e),fun _=>⟨rfl,(gI l i).2,?_,hk⟩,by simp⟩;have:((v:Int),(gI l i).2)=gI l i:=Prod.ext h2.symm rfl;rw [this];exact Ol hi
  ·rename_i hk
   have hh:Hole l p i ((v:Int),key):=h.c.hole hi h2.symm;have hl:Aa0 l i ((v:Int),key):=by
    intro j hj hj0 e;have:=h.o j hj hj0;rw [e] at this;rw [Bt] at this ⊢;simp only;omega
   obtain ⟨r1,r2,r3,r4,r5⟩:=Nw _ _ p _ hh (h.o.hole i) hl;refine ⟨⟨r1,r2⟩,r5,?_,fun e=>(by cases e),by rw [r4];simp⟩;intro _ y
   show y∈(Db _ _ _ _).1↔_
   rw [r3];constructor
   ·rintro (e|⟨j,hj,hne,e⟩)
    ·exact .inl e
    ·refine .inr ⟨e▸Ol hj,?_⟩
     rw [<-e];exact (hh.pos j hj hne).2.2.2
   ·rintro (e|⟨hm,hne⟩)
    ·exact .inl e
    ·obtain ⟨j,hj,e⟩:=Ed.1 hm
     refine .inr ⟨j,hj,?_,e⟩;rintro rfl;rw [<-e] at hne;exact hne h2
def Bb (l:List IK) (p:List Int) (v i:Nat):List IK×List Int:=
 if i=l.length-1 then (l.take (l.length-1),p.set v (-1))
 else if gP (Bn (l.take (l.length-1)) (p.set v (-1)) i (gI l (l.length-1))).2 (gI l (l.length-1)).1.toNat=(i:Int) then
  Db (Bn (l.take (l.length-1)) (p.set v (-1)) i (gI l (l.length-1))).1 (Bn (l.take (l.length-1)) (p.set v (-1)) i (gI l (l.length-1))).2 i (gI l (l.length-1))
 else Bn (l.take (l.length-1)) (p.set v (-1)) i (gI l (l.length-1))
theorem Cl {l:List IK} {j n:Nat} (h:j<n):gI (l.take n) j=gI l j:=by
 unfold gI;rw [Bj9,Bj9,List.getElem?_take,if_pos h]
theorem Ap7 {l:List IK} {p:List Int} (h:HeapOK l p) {v i:Nat} (hv:v<p.length) (hi:i<l.length) (hp:gP p v=(i:Int)) (hg:(gI l i).1=(v:Int)) (hl:¬i=l.length-1):
  Hole (l.take (l.length-1)) (p.set v (-1)) i (gI l (l.length-1)):=by
 have hlt:(l.take (l.length-1)).length=l.length-1:=by simp
 have hv0:∀j,j<l.length->j≠i->(gI l j).1≠(v:Int):=fun j hj hne e=>hne (h.c.inj hj hi (by rw [e,hg]));have hi2:i<l.length-1:=by omega
 obtain ⟨xa,xb,xc⟩:=h.c.pos (l.length-1) (by omega);refine ⟨by rw [hlt];exact hi2,by rw [Bk4];exact ⟨xa,xb⟩,?_,?_⟩
 ·intro j hj hne
  rw [hlt] at hj;rw [Cl hj,Bk4];obtain ⟨a,b,c⟩:=h.c.pos j (by omega);refine ⟨a,b,?_,?_⟩
  ·rw [Eh hv,if_neg]
   ·exact c
   ·have:=hv0 j (by omega) hne
    omega
  ·intro e
   have:=h.c.inj (i:=j) (j:=l.length-1) (by omega) (by omega) e;omega
 ·intro u hu hne
  rw [Bk4] at hu;rw [Eh hv]
  by_cases e:u=v
  ·rw [if_pos e]
   exact .inl rfl
  ·rw [if_neg e]
   rcases h.c.inv u hu with h1|⟨j,j1,j2,j3⟩
   ·exact .inl h1
   ·have hne2:j≠i:=by
     rintro rfl;omega
    have hne3:j≠l.length-1:=by
     rintro rfl;exact hne j3.symm
    exact .inr ⟨j,by rw [hlt];omega,hne2,j2,by rw [Cl (by omega)];exact j3⟩
theorem Ks {l:List IK} {p:List Int} (h:HeapOK l p) {v i:Nat} (hv:v<p.length) (hi:i<l.length) (hp:gP p v=(i:Int)) (hg:(gI l i).1=(v:Int)):
  HeapOK (Bb l p v i).1 (Bb l p v i).2/\(Bb l p v i).2.length=p.length/\(Bb l p v i).1.length=l.length-1/\∀y,y∈(Bb l p v i).1↔y∈l/\y.1≠(v:Int):=by
 have hlt:(l.take (l.length-1)).length=l.length-1:=by simp
 have hord:∀j,j<l.length-1->0<j->Bf (gI (l.take (l.length-1)) j) (gI (l.take (l.length-1)) ((j-1) / 2))=false:=by
  intro j hj h0;rw [Cl hj,Cl (by omega)];exact h.o j (by omega) h0
 have hv0:∀j,j<l.length->j≠i->(gI l j).1≠(v:Int):=fun j hj hne e=>hne (h.c.inj hj hi (by rw [e,hg]));unfold Bb
 by_cases hl:i=l.length-1
 ·rw [if_pos hl]
  refine ⟨⟨⟨?_,?_⟩,?_⟩,by simp,hlt,?_⟩
  ·intro j hj
   have hj:j<l.length-1:=by rw [<-hlt];exact hj
   show 0<=(gI (l.take (l.length-1)) j).1/\_
   rw [Cl hj,Bk4];obtain ⟨a,b,c⟩:=h.c.pos j (by omega);refine ⟨a,b,?_⟩;rw [Eh hv,if_neg]
   ·exact c
   ·have:=hv0 j (by omega) (by omega)
    omega
  ·intro u hu
   rw [Bk4] at hu;rw [Eh hv]
   by_cases e:u=v
   ·rw [if_pos e]
    exact .inl rfl
   ·rw [if_neg e]
    rcases h.c.inv u hu with h1|⟨j,j1,j2,j3⟩
    ·exact .inl h1
    ·have hne:j≠i:=by
      rintro rfl;omega
     refine .inr ⟨j,by show j<(l.take (l.length-1)).length;rw [hlt];omega,j2,?_⟩
     show (gI (l.take (l.length-1)) j).1=_
     rw [Cl (by omega)];exact j3
  ·intro j hj h0
   exact hord j (by rw [<-hlt];exact hj) h0
  ·intro y
   show y∈l.take (l.length-1)↔_
   rw [Ed,Ed,hlt];constructor
   ·rintro ⟨j,hj,e⟩
    rw [Cl hj] at e;exact ⟨⟨j,by omega,e⟩,by rw [<-e];exact hv0 j (by omega) (by omega)⟩
   ·rintro ⟨⟨j,hj,e⟩,hne⟩
    have:j≠i:=by
     rintro rfl;rw [<-e] at hne;exact hne hg
    exact ⟨j,by omega,by rw [Cl (by omega)];exact e⟩
 ·rw [if_neg hl]
  have hi2:i<l.length-1:=by omega
  obtain ⟨xa,xb,xc⟩:=h.c.pos (l.length-1) (by omega);have hxv:=hv0 (l.length-1) (by omega) (by omega);have hh:Hole (l.take (l.length-1)) (p.set v (-1)) i (gI l (l.length-1)):=by
   refine ⟨by rw [hlt];exact hi2,by rw [Bk4];exact ⟨xa,xb⟩,?_,?_⟩
   ·intro j hj hne
    rw [hlt] at hj;rw [Cl hj,Bk4];obtain ⟨a,b,c⟩:=h.c.pos j (by omega);refine ⟨a,b,?_,?_⟩
    ·rw [Eh hv,if_neg]
     ·exact c
     ·have:=hv0 j (by omega) hne
      omega
    ·intro e
     have:=h.c.inj (i:=j) (j:=l.length-1) (by omega) (by omega) e;omega
   ·intro u hu hne
    rw [Bk4] at hu;rw [Eh hv]
    by_cases e:u=v
    ·rw [if_pos e]
     exact .inl rfl
    ·rw [if_neg e]
     rcases h.c.inv u hu with h1|⟨j,j1,j2,j3⟩
     ·exact .inl h1
     ·have hne2:j≠i:=by
       rintro rfl;omega
      have hne3:j≠l.length-1:=by
       rintro rfl;exact hne j3.symm
      exact .inr ⟨j,by rw [hlt];omega,hne2,j2,by rw [Cl (by omega)];exact j3⟩
  have hoI:OrdI (l.take (l.length-1)):=fun j hj h0=>hord j (by rw [<-hlt];exact hj) h0;have hmem:∀y,Xe (l.take (l.length-1)) i (gI l (l.length-1)) y↔y∈l/\y.1≠(v:Int):=by
   intro y;unfold Xe;rw [Ed,hlt];constructor
   ·rintro (e|⟨j,hj,hne,e⟩)
    ·exact ⟨⟨_,by omega,e.symm⟩,by rw [e];exact hxv⟩
    ·rw [Cl hj] at e
     exact ⟨⟨j,by omega,e⟩,by rw [<-e];exact hv0 j (by omega) hne⟩
   ·rintro ⟨⟨j,hj,e⟩,hne⟩
    have hji:j≠i:=by
     rintro rfl;rw [<-e] at hne;exact hne hg
    by_cases e2:j=l.length-1
    ·subst e2
     exact .inl e.symm
    ·exact .inr ⟨j,by omega,hji,by rw [Cl (by omega)];exact e⟩
  obtain ⟨⟨r1,r2,r3,r4⟩,r5,-,-⟩:=Uc _ _ _ i (gI l (l.length-1)) rfl hh (hoI.hole i)
  rcases r5 with ⟨e,hlow⟩|⟨ho,k,hk,hp2⟩
  ·have hset:gP (p.set v (-1) |>.set (gI l (l.length-1)).1.toNat (i:Int)) (gI l (l.length-1)).1.toNat=(i:Int):=by
    rw [Eh hh.hx.2,if_pos rfl]
   have hc:=r1;rw [e] at hc r2 r3 r4;rw [e]
   show HeapOK (if gP (p.set v (-1) |>.set _ _) _=_ then _ else _:List IK×List Int).1 _/\_
   rw [if_pos hset];have hgi:gI ((l.take (l.length-1)).set i (gI l (l.length-1))) i=gI l (l.length-1):=by rw [Aw hh.hi,if_pos rfl]
   have hh2:Hole ((l.take (l.length-1)).set i (gI l (l.length-1))) (p.set v (-1) |>.set (gI l (l.length-1)).1.toNat (i:Int)) i (gI l (l.length-1)):=hc.hole (by rw [Bk4];exact hh.hi) (by rw [hgi]);have ho2:OrdH ((l.take (l.length-1)).set i (gI l (l.length-1))) i:=by
    have hH:=hoI.hole i;refine ⟨?_,?_⟩
    ·intro j hj h0 e1 e2
     rw [Bk4] at hj;rw [Aw hh.hi,Aw hh.hi,if_neg e1,if_neg e2];exact hH.a j hj h0 e1 e2
    ·intro h0 j hj hj0 e2
     rw [Bk4] at hj;rw [Aw hh.hi,Aw hh.hi,if_neg (by omega),if_neg (by omega)];exact hH.c h0 j hj hj0 e2
   have hl2:Aa0 ((l.take (l.length-1)).set i (gI l (l.length-1))) i (gI l (l.length-1)):=by
    intro j hj hj0 e2;rw [Bk4] at hj;rw [Aw hh.hi,if_neg (by omega)];exact hlow j hj hj0 e2
   obtain ⟨s1,s2,s3,s4,s5⟩:=Nw _ _ _ _ hh2 ho2 hl2;refine ⟨⟨s1,s2⟩,?_,?_,?_⟩
   ·rw [s5];simp
   ·rw [s4];simp
   ·intro y
    refine (s3 y).trans (Iff.trans ?_ (hmem y));unfold Xe;rw [Bk4];constructor
    ·rintro (e3|⟨j,hj,hne,e3⟩)
     ·exact .inl e3
     ·rw [Aw hh.hi,if_neg hne] at e3
      exact .inr ⟨j,hj,hne,e3⟩
    ·rintro (e3|⟨j,hj,hne,e3⟩)
     ·exact .inl e3
     ·exact .inr ⟨j,hj,hne,by rw [Aw hh.hi,if_neg hne];exact e3⟩
  ·rw [if_neg (by rw [hp2];omega)]
   exact ⟨⟨r1,ho⟩,by rw [r4];simp,by rw [r3,hlt],fun y=>(r2 y).trans (hmem y)⟩
theorem OrdI.first {l:List IK} (h:OrdI l):∀j,j<l.length->Bf (gI l j) (gI l 0)=false:=by
 intro j
 induction j using Nat.strongRecOn with
 |_ j ih=>
  intro hj
  by_cases h0:j=0
  ·subst h0
   rw [Bt];omega
  ·have h1:=h j hj (by omega)
   have h2:=ih ((j-1) / 2) (by omega) (by omega);rw [Bt] at h1 h2 ⊢;omega
theorem HeapOK.least {l:List IK} {p:List Int} (h:HeapOK l p) {y:IK} (hy:y∈l):(gI l 0).2<=y.2:=by
 obtain ⟨j,hj,rfl⟩:=Ed.1 hy;have:=h.o.first j hj;rw [Bt] at this;omega
theorem Gh (n:Nat):HeapOK [] (List.replicate n (-1)):=by
 refine ⟨⟨fun j hj=>absurd hj (by simp),?_⟩,fun j hj=>absurd hj (by simp)⟩;intro v hv;refine .inl ?_;unfold gP;rw [Bj9,Bn3]
 split<;>rfl
end Hp
end
end Go.Proofs.YteaaapdjplbljaaGreat
