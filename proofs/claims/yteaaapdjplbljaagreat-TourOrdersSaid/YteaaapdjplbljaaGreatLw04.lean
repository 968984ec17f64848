/- The search on the way up a hierarchy, in plain Lean: what its labels are. Spaces of both ends, and how far nodes are, in plain Lean. How far nodes are, round by round, in plain Lean. -/
import Derived.Test.YteaaapdjplbljaaGreatLw03
set_option linter.unusedVariables false
set_option linter.unusedSimpArgs false
set_option linter.unnecessarySimpa false
section
namespace Go.Proofs.YteaaapdjplbljaaGreat.Ch
structure Lab where
 v:Int
 d:Int
 b:Int
 deriving DecidableEq
abbrev Nums:=Int→Int→Int→Int→Prop
abbrev Nums.rel (X:Nums):Int→Int→Int→Prop:=fun u v w=>∃i,X i u v w
def upd {α:Type} (f:Int→α) (v:Int) (x:α):Int→α:=fun u=>if u=v then x else f u
theorem upd_same {α:Type} (f:Int→α) (v:Int) (x:α):upd f v x v=x:=if_pos rfl
theorem upd_other {α:Type} (f:Int→α) {v u:Int} (x:α) (h:u≠v):upd f v x u=f u:=if_neg h
structure Run (A:Int→Int→Int→Prop) (X:Nums) (r:Int→Int) (s:Int) (far:Int→Option Int) (by':Int→Int) (l:List (Int×Int)) (cur:Int) (out:List Lab) (done:Int→Int→Prop):Prop where
 sound:∀v d,far v=some d→Way0 A Any s v d
 start:far s=some 0
 heap:∀v k,(v,k)∈l→far v=some k∧cur≤k
 lab:∀a∈out,far a.v=some a.d∧a.d≤cur∧(∀k,(a.v,k)∉l)∧a.b=by' a.v
 rest:∀v d,far v=some d→(v,d)∈l∨((∃a∈out,a.v=v)∨∃e,Way0 A Any s v e∧e<d)∧d≤cur
 way:∀v d,far v=some d→(v=s∧d=0∧by' v= -1)∨∃x w,X (by' v) x v w∧r x<r v∧∃a∈out,a.v=x∧a.d+w=d
 gone:∀a∈out,∀i v w,done a.v i→X i a.v v w→r a.v<r v→∃e,far v=some e∧e≤a.d+w
 once:out.Pairwise (fun a b=>a.v≠b.v)
 low:0≤cur
variable {A:Int→Int→Int→Prop} {X:Nums} {r:Int→Int} {N:Int→Prop} {s:Int} {far:Int→Option Int} {by':Int→Int} {l:List (Int×Int)} {cur:Int} {out:List Lab} {done:Int→Int→Prop}
theorem Run.begin (s:Int) (by':Int→Int) (done:Int→Int→Prop):Run A X r s (upd (fun _=>none) s (some 0)) (upd by' s (-1)) [(s,0)] 0 [] done:=by
 refine ⟨?_,upd_same _ _ _,?_,by simp,?_,?_,by simp,.nil,Int.le_refl _⟩
 ·intro v d h
  by_cases e:v=s
  ·subst e
   rw [upd_same] at h
   cases h
   exact .inl ⟨rfl,rfl⟩
  ·rw [upd_other _ _ e] at h
   cases h
 ·intro v k h
  simp at h
  obtain ⟨rfl,rfl⟩:=h
  exact ⟨upd_same _ _ _,Int.le_refl _⟩
 ·intro v d h
  by_cases e:v=s
  ·subst e
   rw [upd_same] at h
   cases h
   exact .inl (by simp)
  ·rw [upd_other _ _ e] at h
   cases h
 ·intro v d h
  by_cases e:v=s
  ·subst e
   rw [upd_same] at h
   cases h
   exact .inl ⟨rfl,rfl,upd_same _ _ _⟩
  ·rw [upd_other _ _ e] at h
   cases h
theorem Run.stall (h:Run A X r s far by' l cur out done) {v d:Int} {l':List (Int×Int)} (hin:(v,d)∈l) (hmin:∀y∈l,d≤y.2) (hl:∀y,y∈l'↔y∈l∧y.1≠v)
  {e:Int} (hw:Way0 A Any s v e) (he:e<d):Run A X r s far by' l' d out done:=by
 have hc:=(h.heap v d hin).2
 refine ⟨h.sound,h.start,?_,?_,?_,h.way,h.gone,h.once,by have:=h.low;omega⟩
 ·intro u k hk
  have:=(hl _).1 hk
  exact ⟨(h.heap u k this.1).1,hmin _ this.1⟩
 ·intro a ha
  obtain ⟨a1,a2,a3,a4⟩:=h.lab a ha
  exact ⟨a1,by omega,fun k hk=>a3 k ((hl _).1 hk).1,a4⟩
 ·intro u k hk
  rcases h.rest u k hk with h1|⟨h1,h2⟩
  ·by_cases e2:u=v
   ·subst e2
    have hd:=(h.heap u d hin).1
    rw [hk] at hd
    cases hd
    exact .inr ⟨.inr ⟨e,hw,he⟩,Int.le_refl _⟩
   ·exact .inl ((hl _).2 ⟨h1,e2⟩)
  ·exact .inr ⟨h1,by omega⟩
theorem Run.pop (h:Run A X r s far by' l cur out done) {v d:Int} {l':List (Int×Int)} (hin:(v,d)∈l) (hmin:∀y∈l,d≤y.2) (hl:∀y,y∈l'↔y∈l∧y.1≠v)
  (hdone:∀i,¬done v i):Run A X r s far by' l' d (out++[⟨v,d,by' v⟩]) done∧∀a∈out,a.v≠v:=by
 obtain ⟨hf,hc⟩:=h.heap v d hin
 have hnew:∀a∈out,a.v≠v:=by
  intro a ha e
  have:=(h.lab a ha).2.2.1 d
  rw [e] at this
  exact this hin
 refine ⟨⟨h.sound,h.start,?_,?_,?_,?_,?_,?_,by have:=h.low;omega⟩,hnew⟩
 ·intro u k hk
  have:=(hl _).1 hk
  exact ⟨(h.heap u k this.1).1,hmin _ this.1⟩
 ·intro a ha
  rcases List.mem_append.1 ha with ha|ha
  ·obtain ⟨a1,a2,a3,a4⟩:=h.lab a ha
   exact ⟨a1,by omega,fun k hk=>a3 k ((hl _).1 hk).1,a4⟩
  ·rw [List.mem_singleton] at ha
   subst ha
   exact ⟨hf,Int.le_refl _,fun k hk=>((hl _).1 hk).2 rfl,rfl⟩
 ·intro u k hk
  rcases h.rest u k hk with h1|⟨h1|h1,h2⟩
  ·by_cases e2:u=v
   ·subst e2
    rw [hk] at hf
    cases hf
    exact .inr ⟨.inl ⟨⟨u,d,by' u⟩,by simp,rfl⟩,Int.le_refl _⟩
   ·exact .inl ((hl _).2 ⟨h1,e2⟩)
  ·obtain ⟨a,ha,e⟩:=h1
   exact .inr ⟨.inl ⟨a,by simp [ha],e⟩,by omega⟩
  ·exact .inr ⟨.inr h1,by omega⟩
 ·intro u k hk
  rcases h.way u k hk with h1|⟨x,w,h1,h2,a,ha,h3⟩
  ·exact .inl h1
  ·exact .inr ⟨x,w,h1,h2,a,by simp [ha],h3⟩
 ·intro a ha i u w hd hx hr
  rcases List.mem_append.1 ha with ha|ha
  ·exact h.gone a ha i u w hd hx hr
  ·rw [List.mem_singleton] at ha
   subst ha
   exact absurd hd (hdone i)
 ·rw [List.pairwise_append]
  refine ⟨h.once,by simp,?_⟩
  intro a ha b hb
  rw [List.mem_singleton] at hb
  subst hb
  exact hnew a ha
theorem Run.skip (h:Run A X r s far by' l cur out done) {a:Lab} (ha:a∈out) {i v w e:Int} (huniq:∀v' w',X i a.v v' w'→v'=v∧w'=w) (hfar:far v=some e) (he:e≤a.d+w):
  Run A X r s far by' l cur out (fun u j=>done u j∨(u=a.v∧j=i)):=by
 refine ⟨h.sound,h.start,h.heap,h.lab,h.rest,h.way,?_,h.once,h.low⟩
 intro b hb j u x hd hx hr
 rcases hd with hd|⟨e1,rfl⟩
 ·exact h.gone b hb j u x hd hx hr
 ·have hba:b.d=a.d:=by
   have h1:=(h.lab b hb).1
   rw [e1,(h.lab a ha).1] at h1
   exact (Option.some.inj h1).symm
  rw [e1] at hx
  obtain ⟨rfl,rfl⟩:=huniq _ _ hx
  exact ⟨e,hfar,by omega⟩
theorem Run.reach (hsound:∀i u v w,X i u v w→Way A Any u v w∧1≤w) (h:Run A X r s far by' l cur out done) {a:Lab} (ha:a∈out) (hcur:a.d=cur) {i v w:Int} (hx:X i a.v v w) (hr:r a.v<r v)
  (huniq:∀v' w',X i a.v v' w'→v'=v∧w'=w) (hfar:∀e,far v=some e→a.d+w<e) {l':List (Int×Int)} (hl:∀y,y∈l'↔y=(v,a.d+w)∨(y∈l∧y.1≠v)):
  Run A X r s (upd far v (some (a.d+w))) (upd by' v i) l' cur out (fun u j=>done u j∨(u=a.v∧j=i)):=by
 obtain ⟨hw,hw1⟩:=hsound _ _ _ _ hx
 have hlow:=h.low
 have hav:Way0 A Any s v (a.d+w):=(h.sound _ _ (h.lab a ha).1).trans trivial (.inr hw)
 have hvo:∀b∈out,b.v≠v:=by
  intro b hb e
  obtain ⟨b1,b2,_⟩:=h.lab b hb
  rw [e] at b1
  have:=hfar _ b1
  omega
 have hvs:v≠s:=by
  intro e
  have:=hfar 0 (by rw [e];exact h.start)
  omega
 refine ⟨?_,?_,?_,?_,?_,?_,?_,h.once,hlow⟩
 ·intro u d hd
  by_cases e:u=v
  ·subst e
   rw [upd_same] at hd
   cases hd
   exact hav
  ·rw [upd_other _ _ e] at hd
   exact h.sound _ _ hd
 ·rw [upd_other _ _ (fun e=>hvs e.symm)]
  exact h.start
 ·intro u k hk
  rcases (hl _).1 hk with e|⟨h1,h2⟩
  ·cases e
   exact ⟨upd_same _ _ _,by omega⟩
  ·rw [upd_other _ _ h2]
   exact h.heap u k h1
 ·intro b hb
  obtain ⟨b1,b2,b3,b4⟩:=h.lab b hb
  have hne:=hvo b hb
  refine ⟨by rw [upd_other _ _ hne];exact b1,b2,?_,by rw [upd_other _ _ hne];exact b4⟩
  intro k hk
  rcases (hl _).1 hk with e|⟨h1,h2⟩
  ·exact hne (Prod.mk.inj e).1
  ·exact b3 k h1
 ·intro u d hd
  by_cases e:u=v
  ·subst e
   rw [upd_same] at hd
   cases hd
   exact .inl ((hl _).2 (.inl rfl))
  ·rw [upd_other _ _ e] at hd
   rcases h.rest u d hd with h1|h1
   ·exact .inl ((hl _).2 (.inr ⟨h1,e⟩))
   ·exact .inr h1
 ·intro u d hd
  by_cases e:u=v
  ·subst e
   rw [upd_same] at hd
   cases hd
   rw [upd_same]
   exact .inr ⟨a.v,w,hx,hr,a,ha,rfl,rfl⟩
  ·rw [upd_other _ _ e] at hd
   rw [upd_other _ _ e]
   exact h.way u d hd
 ·intro b hb j u x hd hx2 hr2
  have key:∃e,far u=some e∧e≤b.d+x∨(u=v∧a.d+w≤b.d+x):=by
   rcases hd with hd|⟨e1,rfl⟩
   ·obtain ⟨e,h1,h2⟩:=h.gone b hb j u x hd hx2 hr2
    exact ⟨e,.inl ⟨h1,h2⟩⟩
   ·have hba:b.d=a.d:=by
     have h1:=(h.lab b hb).1
     rw [e1,(h.lab a ha).1] at h1
     exact (Option.some.inj h1).symm
    rw [e1] at hx2
    obtain ⟨rfl,rfl⟩:=huniq _ _ hx2
    exact ⟨0,.inr ⟨rfl,by omega⟩⟩
  obtain ⟨e,⟨h1,h2⟩|⟨rfl,h2⟩⟩:=key
  ·by_cases e2:u=v
   ·subst e2
    have:=hfar _ h1
    exact ⟨_,upd_same _ _ _,by omega⟩
   ·exact ⟨e,by rw [upd_other _ _ e2];exact h1,h2⟩
  ·exact ⟨_,upd_same _ _ _,h2⟩
structure Space (A:Int→Int→Int→Prop) (X:Nums) (r:Int→Int) (s:Int) (out:List Lab):Prop where
 once:out.Pairwise (fun a b=>a.v≠b.v)
 sound:∀a∈out,Way0 A Any s a.v a.d
 root:(⟨s,0,-1⟩:Lab)∈out
 way:∀a∈out,(a.v=s∧a.d=0∧a.b= -1)∨∃x w,X a.b x a.v w∧r x<r a.v∧∃b∈out,b.v=x∧b.d+w=a.d
 peaks:∀v d,Peak A r s v d→∃a∈out,a.v=v∧a.d=d
theorem Run.space (hH:Hier A X.rel r N) (h:Run A X r s far by' [] cur out done) (hall:∀a∈out,∀i,done a.v i) (hr0:∀v,0≤r v):Space A X r s out:=by
 have hpk:∀n v d,(r v).toNat=n→Peak A r s v d→∃a∈out,a.v=v∧a.d=d:=by
  intro n
  induction n using Nat.strongRecOn with
  |_ n ih=>
   intro v d hn hp
   have final:far v=some d→∃a∈out,a.v=v∧a.d=d:=by
    intro hf
    rcases h.rest v d hf with h1|⟨⟨a,ha,e⟩|⟨e,h1,h2⟩,_⟩
    ·simp at h1
    ·refine ⟨a,ha,e,?_⟩
     have:=(h.lab a ha).1
     rw [e,hf] at this
     exact (Option.some.inj this).symm
    ·have:=hp.2.1.2 _ h1
     omega
   by_cases e:s=v
   ·subst e
    obtain rfl:=hp.2.1.uniq (.self hH.pos s)
    exact final h.start
   ·obtain ⟨x,a,b,rfl,h1,⟨i,h2⟩,h3,_,h4⟩:=hp.step hH e
    obtain ⟨c,hc,rfl,rfl⟩:=ih (r x).toNat (by have:=hr0 x;have:=hr0 v;omega) x a rfl h1
    obtain ⟨k,hk,hk2⟩:=h.gone c hc i v b (hall c hc i) h2 h3
    have:=hp.2.1.2 _ (h.sound _ _ hk)
    obtain rfl:k=c.d+b:=by omega
    exact final hk
 have hlab:∀a∈out,(a.v=s∧a.d=0∧a.b= -1)∨∃x w,X a.b x a.v w∧r x<r a.v∧∃b∈out,b.v=x∧b.d+w=a.d:=by
  intro a ha
  obtain ⟨a1,_,_,a4⟩:=h.lab a ha
  rw [a4]
  exact h.way _ _ a1
 refine ⟨h.once,fun a ha=>h.sound _ _ (h.lab a ha).1,?_,hlab,fun v d hp=>hpk _ v d rfl hp⟩
 obtain ⟨a,ha,e1,e2⟩:=hpk _ s 0 rfl (.self hH.pos r s)
 rcases hlab a ha with ⟨_,_,e3⟩|⟨x,w,hx,h2,b,hb,_,e3⟩
 ·have:a=⟨s,0,-1⟩:=by cases a;simp_all
  exact this▸ha
 ·have h1:=(h.sound _ _ (h.lab b hb).1).nonneg hH.pos
  rw [e2] at e3
  have h4:1≤w:=by
   exact (hH.sound _ _ _ ⟨_,hx⟩).2.pos hH.pos
  omega
end Go.Proofs.YteaaapdjplbljaaGreat.Ch
end
section
namespace Go.Proofs.YteaaapdjplbljaaGreat.Ch
variable {A:Int→Int→Int→Prop} {X:Nums} {r:Int→Int} {N:Int→Prop} {s t:Int} {out la lb:List Lab}
theorem Space.up (hH:Hier A X.rel r N) (h:Space A X r s out) (hr0:∀v,0≤r v):∀a∈out,r s≤r a.v∧Way0 A (fun m=>r m≤r a.v) s a.v a.d:=by
 have key:∀n,∀a∈out,(r a.v).toNat=n→r s≤r a.v∧Way0 A (fun m=>r m≤r a.v) s a.v a.d:=by
  intro n
  induction n using Nat.strongRecOn with
  |_ n ih=>
   intro a ha hn
   rcases h.way a ha with ⟨e1,e2,_⟩|⟨x,w,hx,hr,b,hb,rfl,e⟩
   ·rw [e1,e2]
    exact ⟨Int.le_refl _,.inl ⟨rfl,rfl⟩⟩
   ·obtain ⟨i1,i2⟩:=ih (r b.v).toNat (by have:=hr0 b.v;have:=hr0 a.v;omega) b hb rfl
    refine ⟨by omega,?_⟩
    rw [←e]
    exact (i2.imp fun m hm=>by omega).trans (by omega) (.inr ((hH.sound _ _ _ ⟨_,hx⟩).2.imp fun m hm=>by omega))
 exact fun a ha=>key _ a ha rfl
theorem Space.peak (hH:Hier A X.rel r N) (h:Space A X r s out) (hr0:∀v,0≤r v) {a:Lab} (ha:a∈out) (hd:Dist A s a.v a.d):Peak A r s a.v a.d:=by
 obtain ⟨h1,h2⟩:=h.up hH hr0 a ha
 exact ⟨h1,hd,h2⟩
theorem once_fn:∀{out:List Lab},out.Pairwise (fun a b=>a.v≠b.v)→∀{a b:Lab},a∈out→b∈out→a.v=b.v→a=b
 |[],_,a,b,ha,_,_=>by simp at ha
 |x::l,h,a,b,ha,hb,e=>by
  obtain ⟨h2,h3⟩:=List.pairwise_cons.1 h
  rcases List.mem_cons.1 ha with h4|h4
  ·rcases List.mem_cons.1 hb with h5|h5
   ·rw [h4,h5]
   ·rw [h4] at e
    exact absurd e (h2 b h5)
  ·rcases List.mem_cons.1 hb with h5|h5
   ·rw [h5] at e
    exact absurd e.symm (h2 a h4)
   ·exact once_fn h3 h4 h5 e
theorem Space.fn (h:Space A X r s out) {a b:Lab} (ha:a∈out) (hb:b∈out) (e:a.v=b.v):a=b:=once_fn h.once ha hb e
theorem Space.both (hH:Hier A X.rel r N) {Y:Nums} (ha:Space A X r s la) (hb:Space (Turn A) Y r t lb):
  (∀a∈la,∀b∈lb,a.v=b.v→Way0 A Any s t (a.d+b.d))∧(∀d,Dist A s t d→∃a∈la,∃b∈lb,a.v=b.v∧a.d+b.d=d):=by
 refine ⟨?_,?_⟩
 ·intro a h1 b h2 e
  have h3:=ha.sound a h1
  have h4:=(hb.sound b h2).turn
  rw [e] at h3
  exact h3.trans trivial h4
 ·intro d hd
  obtain ⟨x,p,q,rfl,h1,h2⟩:=meet_peak hH hd
  obtain ⟨a,a1,a2,a3⟩:=ha.peaks _ _ h1
  obtain ⟨b,b1,b2,b3⟩:=hb.peaks _ _ h2
  exact ⟨a,a1,b,b1,by rw [a2,b2],by rw [a3,b3]⟩
inductive Chain (S:Int→Int→Int→Prop) (r:Int→Int):Int→Int→Int→Prop
 |none (u:Int):Chain S r u u 0
 |cons {u m v w d:Int}:S u m w→r u<r m→Chain S r m v d→Chain S r u v (w+d)
theorem Chain.snoc {S:Int→Int→Int→Prop} {u m v w d:Int} (h:Chain S r u m d) (h1:S m v w) (h2:r m<r v):Chain S r u v (d+w):=by
 induction h with
 |none u=>rw [Int.zero_add,←Int.add_zero w];exact .cons h1 h2 (.none _)
 |cons a b _ ih=>rw [Int.add_assoc];exact .cons a b (ih h1 h2)
theorem Peak.chain (hH:Hier A X.rel r N) (hr0:∀v,0≤r v):∀{v d:Int},Peak A r s v d→Chain X.rel r s v d:=by
 have key:∀n v d,(r v).toNat=n→Peak A r s v d→Chain X.rel r s v d:=by
  intro n
  induction n using Nat.strongRecOn with
  |_ n ih=>
   intro v d hn hp
   by_cases e:s=v
   ·subst e
    obtain rfl:=hp.2.1.uniq (.self hH.pos s)
    exact .none _
   ·obtain ⟨x,a,b,rfl,h1,h2,h3,_,_⟩:=hp.step hH e
    exact (ih (r x).toNat (by have:=hr0 x;have:=hr0 v;omega) x a rfl h1).snoc h2 h3
 exact @fun v d hp=>key _ v d rfl hp
theorem Chain.way (hH:Hier A X.rel r N) {u v d:Int} (h:Chain X.rel r u v d):Way0 A Any u v d:=by
 induction h with
 |none u=>exact .inl ⟨rfl,rfl⟩
 |cons a _ _ ih=>exact Way0.trans (.inr ((hH.sound _ _ _ a).2.imp fun _ _=>trivial)) trivial ih
theorem Dist.down (hH:Hier A X.rel r N) (hr0:∀v,0≤r v) {v d:Int} (hd:Dist A s v d):Peak A r s v d∨∃y w,X.rel y v w∧r v<r y∧Dist A s y (d-w):=by
 obtain ⟨x,a,b,rfl,h1,h2⟩:=meet_peak hH hd
 have hc:Chain (Turn X.rel) r v x b:=Peak.chain (X:=fun i u v w=>X i v u w) hH.turn hr0 h2
 have hHt:Hier (Turn A) (Nums.rel fun i u v w=>X i v u w) r N:=hH.turn
 cases hc with
 |none=>exact .inl (by rw [Int.add_zero];exact h1)
 |@cons _ y _ w e k1 k2 k3=>
  refine .inr ⟨y,w,k1,k2,?_⟩
  have h3:Way0 A Any x y e:=(Chain.way (X:=fun i u v w=>X i v u w) hHt k3).turn
  have h4:Way0 A Any y v w:=.inr ((hH.sound _ _ _ k1).2.imp fun _ _=>trivial)
  have h5:Way0 A Any s y (a+e):=h1.2.1.1.trans trivial h3
  rw [show a+(w+e)=(a+e)+w by omega] at hd
  rw [show a+(w+e)-w=a+e by omega]
  exact (hd.parts h5 h4).1
theorem dist_some (hA:∀u v w,A u v w→1≤w) {u v d:Int} (h:Way0 A Any u v d):∃e,Dist A u v e:=by
 have key:∀n d,d.toNat=n→Way0 A Any u v d→∃e,Dist A u v e:=by
  intro n
  induction n using Nat.strongRecOn with
  |_ n ih=>
   intro d hn h
   by_cases hl:∃e,Way0 A Any u v e∧e<d
   ·obtain ⟨e,h1,h2⟩:=hl
    exact ih e.toNat (by have:=h1.nonneg hA;omega) e rfl h1
   ·exact ⟨d,h,fun e k=>by
     have:¬e<d:=fun h2=>hl ⟨e,k,h2⟩
     omega⟩
 exact key _ d rfl h
theorem Way.lastArc {p:Int→Prop} {u v d:Int} (h:Way A p u v d):∃m w,A m v w∧((m=u∧d=w)∨(p m∧Way A p u m (d-w))):=by
 induction h with
 |one h=>exact ⟨_,_,h,.inl ⟨rfl,rfl⟩⟩
 |@cons u m v w d h1 h2 h3 ih=>
  obtain ⟨x,y,a,b⟩:=ih
  refine ⟨x,y,a,.inr ?_⟩
  rcases b with ⟨rfl,rfl⟩|⟨b1,b2⟩
  ·exact ⟨h2,by rw [show w+d-d=w by omega];exact .one h1⟩
  ·exact ⟨b1,by rw [show w+d-y=w+(d-y) by omega];exact .cons h1 h2 b2⟩
theorem Dist.pred {u v d:Int} (hd:Dist A u v d) (hne:u≠v):∃m w,A m v w∧Dist A u m (d-w):=by
 rcases hd.1 with ⟨e,_⟩|h
 ·exact absurd e hne
 obtain ⟨m,w,h1,h2⟩:=h.lastArc
 refine ⟨m,w,h1,?_⟩
 have h3:Way0 A Any u m (d-w):=by
  rcases h2 with ⟨rfl,rfl⟩|⟨_,h2⟩
  ·exact .inl ⟨rfl,by omega⟩
  ·exact .inr h2
 have hd2:Dist A u v (d-w+w):=by rw [show d-w+w=d by omega];exact hd
 exact (hd2.parts h3 (.inr (.one h1))).1
end Go.Proofs.YteaaapdjplbljaaGreat.Ch
end
section
namespace Go.Proofs.YteaaapdjplbljaaGreat.Ch
def FAR:Int:=4611686018427387904
structure Arc where
 u:Int
 v:Int
 w:Int
def rel (L:List Arc):Int→Int→Int→Prop:=fun u v w=>(⟨u,v,w⟩:Arc)∈L
def gD (d:List Int) (v:Int):Int:=d.getD v.toNat FAR
theorem gD_set {d:List Int} {v u x:Int} (hv:0≤v) (hl:v.toNat<d.length) (hu:0≤u):gD (d.set v.toNat x) u=if u=v then x else gD d u:=by
 unfold gD
 rw [List.getD_eq_getElem?_getD,List.getElem?_set,List.getD_eq_getElem?_getD]
 by_cases e:v.toNat=u.toNat
 ·rw [if_pos e,if_pos hl,if_pos (by omega)]
  rfl
 ·rw [if_neg e,if_neg (by omega)]
def fires (d:List Int) (e:Arc):Bool:=decide (gD d e.u<FAR)&&decide (gD d e.u+e.w<gD d e.v)
def relaxC (p:List Int×Bool) (e:Arc):List Int×Bool:=if fires p.1 e then (p.1.set e.v.toNat (gD p.1 e.u+e.w),true) else p
def roundC (d:List Int) (L:List Arc):List Int×Bool:=L.foldl relaxC (d,false)
abbrev node (n:Nat) (v:Int):Prop:=0≤v∧v<(n:Int)
structure Sofar (L:List Arc) (s:Int) (n:Nat) (m:Int) (d:List Int):Prop where
 len:d.length=n
 way:∀v,node n v→gD d v=FAR∨(Way0 (rel L) Any s v (gD d v)∧gD d v≤m)
 self:gD d s=0
structure Good (L:List Arc) (n:Nat) (W:Int):Prop where
 ends:∀e∈L,node n e.u∧node n e.v
 pos:∀e∈L,1≤e.w∧e.w≤W
variable {L:List Arc} {s:Int} {n:Nat} {m W:Int} {d:List Int}
theorem Good.hA (h:Good L n W):∀u v w,rel L u v w→1≤w:=fun _ _ _ k=>(h.pos _ k).1
theorem Sofar.le (h:Sofar L s n m d) (hm:m<FAR) {v:Int} (hv:node n v):gD d v≤FAR:=by
 rcases h.way v hv with e|⟨_,e⟩<;>omega
theorem Sofar.nonneg (hg:Good L n W) (h:Sofar L s n m d) {v:Int} (hv:node n v):0≤gD d v:=by
 rcases h.way v hv with e|⟨e,_⟩
 ·rw [e];decide
 ·exact e.nonneg hg.hA
theorem Sofar.relax (hg:Good L n W) (h:Sofar L s n m d) {e:Arc} (he:e∈L) (hf:fires d e=true) (hs:node n s):
  Sofar L s n (m+W) (d.set e.v.toNat (gD d e.u+e.w))∧∀v,node n v→gD (d.set e.v.toNat (gD d e.u+e.w)) v≤gD d v:=by
 unfold fires at hf
 simp only [Bool.and_eq_true,decide_eq_true_eq] at hf
 obtain ⟨f1,f2⟩:=hf
 obtain ⟨⟨u0,u1⟩,⟨v0,v1⟩⟩:=hg.ends e he
 have hw:=hg.pos e he
 have hl:e.v.toNat<d.length:=by rw [h.len];omega
 have hu:Way0 (rel L) Any s e.u (gD d e.u)∧gD d e.u≤m:=by
  rcases h.way e.u ⟨u0,u1⟩ with k|k
  ·omega
  ·exact k
 refine ⟨⟨by rw [List.length_set];exact h.len,?_,?_⟩,?_⟩
 ·intro v hv
  rw [gD_set v0 hl hv.1]
  split
  ·rename_i k
   subst k
   exact .inr ⟨hu.1.trans trivial (.inr (.one he)),by omega⟩
  ·rcases h.way v hv with k|⟨k1,k2⟩
   ·exact .inl k
   ·exact .inr ⟨k1,by omega⟩
 ·rw [gD_set v0 hl hs.1]
  split
  ·rename_i k
   have:=hu.1.nonneg hg.hA
   rw [←k,h.self] at f2
   omega
  ·exact h.self
 ·intro v hv
  rw [gD_set v0 hl hv.1]
  split
  ·rename_i k
   subst k
   omega
  ·exact Int.le_refl _
theorem Sofar.mono (h:Sofar L s n m d) {m':Int} (hm:m≤m'):Sofar L s n m' d:=⟨h.len,fun v hv=>(h.way v hv).imp id (fun k=>⟨k.1,by omega⟩),h.self⟩
theorem Sofar.part (hg:Good L n W) (hs:node n s) (hW:0≤W):∀(K:List Arc) (d:List Int) (m:Int) (c:Bool),(∀e∈K,e∈L)→Sofar L s n m d→
  Sofar L s n (m+K.length*W) (K.foldl relaxC (d,c)).1∧(∀v,node n v→gD (K.foldl relaxC (d,c)).1 v≤gD d v)∧
  (∀e∈K,m+K.length*W<FAR→gD d e.u<FAR→gD (K.foldl relaxC (d,c)).1 e.v≤gD d e.u+e.w)∧
  ((K.foldl relaxC (d,c)).2=false→c=false∧(K.foldl relaxC (d,c)).1=d∧∀e∈K,fires d e=false)
 |[],d,m,c,_,h=>⟨by simpa using h,fun _ _=>Int.le_refl _,by simp,fun e=>⟨e,rfl,by simp⟩⟩
 |e::K,d,m,c,hK,h=>by
  have heL:=hK e (by simp)
  rw [List.foldl_cons]
  have hlen:((e::K).length:Int)*W=W+K.length*W:=by
   rw [List.length_cons]
   push_cast
   rw [Int.add_mul]
   omega
  cases hf:fires d e with
  |false=>
   have hr:relaxC (d,c) e=(d,c):=by unfold relaxC;simp [hf]
   rw [hr]
   obtain ⟨a1,a2,a3,a4⟩:=Sofar.part hg hs hW K d m c (fun x hx=>hK x (by simp [hx])) h
   refine ⟨a1.mono (by omega),a2,?_,fun k=>?_⟩
   ·intro x hx hm hu
    rcases List.mem_cons.1 hx with rfl|hx
    ·have h1:=a2 x.v (hg.ends x heL).2
     unfold fires at hf
     simp only [Bool.and_eq_false_iff,decide_eq_false_iff_not] at hf
     omega
    ·exact a3 x hx (by omega) hu
   ·obtain ⟨b1,b2,b3⟩:=a4 k
    refine ⟨b1,b2,?_⟩
    intro x hx
    rcases List.mem_cons.1 hx with rfl|hx
    ·exact hf
    ·exact b3 x hx
  |true=>
   have hr:relaxC (d,c) e=(d.set e.v.toNat (gD d e.u+e.w),true):=by unfold relaxC;simp [hf]
   rw [hr]
   obtain ⟨r1,r2⟩:=h.relax hg heL hf hs
   obtain ⟨a1,a2,a3,a4⟩:=Sofar.part hg hs hW K _ (m+W) true (fun x hx=>hK x (by simp [hx])) r1
   refine ⟨a1.mono (by omega),fun v hv=>Int.le_trans (a2 v hv) (r2 v hv),?_,fun k=>?_⟩
   ·intro x hx hm hu
    rcases List.mem_cons.1 hx with rfl|hx
    ·have h1:=a2 x.v (hg.ends x heL).2
     have h2:gD (d.set x.v.toNat (gD d x.u+x.w)) x.v=gD d x.u+x.w:=by
      rw [gD_set (hg.ends x heL).2.1 (by rw [h.len];have:=(hg.ends x heL).2;unfold node at this;omega) (hg.ends x heL).2.1,if_pos rfl]
     omega
    ·have hxn:=(hg.ends x (hK x (by simp [hx]))).1
     have h1:=r2 x.u hxn
     have:=a3 x hx (by omega) (by omega)
     omega
   ·exact absurd (a4 k).1 (by simp)
def Right (L:List Arc) (s:Int) (d:List Int) (v:Int):Prop:=∀e,Dist (rel L) s v e→gD d v=e∧gD d v≠FAR
open Classical in
noncomputable def left (L:List Arc) (s:Int) (n:Nat) (d:List Int):Nat:=(List.range n).countP fun v:Nat=>decide (¬Right L s d (v:Int))
theorem left_le (L:List Arc) (s:Int) (n:Nat) (d:List Int):left L s n d≤n:=by
 unfold left
 exact Nat.le_trans List.countP_le_length (by simp)
theorem countP_lt {p q:Nat→Bool}:∀(l:List Nat),(∀x∈l,p x=true→q x=true)→(∃x∈l,q x=true∧p x=false)→l.countP p<l.countP q
 |[],_,h=>by obtain ⟨x,hx,_⟩:=h;simp at hx
 |y::l,h1,h2=>by
  rw [List.countP_cons,List.countP_cons]
  have hle:l.countP p≤l.countP q:=List.countP_mono_left fun x hx=>h1 x (by simp [hx])
  obtain ⟨x,hx,hq,hp⟩:=h2
  rcases List.mem_cons.1 hx with rfl|hx
  ·rw [hq,hp]
   simp
   omega
  ·have:=countP_lt l (fun z hz=>h1 z (by simp [hz])) ⟨x,hx,hq,hp⟩
   have hy:=h1 y (by simp)
   cases hpy:p y with
   |false=>simp;split<;>omega
   |true=>rw [hy hpy];simp;omega
structure Exact (L:List Arc) (s:Int) (n:Nat) (d:List Int):Prop where
 len:d.length=n
 dist:∀v e,node n v→Dist (rel L) s v e→gD d v=e
 none:∀v,node n v→(∀e,¬Dist (rel L) s v e)→gD d v=FAR
 fin:∀v e,node n v→Dist (rel L) s v e→gD d v≠FAR
theorem Sofar.exact (hg:Good L n W) (h:Sofar L s n m d) (h0:∀v e,node n v→Dist (rel L) s v e→gD d v=e∧gD d v≠FAR):Exact L s n d:=by
 refine ⟨h.len,fun v e hv hd=>(h0 v e hv hd).1,?_,fun v e hv hd=>(h0 v e hv hd).2⟩
 intro v hv hn
 rcases h.way v hv with k|⟨k,_⟩
 ·exact k
 ·obtain ⟨e,he⟩:=dist_some hg.hA k
  exact absurd he (hn e)
open Classical in
theorem left_zero (h0:left L s n d=0) {v:Int} (hv:node n v):Right L s d v:=by
 unfold left at h0
 rw [List.countP_eq_zero] at h0
 have e1:((v.toNat:Nat):Int)=v:=by have:=hv.1;omega
 exact Classical.byContradiction fun k=>h0 v.toNat (List.mem_range.2 (by have h1:=hv.2;have h2:=hv.1;omega)) (decide_eq_true (by rw [e1];exact k))
open Classical in
theorem zero_left (h0:∀v,node n v→Right L s d v):left L s n d=0:=by
 unfold left
 rw [List.countP_eq_zero]
 intro v hv hp
 exact of_decide_eq_true hp (h0 _ ⟨by omega,by have:=List.mem_range.1 hv;omega⟩)
theorem Sofar.zero (hg:Good L n W) (h:Sofar L s n m d) (h0:left L s n d=0):Exact L s n d:=
 h.exact hg fun _ _ hv hd=>left_zero h0 hv _ hd
theorem least_of {p:Int→Int→Prop} (h:∃v e,p v e∧0≤e):∃v e,p v e∧0≤e∧∀v' e',p v' e'→0≤e'→e≤e':=by
 have key:∀k v e,e.toNat=k→p v e→0≤e→∃v e,p v e∧0≤e∧∀v' e',p v' e'→0≤e'→e≤e':=by
  intro k
  induction k using Nat.strongRecOn with
  |_ k ih=>
   intro v e hk hp he
   by_cases hl:∃v' e',p v' e'∧0≤e'∧e'<e
   ·obtain ⟨v',e',h1,h2,h3⟩:=hl
    exact ih e'.toNat (by omega) v' e' rfl h1 h2
   ·refine ⟨v,e,hp,he,fun v' e' h1 h2=>?_⟩
    have:¬e'<e:=fun h3=>hl ⟨v',e',h1,h2,h3⟩
    omega
 obtain ⟨v,e,h1,h2⟩:=h
 exact key _ v e rfl h1 h2
theorem Right.keep (hg:Good L n W) (hW:0≤W) (hs:node n s) (h:Sofar L s n m d) (hm:m+L.length*W<FAR) {v:Int} (hv:node n v) (hr:Right L s d v):Right L s (roundC d L).1 v:=by
 have hmw:0≤(L.length:Int)*W:=Int.mul_nonneg (by omega) hW
 obtain ⟨a1,a2,_,_⟩:=Sofar.part hg hs hW L d m false (fun e h=>h) h
 intro e hd
 obtain ⟨r1,r2⟩:=hr e hd
 have h1:gD (roundC d L).1 v≤gD d v:=a2 v hv
 have h2:gD d v≤m:=by
  rcases h.way v hv with k|⟨_,k⟩
  ·exact absurd k r2
  ·exact k
 rcases a1.way v hv with k|⟨k,_⟩
 ·have k':gD (roundC d L).1 v=FAR:=k
  omega
 ·have k':e≤gD (roundC d L).1 v:=hd.2 _ k
  omega
open Classical in
theorem left_less (hg:Good L n W) (hW:0≤W) (hs:node n s) (h:Sofar L s n m d) (hm:m+L.length*W+W<FAR) (h0:left L s n d≠0):left L s n (roundC d L).1<left L s n d:=by
 have hmw:0≤(L.length:Int)*W:=Int.mul_nonneg (by omega) hW
 obtain ⟨a1,a2,a3,a4⟩:=Sofar.part hg hs hW L d m false (fun e h=>h) h
 have hex:∃v e,(node n v∧Dist (rel L) s v e∧¬Right L s d v)∧0≤e:=by
  refine Classical.byContradiction fun k=>h0 (zero_left fun v hv=>Classical.byContradiction fun hr=>?_)
  refine k ?_
  unfold Right at hr
  obtain ⟨e,he⟩:∃e,Dist (rel L) s v e:=Classical.byContradiction fun hn=>hr fun e he=>absurd ⟨e,he⟩ hn
  exact ⟨v,e,⟨hv,he,hr⟩,he.1.nonneg hg.hA⟩
 obtain ⟨v,e,⟨hv,hd,hne⟩,he0,hmin⟩:=least_of hex
 have hvs:s≠v:=by
  rintro rfl
  apply hne
  intro e' he'
  obtain rfl:=he'.uniq (.self hg.hA s)
  rw [h.self]
  exact ⟨rfl,by decide⟩
 obtain ⟨x,w,hx,hdx⟩:=hd.pred hvs
 have hxn:=(hg.ends _ hx).1
 simp only at hxn
 have hw1:=hg.pos _ hx
 simp only at hw1
 have hxr:Right L s d x:=by
  refine Classical.byContradiction fun k=>?_
  have:=hmin x (e-w) ⟨hxn,hdx,k⟩ (hdx.1.nonneg hg.hA)
  omega
 obtain ⟨hxe,hxf⟩:=hxr _ hdx
 have hxm:gD d x≤m:=by
  rcases h.way x hxn with k|⟨_,k⟩
  ·exact absurd k hxf
  ·exact k
 have hxd:=a3 _ hx (by omega) (by simp only;omega)
 simp only at hxd
 have hev:Right L s (roundC d L).1 v:=by
  intro e' he'
  obtain rfl:=hd.uniq he'
  have h1:gD (roundC d L).1 v≤e:=by show gD (List.foldl relaxC (d,false) L).1 v≤e;omega
  rcases a1.way v hv with k|⟨k,_⟩
  ·have k':gD (roundC d L).1 v=FAR:=k
   omega
  ·have k':e≤gD (roundC d L).1 v:=hd.2 _ k
   omega
 have e1:((v.toNat:Nat):Int)=v:=by have:=hv.1;omega
 unfold left
 refine countP_lt _ ?_ ⟨v.toNat,List.mem_range.2 (by have h1:=hv.1;have h2:=hv.2;omega),decide_eq_true (by rw [e1];exact hne),decide_eq_false (by rw [e1];exact fun k=>k hev)⟩
 intro u hu hp
 have hp:=of_decide_eq_true hp
 exact decide_eq_true fun hr=>hp (hr.keep hg hW hs h (by omega) ⟨by omega,by have:=List.mem_range.1 hu;omega⟩)
theorem Sofar.still (hg:Good L n W) (h:Sofar L s n m d) (hf:∀e∈L,fires d e=false) (hm:m+W<FAR) (hW:0≤W):Exact L s n d:=by
 have key:∀{u v e},Way (rel L) Any u v e→gD d u+e<FAR→gD d v≤gD d u+e:=by
  intro u v e hw
  induction hw with
  |@one u v w k=>
   intro hb
   have h1:=hf _ k
   have h2:=(hg.pos _ k).1
   simp only at h2
   unfold fires at h1
   simp only [Bool.and_eq_false_iff,decide_eq_false_iff_not] at h1
   omega
  |@cons u x v w e k _ k2 ih=>
   intro hb
   have h1:=hf _ k
   have h2:=(hg.pos _ k).1
   have h3:=k2.pos hg.hA
   simp only at h2
   unfold fires at h1
   simp only [Bool.and_eq_false_iff,decide_eq_false_iff_not] at h1
   have:=ih (by omega)
   omega
 have bound:∀{v e},Way (rel L) Any s v e→gD d v<FAR:=by
  intro v e hw
  have h2:∀{u v e},Way (rel L) Any u v e→gD d u<FAR→gD d v<FAR:=by
   intro u v e hw
   have step:∀{u v w},rel L u v w→gD d u<FAR→gD d v<FAR:=by
    intro u v w k hu
    have h1:=hf _ k
    have hn:=(hg.ends _ k).2
    unfold fires at h1
    simp only [Bool.and_eq_false_iff,decide_eq_false_iff_not] at h1
    rcases h.way v hn with k2|⟨_,k2⟩
    ·
     rcases h.way u (hg.ends _ k).1 with k3|⟨_,k3⟩
     ·omega
     ·have h4:=(hg.pos _ k).2
      simp only at h1 h4
      omega
    ·omega
   induction hw with
   |one k=>exact step k
   |cons k _ _ ih=>exact fun hu=>ih (step k hu)
  exact h2 hw (by rw [h.self];decide)
 refine h.exact hg fun v e hv hd=>?_
 rcases h.way v hv with k|⟨k,k2⟩
 ·exfalso
  rcases hd.1 with ⟨rfl,rfl⟩|hw
  ·rw [h.self] at k;cases k
  ·have:=bound hw;omega
 ·refine ⟨?_,by omega⟩
  have h1:=hd.2 _ k
  rcases hd.1 with ⟨rfl,rfl⟩|hw
  ·exact h.self
  ·have:=key hw (by rw [h.self];omega)
   rw [h.self] at this
   omega
theorem Sofar.round (hg:Good L n W) (hW:0≤W) (hs:node n s) (h:Sofar L s n m d) (hm:m+L.length*W+W<FAR):
  Sofar L s n (m+L.length*W) (roundC d L).1∧(left L s n (roundC d L).1<left L s n d∨left L s n (roundC d L).1=0)∧((roundC d L).2=false→Exact L s n (roundC d L).1):=by
 have hmw:0≤(L.length:Int)*W:=Int.mul_nonneg (by omega) hW
 obtain ⟨a1,a2,a3,a4⟩:=Sofar.part hg hs hW L d m false (fun e h=>h) h
 refine ⟨a1,?_,fun k=>?_⟩
 ·by_cases h0:left L s n d=0
  ·exact .inr (zero_left fun v hv=>(left_zero h0 hv).keep hg hW hs h (by omega) hv)
  ·exact .inl (left_less hg hW hs h hm h0)
 ·obtain ⟨_,k2,k3⟩:=a4 k
  show Exact L s n (List.foldl relaxC (d,false) L).1
  rw [k2]
  exact h.still hg k3 (by omega) hW
theorem Sofar.begin (L:List Arc) {s:Int} {n:Nat} (hs:node n s):Sofar L s n 0 ((List.replicate n FAR).set s.toNat 0):=by
 have hl:s.toNat<(List.replicate n FAR).length:=by simp;omega
 refine ⟨by simp,?_,?_⟩
 ·intro v hv
  rw [gD_set hs.1 hl hv.1]
  split
  ·rename_i e
   subst e
   exact .inr ⟨.inl ⟨rfl,rfl⟩,Int.le_refl _⟩
  ·refine .inl ?_
   unfold gD
   rw [List.getD_eq_getElem?_getD,List.getElem?_replicate]
   split<;>rfl
 ·rw [gD_set hs.1 hl hs.1,if_pos rfl]
end Go.Proofs.YteaaapdjplbljaaGreat.Ch
end
