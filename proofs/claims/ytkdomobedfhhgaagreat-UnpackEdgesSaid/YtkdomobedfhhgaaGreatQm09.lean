/- The search on the way up a hierarchy, in plain Lean: what its labels are. Spaces of both ends, and how far nodes are, in plain Lean. -/
import Derived.Test.YtkdomobedfhhgaaGreatQm08
set_option linter.unusedVariables false
set_option linter.unusedSimpArgs false
set_option linter.unnecessarySimpa false
section
namespace Go.Proofs.YtkdomobedfhhgaaGreat.Ch
structure Lab where
 v:Int
 d:Int
 b:Int
 deriving DecidableEq
abbrev Nums:=Int→Int→Int→Int→Prop
abbrev Nums.rel (X:Nums):Int→Int→Int→Prop:=fun u v w=>∃i,X i u v w
def upd {α:Type} (f:Int→α) (v:Int) (x:α):Int→α:=fun u=>if u=v then x else f u
theorem upd_same {α:Type} (f:Int→α) (v:Int) (x:α):upd f v x v=x:=if_pos rfl
theorem upd_other {α:Type} (f:Int→α) {v u:Int} (x:α) (h:u≠v):upd f v x u=f u:=if_neg h
structure Run (A:Int→Int→Int→Prop) (X:Nums) (r:Int→Int) (s:Int) (far:Int→Option Int) (by':Int→Int) (l:List (Int×Int)) (cur:Int) (out:List Lab) (done:Int→Int→Prop):Prop where
 sound:∀v d,far v=some d→Way0 A Any s v d
 start:far s=some 0
 heap:∀v k,(v,k)∈l→far v=some k∧cur≤k
 lab:∀a∈out,far a.v=some a.d∧a.d≤cur∧(∀k,(a.v,k)∉l)∧a.b=by' a.v
 rest:∀v d,far v=some d→(v,d)∈l∨((∃a∈out,a.v=v)∨∃e,Way0 A Any s v e∧e<d)∧d≤cur
 way:∀v d,far v=some d→(v=s∧d=0∧by' v= -1)∨∃x w,X (by' v) x v w∧r x<r v∧∃a∈out,a.v=x∧a.d+w=d
 gone:∀a∈out,∀i v w,done a.v i→X i a.v v w→r a.v<r v→∃e,far v=some e∧e≤a.d+w
 once:out.Pairwise (fun a b=>a.v≠b.v)
 low:0≤cur
variable {A:Int→Int→Int→Prop} {X:Nums} {r:Int→Int} {N:Int→Prop} {s:Int} {far:Int→Option Int} {by':Int→Int} {l:List (Int×Int)} {cur:Int} {out:List Lab} {done:Int→Int→Prop}
theorem Run.begin (s:Int) (by':Int→Int) (done:Int→Int→Prop):Run A X r s (upd (fun _=>none) s (some 0)) (upd by' s (-1)) [(s,0)] 0 [] done:=by
 refine ⟨?_,upd_same _ _ _,?_,by simp,?_,?_,by simp,.nil,Int.le_refl _⟩
 ·intro v d h
  by_cases e:v=s
  ·subst e
   rw [upd_same] at h
   cases h
   exact .inl ⟨rfl,rfl⟩
  ·rw [upd_other _ _ e] at h
   cases h
 ·intro v k h
  simp at h
  obtain ⟨rfl,rfl⟩:=h
  exact ⟨upd_same _ _ _,Int.le_refl _⟩
 ·intro v d h
  by_cases e:v=s
  ·subst e
   rw [upd_same] at h
   cases h
   exact .inl (by simp)
  ·rw [upd_other _ _ e] at h
   cases h
 ·intro v d h
  by_cases e:v=s
  ·subst e
   rw [upd_same] at h
   cases h
   exact .inl ⟨rfl,rfl,upd_same _ _ _⟩
  ·rw [upd_other _ _ e] at h
   cases h
theorem Run.stall (h:Run A X r s far by' l cur out done) {v d:Int} {l':List (Int×Int)} (hin:(v,d)∈l) (hmin:∀y∈l,d≤y.2) (hl:∀y,y∈l'↔y∈l∧y.1≠v)
  {e:Int} (hw:Way0 A Any s v e) (he:e<d):Run A X r s far by' l' d out done:=by
 have hc:=(h.heap v d hin).2
 refine ⟨h.sound,h.start,?_,?_,?_,h.way,h.gone,h.once,by have:=h.low;omega⟩
 ·intro u k hk
  have:=(hl _).1 hk
  exact ⟨(h.heap u k this.1).1,hmin _ this.1⟩
 ·intro a ha
  obtain ⟨a1,a2,a3,a4⟩:=h.lab a ha
  exact ⟨a1,by omega,fun k hk=>a3 k ((hl _).1 hk).1,a4⟩
 ·intro u k hk
  rcases h.rest u k hk with h1|⟨h1,h2⟩
  ·by_cases e2:u=v
   ·subst e2
    have hd:=(h.heap u d hin).1
    rw [hk] at hd
    cases hd
    exact .inr ⟨.inr ⟨e,hw,he⟩,Int.le_refl _⟩
   ·exact .inl ((hl _).2 ⟨h1,e2⟩)
  ·exact .inr ⟨h1,by omega⟩
theorem Run.pop (h:Run A X r s far by' l cur out done) {v d:Int} {l':List (Int×Int)} (hin:(v,d)∈l) (hmin:∀y∈l,d≤y.2) (hl:∀y,y∈l'↔y∈l∧y.1≠v)
  (hdone:∀i,¬done v i):Run A X r s far by' l' d (out++[⟨v,d,by' v⟩]) done∧∀a∈out,a.v≠v:=by
 obtain ⟨hf,hc⟩:=h.heap v d hin
 have hnew:∀a∈out,a.v≠v:=by
  intro a ha e
  have:=(h.lab a ha).2.2.1 d
  rw [e] at this
  exact this hin
 refine ⟨⟨h.sound,h.start,?_,?_,?_,?_,?_,?_,by have:=h.low;omega⟩,hnew⟩
 ·intro u k hk
  have:=(hl _).1 hk
  exact ⟨(h.heap u k this.1).1,hmin _ this.1⟩
 ·intro a ha
  rcases List.mem_append.1 ha with ha|ha
  ·obtain ⟨a1,a2,a3,a4⟩:=h.lab a ha
   exact ⟨a1,by omega,fun k hk=>a3 k ((hl _).1 hk).1,a4⟩
  ·rw [List.mem_singleton] at ha
   subst ha
   exact ⟨hf,Int.le_refl _,fun k hk=>((hl _).1 hk).2 rfl,rfl⟩
 ·intro u k hk
  rcases h.rest u k hk with h1|⟨h1|h1,h2⟩
  ·by_cases e2:u=v
   ·subst e2
    rw [hk] at hf
    cases hf
    exact .inr ⟨.inl ⟨⟨u,d,by' u⟩,by simp,rfl⟩,Int.le_refl _⟩
   ·exact .inl ((hl _).2 ⟨h1,e2⟩)
  ·obtain ⟨a,ha,e⟩:=h1
   exact .inr ⟨.inl ⟨a,by simp [ha],e⟩,by omega⟩
  ·exact .inr ⟨.inr h1,by omega⟩
 ·intro u k hk
  rcases h.way u k hk with h1|⟨x,w,h1,h2,a,ha,h3⟩
  ·exact .inl h1
  ·exact .inr ⟨x,w,h1,h2,a,by simp [ha],h3⟩
 ·intro a ha i u w hd hx hr
  rcases List.mem_append.1 ha with ha|ha
  ·exact h.gone a ha i u w hd hx hr
  ·rw [List.mem_singleton] at ha
   subst ha
   exact absurd hd (hdone i)
 ·rw [List.pairwise_append]
  refine ⟨h.once,by simp,?_⟩
  intro a ha b hb
  rw [List.mem_singleton] at hb
  subst hb
  exact hnew a ha
theorem Run.skip (h:Run A X r s far by' l cur out done) {a:Lab} (ha:a∈out) {i v w e:Int} (huniq:∀v' w',X i a.v v' w'→v'=v∧w'=w) (hfar:far v=some e) (he:e≤a.d+w):
  Run A X r s far by' l cur out (fun u j=>done u j∨(u=a.v∧j=i)):=by
 refine ⟨h.sound,h.start,h.heap,h.lab,h.rest,h.way,?_,h.once,h.low⟩
 intro b hb j u x hd hx hr
 rcases hd with hd|⟨e1,rfl⟩
 ·exact h.gone b hb j u x hd hx hr
 ·have hba:b.d=a.d:=by
   have h1:=(h.lab b hb).1
   rw [e1,(h.lab a ha).1] at h1
   exact (Option.some.inj h1).symm
  rw [e1] at hx
  obtain ⟨rfl,rfl⟩:=huniq _ _ hx
  exact ⟨e,hfar,by omega⟩
theorem Run.reach (hsound:∀i u v w,X i u v w→Way A Any u v w∧1≤w) (h:Run A X r s far by' l cur out done) {a:Lab} (ha:a∈out) (hcur:a.d=cur) {i v w:Int} (hx:X i a.v v w) (hr:r a.v<r v)
  (huniq:∀v' w',X i a.v v' w'→v'=v∧w'=w) (hfar:∀e,far v=some e→a.d+w<e) {l':List (Int×Int)} (hl:∀y,y∈l'↔y=(v,a.d+w)∨(y∈l∧y.1≠v)):
  Run A X r s (upd far v (some (a.d+w))) (upd by' v i) l' cur out (fun u j=>done u j∨(u=a.v∧j=i)):=by
 obtain ⟨hw,hw1⟩:=hsound _ _ _ _ hx
 have hlow:=h.low
 have hav:Way0 A Any s v (a.d+w):=(h.sound _ _ (h.lab a ha).1).trans trivial (.inr hw)
 have hvo:∀b∈out,b.v≠v:=by
  intro b hb e
  obtain ⟨b1,b2,_⟩:=h.lab b hb
  rw [e] at b1
  have:=hfar _ b1
  omega
 have hvs:v≠s:=by
  intro e
  have:=hfar 0 (by rw [e];exact h.start)
  omega
 refine ⟨?_,?_,?_,?_,?_,?_,?_,h.once,hlow⟩
 ·intro u d hd
  by_cases e:u=v
  ·subst e
   rw [upd_same] at hd
   cases hd
   exact hav
  ·rw [upd_other _ _ e] at hd
   exact h.sound _ _ hd
 ·rw [upd_other _ _ (fun e=>hvs e.symm)]
  exact h.start
 ·intro u k hk
  rcases (hl _).1 hk with e|⟨h1,h2⟩
  ·cases e
   exact ⟨upd_same _ _ _,by omega⟩
  ·rw [upd_other _ _ h2]
   exact h.heap u k h1
 ·intro b hb
  obtain ⟨b1,b2,b3,b4⟩:=h.lab b hb
  have hne:=hvo b hb
  refine ⟨by rw [upd_other _ _ hne];exact b1,b2,?_,by rw [upd_other _ _ hne];exact b4⟩
  intro k hk
  rcases (hl _).1 hk with e|⟨h1,h2⟩
  ·exact hne (Prod.mk.inj e).1
  ·exact b3 k h1
 ·intro u d hd
  by_cases e:u=v
  ·subst e
   rw [upd_same] at hd
   cases hd
   exact .inl ((hl _).2 (.inl rfl))
  ·rw [upd_other _ _ e] at hd
   rcases h.rest u d hd with h1|h1
   ·exact .inl ((hl _).2 (.inr ⟨h1,e⟩))
   ·exact .inr h1
 ·intro u d hd
  by_cases e:u=v
  ·subst e
   rw [upd_same] at hd
   cases hd
   rw [upd_same]
   exact .inr ⟨a.v,w,hx,hr,a,ha,rfl,rfl⟩
  ·rw [upd_other _ _ e] at hd
   rw [upd_other _ _ e]
   exact h.way u d hd
 ·intro b hb j u x hd hx2 hr2
  have key:∃e,far u=some e∧e≤b.d+x∨(u=v∧a.d+w≤b.d+x):=by
   rcases hd with hd|⟨e1,rfl⟩
   ·obtain ⟨e,h1,h2⟩:=h.gone b hb j u x hd hx2 hr2
    exact ⟨e,.inl ⟨h1,h2⟩⟩
   ·have hba:b.d=a.d:=by
     have h1:=(h.lab b hb).1
     rw [e1,(h.lab a ha).1] at h1
     exact (Option.some.inj h1).symm
    rw [e1] at hx2
    obtain ⟨rfl,rfl⟩:=huniq _ _ hx2
    exact ⟨0,.inr ⟨rfl,by omega⟩⟩
  obtain ⟨e,⟨h1,h2⟩|⟨rfl,h2⟩⟩:=key
  ·by_cases e2:u=v
   ·subst e2
    have:=hfar _ h1
    exact ⟨_,upd_same _ _ _,by omega⟩
   ·exact ⟨e,by rw [upd_other _ _ e2];exact h1,h2⟩
  ·exact ⟨_,upd_same _ _ _,h2⟩
structure Space (A:Int→Int→Int→Prop) (X:Nums) (r:Int→Int) (s:Int) (out:List Lab):Prop where
 once:out.Pairwise (fun a b=>a.v≠b.v)
 sound:∀a∈out,Way0 A Any s a.v a.d
 root:(⟨s,0,-1⟩:Lab)∈out
 way:∀a∈out,(a.v=s∧a.d=0∧a.b= -1)∨∃x w,X a.b x a.v w∧r x<r a.v∧∃b∈out,b.v=x∧b.d+w=a.d
 peaks:∀v d,Peak A r s v d→∃a∈out,a.v=v∧a.d=d
theorem Run.space (hH:Hier A X.rel r N) (h:Run A X r s far by' [] cur out done) (hall:∀a∈out,∀i,done a.v i) (hr0:∀v,0≤r v):Space A X r s out:=by
 have hpk:∀n v d,(r v).toNat=n→Peak A r s v d→∃a∈out,a.v=v∧a.d=d:=by
  intro n
  induction n using Nat.strongRecOn with
  |_ n ih=>
   intro v d hn hp
   have final:far v=some d→∃a∈out,a.v=v∧a.d=d:=by
    intro hf
    rcases h.rest v d hf with h1|⟨⟨a,ha,e⟩|⟨e,h1,h2⟩,_⟩
    ·simp at h1
    ·refine ⟨a,ha,e,?_⟩
     have:=(h.lab a ha).1
     rw [e,hf] at this
     exact (Option.some.inj this).symm
    ·have:=hp.2.1.2 _ h1
     omega
   by_cases e:s=v
   ·subst e
    obtain rfl:=hp.2.1.uniq (.self hH.pos s)
    exact final h.start
   ·obtain ⟨x,a,b,rfl,h1,⟨i,h2⟩,h3,_,h4⟩:=hp.step hH e
    obtain ⟨c,hc,rfl,rfl⟩:=ih (r x).toNat (by have:=hr0 x;have:=hr0 v;omega) x a rfl h1
    obtain ⟨k,hk,hk2⟩:=h.gone c hc i v b (hall c hc i) h2 h3
    have:=hp.2.1.2 _ (h.sound _ _ hk)
    obtain rfl:k=c.d+b:=by omega
    exact final hk
 have hlab:∀a∈out,(a.v=s∧a.d=0∧a.b= -1)∨∃x w,X a.b x a.v w∧r x<r a.v∧∃b∈out,b.v=x∧b.d+w=a.d:=by
  intro a ha
  obtain ⟨a1,_,_,a4⟩:=h.lab a ha
  rw [a4]
  exact h.way _ _ a1
 refine ⟨h.once,fun a ha=>h.sound _ _ (h.lab a ha).1,?_,hlab,fun v d hp=>hpk _ v d rfl hp⟩
 obtain ⟨a,ha,e1,e2⟩:=hpk _ s 0 rfl (.self hH.pos r s)
 rcases hlab a ha with ⟨_,_,e3⟩|⟨x,w,hx,h2,b,hb,_,e3⟩
 ·have:a=⟨s,0,-1⟩:=by cases a;simp_all
  exact this▸ha
 ·have h1:=(h.sound _ _ (h.lab b hb).1).nonneg hH.pos
  rw [e2] at e3
  have h4:1≤w:=by
   exact (hH.sound _ _ _ ⟨_,hx⟩).2.pos hH.pos
  omega
end Go.Proofs.YtkdomobedfhhgaaGreat.Ch
end
section
namespace Go.Proofs.YtkdomobedfhhgaaGreat.Ch
variable {A:Int→Int→Int→Prop} {X:Nums} {r:Int→Int} {N:Int→Prop} {s t:Int} {out la lb:List Lab}
theorem Space.up (hH:Hier A X.rel r N) (h:Space A X r s out) (hr0:∀v,0≤r v):∀a∈out,r s≤r a.v∧Way0 A (fun m=>r m≤r a.v) s a.v a.d:=by
 have key:∀n,∀a∈out,(r a.v).toNat=n→r s≤r a.v∧Way0 A (fun m=>r m≤r a.v) s a.v a.d:=by
  intro n
  induction n using Nat.strongRecOn with
  |_ n ih=>
   intro a ha hn
   rcases h.way a ha with ⟨e1,e2,_⟩|⟨x,w,hx,hr,b,hb,rfl,e⟩
   ·rw [e1,e2]
    exact ⟨Int.le_refl _,.inl ⟨rfl,rfl⟩⟩
   ·obtain ⟨i1,i2⟩:=ih (r b.v).toNat (by have:=hr0 b.v;have:=hr0 a.v;omega) b hb rfl
    refine ⟨by omega,?_⟩
    rw [←e]
    exact (i2.imp fun m hm=>by omega).trans (by omega) (.inr ((hH.sound _ _ _ ⟨_,hx⟩).2.imp fun m hm=>by omega))
 exact fun a ha=>key _ a ha rfl
theorem Space.peak (hH:Hier A X.rel r N) (h:Space A X r s out) (hr0:∀v,0≤r v) {a:Lab} (ha:a∈out) (hd:Dist A s a.v a.d):Peak A r s a.v a.d:=by
 obtain ⟨h1,h2⟩:=h.up hH hr0 a ha
 exact ⟨h1,hd,h2⟩
theorem once_fn:∀{out:List Lab},out.Pairwise (fun a b=>a.v≠b.v)→∀{a b:Lab},a∈out→b∈out→a.v=b.v→a=b
 |[],_,a,b,ha,_,_=>by simp at ha
 |x::l,h,a,b,ha,hb,e=>by
  obtain ⟨h2,h3⟩:=List.pairwise_cons.1 h
  rcases List.mem_cons.1 ha with h4|h4
  ·rcases List.mem_cons.1 hb with h5|h5
   ·rw [h4,h5]
   ·rw [h4] at e
    exact absurd e (h2 b h5)
  ·rcases List.mem_cons.1 hb with h5|h5
   ·rw [h5] at e
    exact absurd e.symm (h2 a h4)
   ·exact once_fn h3 h4 h5 e
theorem Space.fn (h:Space A X r s out) {a b:Lab} (ha:a∈out) (hb:b∈out) (e:a.v=b.v):a=b:=once_fn h.once ha hb e
theorem Space.both (hH:Hier A X.rel r N) {Y:Nums} (ha:Space A X r s la) (hb:Space (Turn A) Y r t lb):
  (∀a∈la,∀b∈lb,a.v=b.v→Way0 A Any s t (a.d+b.d))∧(∀d,Dist A s t d→∃a∈la,∃b∈lb,a.v=b.v∧a.d+b.d=d):=by
 refine ⟨?_,?_⟩
 ·intro a h1 b h2 e
  have h3:=ha.sound a h1
  have h4:=(hb.sound b h2).turn
  rw [e] at h3
  exact h3.trans trivial h4
 ·intro d hd
  obtain ⟨x,p,q,rfl,h1,h2⟩:=meet_peak hH hd
  obtain ⟨a,a1,a2,a3⟩:=ha.peaks _ _ h1
  obtain ⟨b,b1,b2,b3⟩:=hb.peaks _ _ h2
  exact ⟨a,a1,b,b1,by rw [a2,b2],by rw [a3,b3]⟩
theorem Space.peaks_both (hH:Hier A X.rel r N) {Y:Nums} (hY:∀u v w,Y.rel u v w↔Turn X.rel u v w) (hr0:∀v,0≤r v) (ha:Space A X r s la) (hb:Space (Turn A) Y r t lb) {d:Int} (hd:Dist A s t d) (v:Int):
  (∃a∈la,∃b∈lb,a.v=v∧b.v=v∧a.d+b.d=d)↔∃p q,p+q=d∧Peak A r s v p∧Peak (Turn A) r t v q:=by
 have hHt:Hier (Turn A) Y.rel r N:=by
  have:=hH.turn
  have e:Y.rel=Turn X.rel:=funext fun u=>funext fun v=>funext fun w=>propext (hY u v w)
  rw [e]
  exact this
 constructor
 ·rintro ⟨a,a1,b,b1,rfl,e,rfl⟩
  have h3:=ha.sound a a1
  have h4:=(hb.sound b b1).turn
  rw [e] at h4
  obtain ⟨d1,d2⟩:=hd.parts h3 h4
  refine ⟨a.d,b.d,rfl,ha.peak hH hr0 a1 d1,?_⟩
  have h5:=hb.peak hHt hr0 b1 (by rw [e];exact d2.turn)
  rw [e] at h5
  exact h5
 ·rintro ⟨p,q,rfl,h1,h2⟩
  obtain ⟨a,a1,a2,a3⟩:=ha.peaks _ _ h1
  obtain ⟨b,b1,b2,b3⟩:=hb.peaks _ _ h2
  exact ⟨a,a1,b,b1,a2,b2,by rw [a3,b3]⟩
inductive Chain (S:Int→Int→Int→Prop) (r:Int→Int):Int→Int→Int→Prop
 |none (u:Int):Chain S r u u 0
 |cons {u m v w d:Int}:S u m w→r u<r m→Chain S r m v d→Chain S r u v (w+d)
theorem Chain.snoc {S:Int→Int→Int→Prop} {u m v w d:Int} (h:Chain S r u m d) (h1:S m v w) (h2:r m<r v):Chain S r u v (d+w):=by
 induction h with
 |none u=>rw [Int.zero_add,←Int.add_zero w];exact .cons h1 h2 (.none _)
 |cons a b _ ih=>rw [Int.add_assoc];exact .cons a b (ih h1 h2)
theorem Peak.chain (hH:Hier A X.rel r N) (hr0:∀v,0≤r v):∀{v d:Int},Peak A r s v d→Chain X.rel r s v d:=by
 have key:∀n v d,(r v).toNat=n→Peak A r s v d→Chain X.rel r s v d:=by
  intro n
  induction n using Nat.strongRecOn with
  |_ n ih=>
   intro v d hn hp
   by_cases e:s=v
   ·subst e
    obtain rfl:=hp.2.1.uniq (.self hH.pos s)
    exact .none _
   ·obtain ⟨x,a,b,rfl,h1,h2,h3,_,_⟩:=hp.step hH e
    exact (ih (r x).toNat (by have:=hr0 x;have:=hr0 v;omega) x a rfl h1).snoc h2 h3
 exact @fun v d hp=>key _ v d rfl hp
theorem Chain.way (hH:Hier A X.rel r N) {u v d:Int} (h:Chain X.rel r u v d):Way0 A Any u v d:=by
 induction h with
 |none u=>exact .inl ⟨rfl,rfl⟩
 |cons a _ _ ih=>exact Way0.trans (.inr ((hH.sound _ _ _ a).2.imp fun _ _=>trivial)) trivial ih
theorem Dist.down (hH:Hier A X.rel r N) (hr0:∀v,0≤r v) {v d:Int} (hd:Dist A s v d):Peak A r s v d∨∃y w,X.rel y v w∧r v<r y∧Dist A s y (d-w):=by
 obtain ⟨x,a,b,rfl,h1,h2⟩:=meet_peak hH hd
 have hc:Chain (Turn X.rel) r v x b:=Peak.chain (X:=fun i u v w=>X i v u w) hH.turn hr0 h2
 have hHt:Hier (Turn A) (Nums.rel fun i u v w=>X i v u w) r N:=hH.turn
 cases hc with
 |none=>exact .inl (by rw [Int.add_zero];exact h1)
 |@cons _ y _ w e k1 k2 k3=>
  refine .inr ⟨y,w,k1,k2,?_⟩
  have h3:Way0 A Any x y e:=(Chain.way (X:=fun i u v w=>X i v u w) hHt k3).turn
  have h4:Way0 A Any y v w:=.inr ((hH.sound _ _ _ k1).2.imp fun _ _=>trivial)
  have h5:Way0 A Any s y (a+e):=h1.2.1.1.trans trivial h3
  rw [show a+(w+e)=(a+e)+w by omega] at hd
  rw [show a+(w+e)-w=a+e by omega]
  exact (hd.parts h5 h4).1
theorem dist_some (hA:∀u v w,A u v w→1≤w) {u v d:Int} (h:Way0 A Any u v d):∃e,Dist A u v e:=by
 have key:∀n d,d.toNat=n→Way0 A Any u v d→∃e,Dist A u v e:=by
  intro n
  induction n using Nat.strongRecOn with
  |_ n ih=>
   intro d hn h
   by_cases hl:∃e,Way0 A Any u v e∧e<d
   ·obtain ⟨e,h1,h2⟩:=hl
    exact ih e.toNat (by have:=h1.nonneg hA;omega) e rfl h1
   ·exact ⟨d,h,fun e k=>by
     have:¬e<d:=fun h2=>hl ⟨e,k,h2⟩
     omega⟩
 exact key _ d rfl h
theorem Way.lastArc {p:Int→Prop} {u v d:Int} (h:Way A p u v d):∃m w,A m v w∧((m=u∧d=w)∨(p m∧Way A p u m (d-w))):=by
 induction h with
 |one h=>exact ⟨_,_,h,.inl ⟨rfl,rfl⟩⟩
 |@cons u m v w d h1 h2 h3 ih=>
  obtain ⟨x,y,a,b⟩:=ih
  refine ⟨x,y,a,.inr ?_⟩
  rcases b with ⟨rfl,rfl⟩|⟨b1,b2⟩
  ·exact ⟨h2,by rw [show w+d-d=w by omega];exact .one h1⟩
  ·exact ⟨b1,by rw [show w+d-y=w+(d-y) by omega];exact .cons h1 h2 b2⟩
theorem Dist.pred {u v d:Int} (hd:Dist A u v d) (hne:u≠v):∃m w,A m v w∧Dist A u m (d-w):=by
 rcases hd.1 with ⟨e,_⟩|h
 ·exact absurd e hne
 obtain ⟨m,w,h1,h2⟩:=h.lastArc
 refine ⟨m,w,h1,?_⟩
 have h3:Way0 A Any u m (d-w):=by
  rcases h2 with ⟨rfl,rfl⟩|⟨_,h2⟩
  ·exact .inl ⟨rfl,by omega⟩
  ·exact .inr h2
 have hd2:Dist A u v (d-w+w):=by rw [show d-w+w=d by omega];exact hd
 exact (hd2.parts h3 (.inr (.one h1))).1
end Go.Proofs.YtkdomobedfhhgaaGreat.Ch
end
