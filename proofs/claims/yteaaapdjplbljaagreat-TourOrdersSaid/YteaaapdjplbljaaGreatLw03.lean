/- Ways, how far nodes are, peaks, and hierarchies, in plain Lean: nodes go one by one and leave shortcuts. -/
import Derived.Test.YteaaapdjplbljaaGreatLw02
set_option linter.unusedVariables false
set_option linter.unusedSimpArgs false
set_option linter.unnecessarySimpa false
namespace Go.Proofs.YteaaapdjplbljaaGreat.Ch
inductive Way (A:Int→Int→Int→Prop) (p:Int→Prop):Int→Int→Int→Prop
 |one {u v w:Int}:A u v w→Way A p u v w
 |cons {u m v w d:Int}:A u m w→p m→Way A p m v d→Way A p u v (w+d)
variable {A B:Int→Int→Int→Prop} {p q:Int→Prop} {u v m s t:Int} {d e:Int}
theorem Way.mono (hA:∀u v w,A u v w→B u v w) (hp:∀m,p m→q m) (h:Way A p u v d):Way B q u v d:=by
 induction h with
 |one h=>exact .one (hA _ _ _ h)
 |cons h1 h2 _ ih=>exact .cons (hA _ _ _ h1) (hp _ h2) ih
theorem Way.imp (hp:∀m,p m→q m) (h:Way A p u v d):Way A q u v d:=h.mono (fun _ _ _ h=>h) hp
theorem Way.trans (h:Way A p u m d) (hm:p m) (k:Way A p m v e):Way A p u v (d+e):=by
 induction h with
 |one h=>exact .cons h hm k
 |cons h1 h2 _ ih=>rw [Int.add_assoc];exact .cons h1 h2 (ih hm k)
theorem Way.snoc (h:Way A p u m d) (hm:p m) {w:Int} (k:A m v w):Way A p u v (d+w):=h.trans hm (.one k)
theorem Way.pos (hA:∀u v w,A u v w→1≤w) (h:Way A p u v d):1≤d:=by
 induction h with
 |one h=>exact hA _ _ _ h
 |cons h1 _ _ ih=>have:=hA _ _ _ h1;omega
def Turn (A:Int→Int→Int→Prop):Int→Int→Int→Prop:=fun u v w=>A v u w
theorem Way.turn (h:Way A p u v d):Way (Turn A) p v u d:=by
 induction h with
 |one h=>exact .one h
 |cons h1 h2 _ ih=>rw [Int.add_comm];exact ih.snoc h2 h1
def Way0 (A:Int→Int→Int→Prop) (p:Int→Prop) (u v d:Int):Prop:=(u=v∧d=0)∨Way A p u v d
theorem Way0.imp (hp:∀m,p m→q m) (h:Way0 A p u v d):Way0 A q u v d:=Or.imp id (Way.imp hp) h
theorem Way0.nonneg (hA:∀u v w,A u v w→1≤w) (h:Way0 A p u v d):0≤d:=by
 rcases h with ⟨_,rfl⟩|h
 ·exact Int.le_refl _
 ·have:=h.pos hA;omega
theorem Way0.trans (h:Way0 A p u m d) (hm:p m) (k:Way0 A p m v e):Way0 A p u v (d+e):=by
 rcases h with ⟨rfl,rfl⟩|h
 ·rw [Int.zero_add];exact k
 ·rcases k with ⟨rfl,rfl⟩|k
  ·rw [Int.add_zero];exact .inr h
  ·exact .inr (h.trans hm k)
theorem Way0.turn (h:Way0 A p u v d):Way0 (Turn A) p v u d:=by
 rcases h with ⟨rfl,rfl⟩|h
 ·exact .inl ⟨rfl,rfl⟩
 ·exact .inr h.turn
abbrev Any:Int→Prop:=fun _=>True
def Dist (A:Int→Int→Int→Prop) (u v d:Int):Prop:=Way0 A Any u v d∧∀e,Way0 A Any u v e→d≤e
theorem Dist.uniq (h:Dist A u v d) (k:Dist A u v e):d=e:=Int.le_antisymm (h.2 _ k.1) (k.2 _ h.1)
theorem Dist.self (hA:∀u v w,A u v w→1≤w) (u:Int):Dist A u u 0:=⟨.inl ⟨rfl,rfl⟩,fun _ h=>h.nonneg hA⟩
theorem Dist.turn (h:Dist A u v d):Dist (Turn A) v u d:=⟨h.1.turn,fun e k=>h.2 e k.turn⟩
theorem Dist.parts {a b:Int} (h:Dist A u v (a+b)) (h1:Way0 A Any u m a) (h2:Way0 A Any m v b):Dist A u m a∧Dist A m v b:=
 ⟨⟨h1,fun e k=>by have:=h.2 _ (k.trans trivial h2);omega⟩,⟨h2,fun e k=>by have:=h.2 _ (h1.trans trivial k);omega⟩⟩
theorem Way.top (r:Int→Int) (h:Way A p u v d):∃x a b,d=a+b∧Way A (fun m=>p m∧r m<r x) x v b∧((x=u∧a=0)∨(p x∧r u≤r x∧Way A (fun m=>p m∧r m≤r x) u x a)):=by
 induction h with
 |@one u v w h=>exact ⟨u,0,w,by omega,.one h,.inl ⟨rfl,rfl⟩⟩
 |@cons u m v w d h1 h2 h3 ih=>
  obtain ⟨x,a,b,rfl,hb,hx⟩:=ih
  by_cases hu:r x<r u
  ·refine ⟨u,0,w+(a+b),by omega,?_,.inl ⟨rfl,rfl⟩⟩
   have hb':Way A (fun m=>p m∧r m<r u) x v b:=hb.imp fun k hk=>⟨hk.1,by omega⟩
   rcases hx with ⟨rfl,rfl⟩|⟨px,hx1,hx2⟩
   ·rw [Int.zero_add]
    exact .cons h1 ⟨h2,hu⟩ hb'
   ·exact .cons h1 ⟨h2,by omega⟩ ((hx2.imp fun k hk=>⟨hk.1,by omega⟩).trans ⟨px,hu⟩ hb')
  ·refine ⟨x,w+a,b,by omega,hb,.inr ?_⟩
   rcases hx with ⟨rfl,rfl⟩|⟨px,hx1,hx2⟩
   ·rw [Int.add_zero]
    exact ⟨h2,by omega,.one h1⟩
   ·exact ⟨px,by omega,.cons h1 ⟨h2,by omega⟩ hx2⟩
structure Hier (A S:Int→Int→Int→Prop) (r:Int→Int) (N:Int→Prop):Prop where
 sound:∀u v w,S u v w→u≠v∧Way A (fun m=>r m<r u∧r m<r v) u v w
 full:∀u v w,u≠v→Dist A u v w→Way A (fun m=>r m<r u∧r m<r v) u v w→S u v w
 pos:∀u v w,A u v w→1≤w
 node:∀u v w,A u v w→N u∧N v
 inj:∀u v,N u→N v→r u=r v→u=v
theorem Way.nodes {N:Int→Prop} (hA:∀u v w,A u v w→N u∧N v) (h:Way A p u v d):N u∧N v:=by
 induction h with
 |one h=>exact hA _ _ _ h
 |cons h1 _ _ ih=>exact ⟨(hA _ _ _ h1).1,ih.2⟩
theorem Way.within {N:Int→Prop} (hA:∀u v w,A u v w→N u∧N v) (h:Way A p u v d):Way A (fun m=>p m∧N m) u v d:=by
 induction h with
 |one h=>exact .one h
 |cons h1 h2 _ ih=>exact .cons h1 ⟨h2,(hA _ _ _ h1).2⟩ ih
theorem Hier.turn {S:Int→Int→Int→Prop} {r:Int→Int} {N:Int→Prop} (h:Hier A S r N):Hier (Turn A) (Turn S) r N:=by
 refine ⟨?_,?_,fun u v w k=>h.pos _ _ _ k,fun u v w k=>(h.node _ _ _ k).symm,h.inj⟩
 ·intro u v w k
  obtain ⟨a,b⟩:=h.sound _ _ _ k
  exact ⟨fun e=>a e.symm,b.turn.imp fun m hm=>⟨hm.2,hm.1⟩⟩
 ·intro u v w hne hd hw
  exact h.full _ _ _ (fun e=>hne e.symm) hd.turn (hw.turn.imp fun m hm=>⟨hm.2,hm.1⟩)
def Peak (A:Int→Int→Int→Prop) (r:Int→Int) (s v d:Int):Prop:=r s≤r v∧Dist A s v d∧Way0 A (fun m=>r m≤r v) s v d
theorem Peak.self (hA:∀u v w,A u v w→1≤w) (r:Int→Int) (s:Int):Peak A r s s 0:=⟨Int.le_refl _,.self hA s,.inl ⟨rfl,rfl⟩⟩
theorem Peak.step {S:Int→Int→Int→Prop} {r:Int→Int} {N:Int→Prop} (h:Hier A S r N) (hp:Peak A r s v d) (hne:s≠v):
  ∃x a b,d=a+b∧Peak A r s x a∧S x v b∧r x<r v∧N x∧1≤b:=by
 obtain ⟨hr,hd,hw⟩:=hp
 rcases hw with ⟨e,_⟩|hw
 ·exact absurd e hne
 obtain ⟨x,a,b,rfl,hb,hx⟩:=(hw.within h.node).top r
 have hb1:1≤b:=hb.pos h.pos
 have hbA:Way0 A Any x v b:=.inr (hb.imp fun _ _=>trivial)
 have hxA:Way0 A Any s x a:=by
  rcases hx with ⟨rfl,rfl⟩|⟨_,_,hx⟩
  ·exact .inl ⟨rfl,rfl⟩
  ·exact .inr (hx.imp fun _ _=>trivial)
 obtain ⟨d1,d2⟩:=hd.parts hxA hbA
 have hNx:N x:=(hb.nodes h.node).1
 have hNv:N v:=(hb.nodes h.node).2
 have hxv:x≠v:=by
  rintro rfl
  have:=hd.2 _ hxA
  omega
 have hrx:r x<r v:=by
  have hle:r x≤r v:=by
   rcases hx with ⟨rfl,_⟩|⟨⟨hx,_⟩,_⟩
   ·exact hr
   ·exact hx
  have:r x≠r v:=fun e=>hxv (h.inj _ _ hNx hNv e)
  omega
 have hS:S x v b:=h.full _ _ _ hxv d2 (hb.imp fun m hm=>⟨hm.2,by omega⟩)
 refine ⟨x,a,b,rfl,⟨?_,d1,?_⟩,hS,hrx,hNx,hb1⟩
 ·rcases hx with ⟨rfl,_⟩|⟨_,hx,_⟩
  ·exact Int.le_refl _
  ·exact hx
 ·rcases hx with ⟨rfl,rfl⟩|⟨_,_,hx⟩
  ·exact .inl ⟨rfl,rfl⟩
  ·exact .inr (hx.imp fun m hm=>hm.2)
theorem meet_peak {S:Int→Int→Int→Prop} {r:Int→Int} {N:Int→Prop} (h:Hier A S r N) (hd:Dist A s t d):
  ∃x a b,d=a+b∧Peak A r s x a∧Peak (Turn A) r t x b:=by
 rcases hd.1 with ⟨rfl,rfl⟩|hw
 ·exact ⟨s,0,0,rfl,.self h.pos r s,.self h.turn.pos r s⟩
 obtain ⟨x,a,b,rfl,hb,hx⟩:=(hw.within h.node).top r
 by_cases ht:r x<r t
 ·refine ⟨t,a+b,0,by omega,⟨?_,hd,?_⟩,.self h.turn.pos r t⟩
  ·rcases hx with ⟨rfl,_⟩|⟨_,hx,_⟩<;>omega
  ·have hb2:Way A (fun m=>r m≤r t) x t b:=hb.imp fun m hm=>by have:=hm.2;omega
   rcases hx with ⟨rfl,rfl⟩|⟨_,_,hx⟩
   ·rw [Int.zero_add];exact .inr hb2
   ·exact .inr ((hx.imp fun m hm=>by have:=hm.2;omega).trans (by omega) hb2)
 ·have hbA:Way0 A Any x t b:=.inr (hb.imp fun _ _=>trivial)
  have hxA:Way0 A Any s x a:=by
   rcases hx with ⟨rfl,rfl⟩|⟨_,_,hx⟩
   ·exact .inl ⟨rfl,rfl⟩
   ·exact .inr (hx.imp fun _ _=>trivial)
  obtain ⟨d1,d2⟩:=hd.parts hxA hbA
  refine ⟨x,a,b,rfl,⟨?_,d1,?_⟩,⟨by omega,d2.turn,?_⟩⟩
  ·rcases hx with ⟨rfl,_⟩|⟨_,hx,_⟩
   ·exact Int.le_refl _
   ·exact hx
  ·rcases hx with ⟨rfl,rfl⟩|⟨_,_,hx⟩
   ·exact .inl ⟨rfl,rfl⟩
   ·exact .inr (hx.imp fun m hm=>hm.2)
  ·exact .inr ((hb.imp fun m hm=>by have:=hm.2;omega).turn)
def rk (out:List Int) (v:Int):Int:=(out.idxOf v:Nat)
theorem rk_le (out:List Int) (v:Int):rk out v≤out.length:=by
 unfold rk
 have:=List.idxOf_le_length (a:=v) (l:=out)
 omega
theorem rk_lt {out:List Int} {v:Int}:rk out v<out.length↔v∈out:=by
 unfold rk
 rw [Int.ofNat_lt,List.idxOf_lt_length_iff]
theorem rk_not {out:List Int} {v:Int} (h:v∉out):rk out v=out.length:=by
 have h1:=rk_le out v
 have h2:¬rk out v<out.length:=fun k=>h (rk_lt.1 k)
 omega
theorem rk_in {out:List Int} {v z:Int} (h:v∈out):rk (out++[z]) v=rk out v:=by
 unfold rk
 rw [List.idxOf_append,if_pos h]
theorem rk_new {out:List Int} {z:Int} (h:z∉out):rk (out++[z]) z=out.length:=by
 unfold rk
 rw [List.idxOf_append,if_neg h]
 simp
theorem rk_far {out:List Int} {v z:Int} (h:v∉out) (hz:v≠z):rk (out++[z]) v=out.length+1:=by
 rw [rk_not (by simp [h,hz])]
 simp
theorem rk_inj {out:List Int} {u v:Int} (hu:u∈out) (h:rk out u=rk out v):u=v:=by
 have h1:=rk_lt.2 hu
 have h2:v∈out:=rk_lt.1 (by omega)
 unfold rk at h
 have h3:out.idxOf u=out.idxOf v:=by omega
 have e1:=List.getElem_idxOf (List.idxOf_lt_length_iff.2 hu)
 have e2:=List.getElem_idxOf (List.idxOf_lt_length_iff.2 h2)
 simp only [h3] at e1
 exact e1.symm.trans e2
theorem Way.last (z:Int) (h:Way A p u v d):Way A (fun m=>p m∧m≠z) u v d∨∃a b,d=a+b∧p z∧Way A p u z a∧Way A (fun m=>p m∧m≠z) z v b:=by
 induction h with
 |one h=>exact .inl (.one h)
 |@cons u m v w d h1 h2 h3 ih=>
  rcases ih with h|⟨a,b,rfl,hz,ha,hb⟩
  ·by_cases e:m=z
   ·subst e
    exact .inr ⟨w,d,rfl,h2,.one h1,h⟩
   ·exact .inl (.cons h1 ⟨h2,e⟩ h)
  ·exact .inr ⟨w+a,b,by omega,hz,.cons h1 h2 ha,hb⟩
theorem Way.once (hA:∀u v w,A u v w→1≤w) (z:Int) (h:Way A p u v d) (hd:Dist A u v d):Way A (fun m=>p m∧m≠z) u v d∨∃a b,d=a+b∧p z∧Way A (fun m=>p m∧m≠z) u z a∧Way A (fun m=>p m∧m≠z) z v b:=by
 rcases h.last z with h|⟨a,b,rfl,hz,ha,hb⟩
 ·exact .inl h
 ·rcases ha.last z with ha|⟨a1,a2,rfl,_,ha1,ha2⟩
  ·exact .inr ⟨a,b,rfl,hz,ha,hb⟩
  ·have h2:=ha2.pos hA
   have:=hd.2 (a1+b) (.inr ((ha1.imp fun _ _=>trivial).trans trivial (hb.imp fun _ _=>trivial)))
   omega
structure Part (A S:Int→Int→Int→Prop) (out:List Int):Prop where
 sound:∀u v w,S u v w→u≠v∧Way A (fun m=>rk out m<rk out u∧rk out m<rk out v) u v w
 full:∀u v w,u≠v→Dist A u v w→Way A (fun m=>rk out m<rk out u∧rk out m<rk out v) u v w→S u v w
theorem Part.start {S:Int→Int→Int→Prop} (h1:∀u v w,S u v w→u≠v∧A u v w) (h2:∀u v w,u≠v→A u v w→Dist A u v w→S u v w):Part A S []:=by
 refine ⟨fun u v w h=>⟨(h1 _ _ _ h).1,.one (h1 _ _ _ h).2⟩,?_⟩
 intro u v w hne hd hw
 have hr:∀x,rk [] x=0:=fun x=>by simp [rk]
 cases hw with
 |one h=>exact h2 _ _ _ hne h hd
 |cons _ h _=>simp [hr] at h
theorem Part.go {S S':Int→Int→Int→Prop} {out:List Int} {z:Int} (hA:∀u v w,A u v w→1≤w) (h:Part A S out) (hz:z∉out)
  (hS:∀u v w,S u v w→S' u v w)
  (hnew:∀u v w,S' u v w→S u v w∨(u∉out∧v∉out∧u≠z∧v≠z∧u≠v∧∃a b,S u z a∧S z v b∧w=a+b))
  (hall:∀u v a b,u∉out→v∉out→u≠z→v≠z→u≠v→S u z a→S z v b→Dist A u v (a+b)→S' u v (a+b)):Part A S' (out++[z]):=by
 have hmono:∀m u,rk out m<rk out u→rk (out++[z]) m<rk (out++[z]) u:=by
  intro m u hm
  have hm2:m∈out:=rk_lt.1 (by have:=rk_le out u;omega)
  rw [rk_in hm2]
  by_cases hu:u∈out
  ·rw [rk_in hu];exact hm
  ·have:=rk_lt.2 hm2
   by_cases e:u=z
   ·subst e
    rw [rk_new hz]
    exact this
   ·rw [rk_far hu e]
    omega
 refine ⟨?_,?_⟩
 ·intro u v w k
  rcases hnew _ _ _ k with k|⟨h1,h2,h3,h4,h5,a,b,ka,kb,rfl⟩
  ·obtain ⟨a,b⟩:=h.sound _ _ _ k
   exact ⟨a,b.imp fun m hm=>⟨hmono _ _ hm.1,hmono _ _ hm.2⟩⟩
  ·refine ⟨h5,?_⟩
   rw [rk_far h1 h3,rk_far h2 h4]
   have hin:∀m,rk out m<rk out z→rk (out++[z]) m<out.length+1∧rk (out++[z]) m<out.length+1:=fun m hm=>by
    have:=hmono _ _ hm
    rw [rk_new hz] at this
    omega
   exact ((h.sound _ _ _ ka).2.imp fun m hm=>hin m hm.2).trans (by rw [rk_new hz];omega) ((h.sound _ _ _ kb).2.imp fun m hm=>hin m hm.1)
 ·intro u v w hne hd hw
  have old:(u∈out++[z]∨v∈out++[z])→S u v w:=by
   intro ho
   refine h.full _ _ _ hne hd (hw.imp fun m hm=>?_)
   have hm2:m∈out:=by
    rcases ho with ho|ho
    ·have h1:rk (out++[z]) u≤out.length:=by have:=rk_lt.2 ho;simp at this;omega
     by_cases hmo:m∈out
     ·exact hmo
     ·by_cases e:m=z
      ·subst e;have:=rk_new hz;omega
      ·have:=rk_far hmo e;omega
    ·have h1:rk (out++[z]) v≤out.length:=by have:=rk_lt.2 ho;simp at this;omega
     by_cases hmo:m∈out
     ·exact hmo
     ·by_cases e:m=z
      ·subst e;have:=rk_new hz;omega
      ·have:=rk_far hmo e;omega
   have hlt:=rk_lt.2 hm2
   have each:∀x,rk (out++[z]) m<rk (out++[z]) x→rk out m<rk out x:=by
    intro x hx
    by_cases hxo:x∈out
    ·rw [rk_in hm2,rk_in hxo] at hx
     exact hx
    ·rw [rk_not hxo]
     exact hlt
   exact ⟨each _ hm.1,each _ hm.2⟩
  by_cases hu:u∈out++[z]
  ·exact hS _ _ _ (old (.inl hu))
  by_cases hv:v∈out++[z]
  ·exact hS _ _ _ (old (.inr hv))
  have hu1:u∉out:=fun k=>hu (by simp [k])
  have hu2:u≠z:=fun k=>hu (by simp [k])
  have hv1:v∉out:=fun k=>hv (by simp [k])
  have hv2:v≠z:=fun k=>hv (by simp [k])
  rw [rk_far hu1 hu2,rk_far hv1 hv2] at hw
  have hin:∀m,rk (out++[z]) m<out.length+1∧m≠z→m∈out:=by
   rintro m ⟨hm,hmz⟩
   by_cases hmo:m∈out
   ·exact hmo
   ·have:=rk_far hmo hmz;omega
  rcases hw.once hA z hd with hw|⟨a,b,rfl,_,ha,hb⟩
  ·refine hS _ _ _ (h.full _ _ _ hne hd (hw.imp fun m hm=>?_))
   rw [rk_not hu1,rk_not hv1]
   have:=rk_lt.2 (hin m ⟨hm.1.1,hm.2⟩)
   exact ⟨this,this⟩
  ·obtain ⟨d1,d2⟩:=hd.parts (.inr (ha.imp fun _ _=>trivial)) (.inr (hb.imp fun _ _=>trivial))
   refine hall _ _ _ _ hu1 hv1 hu2 hv2 hne (h.full _ _ _ hu2 d1 (ha.imp fun m hm=>?_)) (h.full _ _ _ (fun e=>hv2 e.symm) d2 (hb.imp fun m hm=>?_)) hd
   ·rw [rk_not hu1,rk_not hz]
    have:=rk_lt.2 (hin m ⟨hm.1.1,hm.2⟩)
    exact ⟨this,this⟩
   ·rw [rk_not hv1,rk_not hz]
    have:=rk_lt.2 (hin m ⟨hm.1.1,hm.2⟩)
    exact ⟨this,this⟩
theorem Part.hier {S:Int→Int→Int→Prop} {out:List Int} {N:Int→Prop} (h:Part A S out) (hA:∀u v w,A u v w→1≤w) (hN:∀u v w,A u v w→N u∧N v) (hall:∀v,N v→v∈out):Hier A S (rk out) N:=
 ⟨h.sound,h.full,hA,hN,fun _ _ hu _ e=>rk_inj (hall _ hu) e⟩
end Go.Proofs.YteaaapdjplbljaaGreat.Ch
