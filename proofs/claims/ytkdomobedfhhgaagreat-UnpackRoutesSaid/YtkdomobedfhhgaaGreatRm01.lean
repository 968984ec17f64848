/- Which edges a shortcut stands for, and how deep they lie, in plain Lean. How far nodes are, round by round, in plain Lean. Walks over the reference of searches: is a number in a row, which edges count, their ends, all weights. The search's reference in plain Lean: round by round over all edges; what it is, and what it says of peaks. -/
import Derived.Test.YtkdomobedfhhgaaGreatQm25
import Derived.Test.YtkdomobedfhhgaaGreatQm09
import Derived.Test.YtkdomobedfhhgaaGreatProg
import Derived.Test.YtkdomobedfhhgaaGreatQm14
import Derived.Test.YtkdomobedfhhgaaGreatQm17
import Derived.Test.YtkdomobedfhhgaaGreatQm30
set_option linter.unusedVariables false
set_option linter.unusedSimpArgs false
set_option linter.unnecessarySimpa false
section
namespace Go.Proofs.YtkdomobedfhhgaaGreat
open Go Go.Proofs Go.RowKit Go.Shelf Go.Proofs.YtkdomobedfhhgaaGreat.Hp Go.Proofs.YtkdomobedfhhgaaGreat.Ch
def FedS (S:List SC):Prop:=∀i,i<S.length→0≤(S.getD i scZ).e∨((S.getD i scZ).e<0∧∃a b:Nat,(S.getD i scZ).a=(a:Int)∧(S.getD i scZ).b=(b:Int)∧a<i∧b<i)
def unF (S:List SC):Nat→Nat→List Int
 |0,_=>[]
 |k+1,i=>if 0≤(S.getD i scZ).e then [(S.getD i scZ).e] else unF S k (S.getD i scZ).a.toNat++unF S k (S.getD i scZ).b.toNat
def unL (S:List SC) (i:Nat):List Int:=unF S (i+1) i
theorem unF_eq {S:List SC} (h:FedS S):∀(k i:Nat),i<k→i<S.length→unF S k i=unL S i:=by
 have key:∀(i:Nat),i<S.length→∀k k',i<k→i<k'→unF S k i=unF S k' i:=by
  intro i
  induction i using Nat.strongRecOn with
  |ind i ih=>
   intro hi k k' hk hk'
   match k,k',hk,hk' with
   |k+1,k'+1,hk,hk'=>
    unfold unF
    split
    ·rfl
    ·rename_i hn
     rcases h i hi with h1|⟨_,a,b,ea,eb,ha,hb⟩
     ·exact absurd h1 hn
     ·rw [ea,eb,Int.toNat_natCast,Int.toNat_natCast,ih a ha (by omega) k k' (by omega) (by omega),ih b hb (by omega) k k' (by omega) (by omega)]
 intro k i hk hi
 exact key i hi k (i+1) hk (by omega)
theorem unL_edge {S:List SC} {i:Nat} (h:0≤(S.getD i scZ).e):unL S i=[(S.getD i scZ).e]:=by
 unfold unL unF
 rw [if_pos h]
theorem unL_two {S:List SC} (hF:FedS S) {i a b:Nat} (hi:i<S.length) (h:(S.getD i scZ).e<0) (ea:(S.getD i scZ).a=(a:Int)) (eb:(S.getD i scZ).b=(b:Int)) (ha:a<i) (hb:b<i):unL S i=unL S a++unL S b:=by
 have e:unL S i=if 0≤(S.getD i scZ).e then [(S.getD i scZ).e] else unF S i (S.getD i scZ).a.toNat++unF S i (S.getD i scZ).b.toNat:=rfl
 rw [e,if_neg (by omega),ea,eb,Int.toNat_natCast,Int.toNat_natCast,unF_eq hF i a ha (by omega),unF_eq hF i b hb (by omega)]
theorem unL_ne {S:List SC} (hF:FedS S):∀i,i<S.length→1≤(unL S i).length:=by
 intro i
 induction i using Nat.strongRecOn with
 |ind i ih=>
  intro hi
  rcases hF i hi with h1|⟨h0,a,b,ea,eb,ha,hb⟩
  ·rw [unL_edge h1];exact Nat.le_refl _
  ·rw [unL_two hF hi h0 ea eb ha hb,List.length_append]
   have:=ih a ha (by omega)
   omega
def inS (S:List SC) (v:Int):Bool:=decide (0≤v)&&decide (v<(S.length:Int))
def unA (S:List SC) (l:List Int):List Int:=l.flatMap fun v=>unL S v.toNat
def unW (S:List SC) (v:Int):Nat:=if inS S v then 2*(unL S v.toNat).length-1 else 1
def unM (S:List SC) (l:List Int):Nat:=(l.map (unW S)).sum
theorem inS_iff {S:List SC} {v:Int}:inS S v=true↔0≤v∧v<(S.length:Int):=by unfold inS;simp
theorem unW_pos {S:List SC} (hF:FedS S) (v:Int):1≤unW S v:=by
 unfold unW
 split
 ·rename_i h
  have:=unL_ne hF v.toNat (by have:=inS_iff.1 h;omega)
  omega
 ·exact Nat.le_refl _
theorem unM_snoc (S:List SC) (l:List Int) (v:Int):unM S (l++[v])=unM S l+unW S v:=by simp [unM]
theorem made_parts {g:GD} {R:List Int} {S:List SC} (h:madeR g R S=(0,true)):rightG g=0∧(R.length:Int)=g.n∧rankB R=true∧∀j,j<S.length→madeB g.es R S j=true:=by
 unfold madeR at h
 by_cases h1:rightG g≠0
 ·rw [if_pos h1] at h;simp at h
 ·rw [if_neg h1] at h
  by_cases h2:(R.length:Int)≠g.n∨rankB R=false
  ·rw [if_pos h2] at h;simp at h
  ·rw [if_neg h2] at h
   have h2':(R.length:Int)=g.n∧rankB R=true:=by
    refine ⟨Classical.byContradiction fun k=>h2 (.inl k),?_⟩
    cases hr:rankB R with
    |true=>rfl
    |false=>exact absurd (.inr hr) h2
   refine ⟨Classical.byContradiction fun k=>h1 k,h2'.1,h2'.2,?_⟩
   cases hb:firstBad g.es R S with
   |some i=>rw [hb] at h;simp at h
   |none=>
    intro j hj
    unfold firstBad at hb
    rw [List.find?_eq_none] at hb
    have:=hb j (List.mem_range.2 hj)
    simpa using this
theorem edgeF_e {es:List EdgeD} {x:SC} (h:edgeF es x=true):0≤x.e∧∃y,es[x.e.toNat]? =some y∧y.f=x.f∧y.t=x.t∧y.w=x.w:=by
 unfold edgeF at h
 simp only [Bool.and_eq_true] at h
 obtain ⟨⟨⟨h1,_⟩,_⟩,h2⟩:=h
 unfold edgeB at h1
 simp only [Bool.and_eq_true,decide_eq_true_eq] at h1
 refine ⟨h1.1,?_⟩
 cases he:es[x.e.toNat]? with
 |none=>rw [he] at h2;simp at h2
 |some y=>
  rw [he] at h2
  simp only [Bool.and_eq_true,beq_iff_eq] at h2
  exact ⟨y,rfl,h2.1.1,h2.1.2,h2.2⟩
theorem twoF_e {R:List Int} {S:List SC} {i:Nat} {x:SC} (h:twoF R S i x=true):x.e= -1∧∃a b:Nat,x.a=(a:Int)∧x.b=(b:Int)∧a<i∧b<i∧(S.getD a scZ).f=x.f∧(S.getD a scZ).t=(S.getD b scZ).f∧(S.getD b scZ).t=x.t∧wrapU ((S.getD a scZ).w+(S.getD b scZ).w)=x.w∧
  rAt R (S.getD a scZ).t<rAt R x.f∧rAt R (S.getD a scZ).t<rAt R x.t:=by
 unfold twoF pairF meetF at h
 simp only [Bool.and_eq_true,decide_eq_true_eq,beq_iff_eq] at h
 obtain ⟨⟨⟨⟨h1,h2⟩,h3⟩,_⟩,⟨⟨⟨h4,h5⟩,h6⟩,h7⟩,h8⟩:=h
 have ea:scAt S x.a=S.getD x.a.toNat scZ:=rfl
 have eb:scAt S x.b=S.getD x.b.toNat scZ:=rfl
 rw [ea] at h4 h5 h7 h8
 rw [eb] at h5 h6 h7
 exact ⟨h1,x.a.toNat,x.b.toNat,by omega,by omega,by omega,by omega,h4,h5,h6,h7,by omega,by omega⟩
theorem made_fed {es:List EdgeD} {R:List Int} {S:List SC} (h:∀j,j<S.length→madeB es R S j=true):FedS S:=by
 intro i hi
 have:=h i hi
 unfold madeB at this
 rw [Bool.or_eq_true] at this
 rcases this with h1|h1
 ·exact .inl (edgeF_e h1).1
 ·obtain ⟨e,a,b,ea,eb,ha,hb,_⟩:=twoF_e h1
  exact .inr ⟨by omega,a,b,ea,eb,ha,hb⟩
theorem made_len {es:List EdgeD} {R:List Int} {S:List SC} (h:∀j,j<S.length→madeB es R S j=true) (hR:∀v,0≤rAt R v):∀i,i<S.length→∀r:Nat,rAt R (S.getD i scZ).f≤(r:Int)∨rAt R (S.getD i scZ).t≤(r:Int)→(unL S i).length≤2 ^ r:=by
 have hF:=made_fed h
 intro i
 induction i using Nat.strongRecOn with
 |ind i ih=>
  intro hi r hr
  have hm:=h i hi
  unfold madeB at hm
  rw [Bool.or_eq_true] at hm
  rcases hm with h1|h1
  ·rw [unL_edge (edgeF_e h1).1]
   exact Nat.one_le_two_pow
  ·obtain ⟨e,a,b,ea,eb,ha,hb,h2,h3,h4,_,h5,h6⟩:=twoF_e h1
   rw [unL_two hF hi (by omega) ea eb ha hb,List.length_append]
   have h0:=hR (S.getD a scZ).t
   obtain ⟨r',rfl⟩:∃r',r=r'+1:=⟨r-1,by omega⟩
   have hra:rAt R (S.getD a scZ).t≤(r':Int):=by omega
   have:=ih a ha (by omega) r' (.inr hra)
   have:=ih b hb (by omega) r' (.inl (by rw [←h3];exact hra))
   rw [Nat.pow_succ]
   omega
end Go.Proofs.YtkdomobedfhhgaaGreat
end
section
namespace Go.Proofs.YtkdomobedfhhgaaGreat.Ch
def FAR:Int:=4611686018427387904
structure Arc where
 u:Int
 v:Int
 w:Int
def rel (L:List Arc):Int→Int→Int→Prop:=fun u v w=>(⟨u,v,w⟩:Arc)∈L
def gD (d:List Int) (v:Int):Int:=d.getD v.toNat FAR
theorem gD_set {d:List Int} {v u x:Int} (hv:0≤v) (hl:v.toNat<d.length) (hu:0≤u):gD (d.set v.toNat x) u=if u=v then x else gD d u:=by
 unfold gD
 rw [List.getD_eq_getElem?_getD,List.getElem?_set,List.getD_eq_getElem?_getD]
 by_cases e:v.toNat=u.toNat
 ·rw [if_pos e,if_pos hl,if_pos (by omega)]
  rfl
 ·rw [if_neg e,if_neg (by omega)]
def fires (d:List Int) (e:Arc):Bool:=decide (gD d e.u<FAR)&&decide (gD d e.u+e.w<gD d e.v)
def relaxC (p:List Int×Bool) (e:Arc):List Int×Bool:=if fires p.1 e then (p.1.set e.v.toNat (gD p.1 e.u+e.w),true) else p
def roundC (d:List Int) (L:List Arc):List Int×Bool:=L.foldl relaxC (d,false)
abbrev node (n:Nat) (v:Int):Prop:=0≤v∧v<(n:Int)
structure Sofar (L:List Arc) (s:Int) (n:Nat) (m:Int) (d:List Int):Prop where
 len:d.length=n
 way:∀v,node n v→gD d v=FAR∨(Way0 (rel L) Any s v (gD d v)∧gD d v≤m)
 self:gD d s=0
structure Good (L:List Arc) (n:Nat) (W:Int):Prop where
 ends:∀e∈L,node n e.u∧node n e.v
 pos:∀e∈L,1≤e.w∧e.w≤W
variable {L:List Arc} {s:Int} {n:Nat} {m W:Int} {d:List Int}
theorem Good.hA (h:Good L n W):∀u v w,rel L u v w→1≤w:=fun _ _ _ k=>(h.pos _ k).1
theorem Sofar.le (h:Sofar L s n m d) (hm:m<FAR) {v:Int} (hv:node n v):gD d v≤FAR:=by
 rcases h.way v hv with e|⟨_,e⟩<;>omega
theorem Sofar.nonneg (hg:Good L n W) (h:Sofar L s n m d) {v:Int} (hv:node n v):0≤gD d v:=by
 rcases h.way v hv with e|⟨e,_⟩
 ·rw [e];decide
 ·exact e.nonneg hg.hA
theorem Sofar.relax (hg:Good L n W) (h:Sofar L s n m d) {e:Arc} (he:e∈L) (hf:fires d e=true) (hs:node n s):
  Sofar L s n (m+W) (d.set e.v.toNat (gD d e.u+e.w))∧∀v,node n v→gD (d.set e.v.toNat (gD d e.u+e.w)) v≤gD d v:=by
 unfold fires at hf
 simp only [Bool.and_eq_true,decide_eq_true_eq] at hf
 obtain ⟨f1,f2⟩:=hf
 obtain ⟨⟨u0,u1⟩,⟨v0,v1⟩⟩:=hg.ends e he
 have hw:=hg.pos e he
 have hl:e.v.toNat<d.length:=by rw [h.len];omega
 have hu:Way0 (rel L) Any s e.u (gD d e.u)∧gD d e.u≤m:=by
  rcases h.way e.u ⟨u0,u1⟩ with k|k
  ·omega
  ·exact k
 refine ⟨⟨by rw [List.length_set];exact h.len,?_,?_⟩,?_⟩
 ·intro v hv
  rw [gD_set v0 hl hv.1]
  split
  ·rename_i k
   subst k
   exact .inr ⟨hu.1.trans trivial (.inr (.one he)),by omega⟩
  ·rcases h.way v hv with k|⟨k1,k2⟩
   ·exact .inl k
   ·exact .inr ⟨k1,by omega⟩
 ·rw [gD_set v0 hl hs.1]
  split
  ·rename_i k
   have:=hu.1.nonneg hg.hA
   rw [←k,h.self] at f2
   omega
  ·exact h.self
 ·intro v hv
  rw [gD_set v0 hl hv.1]
  split
  ·rename_i k
   subst k
   omega
  ·exact Int.le_refl _
theorem Sofar.mono (h:Sofar L s n m d) {m':Int} (hm:m≤m'):Sofar L s n m' d:=⟨h.len,fun v hv=>(h.way v hv).imp id (fun k=>⟨k.1,by omega⟩),h.self⟩
theorem Sofar.part (hg:Good L n W) (hs:node n s) (hW:0≤W):∀(K:List Arc) (d:List Int) (m:Int) (c:Bool),(∀e∈K,e∈L)→Sofar L s n m d→
  Sofar L s n (m+K.length*W) (K.foldl relaxC (d,c)).1∧(∀v,node n v→gD (K.foldl relaxC (d,c)).1 v≤gD d v)∧
  (∀e∈K,m+K.length*W<FAR→gD d e.u<FAR→gD (K.foldl relaxC (d,c)).1 e.v≤gD d e.u+e.w)∧
  ((K.foldl relaxC (d,c)).2=false→c=false∧(K.foldl relaxC (d,c)).1=d∧∀e∈K,fires d e=false)
 |[],d,m,c,_,h=>⟨by simpa using h,fun _ _=>Int.le_refl _,by simp,fun e=>⟨e,rfl,by simp⟩⟩
 |e::K,d,m,c,hK,h=>by
  have heL:=hK e (by simp)
  rw [List.foldl_cons]
  have hlen:((e::K).length:Int)*W=W+K.length*W:=by
   rw [List.length_cons]
   push_cast
   rw [Int.add_mul]
   omega
  cases hf:fires d e with
  |false=>
   have hr:relaxC (d,c) e=(d,c):=by unfold relaxC;simp [hf]
   rw [hr]
   obtain ⟨a1,a2,a3,a4⟩:=Sofar.part hg hs hW K d m c (fun x hx=>hK x (by simp [hx])) h
   refine ⟨a1.mono (by omega),a2,?_,fun k=>?_⟩
   ·intro x hx hm hu
    rcases List.mem_cons.1 hx with rfl|hx
    ·have h1:=a2 x.v (hg.ends x heL).2
     unfold fires at hf
     simp only [Bool.and_eq_false_iff,decide_eq_false_iff_not] at hf
     omega
    ·exact a3 x hx (by omega) hu
   ·obtain ⟨b1,b2,b3⟩:=a4 k
    refine ⟨b1,b2,?_⟩
    intro x hx
    rcases List.mem_cons.1 hx with rfl|hx
    ·exact hf
    ·exact b3 x hx
  |true=>
   have hr:relaxC (d,c) e=(d.set e.v.toNat (gD d e.u+e.w),true):=by unfold relaxC;simp [hf]
   rw [hr]
   obtain ⟨r1,r2⟩:=h.relax hg heL hf hs
   obtain ⟨a1,a2,a3,a4⟩:=Sofar.part hg hs hW K _ (m+W) true (fun x hx=>hK x (by simp [hx])) r1
   refine ⟨a1.mono (by omega),fun v hv=>Int.le_trans (a2 v hv) (r2 v hv),?_,fun k=>?_⟩
   ·intro x hx hm hu
    rcases List.mem_cons.1 hx with rfl|hx
    ·have h1:=a2 x.v (hg.ends x heL).2
     have h2:gD (d.set x.v.toNat (gD d x.u+x.w)) x.v=gD d x.u+x.w:=by
      rw [gD_set (hg.ends x heL).2.1 (by rw [h.len];have:=(hg.ends x heL).2;unfold node at this;omega) (hg.ends x heL).2.1,if_pos rfl]
     omega
    ·have hxn:=(hg.ends x (hK x (by simp [hx]))).1
     have h1:=r2 x.u hxn
     have:=a3 x hx (by omega) (by omega)
     omega
   ·exact absurd (a4 k).1 (by simp)
def Right (L:List Arc) (s:Int) (d:List Int) (v:Int):Prop:=∀e,Dist (rel L) s v e→gD d v=e∧gD d v≠FAR
open Classical in
noncomputable def left (L:List Arc) (s:Int) (n:Nat) (d:List Int):Nat:=(List.range n).countP fun v:Nat=>decide (¬Right L s d (v:Int))
theorem left_le (L:List Arc) (s:Int) (n:Nat) (d:List Int):left L s n d≤n:=by
 unfold left
 exact Nat.le_trans List.countP_le_length (by simp)
theorem countP_lt {p q:Nat→Bool}:∀(l:List Nat),(∀x∈l,p x=true→q x=true)→(∃x∈l,q x=true∧p x=false)→l.countP p<l.countP q
 |[],_,h=>by obtain ⟨x,hx,_⟩:=h;simp at hx
 |y::l,h1,h2=>by
  rw [List.countP_cons,List.countP_cons]
  have hle:l.countP p≤l.countP q:=List.countP_mono_left fun x hx=>h1 x (by simp [hx])
  obtain ⟨x,hx,hq,hp⟩:=h2
  rcases List.mem_cons.1 hx with rfl|hx
  ·rw [hq,hp]
   simp
   omega
  ·have:=countP_lt l (fun z hz=>h1 z (by simp [hz])) ⟨x,hx,hq,hp⟩
   have hy:=h1 y (by simp)
   cases hpy:p y with
   |false=>simp;split<;>omega
   |true=>rw [hy hpy];simp;omega
structure Exact (L:List Arc) (s:Int) (n:Nat) (d:List Int):Prop where
 len:d.length=n
 dist:∀v e,node n v→Dist (rel L) s v e→gD d v=e
 none:∀v,node n v→(∀e,¬Dist (rel L) s v e)→gD d v=FAR
 fin:∀v e,node n v→Dist (rel L) s v e→gD d v≠FAR
theorem Sofar.exact (hg:Good L n W) (h:Sofar L s n m d) (h0:∀v e,node n v→Dist (rel L) s v e→gD d v=e∧gD d v≠FAR):Exact L s n d:=by
 refine ⟨h.len,fun v e hv hd=>(h0 v e hv hd).1,?_,fun v e hv hd=>(h0 v e hv hd).2⟩
 intro v hv hn
 rcases h.way v hv with k|⟨k,_⟩
 ·exact k
 ·obtain ⟨e,he⟩:=dist_some hg.hA k
  exact absurd he (hn e)
open Classical in
theorem left_zero (h0:left L s n d=0) {v:Int} (hv:node n v):Right L s d v:=by
 unfold left at h0
 rw [List.countP_eq_zero] at h0
 have e1:((v.toNat:Nat):Int)=v:=by have:=hv.1;omega
 exact Classical.byContradiction fun k=>h0 v.toNat (List.mem_range.2 (by have h1:=hv.2;have h2:=hv.1;omega)) (decide_eq_true (by rw [e1];exact k))
open Classical in
theorem zero_left (h0:∀v,node n v→Right L s d v):left L s n d=0:=by
 unfold left
 rw [List.countP_eq_zero]
 intro v hv hp
 exact of_decide_eq_true hp (h0 _ ⟨by omega,by have:=List.mem_range.1 hv;omega⟩)
theorem Sofar.zero (hg:Good L n W) (h:Sofar L s n m d) (h0:left L s n d=0):Exact L s n d:=
 h.exact hg fun _ _ hv hd=>left_zero h0 hv _ hd
theorem least_of {p:Int→Int→Prop} (h:∃v e,p v e∧0≤e):∃v e,p v e∧0≤e∧∀v' e',p v' e'→0≤e'→e≤e':=by
 have key:∀k v e,e.toNat=k→p v e→0≤e→∃v e,p v e∧0≤e∧∀v' e',p v' e'→0≤e'→e≤e':=by
  intro k
  induction k using Nat.strongRecOn with
  |_ k ih=>
   intro v e hk hp he
   by_cases hl:∃v' e',p v' e'∧0≤e'∧e'<e
   ·obtain ⟨v',e',h1,h2,h3⟩:=hl
    exact ih e'.toNat (by omega) v' e' rfl h1 h2
   ·refine ⟨v,e,hp,he,fun v' e' h1 h2=>?_⟩
    have:¬e'<e:=fun h3=>hl ⟨v',e',h1,h2,h3⟩
    omega
 obtain ⟨v,e,h1,h2⟩:=h
 exact key _ v e rfl h1 h2
theorem Right.keep (hg:Good L n W) (hW:0≤W) (hs:node n s) (h:Sofar L s n m d) (hm:m+L.length*W<FAR) {v:Int} (hv:node n v) (hr:Right L s d v):Right L s (roundC d L).1 v:=by
 have hmw:0≤(L.length:Int)*W:=Int.mul_nonneg (by omega) hW
 obtain ⟨a1,a2,_,_⟩:=Sofar.part hg hs hW L d m false (fun e h=>h) h
 intro e hd
 obtain ⟨r1,r2⟩:=hr e hd
 have h1:gD (roundC d L).1 v≤gD d v:=a2 v hv
 have h2:gD d v≤m:=by
  rcases h.way v hv with k|⟨_,k⟩
  ·exact absurd k r2
  ·exact k
 rcases a1.way v hv with k|⟨k,_⟩
 ·have k':gD (roundC d L).1 v=FAR:=k
  omega
 ·have k':e≤gD (roundC d L).1 v:=hd.2 _ k
  omega
open Classical in
theorem left_less (hg:Good L n W) (hW:0≤W) (hs:node n s) (h:Sofar L s n m d) (hm:m+L.length*W+W<FAR) (h0:left L s n d≠0):left L s n (roundC d L).1<left L s n d:=by
 have hmw:0≤(L.length:Int)*W:=Int.mul_nonneg (by omega) hW
 obtain ⟨a1,a2,a3,a4⟩:=Sofar.part hg hs hW L d m false (fun e h=>h) h
 have hex:∃v e,(node n v∧Dist (rel L) s v e∧¬Right L s d v)∧0≤e:=by
  refine Classical.byContradiction fun k=>h0 (zero_left fun v hv=>Classical.byContradiction fun hr=>?_)
  refine k ?_
  unfold Right at hr
  obtain ⟨e,he⟩:∃e,Dist (rel L) s v e:=Classical.byContradiction fun hn=>hr fun e he=>absurd ⟨e,he⟩ hn
  exact ⟨v,e,⟨hv,he,hr⟩,he.1.nonneg hg.hA⟩
 obtain ⟨v,e,⟨hv,hd,hne⟩,he0,hmin⟩:=least_of hex
 have hvs:s≠v:=by
  rintro rfl
  apply hne
  intro e' he'
  obtain rfl:=he'.uniq (.self hg.hA s)
  rw [h.self]
  exact ⟨rfl,by decide⟩
 obtain ⟨x,w,hx,hdx⟩:=hd.pred hvs
 have hxn:=(hg.ends _ hx).1
 simp only at hxn
 have hw1:=hg.pos _ hx
 simp only at hw1
 have hxr:Right L s d x:=by
  refine Classical.byContradiction fun k=>?_
  have:=hmin x (e-w) ⟨hxn,hdx,k⟩ (hdx.1.nonneg hg.hA)
  omega
 obtain ⟨hxe,hxf⟩:=hxr _ hdx
 have hxm:gD d x≤m:=by
  rcases h.way x hxn with k|⟨_,k⟩
  ·exact absurd k hxf
  ·exact k
 have hxd:=a3 _ hx (by omega) (by simp only;omega)
 simp only at hxd
 have hev:Right L s (roundC d L).1 v:=by
  intro e' he'
  obtain rfl:=hd.uniq he'
  have h1:gD (roundC d L).1 v≤e:=by show gD (List.foldl relaxC (d,false) L).1 v≤e;omega
  rcases a1.way v hv with k|⟨k,_⟩
  ·have k':gD (roundC d L).1 v=FAR:=k
   omega
  ·have k':e≤gD (roundC d L).1 v:=hd.2 _ k
   omega
 have e1:((v.toNat:Nat):Int)=v:=by have:=hv.1;omega
 unfold left
 refine countP_lt _ ?_ ⟨v.toNat,List.mem_range.2 (by have h1:=hv.1;have h2:=hv.2;omega),decide_eq_true (by rw [e1];exact hne),decide_eq_false (by rw [e1];exact fun k=>k hev)⟩
 intro u hu hp
 have hp:=of_decide_eq_true hp
 exact decide_eq_true fun hr=>hp (hr.keep hg hW hs h (by omega) ⟨by omega,by have:=List.mem_range.1 hu;omega⟩)
theorem Sofar.still (hg:Good L n W) (h:Sofar L s n m d) (hf:∀e∈L,fires d e=false) (hm:m+W<FAR) (hW:0≤W):Exact L s n d:=by
 have key:∀{u v e},Way (rel L) Any u v e→gD d u+e<FAR→gD d v≤gD d u+e:=by
  intro u v e hw
  induction hw with
  |@one u v w k=>
   intro hb
   have h1:=hf _ k
   have h2:=(hg.pos _ k).1
   simp only at h2
   unfold fires at h1
   simp only [Bool.and_eq_false_iff,decide_eq_false_iff_not] at h1
   omega
  |@cons u x v w e k _ k2 ih=>
   intro hb
   have h1:=hf _ k
   have h2:=(hg.pos _ k).1
   have h3:=k2.pos hg.hA
   simp only at h2
   unfold fires at h1
   simp only [Bool.and_eq_false_iff,decide_eq_false_iff_not] at h1
   have:=ih (by omega)
   omega
 have bound:∀{v e},Way (rel L) Any s v e→gD d v<FAR:=by
  intro v e hw
  have h2:∀{u v e},Way (rel L) Any u v e→gD d u<FAR→gD d v<FAR:=by
   intro u v e hw
   have step:∀{u v w},rel L u v w→gD d u<FAR→gD d v<FAR:=by
    intro u v w k hu
    have h1:=hf _ k
    have hn:=(hg.ends _ k).2
    unfold fires at h1
    simp only [Bool.and_eq_false_iff,decide_eq_false_iff_not] at h1
    rcases h.way v hn with k2|⟨_,k2⟩
    ·
     rcases h.way u (hg.ends _ k).1 with k3|⟨_,k3⟩
     ·omega
     ·have h4:=(hg.pos _ k).2
      simp only at h1 h4
      omega
    ·omega
   induction hw with
   |one k=>exact step k
   |cons k _ _ ih=>exact fun hu=>ih (step k hu)
  exact h2 hw (by rw [h.self];decide)
 refine h.exact hg fun v e hv hd=>?_
 rcases h.way v hv with k|⟨k,k2⟩
 ·exfalso
  rcases hd.1 with ⟨rfl,rfl⟩|hw
  ·rw [h.self] at k;cases k
  ·have:=bound hw;omega
 ·refine ⟨?_,by omega⟩
  have h1:=hd.2 _ k
  rcases hd.1 with ⟨rfl,rfl⟩|hw
  ·exact h.self
  ·have:=key hw (by rw [h.self];omega)
   rw [h.self] at this
   omega
theorem Sofar.round (hg:Good L n W) (hW:0≤W) (hs:node n s) (h:Sofar L s n m d) (hm:m+L.length*W+W<FAR):
  Sofar L s n (m+L.length*W) (roundC d L).1∧(left L s n (roundC d L).1<left L s n d∨left L s n (roundC d L).1=0)∧((roundC d L).2=false→Exact L s n (roundC d L).1):=by
 have hmw:0≤(L.length:Int)*W:=Int.mul_nonneg (by omega) hW
 obtain ⟨a1,a2,a3,a4⟩:=Sofar.part hg hs hW L d m false (fun e h=>h) h
 refine ⟨a1,?_,fun k=>?_⟩
 ·by_cases h0:left L s n d=0
  ·exact .inr (zero_left fun v hv=>(left_zero h0 hv).keep hg hW hs h (by omega) hv)
  ·exact .inl (left_less hg hW hs h hm h0)
 ·obtain ⟨_,k2,k3⟩:=a4 k
  show Exact L s n (List.foldl relaxC (d,false) L).1
  rw [k2]
  exact h.still hg k3 (by omega) hW
theorem Sofar.begin (L:List Arc) {s:Int} {n:Nat} (hs:node n s):Sofar L s n 0 ((List.replicate n FAR).set s.toNat 0):=by
 have hl:s.toNat<(List.replicate n FAR).length:=by simp;omega
 refine ⟨by simp,?_,?_⟩
 ·intro v hv
  rw [gD_set hs.1 hl hv.1]
  split
  ·rename_i e
   subst e
   exact .inr ⟨.inl ⟨rfl,rfl⟩,Int.le_refl _⟩
  ·refine .inl ?_
   unfold gD
   rw [List.getD_eq_getElem?_getD,List.getElem?_replicate]
   split<;>rfl
 ·rw [gD_set hs.1 hl hs.1,if_pos rfl]
end Go.Proofs.YtkdomobedfhhgaaGreat.Ch
end
section
namespace Go.Proofs.YtkdomobedfhhgaaGreat
open Go Go.Proofs Go.RowKit Go.Shelf Go.Proofs.YtkdomobedfhhgaaGreat.Ch
theorem refHas_any (ao:Option Addr) (cap:Nat) (l:List Int) (x:Int) (w:World) (hl:l.length≤9223372036854775807) (hc:Cel w ao (l.map encI)):
  Calls Tryz.prog 27 #[.slice ao l.length cap,.int .i64 x] w fun e w'=>e=.returned (.bool (decide (x∈l)))∧w=w':=by
 have HC:=Lib.hid hc
 clear hc
 have HT:=Lib.hid (fun k (h:k<l.length) (e:l[k]=x)=>(decide_eq_true (e▸List.getElem_mem h):decide (x∈l)=true))
 have HF:=Lib.hid (fun (h:∀j (hj:j<l.length),l[j]≠x)=>(decide_eq_false (fun hm=>by obtain ⟨j,hj,e⟩:=List.getElem_of_mem hm;exact h j hj e):decide (x∈l)=false))
 generalize decide (x∈l)=r at*
 go_enter Tryz.func27,Tryz.ntmps27
 go_wp2
 go_loopg [5] l.length (fun g i wr=>∃k:Nat,k≤l.length∧l.length-k≤g∧i=.int .i64 k∧wr=w∧Aside (∀j (hj:j<l.length),j<k→l[j]≠x))
 case atStart=>exact ⟨0,Nat.zero_le _,by omega,rfl,rfl,fun j _ h=>absurd h (Nat.not_lt_zero _)⟩
 case round=>
  obtain ⟨k,hk,hg,rfl,rfl,HA⟩:=hrel
  by_cases hlt:k<l.length
  ·have hlt3:(k:Int)<(l.length:Int):=by omega
   have hk0:(0:Int)≤(k:Int):=by omega
   obtain ⟨b,o,hao,hcell⟩:=HC.out.at hlt
   subst hao
   have H1:=Lib.hid (HT.out k hlt)
   have H2:=Lib.hid (fun h:l[k]≠x=>(fun j (h1:j<l.length) (h2:j<k+1)=>(by
    by_cases e:j=k
    ·subst e;exact h
    ·exact HA.out j h1 (by omega):l[j]≠x)))
   generalize l[k]=y at*
   by_cases e:y=x
   ·have he:(y==x)=true:=by simp [e]
    have HR:=Lib.hid (H1.out e)
    clear e
    go_wp2
    go_ret
    exact ⟨by rw [HR.out];rfl,rfl⟩
   ·have he:(y==x)=false:=by simp [e]
    have HR:=Lib.hid (H2.out e)
    clear e
    go_wp2
    go_roundg (l.length-(k+1))
    case measure=>omega
    case rel=>exact ⟨k+1,by omega,by omega,by go_num,rfl,HR.out⟩
  ·obtain rfl:k=l.length:=by omega
   have HR:=Lib.hid (HF.out fun j hj=>HA.out j hj hj)
   go_wp2
   go_ret
   exact ⟨by rw [HR.out];rfl,rfl⟩
def endsC (back:Bool) (e:EdgeD):Int×Int:=if back then (e.t,e.f) else (e.f,e.t)
theorem refEnds_any (e:EdgeD) (back:Bool) (w:World):
  Calls Tryz.prog 119 #[.agg #[.int .i64 e.f,.int .i64 e.t,.int .u64 e.w],.bool back] w fun x w'=>x=.returned (.tuple #[.int .i64 (endsC back e).1,.int .i64 (endsC back e).2])∧Below w.heap.size w w':=by
 obtain ⟨f,t,x⟩:=e
 unfold endsC
 obtain ⟨W,hW⟩:∃W,W=w.alloc (Obj.cells #[.int .i64 f,.int .i64 t,.int .u64 x] 119):=⟨_,rfl⟩
 have HB:=Lib.hid (show Below w.heap.size w W by rw [hW];exact Below.of_al _ _)
 have c0:W.cell? ⟨w.heap.size,0,none⟩=some (.int .i64 f):=by rw [hW];go_simp
 have c1:W.cell? ⟨w.heap.size,1,none⟩=some (.int .i64 t):=by rw [hW];go_simp
 have f0:=fun p=>cell_ext p c0
 have f1:=fun p=>cell_ext p c1
 have HW:=Lib.hid hW
 clear hW
 cases back
 all_goals
  go_enter Tryz.func119,Tryz.ntmps119
  go_upto_region 1 with (fail)
  rw [←HW.out]
  go_wp2
  refine wp_region_ext (by kernel_rfl) (by kernel_rfl) ?_
  repeat (go_big_quiet_step (fail))
  refine wpQuiet_nil ?_
  rintro _ ⟨pq,rfl⟩
  have HBq:=Lib.hid (below_ext W pq)
  generalize ext W pq=wq at HBq ⊢
  go_wp2
  refine bodyPost_ret (by simp [results,Tryz.results119,go_sem];try rfl) rfl ?_
  exact ⟨rfl,HB.out.st HBq.out⟩
def countB (no:List Int) (e:EdgeD):Bool:=!decide (e.f∈no)&&!decide (e.t∈no)
abbrev optC (back:Bool) (ao:Option Addr) (n cap:Nat):Value:=.agg #[.bool back,.slice ao n cap,.slice none 0 0,.slice none 0 0,.int .u64 0]
set_option maxRecDepth 100000 in
set_option maxHeartbeats 1000000 in
theorem refCounts_any (n:Int) (es:List EdgeD) (ao no:Option Addr) (cap nc:Nat) (back:Bool) (l:List Int) (k:Nat) (hk:k<es.length) (w:World) (hl:l.length≤1000000) (hel:es.length≤1000000) (hc:Cel w ao (flat es)) (hn:Cel w no (l.map encI)):
  Calls Tryz.prog 111 #[.agg #[.int .i64 n,.slice ao es.length cap],.int .i64 k,optC back no l.length nc] w fun x w'=>x=.returned (.bool (countB l es[k]))∧Below w.heap.size w w':=by
 obtain ⟨W,hW⟩:∃W,W=(w.alloc (Obj.cells #[.int .i64 n,.slice ao es.length cap] 24)).alloc (Obj.cells #[.bool back,.slice no l.length nc,.slice none 0 0,.slice none 0 0,.int .u64 0] 116):=⟨_,rfl⟩
 have hbw:Below w.heap.size w W:=by rw [hW];exact (Below.of_al _ _).al _
 have c1:W.cell? ⟨w.heap.size,1,none⟩=some (.slice ao es.length cap):=by rw [hW];go_simp
 have c2:W.cell? ⟨w.heap.size+1,1,none⟩=some (.slice no l.length nc):=by rw [hW];go_simp
 have c3:W.cell? ⟨w.heap.size+1,2,none⟩=some (.slice none 0 0):=by rw [hW];go_simp
 have HB:=Lib.hid hbw
 have HW:=Lib.hid hW
 obtain ⟨b,o,rfl,g0,g1,g2⟩:=(hc.go hbw).edge hk
 have HH:=Lib.hid (fun W' (hz:Below W.heap.size W W') x=>refHas_any no nc l x W' (by omega) ((hn.go hbw).go hz))
 have HN:=Lib.hid (fun (W':World) x=>refHas_any none 0 [] x W' (by simp) (Cel.nil _ _))
 have hk3:(k:Int)<(es.length:Int):=by omega
 have hk0:(0:Int)≤(k:Int):=by omega
 generalize es[k]=e at*
 have HE:=Lib.hid (show countB l e=(!decide (e.f∈l)&&!decide (e.t∈l)) from rfl)
 generalize countB l e=r at*
 have HF:=Lib.hid (fun W' hz=>HH.out W' hz e.f)
 have HT:=Lib.hid (fun W' hz=>HH.out W' hz e.t)
 have HX:=Lib.hid (fun p=>below_ext W p)
 clear hW hc hn hbw HH
 generalize decide (e.f∈l)=bf at*
 generalize decide (e.t∈l)=bt at*
 obtain ⟨f,t,x⟩:=e
 simp only at HF HT g0 g1
 have f1:=fun p=>cell_ext p c1
 have f2:=fun p=>cell_ext p c2
 have f3:=fun p=>cell_ext p c3
 have y0:=fun p=>cell_ext p g0
 have y1:=fun p=>cell_ext p g1
 cases bf<;>cases bt
 all_goals
  go_enter Tryz.func111,Tryz.ntmps111
  go_upto_region 1 with (fail)
  rw [←HW.out]
  refine wp_region_ext (by kernel_rfl) (by kernel_rfl) ?_
  repeat (go_big_quiet_step ((first|(go_at_call_of 27 (Value.slice none 0 0);exact Calls.ext_of_same (HN.out _ _))|(go_at_call 27;first|with_reducible exact Calls.ext_of_same (HF.out _ (HX.out _))|with_reducible exact Calls.ext_of_same (HT.out _ (HX.out _))))))
  refine wpQuiet_nil ?_
  rintro _ ⟨pq,rfl⟩
  have HBq:=Lib.hid (below_ext W pq)
  generalize ext W pq=wq at HBq ⊢
  go_wp2
  go_ret
  exact ⟨by rw [HE.out];rfl,HB.out.st HBq.out⟩
end Go.Proofs.YtkdomobedfhhgaaGreat
end
section
namespace Go.Proofs.YtkdomobedfhhgaaGreat
open Go.Proofs.YtkdomobedfhhgaaGreat.Ch
def arcOf (back:Bool) (e:EdgeD):Arc:=⟨(endsC back e).1,(endsC back e).2,e.w⟩
def arcsC (es:List EdgeD) (back:Bool) (no:List Int):List Arc:=(es.filter (countB no)).map (arcOf back)
def relaxE (back:Bool) (no:List Int) (p:List Int×Bool) (e:EdgeD):List Int×Bool:=if countB no e then relaxC p (arcOf back e) else p
theorem fold_relaxE (back:Bool) (no:List Int):∀(es:List EdgeD) (p:List Int×Bool),es.foldl (relaxE back no) p=(arcsC es back no).foldl relaxC p
 |[],_=>rfl
 |e::es,p=>by
  rw [List.foldl_cons,fold_relaxE back no es]
  unfold relaxE arcsC
  cases h:countB no e<;>simp [List.filter_cons,h]
theorem round_relaxE (es:List EdgeD) (back:Bool) (no d:List Int):es.foldl (relaxE back no) (d,false)=roundC d (arcsC es back no):=fold_relaxE back no es _
theorem relaxE_take {es:List EdgeD} {back:Bool} {no d:List Int} {k:Nat} (h:k<es.length):(es.take (k+1)).foldl (relaxE back no) (d,false)=relaxE back no ((es.take k).foldl (relaxE back no) (d,false)) es[k]:=by
 rw [List.take_succ_eq_append_getElem h,List.foldl_append]
 rfl
theorem countB_iff {no:List Int} {e:EdgeD}:countB no e=true↔e.f∉no∧e.t∉no:=by
 unfold countB
 simp
theorem rel_arcs {es:List EdgeD} {back:Bool} {no:List Int} {u v w:Int}:rel (arcsC es back no) u v w↔relB back (arcG es) u v w∧u∉no∧v∉no:=by
 unfold rel arcsC relB arcG
 simp only [List.mem_map,List.mem_filter,countB_iff]
 cases back
 ·simp only [Bool.false_eq_true,if_false]
  constructor
  ·rintro ⟨e,⟨h1,h2,h3⟩,h4⟩
   cases h4
   exact ⟨⟨e,h1,rfl,rfl,rfl⟩,h2,h3⟩
  ·rintro ⟨⟨e,h1,rfl,rfl,rfl⟩,h2,h3⟩
   exact ⟨e,⟨h1,h2,h3⟩,rfl⟩
 ·simp only [if_true,Turn]
  constructor
  ·rintro ⟨e,⟨h1,h2,h3⟩,h4⟩
   cases h4
   exact ⟨⟨e,h1,rfl,rfl,rfl⟩,h3,h2⟩
  ·rintro ⟨⟨e,h1,rfl,rfl,rfl⟩,h2,h3⟩
   exact ⟨e,⟨h1,h3,h2⟩,rfl⟩
def AllIs (es:List EdgeD) (n:Nat) (s:Int) (back:Bool) (no d:List Int):Prop:=
 d.length=n∧(∀v,node n v→gD d v=FAR∨(0≤gD d v∧gD d v≤1152921504606846976))∧(s∈no→∀v,node n v→gD d v=FAR)∧(s∉no→Exact (arcsC es back no) s n d)
structure Rds (L:List Arc) (s:Int) (n k:Nat) (B:Int) (d:List Int) (c:Bool):Prop where
 so:Sofar L s n (k*B) d
 left:left L s n d+k≤n∨left L s n d=0
 ex:c=false→Exact L s n d
theorem Rds.start (L:List Arc) {s:Int} {n:Nat} (B:Int) (hs:node n s):Rds L s n 0 B ((List.replicate n FAR).set s.toNat 0) true:=
 ⟨by rw [show ((0:Nat):Int)*B=0 by simp];exact Sofar.begin L hs,.inl (by have:=left_le L s n ((List.replicate n FAR).set s.toNat 0);omega),fun h=>by cases h⟩
theorem Rds.go {L:List Arc} {s:Int} {n k:Nat} {W B:Int} {d:List Int} {c:Bool} (hg:Ch.Good L n W) (hW:0≤W) (hs:node n s) (hB:(L.length:Int)*W≤B) (hk:k≤4096) (hm:4097*B+W<FAR) (h:Rds L s n k B d c):Rds L s n (k+1) B (roundC d L).1 (roundC d L).2:=by
 have h0:(0:Int)≤(L.length:Int)*W:=Int.mul_nonneg (by omega) hW
 have h1:(k:Int)*B≤4096*B:=Int.mul_le_mul_of_nonneg_right (by omega) (by omega)
 obtain ⟨a1,a2,a3⟩:=Sofar.round hg hW hs h.so (by omega)
 have e:((k+1:Nat):Int)*B=k*B+B:=by push_cast;rw [Int.add_mul];omega
 refine ⟨a1.mono (by rw [e];omega),?_,a3⟩
 rcases a2 with a2|a2
 ·rcases h.left with h2|h2<;>omega
 ·exact .inr a2
theorem Rds.done {L:List Arc} {s:Int} {n k:Nat} {W B:Int} {d:List Int} {c:Bool} (hg:Ch.Good L n W) (h:Rds L s n k B d c) (he:c=false∨n<k):Exact L s n d:=by
 rcases he with he|he
 ·exact h.ex he
 ·exact h.so.zero hg (by rcases h.left with h2|h2<;>omega)
theorem Exact.is {es:List EdgeD} {n:Nat} {s:Int} {back:Bool} {no d:List Int} {k:Nat} {B:Int} (h:Exact (arcsC es back no) s n d) (hso:Sofar (arcsC es back no) s n (k*B) d) {W:Int} (hg:Ch.Good (arcsC es back no) n W) (hs:s∉no) (hb:(k:Int)*B≤1152921504606846976):AllIs es n s back no d:=
 ⟨h.len,fun v hv=>(hso.way v hv).imp id fun k=>⟨k.1.nonneg hg.hA,by have:=k.2;omega⟩,fun k=>absurd k hs,fun _=>h⟩
theorem AllIs.out {es:List EdgeD} {n:Nat} {s:Int} {back:Bool} {no:List Int} (hs:s∈no):AllIs es n s back no (List.replicate n FAR):=by
 have h:∀v,node n v→gD (List.replicate n FAR) v=FAR:=by
  intro v hv
  unfold gD
  rw [List.getD_eq_getElem?_getD,List.getElem?_replicate]
  split<;>rfl
 exact ⟨by simp,fun v hv=>.inl (h v hv),fun _=>h,fun k=>absurd hs k⟩
theorem arcs_good {es:List EdgeD} {n:Nat} {back:Bool} {no:List Int} (hA:∀u v w,arcG es u v w→nodeN n u∧nodeN n v∧1≤w∧w≤4294967296):Ch.Good (arcsC es back no) n 4294967296:=by
 have key:∀e∈arcsC es back no,node n e.u∧node n e.v∧1≤e.w∧e.w≤4294967296:=by
  intro e he
  have h:=(rel_arcs.1 (show rel (arcsC es back no) e.u e.v e.w from he)).1
  unfold relB at h
  cases back
  ·exact hA _ _ _ h
  ·have:=hA _ _ _ (show arcG es e.v e.u e.w from h)
   exact ⟨this.2.1,this.1,this.2.2⟩
 exact ⟨fun e he=>⟨(key e he).1,(key e he).2.1⟩,fun e he=>⟨(key e he).2.2.1,(key e he).2.2.2⟩⟩
theorem arcs_len {es:List EdgeD} {back:Bool} {no:List Int}:(arcsC es back no).length≤es.length:=by
 unfold arcsC
 rw [List.length_map]
 exact List.length_filter_le _ _
theorem part_bd {es:List EdgeD} {n:Nat} {s:Int} {back:Bool} {no d:List Int} {m W:Int} (hg:Ch.Good (arcsC es back no) n W) (hs:node n s) (hW:0≤W) (h:Sofar (arcsC es back no) s n m d) (hm0:0≤m) (hm:m+es.length*W<FAR) (j:Nat):
  ((es.take j).foldl (relaxE back no) (d,false)).1.length=n∧∀v,node n v→0≤gD ((es.take j).foldl (relaxE back no) (d,false)).1 v∧gD ((es.take j).foldl (relaxE back no) (d,false)).1 v≤4611686018427387904:=by
 rw [fold_relaxE]
 have hsub:∀e∈arcsC (es.take j) back no,e∈arcsC es back no:=by
  intro e he
  unfold arcsC at he ⊢
  obtain ⟨x,hx,rfl⟩:=List.mem_map.1 he
  obtain ⟨h1,h2⟩:=List.mem_filter.1 hx
  exact List.mem_map.2 ⟨x,List.mem_filter.2 ⟨List.mem_of_mem_take h1,h2⟩,rfl⟩
 obtain ⟨a,-,-,-⟩:=Sofar.part hg hs hW (arcsC (es.take j) back no) d m false hsub h
 have hl:(arcsC (es.take j) back no).length≤es.length:=Nat.le_trans arcs_len (by rw [List.length_take];omega)
 have h2:((arcsC (es.take j) back no).length:Int)*W≤(es.length:Int)*W:=Int.mul_le_mul_of_nonneg_right (by omega) hW
 have hF:FAR=4611686018427387904:=rfl
 refine ⟨a.len,fun v hv=>?_⟩
 rcases a.way v hv with k|⟨k,k2⟩
 ·rw [k,hF];omega
 ·exact ⟨k.nonneg hg.hA,by omega⟩
def FarV (A:Int→Int→Int→Prop) (s v x:Int):Prop:=(Dist A s v x∧0≤x∧x≤1152921504606846976)∨(x=FAR∧∀e,¬Way0 A Any s v e)
theorem FarV.uniq {A:Int→Int→Int→Prop} {s v x y:Int} (h:FarV A s v x) (k:FarV A s v y):x=y:=by
 rcases h with ⟨h,_⟩|⟨rfl,h⟩<;>rcases k with ⟨k,_⟩|⟨rfl,k⟩
 ·exact h.uniq k
 ·exact absurd h.1 (k _)
 ·exact absurd k.1 (h _)
 ·rfl
theorem FarV.lt {A:Int→Int→Int→Prop} {s v x:Int} (h:FarV A s v x) (hx:x<FAR):Dist A s v x∧0≤x∧x≤1152921504606846976:=by
 rcases h with h|⟨rfl,_⟩
 ·exact h
 ·exact absurd hx (by decide)
theorem FarV.ge {A:Int→Int→Int→Prop} {s v x:Int} (h:FarV A s v x) (hx:¬x<FAR):x=FAR∧∀e,¬Way0 A Any s v e:=by
 rcases h with ⟨_,_,h⟩|h
 ·unfold FAR at hx;omega
 ·exact h
theorem FarV.in {A:Int→Int→Int→Prop} {s v x:Int} (h:FarV A s v x):0≤x∧x≤4611686018427387904:=by
 rcases h with ⟨_,h⟩|⟨rfl,_⟩
 ·omega
 ·unfold FAR;omega
theorem rel_none (es:List EdgeD) (back:Bool):rel (arcsC es back [])=relB back (arcG es):=by
 funext u v w
 exact propext (rel_arcs.trans ⟨fun h=>h.1,fun h=>⟨h,by simp,by simp⟩⟩)
theorem AllIs.farX {es:List EdgeD} {n:Nat} {s:Int} {back:Bool} {no d:List Int} (hA:∀u v w,rel (arcsC es back no) u v w→1≤w) (h:AllIs es n s back no d) (hs:s∉no) {v:Int} (hv:node n v):FarV (rel (arcsC es back no)) s v (gD d v):=by
 obtain ⟨h1,h2,h3,h4⟩:=h
 have hE:=h4 hs
 by_cases hd:∃e,Dist (rel (arcsC es back no)) s v e
 ·obtain ⟨e,he⟩:=hd
  refine .inl ⟨by rw [hE.dist v e hv he];exact he,?_⟩
  rcases h2 v hv with k|k
  ·exact absurd k (hE.fin v e hv he)
  ·exact k
 ·exact .inr ⟨hE.none v hv fun e he=>hd ⟨e,he⟩,fun e he=>hd (dist_some hA he)⟩
theorem AllIs.far {es:List EdgeD} {n:Nat} {s:Int} {back:Bool} {d:List Int} (hA:∀u v w,relB back (arcG es) u v w→1≤w) (h:AllIs es n s back [] d) {v:Int} (hv:node n v):FarV (relB back (arcG es)) s v (gD d v):=by
 have:=h.farX (fun u v w k=>hA u v w (rel_arcs.1 k).1) (by simp) hv
 rwa [rel_none] at this
end Go.Proofs.YtkdomobedfhhgaaGreat
end
