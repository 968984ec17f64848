/- Orders of stops as tours: what an order weighs, that the nearest one has each stop once, and that none is nearer. In plain Lean. -/
import Derived.Test.YteaaapdjplbljaaGreatLxS
import Derived.Test.YteaaapdjplbljaaGreatLw47
import Derived.Test.YteaaapdjplbljaaGreatLw34
set_option linter.unusedVariables false
set_option linter.unusedSimpArgs false
set_option linter.unnecessarySimpa false
namespace Go.Proofs.YteaaapdjplbljaaGreat
open Go Go.Proofs Go.RowKit Go.Shelf Go.Proofs.YteaaapdjplbljaaGreat.Hp Go.Proofs.YteaaapdjplbljaaGreat.Ch Go.Proofs.YteaaapdjplbljaaGreat.To
theorem legSum_cons {D:Int→Int→Int} {x y:Int} {l:List Int}:∀k,legSum D (x::y::l) (k+1)=D x y+legSum D (y::l) k
 |0=>by simp [legSum]
 |k+1=>by
  have:=legSum_cons (D:=D) (x:=x) (y:=y) (l:=l) k
  show legSum D (x::y::l) (k+1)+D ((x::y::l).getD (k+1) 0) ((x::y::l).getD (k+1+1) 0)=D x y+(legSum D (y::l) k+D ((y::l).getD k 0) ((y::l).getD (k+1) 0))
  rw [this,List.getD_cons_succ,List.getD_cons_succ]
  omega
theorem legsOK_cons {D:Int→Int→Int} {x y:Int} {l:List Int} {k:Nat}:legsOK D (x::y::l) (k+1)↔D x y<4611686018427387904∧legsOK D (y::l) k:=by
 constructor
 ·intro h
  exact ⟨h 0 (by omega),fun j hj=>h (j+1) (by omega)⟩
 ·rintro ⟨h1,h2⟩ j hj
  cases j with
  |zero=>exact h1
  |succ j=>exact h2 j (by omega)
def ordL (all:List Int) (u:Nat) (q:List Nat):List Int:=all.getD u 0::(q.map (fun i=>all.getD (i+2) 0)++[all.getD 1 0])
theorem ordL_length (all:List Int) (u:Nat) (q:List Nat):(ordL all u q).length=q.length+2:=by simp [ordL]
theorem ord_sum {es:List EdgeD} {all:List Int}:∀(q:List Nat) (u:Nat),legSum (distV es) (ordL all u q) (q.length+1)=tailC (cmat es all) u q
 |[],u=>by simp [ordL,legSum,tailC,cmat]
 |i::q,u=>by
  have h:=ord_sum (es:=es) (all:=all) q (i+2)
  show legSum (distV es) (all.getD u 0::all.getD (i+2) 0::(q.map (fun i=>all.getD (i+2) 0)++[all.getD 1 0])) (q.length+1+1)=cmat es all u (i+2)+tailC (cmat es all) (i+2) q
  rw [legSum_cons,←h]
  rfl
theorem ord_ok {es:List EdgeD} {all:List Int}:∀(q:List Nat) (u:Nat),legsOK (distV es) (ordL all u q) (q.length+1)↔tailB (cmat es all) u q=true
 |[],u=>by
  show legsOK (distV es) (all.getD u 0::all.getD 1 0::[]) (0+1)↔_
  rw [legsOK_cons]
  unfold tailB cmat
  rw [decide_eq_true_eq]
  exact ⟨fun h=>h.1,fun h=>⟨h,legsOK.none _ _⟩⟩
 |i::q,u=>by
  have h:=ord_ok (es:=es) (all:=all) q (i+2)
  show legsOK (distV es) (all.getD u 0::all.getD (i+2) 0::(q.map (fun i=>all.getD (i+2) 0)++[all.getD 1 0])) (q.length+1+1)↔(decide (cmat es all u (i+2)<4611686018427387904)&&tailB (cmat es all) (i+2) q)=true
  rw [legsOK_cons,Bool.and_eq_true,decide_eq_true_eq,←h]
  rfl
theorem ord_mem {all:List Int} {u:Nat} {q:List Nat} (hu:u<all.length) (h1:1<all.length) (hq:∀i∈q,i+2<all.length):∀x∈ordL all u q,x∈all:=by
 intro x hx
 have hg:∀i,i<all.length→all.getD i 0∈all:=fun i hi=>by
  rw [List.getD_eq_getElem?_getD,List.getElem?_eq_getElem hi]
  exact List.getElem_mem _
 rcases List.mem_cons.1 hx with rfl|hx
 ·exact hg u hu
 ·rcases List.mem_append.1 hx with hx|hx
  ·obtain ⟨i,hi,rfl⟩:=List.mem_map.1 hx
   exact hg _ (hq i hi)
  ·obtain rfl:=List.mem_singleton.1 hx
   exact hg 1 h1
theorem dist_legs {es:List EdgeD} {all l:List Int} (hD:∀x∈all,∀y∈all,DistT es x y) (hm:∀x∈l,x∈all):∀j,j<l.length-1→DistT es (l.getD j 0) (l.getD (j+1) 0):=by
 intro j hj
 have hg:∀i,i<l.length→l.getD i 0∈l:=fun i hi=>by
  rw [List.getD_eq_getElem?_getD,List.getElem?_eq_getElem hi]
  exact List.getElem_mem _
 exact hD _ (hm _ (hg _ (by omega))) _ (hm _ (hg _ (by omega)))
theorem dist_all {es:List EdgeD} {all:List Int} (h:∀i j,i<all.length→j<all.length→DistT es (all.getD i 0) (all.getD j 0)):∀x∈all,∀y∈all,DistT es x y:=by
 intro x hx y hy
 obtain ⟨i,hi,rfl⟩:=List.getElem_of_mem hx
 obtain ⟨j,hj,rfl⟩:=List.getElem_of_mem hy
 have:=h i j hi hj
 rwa [List.getD_eq_getElem?_getD,List.getElem?_eq_getElem hi,List.getD_eq_getElem?_getD,List.getElem?_eq_getElem hj] at this
theorem ord_given (s t:Int) (l:List Int):ordL (s::t::l) 0 (List.range l.length)=s::(l++[t]):=by
 have h:(List.range l.length).map (fun i=>(s::t::l).getD (i+2) 0)=l:=by
  apply List.ext_getElem (by simp)
  intro i h1 h2
  simp [List.getD_eq_getElem?_getD,List.getElem?_eq_getElem h2]
 show (s::t::l).getD 0 0::((List.range l.length).map (fun i=>(s::t::l).getD (i+2) 0)++[(s::t::l).getD 1 0])=_
 rw [h]
 rfl
theorem cmat_pos {es:List EdgeD} {all:List Int} (hD:∀i j,i<all.length→j<all.length→DistT es (all.getD i 0) (all.getD j 0)):∀i j,i<all.length→j<all.length→0≤cmat es all i j:=fun i j hi hj=>(hD i j hi hj).in.1
def cutC (m:Nat) (c:Nat→Nat→Int) (i j:Nat):Int:=if i<m+2∧j<m+2 then c i j else 0
theorem grow_cut {c:Nat→Nat→Int} {m:Nat}:∀(r u:Nat) (so:List Nat) (sum:Int) (st:List Nat×Int),u<m+2→growF (cutC m c) m r u so sum st=growF c m r u so sum st
 |0,u,so,sum,st,hu=>by
  unfold growF
  rw [show cutC m c u 1=c u 1 from if_pos ⟨hu,by omega⟩]
 |r+1,u,so,sum,st,hu=>by
  unfold growF
  split
  ·rfl
  ·have key:∀(L:List Nat),(∀i∈L,i<m)→∀st:List Nat×Int,L.foldl (fun st i=>if i∈so then st else if cutC m c u (i+2)<4611686018427387904 then growF (cutC m c) m r (i+2) (so++[i]) (sum+cutC m c u (i+2)) st else st) st=L.foldl (fun st i=>if i∈so then st else if c u (i+2)<4611686018427387904 then growF c m r (i+2) (so++[i]) (sum+c u (i+2)) st else st) st:=by
    intro L
    induction L with
    |nil=>intro _ _;rfl
    |cons i L ih=>
     intro hL st
     have hi:=hL i (List.mem_cons_self ..)
     rw [List.foldl_cons,List.foldl_cons,show cutC m c u (i+2)=c u (i+2) from if_pos ⟨hu,by omega⟩,grow_cut r (i+2) _ _ _ (by omega)]
     exact ih (fun j hj=>hL j (List.mem_cons_of_mem _ hj)) _
   exact key _ (fun i hi=>List.mem_range.1 hi) st
theorem tail_cut {c:Nat→Nat→Int} {m:Nat}:∀(q:List Nat) (u:Nat),u<m+2→(∀i∈q,i<m)→tailC (cutC m c) u q=tailC c u q∧tailB (cutC m c) u q=tailB c u q
 |[],u,hu,_=>by
  unfold tailC tailB
  rw [show cutC m c u 1=c u 1 from if_pos ⟨hu,by omega⟩]
  exact ⟨rfl,rfl⟩
 |i::q,u,hu,hq=>by
  have hi:=hq i (List.mem_cons_self ..)
  obtain ⟨h1,h2⟩:=tail_cut (c:=c) (m:=m) q (i+2) (by omega) (fun j hj=>hq j (List.mem_cons_of_mem _ hj))
  have e:cutC m c u (i+2)=c u (i+2):=if_pos ⟨hu,by omega⟩
  constructor
  ·show cutC m c u (i+2)+tailC (cutC m c) (i+2) q=c u (i+2)+tailC c (i+2) q
   rw [e,h1]
  ·show (decide (cutC m c u (i+2)<4611686018427387904)&&tailB (cutC m c) (i+2) q)=(decide (c u (i+2)<4611686018427387904)&&tailB c (i+2) q)
   rw [e,h2]
theorem cutC_pos {c:Nat→Nat→Int} {m:Nat} (h:∀i j,i<m+2→j<m+2→0≤c i j) (i j:Nat):0≤cutC m c i j:=by
 unfold cutC
 split
 ·rename_i h1
  exact h i j h1.1 h1.2
 ·exact Int.le_refl _
theorem grow_best {c:Nat→Nat→Int} {m:Nat} (h:∀i j,i<m+2→j<m+2→0≤c i j):growF c m m 0 [] 0 ([],4611686018427387904)=bestF (cutC m c) m:=by
 rw [←grow_cut m 0 [] 0 _ (by omega),grow_fold (cutC_pos h)]
 rfl
theorem best_spec {c:Nat→Nat→Int} {m:Nat} (h:∀i j,i<m+2→j<m+2→0≤c i j):
  (∀q:List Nat,q.length=m→(∀i∈q,i<m)→q.Nodup→tailB c 0 q=true→(growF c m m 0 [] 0 ([],4611686018427387904)).2≤tailC c 0 q)∧
  ((growF c m m 0 [] 0 ([],4611686018427387904)).2<4611686018427387904→∃q:List Nat,q.length=m∧(∀i∈q,i<m)∧q.Nodup∧tailB c 0 q=true∧growF c m m 0 [] 0 ([],4611686018427387904)=(q,tailC c 0 q)):=by
 rw [grow_best h]
 obtain ⟨-,h2,h3⟩:=fold_least (c:=cutC m c) (u:=0) (tailsF m m []) ([],4611686018427387904)
 have h2:∀q∈tailsF m m [],tailB (cutC m c) 0 q=true→(bestF (cutC m c) m).2≤tailC (cutC m c) 0 q:=h2
 have h3:bestF (cutC m c) m=([],4611686018427387904)∨∃q∈tailsF m m [],tailB (cutC m c) 0 q=true∧bestF (cutC m c) m=(q,tailC (cutC m c) 0 q):=h3
 refine ⟨fun q q1 q2 q3 q4=>?_,fun hlt=>?_⟩
 ·obtain ⟨e1,e2⟩:=tail_cut (c:=c) (m:=m) q 0 (by omega) q2
  have:=h2 q ((mem_tails m [] q).2 ⟨q1,fun i hi=>⟨q2 i hi,by simp⟩,q3⟩) (e2.trans q4)
  rwa [e1] at this
 ·rcases h3 with h3|⟨q,hq,hb,h3⟩
  ·rw [h3] at hlt
   exact absurd hlt (by decide)
  ·obtain ⟨k1,k2,k3⟩:=(mem_tails m [] q).1 hq
   have k4:=fun i hi=>(k2 i hi).1
   obtain ⟨e1,e2⟩:=tail_cut (c:=c) (m:=m) q 0 (by omega) k4
   exact ⟨q,k1,k4,k3,e2.symm.trans hb,by rw [h3,e1]⟩
theorem range_ord (m:Nat):(List.range m).length=m∧(∀i∈List.range m,i<m)∧(List.range m).Nodup:=⟨List.length_range,fun _ h=>List.mem_range.1 h,List.nodup_range⟩
theorem nat_nodup_le:∀(m:Nat) (q:List Nat),q.Nodup→(∀i∈q,i<m)→q.length≤m
 |0,q,_,h=>by
  cases q with
  |nil=>simp
  |cons x q=>exact absurd (h x (List.mem_cons_self ..)) (by omega)
 |m+1,q,hn,h=>by
  have h1:=nat_nodup_le m (q.erase m) (hn.erase m) (fun i hi=>by
   have h2:=(hn.mem_erase_iff).1 hi
   have h3:=h i h2.2
   have h4:=h2.1
   omega)
  have h5:=List.length_erase (a:=m) (l:=q)
  split at h5<;>omega
theorem count_one {q:List Nat} {m i:Nat} (h1:q.length=m) (h2:∀i∈q,i<m) (h3:q.Nodup) (hi:i<m):q.count i=1:=by
 rw [h3.count]
 by_cases h:i∈q
 ·rw [if_pos h]
 ·have:=nat_nodup_le m (i::q) (List.nodup_cons.2 ⟨h,h3⟩) (fun j hj=>by
   rcases List.mem_cons.1 hj with rfl|hj
   ·exact hi
   ·exact h2 j hj)
  rw [List.length_cons] at this
  omega
theorem near_spec {c:Nat→Nat→Int} {m:Nat}:∀(r u:Nat) (out:List Nat) (sum:Int) (q:List Nat×Int),tnearF c m r u out sum=some q→∃p:List Nat,p.length=r∧(∀i∈p,i<m∧i∉out)∧p.Nodup∧q.1=out++p∧
  (∀x:Int,c (p.getLast?.elim u (· +2)) 1=x→x<4611686018427387904→tailB c u p=true∧q.2+x=sum+tailC c u p)
 |0,u,out,sum,q,h=>by
  cases h
  refine ⟨[],rfl,by simp,List.nodup_nil,by simp,fun x hx hlt=>?_⟩
  have hx:c u 1=x:=hx
  exact ⟨by unfold tailB;rw [hx];exact decide_eq_true hlt,by unfold tailC;rw [hx]⟩
 |r+1,u,out,sum,q,h=>by
  unfold tnearF at h
  have hs:=(pick_spec (fun i=>c u (i+2)) out m).2
  cases hp:(tpickF (fun i=>c u (i+2)) out m).1 with
  |none=>rw [hp] at h;cases h
  |some b=>
   rw [hp] at h hs
   obtain ⟨h1,h2,h3,h4⟩:=hs
   obtain ⟨p,p1,p2,p3,p4,p5⟩:=near_spec r (b+2) (out++[b]) (sum+c u (b+2)) q h
   refine ⟨b::p,by rw [List.length_cons,p1],fun i hi=>?_,List.nodup_cons.2 ⟨fun hb=>(p2 b hb).2 (by simp),p3⟩,by rw [p4];simp,fun x hx hlt=>?_⟩
   ·rcases List.mem_cons.1 hi with rfl|hi
    ·exact ⟨h1,h2⟩
    ·exact ⟨(p2 i hi).1,fun k=>(p2 i hi).2 (List.mem_append_left _ k)⟩
   ·have hl:(b::p).getLast?.elim u (· +2)=p.getLast?.elim (b+2) (· +2):=by
     cases p with
     |nil=>rfl
     |cons y p=>rw [List.getLast?_cons_cons];cases hg:(y::p).getLast? with
      |none=>simp at hg
      |some z=>rfl
    obtain ⟨t1,t2⟩:=p5 x (by rw [←hl];exact hx) hlt
    constructor
    ·show (decide (c u (b+2)<4611686018427387904)&&tailB c (b+2) p)=true
     rw [decide_eq_true h4,t1]
     rfl
    ·show q.2+x=sum+(c u (b+2)+tailC c (b+2) p)
     omega
end Go.Proofs.YteaaapdjplbljaaGreat
