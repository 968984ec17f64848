/- Facts that the other texts lean on. -/
import Derived.Test.YteaaapdjplbljaaGreatLw44
import Derived.Test.YteaaapdjplbljaaGreatLw47
set_option linter.unusedVariables false
set_option linter.unusedSimpArgs false
set_option linter.unnecessarySimpa false
section
namespace Go.Proofs.YteaaapdjplbljaaGreat.To
open Go.Proofs.YteaaapdjplbljaaGreat
def tailsF (m:Nat):Nat→List Nat→List (List Nat)
 |0,_=>[[]]
 |r+1,so=>(List.range m).flatMap fun i=>if i∈so then [] else (tailsF m r (so++[i])).map (i::·)
def tailC (c:Nat→Nat→Int):Nat→List Nat→Int
 |u,[]=>c u 1
 |u,i::r=>c u (i+2)+tailC c (i+2) r
def tailB (c:Nat→Nat→Int):Nat→List Nat→Bool
 |u,[]=>decide (c u 1<4611686018427387904)
 |u,i::r=>decide (c u (i+2)<4611686018427387904)&&tailB c (i+2) r
theorem tailC_pos {c:Nat→Nat→Int} (h:∀i j,0≤c i j):∀(q:List Nat) (u:Nat),0≤tailC c u q
 |[],u=>h u 1
 |i::r,u=>by
  have:=h u (i+2)
  have:=tailC_pos h r (i+2)
  show 0≤c u (i+2)+tailC c (i+2) r
  omega
def stepF (c:Nat→Nat→Int) (u:Nat) (so:List Nat) (sum:Int) (st:List Nat×Int) (q:List Nat):List Nat×Int:=
 if tailB c u q=true∧sum+tailC c u q<st.2 then (so++q,sum+tailC c u q) else st
theorem step_noop {c:Nat→Nat→Int} (h:∀i j,0≤c i j) {u:Nat} {so:List Nat} {sum:Int} {st:List Nat×Int} (hs:st.2≤sum) (l:List (List Nat)):l.foldl (stepF c u so sum) st=st:=by
 induction l with
 |nil=>rfl
 |cons q l ih=>
  rw [List.foldl_cons]
  have:stepF c u so sum st q=st:=by
   unfold stepF
   have:=tailC_pos h q u
   rw [if_neg (by omega)]
  rw [this,ih]
theorem foldl_flat {α β γ:Type} (f:γ→β→γ) (g:α→List β):∀(l:List α) (s:γ),(l.flatMap g).foldl f s=l.foldl (fun s x=>(g x).foldl f s) s
 |[],_=>rfl
 |a::l,s=>by rw [List.flatMap_cons,List.foldl_append,List.foldl_cons,foldl_flat f g l]
theorem foldl_cong {α γ:Type} {f g:γ→α→γ} (h:∀s x,f s x=g s x):∀(l:List α) (s:γ),l.foldl f s=l.foldl g s
 |[],_=>rfl
 |a::l,s=>by rw [List.foldl_cons,List.foldl_cons,h,foldl_cong h l]
theorem grow_fold {c:Nat→Nat→Int} (h:∀i j,0≤c i j) {m:Nat}:∀(r u:Nat) (so:List Nat) (sum:Int) (st:List Nat×Int),growF c m r u so sum st=(tailsF m r so).foldl (stepF c u so sum) st
 |0,u,so,sum,st=>by
  unfold growF tailsF
  by_cases hs:st.2≤sum
  ·rw [if_pos hs,step_noop h hs]
  ·rw [if_neg hs]
   show _=stepF c u so sum st []
   unfold stepF tailB tailC
   rw [List.append_nil]
   simp only [decide_eq_true_eq]
 |r+1,u,so,sum,st=>by
  unfold growF
  by_cases hs:st.2≤sum
  ·rw [if_pos hs,step_noop h hs]
  ·rw [if_neg hs]
   show _=(((List.range m).flatMap fun i=>if i∈so then [] else (tailsF m r (so++[i])).map (i::·))).foldl (stepF c u so sum) st
   rw [foldl_flat]
   refine foldl_cong (fun s i=>?_) _ _
   by_cases hi:i∈so
   ·rw [if_pos hi,if_pos hi]
    rfl
   ·rw [if_neg hi,if_neg hi,List.foldl_map]
    by_cases hd:c u (i+2)<4611686018427387904
    ·rw [if_pos hd,grow_fold h r]
     refine foldl_cong (fun s q=>?_) _ _
     unfold stepF
     have e1:tailB c u (i::q)=tailB c (i+2) q:=by
      show (decide (c u (i+2)<4611686018427387904)&&tailB c (i+2) q)=_
      rw [decide_eq_true hd,Bool.true_and]
     have e2:sum+tailC c u (i::q)=sum+c u (i+2)+tailC c (i+2) q:=by
      show sum+(c u (i+2)+tailC c (i+2) q)=_
      omega
     rw [e1,e2,List.append_assoc]
     rfl
    ·rw [if_neg hd]
     have:∀(l:List (List Nat)) (s:List Nat×Int),l.foldl (fun s q=>stepF c u so sum s (i::q)) s=s:=by
      intro l
      induction l with
      |nil=>intro s;rfl
      |cons q l ih=>
       intro s
       rw [List.foldl_cons]
       have:stepF c u so sum s (i::q)=s:=by
        unfold stepF
        rw [if_neg (fun k=>by
         have h1:=k.1
         have:tailB c u (i::q)=(decide (c u (i+2)<4611686018427387904)&&tailB c (i+2) q):=rfl
         rw [this,decide_eq_false hd,Bool.false_and] at h1
         cases h1)]
       rw [this,ih]
     rw [this]
theorem mem_tails {m:Nat}:∀(r:Nat) (so q:List Nat),q∈tailsF m r so↔q.length=r∧(∀i∈q,i<m∧i∉so)∧q.Nodup
 |0,so,q=>by
  unfold tailsF
  constructor
  ·intro h
   obtain rfl:=List.mem_singleton.1 h
   simp
  ·rintro ⟨h,_⟩
   obtain rfl:=List.length_eq_zero_iff.1 h
   exact List.mem_singleton.2 rfl
 |r+1,so,q=>by
  show q∈((List.range m).flatMap fun i=>if i∈so then [] else (tailsF m r (so++[i])).map (i::·))↔_
  rw [List.mem_flatMap]
  constructor
  ·rintro ⟨i,hi,hq⟩
   by_cases hs:i∈so
   ·rw [if_pos hs] at hq;cases hq
   ·rw [if_neg hs] at hq
    obtain ⟨p,hp,rfl⟩:=List.mem_map.1 hq
    obtain ⟨h1,h2,h3⟩:=(mem_tails r (so++[i]) p).1 hp
    refine ⟨by rw [List.length_cons,h1],fun j hj=>?_,List.nodup_cons.2 ⟨fun hm=>?_,h3⟩⟩
    ·rcases List.mem_cons.1 hj with rfl|hj
     ·exact ⟨List.mem_range.1 hi,hs⟩
     ·have:=h2 j hj
      exact ⟨this.1,fun k=>this.2 (List.mem_append_left _ k)⟩
    ·exact (h2 i hm).2 (by simp)
  ·rintro ⟨h1,h2,h3⟩
   cases q with
   |nil=>cases h1
   |cons i p=>
    obtain ⟨h4,h5⟩:=List.nodup_cons.1 h3
    have h6:=h2 i (List.mem_cons_self ..)
    refine ⟨i,List.mem_range.2 h6.1,?_⟩
    rw [if_neg h6.2]
    refine List.mem_map.2 ⟨p,(mem_tails r (so++[i]) p).2 ⟨by simpa using h1,fun j hj=>?_,h5⟩,rfl⟩
    have h7:=h2 j (List.mem_cons_of_mem _ hj)
    refine ⟨h7.1,fun k=>?_⟩
    rcases List.mem_append.1 k with k|k
    ·exact h7.2 k
    ·obtain rfl:=List.mem_singleton.1 k
     exact h4 hj
def bestF (c:Nat→Nat→Int) (m:Nat):List Nat×Int:=(tailsF m m []).foldl (stepF c 0 [] 0) ([],4611686018427387904)
theorem fold_least {c:Nat→Nat→Int} {u:Nat}:∀(l:List (List Nat)) (st:List Nat×Int),
  (l.foldl (stepF c u [] 0) st).2≤st.2∧(∀q∈l,tailB c u q=true→(l.foldl (stepF c u [] 0) st).2≤tailC c u q)∧
  (l.foldl (stepF c u [] 0) st=st∨∃q∈l,tailB c u q=true∧l.foldl (stepF c u [] 0) st=(q,tailC c u q))
 |[],st=>⟨Int.le_refl _,by simp,.inl rfl⟩
 |p::l,st=>by
  rw [List.foldl_cons]
  obtain ⟨h1,h2,h3⟩:=fold_least l (stepF c u [] 0 st p)
  have hst:(stepF c u [] 0 st p).2≤st.2∧(tailB c u p=true→(stepF c u [] 0 st p).2≤tailC c u p)∧(stepF c u [] 0 st p=st∨(tailB c u p=true∧stepF c u [] 0 st p=(p,tailC c u p))):=by
   unfold stepF
   by_cases h:tailB c u p=true∧0+tailC c u p<st.2
   ·rw [if_pos h]
    refine ⟨by show 0+tailC c u p≤st.2;omega,fun _=>by show 0+tailC c u p≤_;omega,.inr ⟨h.1,?_⟩⟩
    rw [List.nil_append,Int.zero_add]
   ·rw [if_neg h]
    refine ⟨Int.le_refl _,fun hb=>?_,.inl rfl⟩
    have:¬0+tailC c u p<st.2:=fun k=>h ⟨hb,k⟩
    omega
  refine ⟨Int.le_trans h1 hst.1,fun q hq hb=>?_,?_⟩
  ·rcases List.mem_cons.1 hq with rfl|hq
   ·exact Int.le_trans h1 (hst.2.1 hb)
   ·exact h2 q hq hb
  ·rcases h3 with h3|⟨q,hq,hb,h3⟩
   ·rcases hst.2.2 with h4|⟨h4,h5⟩
    ·exact .inl (h3.trans h4)
    ·exact .inr ⟨p,List.mem_cons_self ..,h4,h3.trans h5⟩
   ·exact .inr ⟨q,List.mem_cons_of_mem _ hq,hb,h3⟩
end Go.Proofs.YteaaapdjplbljaaGreat.To
end
section
namespace Go.Proofs.YteaaapdjplbljaaGreat.To
open Go.Proofs.YteaaapdjplbljaaGreat
def tpickF (d:Nat→Int) (out:List Nat):Nat→Option Nat×Int
 |0=>(none,4611686018427387904)
 |k+1=>if d k<(tpickF d out k).2∧k∉out then (some k,d k) else tpickF d out k
theorem pick_spec (d:Nat→Int) (out:List Nat):∀k,(tpickF d out k).2≤4611686018427387904∧(match (tpickF d out k).1 with
  |none=>(tpickF d out k).2=4611686018427387904
  |some b=>b<k∧b∉out∧(tpickF d out k).2=d b∧d b<4611686018427387904)
 |0=>⟨Int.le_refl _,rfl⟩
 |k+1=>by
  obtain ⟨h1,h2⟩:=pick_spec d out k
  unfold tpickF
  by_cases h:d k<(tpickF d out k).2∧k∉out
  ·rw [if_pos h]
   exact ⟨by show d k≤_;omega,Nat.lt_succ_self _,h.2,rfl,by omega⟩
  ·rw [if_neg h]
   refine ⟨h1,?_⟩
   cases hp:(tpickF d out k).1 with
   |none=>rw [hp] at h2;exact h2
   |some b=>
    rw [hp] at h2
    exact ⟨by have:=h2.1;omega,h2.2⟩
def tnearF (c:Nat→Nat→Int) (m:Nat):Nat→Nat→List Nat→Int→Option (List Nat×Int)
 |0,_,out,sum=>some (out,sum)
 |r+1,u,out,sum=>match (tpickF (fun i=>c u (i+2)) out m).1 with
  |some b=>tnearF c m r (b+2) (out++[b]) (sum+c u (b+2))
  |none=>none
end Go.Proofs.YteaaapdjplbljaaGreat.To
end
