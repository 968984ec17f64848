/- A region whose operations only grow memory, in any order, some of them under a guard, with a last one that waits for all of them, the frame unseen. -/
import Derived.Test.YteaaapdjplbljaaVa11
set_option linter.unusedVariables false
set_option linter.unusedSimpArgs false
set_option linter.unnecessarySimpa false
namespace Go.Proofs.Yteaaapdjplbljaa
open Go Go.Proofs Go.RowKit
section
variable {a:Act} {P:Program} {Q:Exit→Act→World→Prop} {w:World}
def growJs (l:List Oper) (n:Nat) (a:Act) (w:World) (R:Nat→Value→List Nat→World→Prop) (Qn:Act→World→Prop) (listed:Array Bool) (a':Act) (w':World):Prop:=
 listed.size=n+1∧((listed.getD n false=false∧(∀i o,i<n→l[i]? =some o→listed.getD i false=true→∀e∈o.after,Region.binds .any e=true→listed.getD e.on false=true)∧
  ∃(vs:Nat→Value) (gs:Nat→List Nat),a'=puts a (dstAt l) vs n∧Below w.heap.size w w'∧(∀i,i<n→listed.getD i false=true→R i (vs i) (gs i) w')∧(∀i,i<n→listed.getD i false=true→∀k∈gs i,w.heap.size≤k∧k<w'.heap.size)∧
   ∀i j k,i<n→j<n→listed.getD i false=true→listed.getD j false=true→i≠j→k∈gs i→k∉gs j)∨((∀i,i<n+1→listed.getD i false=true)∧Qn a' w'))
theorem wp_region_grows_s {id:Nat} {l:List Oper} (n:Nat) (st:Oper) (hst:l=l.take n++[st]) (hln:(l.take n).length=n) (R:Nat→Value→List Nat→World→Prop) (hm:P.follows .mixedOrders=true) (hB:growG (l.take n) a.tmps.size=true) (hS:lastB l n st=true)
  (hmono:∀i v g w w',Below w.heap.size w w'→R i v g w→R i v g w')
  (hop:opsAll (fun i o=>∀(act:Act) (gs:Nat→List Nat) w',Below w.heap.size w w'→(∀j,depB l i j=true→R j (act.tmps.getD (dstAt l j) undef) (gs j) w')→(∀j j' k,depB l i j=true→depB l i j'=true→j≠j'→k∈gs j→k∉gs j')→(∀t,offB l n t=true→act.tmps.getD t undef=a.tmps.getD t undef)→
   ∀K:Act→World→Prop,(∀v g w'',Below w'.heap.size w' w''→R i v g w''→(∀k∈g,w'.heap.size≤k∧k<w''.heap.size)→K (act.put o.dst v) w'')→(Goes l act o true∧o.wp P act w' K Q)∨(Goes l act o false∧K (act.put o.dst undef) w')) 0 (l.take n))
  (hend:∀(vs:Nat→Value) (gs:Nat→List Nat) act w',Below w.heap.size w w'→(∀i,i<n→R i (vs i) (gs i) w')→(∀i k,i<n→k∈gs i→w.heap.size≤k∧k<w'.heap.size)→(∀i j k,i<n→j<n→i≠j→k∈gs i→k∉gs j)→(∀j,j<n→act.tmps.getD (dstAt l j) undef=vs j)→(∀t,offB l n t=true→act.tmps.getD t undef=a.tmps.getD t undef)→act=puts a (dstAt l) vs n→st.wp P act w' (fun a' w'=>Q .normal a' w') Q):(Code.region id l.toArray true).wp P Q a w:=by
 have hlen:l.length=n+1:=by rw [hst,List.length_append,hln];rfl
 have hat:∀i,i<n→l[i]? =(l.take n)[i]?:=fun i hi=>by rw [List.getElem?_take_of_lt hi]
 have hda:∀i,i<n→dstAt l i=dstAt (l.take n) i:=fun i hi=>by unfold dstAt;rw [hat i hi]
 have hatn:l[n]? =some st:=by rw [hst,List.getElem?_append_right (by omega),hln,Nat.sub_self];rfl
 have hg:=fun i (hi:i<n)=>growG_at hB (List.getElem?_eq_getElem (show i<(l.take n).length by omega))
 have hD:∀i,i<n→dstAt l i<a.tmps.size:=fun i hi=>by rw [hda i hi];exact (hg i hi).2.1
 have hinj:∀i j,i<n→j<n→dstAt l i=dstAt l j→i=j:=fun i j hi hj e=>by
  rw [hda i hi,hda j hj] at e
  rcases Nat.lt_trichotomy i j with k|k|k
  ·exact absurd e ((hg j hj).2.2.2 i k)
  ·exact k
  ·exact absurd e.symm ((hg i hi).2.2.2 j k)
 have hord:∀i o,i<n→l[i]? =some o→∀e∈o.after,Region.binds .any e=true→e.on<i:=fun i o hi ho=>(growG_at hB ((hat i hi).symm.trans ho)).2.2.1
 have hon:∀vs j,j<n→(puts a (dstAt l) vs n).tmps.getD (dstAt l j) undef=vs j:=fun vs j hj=>by
  rw [Array.getD_eq_getD_getElem?,puts_on hinj hj (hD j hj)]
  rfl
 have hoff:∀vs t,offB l n t=true→(puts a (dstAt l) vs n).tmps.getD t undef=a.tmps.getD t undef:=fun vs t ht=>by
  rw [Array.getD_eq_getD_getElem?,Array.getD_eq_getD_getElem?,puts_off (fun i hi e=>by
   have:=List.all_eq_true.1 ht i (List.mem_range.2 hi)
   simp [e] at this)]
 unfold lastB at hS
 simp only [Bool.and_eq_true] at hS
 obtain ⟨⟨s1,s2⟩,s3⟩:=hS
 have hsd:∀e∈st.after,Region.binds .any e=true→e.on<n:=fun e he hb=>by
  rw [Array.all_eq_true_iff_forall_mem] at s2
  have:=s2 e he
  rw [hb] at this
  simpa using this
 have hwait:∀i,i<n→∃j,i<j∧j≤n∧∃o,l[j]? =some o∧∃e∈o.after,Region.binds .any e=true∧e.on=i:=fun i hi=>by
  have k1:=List.all_eq_true.1 s3 i (List.mem_range.2 hi)
  obtain ⟨j,hj,k2⟩:=List.any_eq_true.1 k1
  simp only [Bool.and_eq_true,decide_eq_true_eq] at k2
  obtain ⟨o,ho,k3⟩:=Region.waitsFor_spec k2.2
  exact ⟨j,k2.1,by have:=List.mem_range.1 hj;omega,o,by simpa using ho,k3⟩
 have ha:=puts_of (a:=a) (a':=a) hinj rfl rfl hD (fun _ _=>rfl)
 refine wp_region_inv hm (growJs l n a w R (Q .normal)) ?_ ?_ ?_
 ·have hz:∀i,¬(Array.replicate l.toArray.size false).getD i false=true:=fun i k=>by
   rw [getD_replicate_false] at k
   cases k
  refine ⟨by simp [hlen],.inl ⟨?_,fun i o _ _ k=>absurd k (hz i),_,fun _=>[],ha,(Below.refl _ w).drew,fun i _ k=>absurd k (hz i),fun i _ k=>absurd k (hz i),fun i j k _ _ h=>absurd h (hz i)⟩⟩
  cases k:(Array.replicate l.toArray.size false).getD n false with
  |false=>rfl
  |true=>exact absurd k (hz n)
 ·rintro listed a' w' i ⟨hsz,h1|⟨hall,-⟩⟩ hi
  ·obtain ⟨hn0,hcl,vs,gs,rfl,hb,hR,hF,hN⟩:=h1
   obtain ⟨h1,o,h2,h3⟩:=mem_ready.1 hi
   have h2':l[i]? =some o:=by simpa using h2
   have hlt:i<n+1:=by have:=(List.getElem?_eq_some_iff.1 h2').1;omega
   have hun:∀j,listed.getD j false=true→j≠i:=by
    rintro j hj rfl
    have:=getD_both h1
    rw [this] at hj
    cases hj
   by_cases hin:i<n
   ·have h2h:(l.take n)[i]? =some o:=(hat i hin).symm.trans h2'
    have hdo:o.dst=some (dstAt l i):=by rw [hda i hin];exact (growG_at hB h2h).1
    have hset:∀j,(listed.setIfInBounds i true).getD j false=true→j=i∨(j≠i∧listed.getD j false=true):=fun j hl=>by
     by_cases e:j=i
     ·exact .inl e
     ·rw [getD_set_ne false (fun k=>e k.symm)] at hl
      exact .inr ⟨e,hl⟩
    have hkeep:∀j,listed.getD j false=true→(listed.setIfInBounds i true).getD j false=true:=fun j hl=>by
     rw [getD_set_ne false (fun k=>hun j hl k.symm)]
     exact hl
    have hK:∀(v:Value) (g:List Nat) (w'':World),Below w'.heap.size w' w''→R i v g w''→(∀k∈g,w'.heap.size≤k∧k<w''.heap.size)→growJs l n a w R (Q .normal) (listed.setIfInBounds i true) ((puts a (dstAt l) vs n).put o.dst v) w'':=by
     intro v g w'' hb2 hr hf
     obtain ⟨gs2,hgs⟩:∃gs2:Nat→List Nat,gs2=fun j=>if j=i then g else gs j:=⟨_,rfl⟩
     have hgi:gs2 i=g:=by rw [hgs];exact if_pos rfl
     have hgn:∀j,j≠i→gs2 j=gs j:=fun j hj=>by rw [hgs];exact if_neg hj
     have hsz2:=hb2.size
     refine ⟨by simp [hsz],.inl ⟨by rw [getD_set_ne false (by omega)];exact hn0,?_,updV vs i v,gs2,by rw [hdo];exact puts_put hinj hD hin,hb.st hb2,?_,?_,?_⟩⟩
     ·intro j oj hjn hj hl e he hb'
      rcases hset j hl with rfl|⟨hji,hl'⟩
      ·rw [h2'] at hj
       cases hj
       exact hkeep _ (h3 e he hb')
      ·exact hkeep _ (hcl j oj hjn hj hl' e he hb')
     ·intro j hj hl
      rcases hset j hl with rfl|⟨hji,hl'⟩
      ·rw [show updV vs j v j=v from if_pos rfl,hgi]
       exact hr
      ·rw [show updV vs i v j=vs j from if_neg hji,hgn j hji]
       exact hmono _ _ _ _ _ hb2 (hR j hj hl')
     ·intro j hj hl k hk
      rcases hset j hl with rfl|⟨hji,hl'⟩
      ·rw [hgi] at hk
       have:=hf k hk
       have:=hb.size
       exact ⟨by omega,by omega⟩
      ·rw [hgn j hji] at hk
       have:=hF j hj hl' k hk
       exact ⟨this.1,by omega⟩
     ·intro j1 j2 k hj1 hj2 hl1 hl2 hne hk1 hk2
      rcases hset j1 hl1 with rfl|⟨hji1,hl1'⟩<;>rcases hset j2 hl2 with e2|⟨hji2,hl2'⟩
      ·exact absurd e2.symm hne
      ·rw [hgi] at hk1
       rw [hgn j2 hji2] at hk2
       have:=hf k hk1
       have:=hF j2 hj2 hl2' k hk2
       omega
      ·subst e2
       rw [hgi] at hk2
       rw [hgn j1 hji1] at hk1
       have:=hf k hk2
       have:=hF j1 hj1 hl1' k hk1
       omega
      ·rw [hgn j1 hji1] at hk1
       rw [hgn j2 hji2] at hk2
       exact hN j1 j2 k hj1 hj2 hl1' hl2' hne hk1 hk2
    have hopi:=opsAll_get (l.take n) 0 hop i o h2h
    rw [Nat.zero_add] at hopi
    have hdl:∀j,depB l i j=true→j<i∧listed.getD j false=true:=by
     intro j hj
     unfold depB at hj
     simp only [h2'] at hj
     obtain ⟨e,he,k2⟩:=List.any_eq_true.1 hj
     simp only [Bool.and_eq_true,beq_iff_eq] at k2
     have h5:=hord i o hin h2' e (Array.mem_toList_iff.1 he) k2.1
     have h4:=h3 e (Array.mem_toList_iff.1 he) k2.1
     rw [k2.2] at h5 h4
     exact ⟨h5,h4⟩
    have hdeps:∀j,depB l i j=true→R j ((puts a (dstAt l) vs n).tmps.getD (dstAt l j) undef) (gs j) w':=by
     intro j hj
     obtain ⟨h5,h4⟩:=hdl j hj
     rw [hon vs j (by omega)]
     exact hR j (by omega) h4
    have hdis:∀j j' k,depB l i j=true→depB l i j'=true→j≠j'→k∈gs j→k∉gs j':=fun j j' k hj hj' hne hk=>by
     obtain ⟨h5,h4⟩:=hdl j hj
     obtain ⟨h6,h7⟩:=hdl j' hj'
     exact hN j j' k (by omega) (by omega) h4 h7 hne hk
    unfold wpOp
    simp only [h2]
    rcases hopi _ gs w' hb hdeps hdis (fun t ht=>hoff vs t ht) (growJs l n a w R (Q .normal) (listed.setIfInBounds i true)) hK with ⟨hw,h⟩|⟨hw,h⟩
    ·rw [if_pos hw]
     exact .inl h
    ·rw [if_neg (by rw [show Region.wanted o (yielded l.toArray (puts a (dstAt l) vs n).tmps)=false from hw];simp)]
     exact h
   ·obtain rfl:i=n:=by omega
    have ho:o=st:=Option.some.inj (h2'.symm.trans hatn)
    subst ho
    have hall:∀d j,i-j=d→j<i→listed.getD j false=true:=by
     intro d
     induction d using Nat.strongRecOn with
     |_ d ih=>
      intro j hd hj
      obtain ⟨k,k1,k2,ok,k3,e,he,hb',rfl⟩:=hwait j hj
      by_cases hk:k=i
      ·subst hk
       rw [h2'] at k3
       cases k3
       exact h3 e he hb'
      ·exact hcl k ok (by omega) k3 (ih (i-k) (by omega) k rfl (by omega)) e he hb'
    unfold wpOp
    simp only [h2]
    rw [if_pos (by simp [Region.wanted,Option.isNone_iff_eq_none.1 s1])]
    refine .inl (Oper.wp_mono (fun a1 w1 hq=>?_) (hend vs gs _ w' hb (fun j hj=>hR j hj (hall _ j rfl hj)) (fun j k hj hk=>hF j hj (hall _ j rfl hj) k hk) (fun j1 j2 k h1 h2=>hN j1 j2 k h1 h2 (hall _ j1 rfl h1) (hall _ j2 rfl h2)) (fun j hj=>hon vs j hj) (fun t ht=>hoff vs t ht) rfl))
    refine ⟨by simp [hsz],.inr ⟨fun j hj=>?_,hq⟩⟩
    by_cases e:j=i
    ·subst e
     rw [Array.getD_eq_getD_getElem?,Array.getElem?_setIfInBounds_self_of_lt (by omega)]
     rfl
    ·rw [getD_set_ne false (fun k=>e k.symm)]
     exact hall _ j rfl (by omega)
  ·obtain ⟨h1,o,h2,h3⟩:=mem_ready.1 hi
   have h2':l[i]? =some o:=by simpa using h2
   have hlt:i<n+1:=by have:=(List.getElem?_eq_some_iff.1 h2').1;omega
   have:=hall i hlt
   rw [getD_both h1] at this
   cases this
 ·rintro listed a' w' ⟨hsz,h1|⟨-,hq⟩⟩ hr
  ·obtain ⟨hn0,hcl,vs,gs,rfl,hb,hR,hF,hN⟩:=h1
   exfalso
   have hall:∀d i,i=d→i<n+1→listed.getD i false=true:=by
    intro d
    induction d using Nat.strongRecOn with
    |_ d ih=>
     rintro i rfl hi
     cases hl:listed.getD i false with
     |true=>rfl
     |false=>
      have hin:i∈Region.ready .any l.toArray listed:=by
       refine mem_ready.2 ⟨Go.getD_in (by omega) hl,l[i]'(by omega),by simp [hlen,hi],fun e he hb'=>?_⟩
       have h6:e.on<i:=by
        by_cases k:i<n
        ·exact hord i _ k (List.getElem?_eq_getElem (by omega)) e he hb'
        ·obtain rfl:i=n:=by omega
         have h8:l[i]'(by omega)=st:=Option.some.inj ((List.getElem?_eq_getElem (by omega)).symm.trans hatn)
         rw [h8] at he
         exact hsd e he hb'
       exact ih e.on h6 e.on rfl (by omega)
      rw [hr] at hin
      cases hin
   have:=hall n n rfl (by omega)
   rw [hn0] at this
   cases this
  ·exact hq
def valR (vals:List Value) (i:Nat) (v:Value) (_:List Nat) (_:World):Prop:=v=vals.getD i undef
theorem valR_go {vals:List Value}:∀(i:Nat) (v:Value) (g:List Nat) (w w':World),Below w.heap.size w w'→valR vals i v g w→valR vals i v g w':=fun _ _ _ _ _ _ h=>h
end
end Go.Proofs.Yteaaapdjplbljaa
