/- A region within a round of a range over a function, whose operations come in any order, each of which changes memory in its own way, with a tail that comes in one order, guards in it too, the frame unseen. -/
import Derived.Test.YteaaapdjplbljaaVa20
import Derived.Test.YteaaapdjplbljaaVa10
set_option linter.unusedVariables false
set_option linter.unusedSimpArgs false
set_option linter.unnecessarySimpa false
namespace Go.Proofs.Yteaaapdjplbljaa
open Go Go.Proofs Go.RowKit
section
variable {a:Act} {P:Program} {Q:Exit→Act→World→Prop} {w:World}
def tailWpG (md:Nat) (P:Program) (Q:Exit→Act→World→Prop) (l:List Oper):List Oper→Act→World→Prop
 |[],a,w=>Q .normal a w
 |o::r,a,w=>(Goes l a o true∧o.wpIn Fence.wide md P a w (fun a' w'=>tailWpG md P Q l r a' w') Q)∨(Goes l a o false∧tailWpG md P Q l r (a.put o.dst undef) w)
def restG (n:Nat) (rest:List Oper):Bool:=(List.range rest.length).all fun q=>match rest[q]? with
 |none=>false
 |some o=>(o.after.all fun e=>!Region.binds .any e||decide (e.on<n+1+q))&&(o.after.any fun e=>Region.binds .any e&&decide (e.on=n+q))
theorem restG_at {n:Nat} {rest:List Oper} (h:restG n rest=true) {q:Nat} {o:Oper} (ho:rest[q]? =some o):(∀e∈o.after,Region.binds .any e=true→e.on<n+1+q)∧∃e∈o.after,Region.binds .any e=true∧e.on=n+q:=by
 have hlt:q<rest.length:=(List.getElem?_eq_some_iff.1 ho).1
 unfold restG at h
 have h1:=List.all_eq_true.1 h q (List.mem_range.2 hlt)
 rw [ho] at h1
 simp only [Bool.and_eq_true] at h1
 obtain ⟨h3,h4⟩:=h1
 refine ⟨fun e he hb=>?_,?_⟩
 ·have:=Array.all_eq_true_iff_forall_mem.1 h3 e he
  rw [hb] at this
  simpa using this
 ·obtain ⟨i,hi,h5⟩:=Array.any_eq_true.1 h4
  simp only [Bool.and_eq_true,decide_eq_true_eq] at h5
  exact ⟨_,Array.getElem_mem hi,h5.1,h5.2⟩
def lastG (l:List Oper) (n:Nat) (st:Oper):Bool:=(st.after.all fun e=>!Region.binds .any e||decide (e.on<n))&&((List.range n).all fun i=>(List.range (n+1)).any fun j=>decide (i<j)&&Region.waitsFor .any l.toArray j i)
def growJg (md:Nat) (P:Program) (Q:Exit→Act→World→Prop) (l:List Oper) (n:Nat) (tl:List Oper) (a:Act) (w:World) (R:Nat→Value→World→Prop) (m:Nat) (T:Bool→World→World→Prop) (listed:Array Bool) (a':Act) (w':World):Prop:=
 listed.size=n+tl.length∧(((∀i,n≤i→listed.getD i false=false)∧(∀i o,i<n→l[i]? =some o→listed.getD i false=true→∀e∈o.after,Region.binds .any e=true→listed.getD e.on false=true)∧
  ∃vs:Nat→Value,a'=puts a (dstAt l) vs n∧T (listed.getD m false) w w'∧∀i,i<n→listed.getD i false=true→R i (vs i) w')∨
  ∃q,1≤q∧q≤tl.length∧(∀i,i<n+q→listed.getD i false=true)∧(∀i,n+q≤i→listed.getD i false=false)∧tailWpG md P Q l (tl.drop q) a' w')
theorem wpAnyIn_steps {md:Nat} {l:List Oper} (n:Nat) (st:Oper) (rest:List Oper) (hst:l=l.take n++st::rest) (hln:(l.take n).length=n) (R:Nat→Value→World→Prop) (G:Nat→World→World→Prop) (m:Nat) (hmn:m<n) (T:Bool→World→World→Prop)
  (hB:growG (l.take n) a.tmps.size=true) (hS:lastG l n st=true) (hR9:restG n rest=true)
  (hT0:T false w w.drew) (hTt:∀i b w' w'',T b w w'→(i=m→b=false)→G i w' w''→T (b||decide (i=m)) w w'') (hmono:∀i j v b w' w'',i≠j→(i=m→depB l j m=false)→T b w w'→G i w' w''→R j v w'→R j v w'')
  (hop:opsAll (fun i o=>∀(act:Act) w' b,(i=m→b=false)→T b w w'→(∀j,depB l i j=true→R j (act.tmps.getD (dstAt l j) undef) w')→(∀t,offB l n t=true→act.tmps.getD t undef=a.tmps.getD t undef)→
   ∀K:Act→World→Prop,(∀v w'',G i w' w''→R i v w''→K (act.put o.dst v) w'')→(Goes l act o true∧o.wp P act w' K Q)∨(Goes l act o false∧K (act.put o.dst undef) w')) 0 (l.take n))
  (hend:∀(vs:Nat→Value) act w',T true w w'→(∀i,i<n→R i (vs i) w')→(∀j,j<n→act.tmps.getD (dstAt l j) undef=vs j)→(∀t,offB l n t=true→act.tmps.getD t undef=a.tmps.getD t undef)→act=puts a (dstAt l) vs n→tailWpG md P Q l (st::rest) act w'):wpAnyIn Fence.wide md P .any l.toArray Q l.toArray.size (Array.replicate l.toArray.size false) a w.drew:=by
 obtain ⟨tl,htl⟩:∃tl,tl=st::rest:=⟨_,rfl⟩
 have htl1:1≤tl.length:=by rw [htl];simp
 have hlen:l.length=n+tl.length:=by rw [hst,List.length_append,hln,htl]
 have hat:∀i,i<n→l[i]? =(l.take n)[i]?:=fun i hi=>by rw [List.getElem?_take_of_lt hi]
 have hda:∀i,i<n→dstAt l i=dstAt (l.take n) i:=fun i hi=>by unfold dstAt;rw [hat i hi]
 have hatq:∀q,l[n+q]? =tl[q]?:=fun q=>by
  rw [hst,List.getElem?_append_right (by omega),hln,Nat.add_sub_cancel_left,←htl]
 have hatn:l[n]? =some st:=by
  have:=hatq 0
  rw [Nat.add_zero,htl] at this
  exact this
 have hg:=fun i (hi:i<n)=>growG_at hB (List.getElem?_eq_getElem (show i<(l.take n).length by omega))
 have hD:∀i,i<n→dstAt l i<a.tmps.size:=fun i hi=>by rw [hda i hi];exact (hg i hi).2.1
 have hinj:∀i j,i<n→j<n→dstAt l i=dstAt l j→i=j:=fun i j hi hj e=>by
  rw [hda i hi,hda j hj] at e
  rcases Nat.lt_trichotomy i j with k|k|k
  ·exact absurd e ((hg j hj).2.2.2 i k)
  ·exact k
  ·exact absurd e.symm ((hg i hi).2.2.2 j k)
 have hord:∀i o,i<n→l[i]? =some o→∀e∈o.after,Region.binds .any e=true→e.on<i:=fun i o hi ho=>(growG_at hB ((hat i hi).symm.trans ho)).2.2.1
 have hon:∀vs j,j<n→(puts a (dstAt l) vs n).tmps.getD (dstAt l j) undef=vs j:=fun vs j hj=>by
  rw [Array.getD_eq_getD_getElem?,puts_on hinj hj (hD j hj)]
  rfl
 have hoff:∀vs t,offB l n t=true→(puts a (dstAt l) vs n).tmps.getD t undef=a.tmps.getD t undef:=fun vs t ht=>by
  rw [Array.getD_eq_getD_getElem?,Array.getD_eq_getD_getElem?,puts_off (fun i hi e=>by
   have:=List.all_eq_true.1 ht i (List.mem_range.2 hi)
   simp [e] at this)]
 unfold lastG at hS
 simp only [Bool.and_eq_true] at hS
 obtain ⟨s2,s3⟩:=hS
 have hsd:∀e∈st.after,Region.binds .any e=true→e.on<n:=fun e he hb=>by
  rw [Array.all_eq_true_iff_forall_mem] at s2
  have:=s2 e he
  rw [hb] at this
  simpa using this
 have hwait:∀i,i<n→∃j,i<j∧j≤n∧∃o,l[j]? =some o∧∃e∈o.after,Region.binds .any e=true∧e.on=i:=fun i hi=>by
  have k1:=List.all_eq_true.1 s3 i (List.mem_range.2 hi)
  obtain ⟨j,hj,k2⟩:=List.any_eq_true.1 k1
  simp only [Bool.and_eq_true,decide_eq_true_eq] at k2
  obtain ⟨o,ho,k3⟩:=Region.waitsFor_spec k2.2
  exact ⟨j,k2.1,by have:=List.mem_range.1 hj;omega,o,by simpa using ho,k3⟩
 have hrest:∀q o,1≤q→tl[q]? =some o→(∀e∈o.after,Region.binds .any e=true→e.on<n+q)∧∃e∈o.after,Region.binds .any e=true∧e.on=n+q-1:=fun q o hq ho=>by
  obtain ⟨q',rfl⟩:∃q',q=q'+1:=⟨q-1,by omega⟩
  rw [htl,List.getElem?_cons_succ] at ho
  obtain ⟨h2,e,he,hb,h3⟩:=restG_at hR9 ho
  exact ⟨fun e he hb=>by have:=h2 e he hb;omega,e,he,hb,by omega⟩
 have htail:∀q o,tl[q]? =some o→∀e∈o.after,Region.binds .any e=true→e.on<n+q:=fun q o ho=>by
  by_cases hq:q=0
  ·subst hq
   rw [htl] at ho
   obtain rfl:st=o:=by simpa using ho
   exact fun e he hb=>by have:=hsd e he hb;omega
  ·exact (hrest q o (by omega) ho).1
 have ha:=puts_of (a:=a) (a':=a) hinj rfl rfl hD (fun _ _=>rfl)
 have hsetl:∀(listed:Array Bool) i j,listed.size=n+tl.length→i<n+tl.length→(listed.setIfInBounds i true).getD j false=if j=i then true else listed.getD j false:=fun listed i j hsz hi=>by
  by_cases e:j=i
  ·subst e
   rw [if_pos rfl,Array.getD_eq_getD_getElem?,Array.getElem?_setIfInBounds_self_of_lt (by omega)]
   rfl
  ·rw [if_neg e,getD_set_ne false (fun k=>e k.symm)]
 refine wpAnyIn_inv (growJg md P Q l n tl a w R m T) ?_ ?_ _ _ _ _ (toCome_le _ _) ?_
 rotate_left 2
 ·have hz:∀i,(Array.replicate l.toArray.size false).getD i false=false:=fun i=>getD_replicate_false ..
  exact ⟨by simp [hlen],.inl ⟨fun i _=>hz i,fun i o _ _ k=>(by rw [hz i] at k;cases k),_,ha,by rw [hz m];exact hT0,fun i _ k=>by rw [hz i] at k;cases k⟩⟩
 ·rintro listed a' w' i ⟨hsz,h1|⟨q,hq1,hq2,hall,hno,htw⟩⟩ hi
  ·obtain ⟨hn0,hcl,vs,rfl,hb,hR⟩:=h1
   obtain ⟨h1,o,h2,h3⟩:=mem_ready.1 hi
   have h2':l[i]? =some o:=by simpa using h2
   have hlt:i<n+tl.length:=by have:=(List.getElem?_eq_some_iff.1 h2').1;omega
   have hun:listed.getD i false=false:=getD_both h1
   by_cases hin:i<n
   ·have h2h:(l.take n)[i]? =some o:=(hat i hin).symm.trans h2'
    have hdo:o.dst=some (dstAt l i):=by rw [hda i hin];exact (growG_at hB h2h).1
    have hK:∀(v:Value) (w'':World),G i w' w''→R i v w''→growJg md P Q l n tl a w R m T (listed.setIfInBounds i true) ((puts a (dstAt l) vs n).put o.dst v) w'':=by
     intro v w'' hb2 hr
     refine ⟨by simp [hsz],.inl ⟨fun j hj=>by rw [hsetl _ _ _ hsz hlt,if_neg (by omega)];exact hn0 j hj,?_,updV vs i v,by rw [hdo];exact puts_put hinj hD hin,?_,?_⟩⟩
     ·intro j oj hjn hj hl e he hb'
      rw [hsetl _ _ _ hsz hlt] at hl ⊢
      split
      ·rfl
      ·by_cases hji:j=i
       ·subst hji
        rw [h2'] at hj
        cases hj
        exact h3 e he hb'
       ·rw [if_neg hji] at hl
        exact hcl j oj hjn hj hl e he hb'
     ·have h9:=hTt i _ _ _ hb (fun e=>by rw [←e];exact hun) hb2
      rw [hsetl _ _ _ hsz hlt]
      by_cases e:m=i
      ·rw [if_pos e]
       rwa [decide_eq_true e.symm,Bool.or_true] at h9
      ·rw [if_neg e]
       rwa [decide_eq_false (fun k=>e k.symm),Bool.or_false] at h9
     ·intro j hj hl
      rw [hsetl _ _ _ hsz hlt] at hl
      by_cases hji:j=i
      ·subst hji
       rw [show updV vs j v j=v from if_pos rfl]
       exact hr
      ·rw [if_neg hji] at hl
       rw [show updV vs i v j=vs j from if_neg hji]
       exact hmono i j _ _ _ _ (fun e=>hji e.symm) (fun e=>by
        cases hdj:depB l j m with
        |false=>rfl
        |true=>
         exfalso
         unfold depB at hdj
         rw [List.getElem?_eq_getElem (by omega)] at hdj
         simp only at hdj
         obtain ⟨e9,he9,k9⟩:=List.any_eq_true.1 hdj
         simp only [Bool.and_eq_true,beq_iff_eq] at k9
         have h8:=hcl j _ hj (List.getElem?_eq_getElem (by omega)) hl e9 (Array.mem_toList_iff.1 he9) k9.1
         rw [k9.2,←e,hun] at h8
         cases h8) hb hb2 (hR j hj hl)
    have hopi:=opsAll_get (l.take n) 0 hop i o h2h
    rw [Nat.zero_add] at hopi
    have hdeps:∀j,depB l i j=true→R j ((puts a (dstAt l) vs n).tmps.getD (dstAt l j) undef) w':=by
     intro j hj
     unfold depB at hj
     simp only [h2'] at hj
     obtain ⟨e,he,k2⟩:=List.any_eq_true.1 hj
     simp only [Bool.and_eq_true,beq_iff_eq] at k2
     have h5:=hord i o hin h2' e (Array.mem_toList_iff.1 he) k2.1
     have h4:=h3 e (Array.mem_toList_iff.1 he) k2.1
     rw [k2.2] at h5 h4
     rw [hon vs j (by omega)]
     exact hR j (by omega) h4
    unfold wpOpIn
    simp only [h2]
    rcases hopi _ w' _ (fun e=>by rw [←e];exact hun) hb hdeps (fun t ht=>hoff vs t ht) (growJg md P Q l n tl a w R m T (listed.setIfInBounds i true)) hK with ⟨hw,h⟩|⟨hw,h⟩
    ·rw [if_pos hw]
     exact Oper.wpIn_of_wp h
    ·rw [if_neg (by rw [show Region.wanted o (yielded l.toArray (puts a (dstAt l) vs n).tmps)=false from hw];simp)]
     exact ⟨fun _ _=>trivial,h⟩
   ·
    obtain ⟨q,rfl⟩:∃q,i=n+q:=⟨i-n,by omega⟩
    have hoq:tl[q]? =some o:=(hatq q).symm.trans h2'
    obtain rfl:q=0:=by
     rcases Nat.eq_zero_or_pos q with e|e
     ·exact e
     ·obtain ⟨_,e1,he,hb',h5⟩:=hrest q o (by omega) hoq
      have:=h3 e1 he hb'
      rw [hn0 _ (by omega)] at this
      cases this
    rw [Nat.add_zero] at*
    have ho:o=st:=Option.some.inj (h2'.symm.trans hatn)
    subst ho
    have hall:∀d j,n-j=d→j<n→listed.getD j false=true:=by
     intro d
     induction d using Nat.strongRecOn with
     |_ d ih=>
      intro j hd hj
      obtain ⟨k,k1,k2,ok,k3,e,he,hb',rfl⟩:=hwait j hj
      by_cases hk:k=n
      ·subst hk
       rw [h2'] at k3
       cases k3
       exact h3 e he hb'
      ·exact hcl k ok (by omega) k3 (ih (n-k) (by omega) k rfl (by omega)) e he hb'
    unfold wpOpIn
    simp only [h2]
    have hb:=(by rw [hall _ m rfl hmn] at hb;exact hb:T true w w')
    have hgo:=hend vs _ w' hb (fun j hj=>hR j hj (hall _ j rfl hj)) (fun j hj=>hon vs j hj) (fun t ht=>hoff vs t ht) rfl
    have hq9:∀a1 w1,tailWpG md P Q l rest a1 w1→growJg md P Q l n tl a w R m T (listed.setIfInBounds n true) a1 w1:=fun a1 w1 hq=>by
     refine ⟨by simp [hsz],.inr ⟨1,Nat.le_refl _,htl1,fun j hj=>?_,fun j hj=>?_,by rw [htl];exact hq⟩⟩
     ·rw [hsetl _ _ _ hsz hlt]
      split
      ·rfl
      ·exact hall _ j rfl (by omega)
     ·rw [hsetl _ _ _ hsz hlt,if_neg (by omega)]
      exact hn0 j (by omega)
    rcases hgo with ⟨hw,hgo⟩|⟨hw,hgo⟩
    ·rw [if_pos hw]
     exact Oper.wpIn_mono hq9 hgo
    ·rw [if_neg (by rw [show Region.wanted o (yielded l.toArray (puts a (dstAt l) vs n).tmps)=false from hw];simp)]
     exact ⟨fun _ _=>trivial,hq9 _ _ hgo⟩
  ·obtain ⟨h1,o,h2,h3⟩:=mem_ready.1 hi
   have h2':l[i]? =some o:=by simpa using h2
   have hlt:i<n+tl.length:=by have:=(List.getElem?_eq_some_iff.1 h2').1;omega
   have hun:listed.getD i false=false:=getD_both h1
   have hge:n+q≤i:=Nat.le_of_not_lt (fun k=>by rw [hall i k] at hun;cases hun)
   obtain ⟨p,rfl⟩:∃p,i=n+p:=⟨i-n,by omega⟩
   have hop':tl[p]? =some o:=(hatq p).symm.trans h2'
   obtain rfl:p=q:=by
    rcases Nat.lt_or_ge q p with e|e
    ·obtain ⟨_,e1,he,hb',h5⟩:=hrest p o (by omega) hop'
     have:=h3 e1 he hb'
     rw [hno _ (by omega)] at this
     cases this
    ·omega
   have hpl:p<tl.length:=(List.getElem?_eq_some_iff.1 hop').1
   have hdr:tl.drop p=o::tl.drop (p+1):=by
    rw [List.drop_eq_getElem_cons hpl]
    congr 1
    rw [List.getElem?_eq_getElem hpl] at hop'
    exact Option.some.inj hop'
   rw [hdr] at htw
   unfold wpOpIn
   simp only [h2]
   have hq9:∀a1 w1,tailWpG md P Q l (tl.drop (p+1)) a1 w1→growJg md P Q l n tl a w R m T (listed.setIfInBounds (n+p) true) a1 w1:=fun a1 w1 hq=>by
    refine ⟨by simp [hsz],.inr ⟨p+1,by omega,by omega,fun j hj=>?_,fun j hj=>?_,hq⟩⟩
    ·rw [hsetl _ _ _ hsz hlt]
     split
     ·rfl
     ·exact hall j (by omega)
    ·rw [hsetl _ _ _ hsz hlt,if_neg (by omega)]
     exact hno j (by omega)
   rcases htw with ⟨hw,hgo⟩|⟨hw,hgo⟩
   ·rw [if_pos hw]
    exact Oper.wpIn_mono hq9 hgo
   ·rw [if_neg (by rw [show Region.wanted o (yielded l.toArray a'.tmps)=false from hw];simp)]
    exact ⟨fun _ _=>trivial,hq9 _ _ hgo⟩
 ·rintro listed a' w' ⟨hsz,h1⟩ hr
  have hall:∀d i,i=d→i<n+tl.length→listed.getD i false=true:=by
   intro d
   induction d using Nat.strongRecOn with
   |_ d ih=>
    rintro i rfl hi
    cases hl:listed.getD i false with
    |true=>rfl
    |false=>
     have hin:i∈Region.ready .any l.toArray listed:=by
      refine mem_ready.2 ⟨Go.getD_in (by omega) hl,l[i]'(by omega),by simp [hlen,hi],fun e he hb'=>?_⟩
      have h6:e.on<i:=by
       by_cases k:i<n
       ·exact hord i _ k (List.getElem?_eq_getElem (by omega)) e he hb'
       ·obtain ⟨q,rfl⟩:∃q,i=n+q:=⟨i-n,by omega⟩
        exact (htail q _ ((hatq q).symm.trans (List.getElem?_eq_getElem (by omega)))) e he hb'
      exact ih e.on h6 e.on rfl (by omega)
     rw [hr] at hin
     cases hin
  rcases h1 with ⟨hn0,_⟩|⟨q,hq1,hq2,_,hno,htw⟩
  ·have:=hall n n rfl (by omega)
   rw [hn0 n (Nat.le_refl _)] at this
   cases this
  ·rcases Nat.lt_or_ge q tl.length with e|e
   ·have:=hall (n+q) (n+q) rfl (by omega)
    rw [hno _ (Nat.le_refl _)] at this
    cases this
   ·rw [List.drop_eq_nil_of_le e] at htw
    exact htw
theorem wpAnyIn_appX {md:Nat} {l:List Oper} (n:Nat) (st:Oper) (rest:List Oper) (hst:l=l.take n++st::rest) (hln:(l.take n).length=n) (R:Nat→Value→World→Prop) (m:Nat) (hmn:m<n) (X:Nat→Prop)
  (hB:growG (l.take n) a.tmps.size=true) (hS:lastG l n st=true) (hR9:restG n rest=true)
  (hmono:∀i v w' w'',Below w'.heap.size w' w''→R i v w'→R i v w'') (hoff9:∀i v w' w'',i≠m→depB l i m=false→OffX X w' w''→R i v w'→R i v w'')
  (hop:opsAll (fun i o=>∀(act:Act) w',OffX X w w'→(i=m→Below w.heap.size w w')→(∀j,depB l i j=true→R j (act.tmps.getD (dstAt l j) undef) w')→(∀t,offB l n t=true→act.tmps.getD t undef=a.tmps.getD t undef)→
   ∀K:Act→World→Prop,(∀v w'',stepX X m i w' w''→R i v w''→K (act.put o.dst v) w'')→(Goes l act o true∧o.wp P act w' K Q)∨(Goes l act o false∧K (act.put o.dst undef) w')) 0 (l.take n))
  (hend:∀(vs:Nat→Value) act w',OffX X w w'→(∀i,i<n→R i (vs i) w')→(∀j,j<n→act.tmps.getD (dstAt l j) undef=vs j)→(∀t,offB l n t=true→act.tmps.getD t undef=a.tmps.getD t undef)→act=puts a (dstAt l) vs n→tailWpG md P Q l (st::rest) act w'):wpAnyIn Fence.wide md P .any l.toArray Q l.toArray.size (Array.replicate l.toArray.size false) a w.drew:=by
 refine wpAnyIn_steps n st rest hst hln R (stepX X m) m hmn (stepY X) hB hS hR9 (Below.refl _ w).drew ?_ ?_ ?_ (fun vs act w' h=>hend vs act w' h)
 ·intro i b w' w'' h1 h2 h3
  unfold stepX at h3
  by_cases e:i=m
  ·rw [if_pos e] at h3
   rw [decide_eq_true e,Bool.or_true]
   exact h1.b.trans h3
  ·rw [if_neg e] at h3
   rw [decide_eq_false e,Bool.or_false]
   unfold stepY at h1 ⊢
   cases b with
   |true=>exact OffX.trans h1 (.of_below h3)
   |false=>exact Below.st h1 h3
 ·intro i j v b w' w'' hij hdp h1 h3 hr
  unfold stepX at h3
  by_cases e:i=m
  ·rw [if_pos e] at h3
   exact hoff9 j v _ _ (fun k=>hij (e.trans k.symm)) (hdp e) h3 hr
  ·rw [if_neg e] at h3
   exact hmono j v _ _ h3 hr
 ·have key:∀(k:Nat) (ll:List Oper),opsAll (fun i o=>∀(act:Act) w',OffX X w w'→(i=m→Below w.heap.size w w')→(∀j,depB l i j=true→R j (act.tmps.getD (dstAt l j) undef) w')→(∀t,offB l n t=true→act.tmps.getD t undef=a.tmps.getD t undef)→
   ∀K:Act→World→Prop,(∀v w'',stepX X m i w' w''→R i v w''→K (act.put o.dst v) w'')→(Goes l act o true∧o.wp P act w' K Q)∨(Goes l act o false∧K (act.put o.dst undef) w')) k ll→opsAll (fun i o=>∀(act:Act) w' b,(i=m→b=false)→stepY X b w w'→(∀j,depB l i j=true→R j (act.tmps.getD (dstAt l j) undef) w')→(∀t,offB l n t=true→act.tmps.getD t undef=a.tmps.getD t undef)→
   ∀K:Act→World→Prop,(∀v w'',stepX X m i w' w''→R i v w''→K (act.put o.dst v) w'')→(Goes l act o true∧o.wp P act w' K Q)∨(Goes l act o false∧K (act.put o.dst undef) w')) k ll:=by
   intro k ll
   induction ll generalizing k with
   |nil=>intro _;trivial
   |cons o ll ih=>
    intro h
    exact ⟨fun act w' b h1 h2=>h.1 act w' h2.b (fun e=>by rw [h1 e] at h2;exact h2),ih (k+1) h.2⟩
  exact key 0 _ hop
theorem wpIn_region_in {id rl md:Nat} {l:List Oper} (hdf:noDefK l=true) (hm:P.follows .mixedOrders=true) (h:wpAnyIn Fence.wide md P .any l.toArray Q l.toArray.size (Array.replicate l.toArray.size false) a w.drew):(Code.region id l.toArray true).wpIn (Fence.wide.inRound rl) md P Q a w:=
 wpIn_region_roundK rfl (by simpa using hdf) hm h
theorem wpIn_region_own {id md:Nat} {l:List Oper} (hm:P.follows .mixedOrders=true) (h:wpAnyIn Fence.wide md P .any l.toArray Q l.toArray.size (Array.replicate l.toArray.size false) a w.drew):(Code.region id l.toArray true).wpIn Fence.wide md P Q a w:=
 wpIn_region_any hm h
end
end Go.Proofs.Yteaaapdjplbljaa
