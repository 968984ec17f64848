/- Parts; no condition. -/
import Derived.Test.YteaaapdjplbljaaGreatVb36
import Derived.Maps.Views
set_option linter.unusedVariables false
set_option linter.unusedSimpArgs false
set_option linter.unnecessarySimpa false
set_option maxRecDepth 100000
set_option maxHeartbeats 8000000
namespace Go.Proofs.YteaaapdjplbljaaGreat
section
open Go Go.Proofs Go.RowKit
section
variable {a:Act} {P:Program} {Q:Exit->Act->World->Prop} {w:World}
def Dx (P:Program) (Q:Exit->Act->World->Prop):List Oper->Act->World->Prop
 |[],a,w=>Q .normal a w
 |o::r,a,w=>o.wp P a w (fun a' w'=>Dx P Q r a' w') Q
def Xx (n:Nat) (rest:List Oper):Bool:=(List.range rest.length).all fun q=>match rest[q]? with
 |none=>false
 |some o=>o.guard.isNone&&(o.after.all fun e=>!Region.binds .any e||decide (e.on<n+1+q))&&(o.after.any fun e=>Region.binds .any e&&decide (e.on=n+q))
theorem Au6 {n:Nat} {rest:List Oper} (h:Xx n rest=true) {q:Nat} {o:Oper} (ho:rest[q]? =some o):o.guard=none/\(∀e∈o.after,Region.binds .any e=true->e.on<n+1+q)/\∃e∈o.after,Region.binds .any e=true/\e.on=n+q:=by
 have hlt:q<rest.length:=(Bn3.1 ho).1;unfold Xx at h;have h1:=List.all_eq_true.1 h q (Bp4.2 hlt);rw [ho] at h1;simp only [Bool.and_eq_true] at h1;obtain ⟨⟨h2,h3⟩,h4⟩:=h1;refine ⟨Option.isNone_iff_eq_none.1 h2,fun e he hb=>?_,?_⟩
 ·have:=Array.all_eq_true_iff_forall_mem.1 h3 e he
  rw [hb] at this
  simpa using this
 ·obtain ⟨i,hi,h5⟩:=Array.any_eq_true.1 h4
  simp only [Bool.and_eq_true,decide_eq_true_eq] at h5;exact ⟨_,Array.getElem_mem hi,h5.1,h5.2⟩
def Ae0 (P:Program) (Q:Exit->Act->World->Prop) (l:List Oper) (n:Nat) (tl:List Oper) (a:Act) (w:World) (R:Nat->Value->World->Prop) (m:Nat) (T:Bool->World->World->Prop) (listed:Array Bool) (a':Act) (w':World):Prop:=
 listed.size=n+tl.length/\(((∀i,n<=i->listed.getD i false=false)/\(∀i o,i<n->l[i]? =some o->listed.getD i false=true->∀e∈o.after,Region.binds .any e=true->listed.getD e.on false=true)/\
  ∃vs:Nat->Value,a'=Al a (Ae l) vs n/\T (listed.getD m false) w w'/\∀i,i<n->listed.getD i false=true->R i (vs i) w')\/
  ∃q,1<=q/\q<=tl.length/\(∀i,i<n+q->listed.getD i false=true)/\(∀i,n+q<=i->listed.getD i false=false)/\Dx P Q (tl.drop q) a' w')
theorem Iq {id:Nat} {l:List Oper} (n:Nat) (st:Oper) (rest:List Oper) (hst:l=l.take n++st::rest) (hln:(l.take n).length=n) (R:Nat->Value->World->Prop) (G:Nat->World->World->Prop) (m:Nat) (hmn:m<n) (T:Bool->World->World->Prop)
  (hm:P.follows .mixedOrders=true) (hB:Ps (l.take n) a.tmps.size=true) (hS:My l n st=true) (hR9:Xx n rest=true)
  (hT0:T false w w.drew) (hTt:∀i b w' w'',T b w w'->(i=m->b=false)->G i w' w''->T (b||decide (i=m)) w w'') (hmono:∀i j v b w' w'',i≠j->T b w w'->G i w' w''->R j v w'->R j v w'')
  (hop:Bs (fun i o=>∀(act:Act) w' b,(i=m->b=false)->T b w w'->(∀j,Bx l i j=true->R j (act.tmps.getD (Ae l j) undef) w')->(∀t,Hb l n t=true->act.tmps.getD t undef=a.tmps.getD t undef)->
   ∀K:Act->World->Prop,(∀v w'',G i w' w''->R i v w''->K (act.put o.dst v) w'')->(No l act o true/\o.wp P act w' K Q)\/(No l act o false/\K (act.put o.dst undef) w')) 0 (l.take n))
  (hend:∀(vs:Nat->Value) act w',T true w w'->(∀i,i<n->R i (vs i) w')->(∀j,j<n->act.tmps.getD (Ae l j) undef=vs j)->(∀t,Hb l n t=true->act.tmps.getD t undef=a.tmps.getD t undef)->act=Al a (Ae l) vs n->Dx P Q (st::rest) act w'):(Code.region id l.toArray true).wp P Q a w:=by
 obtain ⟨tl,htl⟩:∃tl,tl=st::rest:=⟨_,rfl⟩;have htl1:1<=tl.length:=by rw [htl];simp
 have hlen:l.length=n+tl.length:=by rw [hst,Bp0,hln,htl]
 have hat:∀i,i<n->l[i]? =(l.take n)[i]?:=fun i hi=>by rw [Br1 hi]
 have hda:∀i,i<n->Ae l i=Ae (l.take n) i:=fun i hi=>by unfold Ae;rw [hat i hi]
 have hatq:∀q,l[n+q]? =tl[q]?:=fun q=>by
  rw [hst,Bp8 (by omega),hln,Nat.add_sub_cancel_left,<-htl]
 have hatn:l[n]? =some st:=by
  have:=hatq 0;rw [Nat.add_zero,htl] at this;exact this
 have hg:=fun i (hi:i<n)=>Cq hB (Bm5 (show i<(l.take n).length by omega));have hD:∀i,i<n->Ae l i<a.tmps.size:=fun i hi=>by rw [hda i hi];exact (hg i hi).2.1
 have hinj:∀i j,i<n->j<n->Ae l i=Ae l j->i=j:=fun i j hi hj e=>by
  rw [hda i hi,hda j hj] at e
  rcases Nat.lt_trichotomy i j with k|k|k
  ·exact absurd e ((hg j hj).2.2.2 i k)
  ·exact k
  ·exact absurd e.symm ((hg i hi).2.2.2 j k)
 have hord:∀i o,i<n->l[i]? =some o->∀e∈o.after,Region.binds .any e=true->e.on<i:=fun i o hi ho=>(Cq hB ((hat i hi).symm.trans ho)).2.2.1;have hon:∀vs j,j<n->(Al a (Ae l) vs n).tmps.getD (Ae l j) undef=vs j:=fun vs j hj=>by
  rw [Bp5,Fp hinj hj (hD j hj)];rfl
 have hoff:∀vs t,Hb l n t=true->(Al a (Ae l) vs n).tmps.getD t undef=a.tmps.getD t undef:=fun vs t ht=>by
  rw [Bp5,Bp5,Dy (fun i hi e=>by
   have:=List.all_eq_true.1 ht i (Bp4.2 hi);simp [e] at this)]
 unfold My at hS;simp only [Bool.and_eq_true] at hS;obtain ⟨⟨s1,s2⟩,s3⟩:=hS;have hsd:∀e∈st.after,Region.binds .any e=true->e.on<n:=fun e he hb=>by
  rw [Array.all_eq_true_iff_forall_mem] at s2;have:=s2 e he;rw [hb] at this
  simpa using this
 have hwait:∀i,i<n->∃j,i<j/\j<=n/\∃o,l[j]? =some o/\∃e∈o.after,Region.binds .any e=true/\e.on=i:=fun i hi=>by
  have k1:=List.all_eq_true.1 s3 i (Bp4.2 hi);obtain ⟨j,hj,k2⟩:=List.any_eq_true.1 k1;simp only [Bool.and_eq_true,decide_eq_true_eq] at k2;obtain ⟨o,ho,k3⟩:=Region.waitsFor_spec k2.2;exact ⟨j,k2.1,by have:=Bp4.1 hj;omega,o,by simpa using ho,k3⟩
 have hrest:∀q o,1<=q->tl[q]? =some o->o.guard=none/\(∀e∈o.after,Region.binds .any e=true->e.on<n+q)/\∃e∈o.after,Region.binds .any e=true/\e.on=n+q-1:=fun q o hq ho=>by
  obtain ⟨q',rfl⟩:∃q',q=q'+1:=⟨q-1,by omega⟩;rw [htl,Bo1] at ho;obtain ⟨h1,h2,e,he,hb,h3⟩:=Au6 hR9 ho;exact ⟨h1,fun e he hb=>by have:=h2 e he hb;omega,e,he,hb,by omega⟩
 have htail:∀q o,tl[q]? =some o->o.guard=none/\∀e∈o.after,Region.binds .any e=true->e.on<n+q:=fun q o ho=>by
  by_cases hq:q=0
  ·subst hq
   rw [htl] at ho;obtain rfl:st=o:=by simpa using ho
   exact ⟨Option.isNone_iff_eq_none.1 s1,fun e he hb=>by have:=hsd e he hb;omega⟩
  ·have:=hrest q o (by omega) ho
   exact ⟨this.1,this.2.1⟩
 have ha:=Gr (a:=a) (a':=a) hinj rfl rfl hD (fun _ _=>rfl);have hsetl:∀(listed:Array Bool) i j,listed.size=n+tl.length->i<n+tl.length->(listed.setIfInBounds i true).getD j false=if j=i then true else listed.getD j false:=fun listed i j hsz hi=>by
  by_cases e:j=i
  ·subst e
   rw [if_pos rfl,Bp5,Array.getElem?_setIfInBounds_self_of_lt (by omega)];rfl
  ·rw [if_neg e,getD_set_ne false (fun k=>e k.symm)]
 refine Dl hm (Ae0 P Q l n tl a w R m T) ?_ ?_ ?_
 ·have hz:∀i,(Array.replicate l.toArray.size false).getD i false=false:=fun i=>getD_replicate_false ..
  exact ⟨by simp [hlen],.inl ⟨fun i _=>hz i,fun i o _ _ k=>(by rw [hz i] at k;cases k),_,ha,by rw [hz m];exact hT0,fun i _ k=>by rw [hz i] at k;cases k⟩⟩
 ·rintro listed a' w' i ⟨hsz,h1|⟨q,hq1,hq2,hall,hno,htw⟩⟩ hi
  ·obtain ⟨hn0,hcl,vs,rfl,hb,hR⟩:=h1
   obtain ⟨h1,o,h2,h3⟩:=mem_ready.1 hi;have h2':l[i]? =some o:=by simpa using h2
   have hlt:i<n+tl.length:=by have:=(Bn3.1 h2').1;omega
   have hun:listed.getD i false=false:=getD_both h1
   by_cases hin:i<n
   ·have h2h:(l.take n)[i]? =some o:=(hat i hin).symm.trans h2'
    have hdo:o.dst=some (Ae l i):=by rw [hda i hin];exact (Cq hB h2h).1
    have hK:∀(v:Value) (w'':World),G i w' w''->R i v w''->Ae0 P Q l n tl a w R m T (listed.setIfInBounds i true) ((Al a (Ae l) vs n).put o.dst v) w'':=by
     intro v w'' hb2 hr;refine ⟨by simp [hsz],.inl ⟨fun j hj=>by rw [hsetl _ _ _ hsz hlt,if_neg (by omega)];exact hn0 j hj,?_,Gn vs i v,by rw [hdo];exact Gf hinj hD hin,?_,?_⟩⟩
     ·intro j oj hjn hj hl e he hb'
      rw [hsetl _ _ _ hsz hlt] at hl ⊢
      split
      ·rfl
      ·by_cases hji:j=i
       ·subst hji
        rw [h2'] at hj
        cases hj
        exact h3 e he hb'
       ·rw [if_neg hji] at hl
        exact hcl j oj hjn hj hl e he hb'
     ·have h9:=hTt i _ _ _ hb (fun e=>by rw [<-e];exact hun) hb2
      rw [hsetl _ _ _ hsz hlt]
      by_cases e:m=i
      ·rw [if_pos e]
       rwa [decide_eq_true e.symm,Bool.or_true] at h9
      ·rw [if_neg e]
       rwa [decide_eq_false (fun k=>e k.symm),Bool.or_false] at h9
     ·intro j hj hl
      rw [hsetl _ _ _ hsz hlt] at hl
      by_cases hji:j=i
      ·subst hji
       rw [show Gn vs j v j=v from if_pos rfl];exact hr
      ·rw [if_neg hji] at hl
       rw [show Gn vs i v j=vs j from if_neg hji];exact hmono i j _ _ _ _ (fun e=>hji e.symm) hb hb2 (hR j hj hl)
    have hopi:=Dp (l.take n) 0 hop i o h2h;rw [Nat.zero_add] at hopi;have hdeps:∀j,Bx l i j=true->R j ((Al a (Ae l) vs n).tmps.getD (Ae l j) undef) w':=by
     intro j hj;unfold Bx at hj;simp only [h2'] at hj;obtain ⟨e,he,k2⟩:=List.any_eq_true.1 hj;simp only [Bool.and_eq_true,beq_iff_eq] at k2;have h5:=hord i o hin h2' e (Array.mem_toList_iff.1 he) k2.1;have h4:=h3 e (Array.mem_toList_iff.1 he) k2.1;rw [k2.2] at h5 h4;rw [hon vs j (by omega)];exact hR j (by omega) h4
    unfold wpOp;simp only [h2]
    rcases hopi _ w' _ (fun e=>by rw [<-e];exact hun) hb hdeps (fun t ht=>hoff vs t ht) (Ae0 P Q l n tl a w R m T (listed.setIfInBounds i true)) hK with ⟨hw,h⟩|⟨hw,h⟩
    ·rw [if_pos hw]
     exact .inl h
    ·rw [if_neg (by rw [show Region.wanted o (yielded l.toArray (Al a (Ae l) vs n).tmps)=false from hw];simp)]
     exact h
   ·
    obtain ⟨q,rfl⟩:∃q,i=n+q:=⟨i-n,by omega⟩;have hoq:tl[q]? =some o:=(hatq q).symm.trans h2';obtain rfl:q=0:=by
     rcases Nat.eq_zero_or_pos q with e|e
     ·exact e
     ·obtain ⟨_,_,e1,he,hb',h5⟩:=hrest q o (by omega) hoq
      have:=h3 e1 he hb';rw [hn0 _ (by omega)] at this
      cases this
    rw [Nat.add_zero] at*;have ho:o=st:=Bo9 (h2'.symm.trans hatn);subst ho;have hall:∀d j,n-j=d->j<n->listed.getD j false=true:=by
     intro d
     induction d using Nat.strongRecOn with
     |_ d ih=>
      intro j hd hj;obtain ⟨k,k1,k2,ok,k3,e,he,hb',rfl⟩:=hwait j hj
      by_cases hk:k=n
      ·subst hk
       rw [h2'] at k3
       cases k3
       exact h3 e he hb'
      ·exact hcl k ok (by omega) k3 (ih (n-k) (by omega) k rfl (by omega)) e he hb'
    unfold wpOp;simp only [h2];rw [if_pos (by simp [Region.wanted,Option.isNone_iff_eq_none.1 s1])];have hb:=(by rw [hall _ m rfl hmn] at hb;exact hb:T true w w');have hgo:=hend vs _ w' hb (fun j hj=>hR j hj (hall _ j rfl hj)) (fun j hj=>hon vs j hj) (fun t ht=>hoff vs t ht) rfl;refine .inl (Oper.wp_mono (fun a1 w1 hq=>?_) hgo);refine ⟨by simp [hsz],.inr ⟨1,Bm2 _,htl1,fun j hj=>?_,fun j hj=>?_,by rw [htl];exact hq⟩⟩
    ·rw [hsetl _ _ _ hsz hlt]
     split
     ·rfl
     ·exact hall _ j rfl (by omega)
    ·rw [hsetl _ _ _ hsz hlt,if_neg (by omega)]
     exact hn0 j (by omega)
  ·obtain ⟨h1,o,h2,h3⟩:=mem_ready.1 hi
   have h2':l[i]? =some o:=by simpa using h2
   have hlt:i<n+tl.length:=by have:=(Bn3.1 h2').1;omega
   have hun:listed.getD i false=false:=getD_both h1;have hge:n+q<=i:=Nat.le_of_not_lt (fun k=>by rw [hall i k] at hun;cases hun);obtain ⟨p,rfl⟩:∃p,i=n+p:=⟨i-n,by omega⟩;have hop':tl[p]? =some o:=(hatq p).symm.trans h2';obtain rfl:p=q:=by
    rcases Nat.lt_or_ge q p with e|e
    ·obtain ⟨_,_,e1,he,hb',h5⟩:=hrest p o (by omega) hop'
     have:=h3 e1 he hb';rw [hno _ (by omega)] at this
     cases this
    ·omega
   have hpl:p<tl.length:=(Bn3.1 hop').1;have hdr:tl.drop p=o::tl.drop (p+1):=by
    rw [List.drop_eq_getElem_cons hpl]
    congr 1
    rw [Bm5 hpl] at hop';exact Bo9 hop'
   rw [hdr] at htw;unfold wpOp;simp only [h2];rw [if_pos (by simp [Region.wanted,(htail p o hop').1])];refine .inl (Oper.wp_mono (fun a1 w1 hq=>?_) htw);refine ⟨by simp [hsz],.inr ⟨p+1,by omega,by omega,fun j hj=>?_,fun j hj=>?_,hq⟩⟩
   ·rw [hsetl _ _ _ hsz hlt]
    split
    ·rfl
    ·exact hall j (by omega)
   ·rw [hsetl _ _ _ hsz hlt,if_neg (by omega)]
    exact hno j (by omega)
 ·rintro listed a' w' ⟨hsz,h1⟩ hr
  have hall:∀d i,i=d->i<n+tl.length->listed.getD i false=true:=by
   intro d
   induction d using Nat.strongRecOn with
   |_ d ih=>
    rintro i rfl hi
    cases hl:listed.getD i false with
    |true=>rfl
    |false=>
     have hin:i∈Region.ready .any l.toArray listed:=by
      refine mem_ready.2 ⟨Go.getD_in (by omega) hl,l[i]'(by omega),by simp [hlen,hi],fun e he hb'=>?_⟩;have h6:e.on<i:=by
       by_cases k:i<n
       ·exact hord i _ k (Bm5 (by omega)) e he hb'
       ·obtain ⟨q,rfl⟩:∃q,i=n+q:=⟨i-n,by omega⟩
        exact (htail q _ ((hatq q).symm.trans (Bm5 (by omega)))).2 e he hb'
      exact ih e.on h6 e.on rfl (by omega)
     rw [hr] at hin
     cases hin
  rcases h1 with ⟨hn0,_⟩|⟨q,hq1,hq2,_,hno,htw⟩
  ·have:=hall n n rfl (by omega)
   rw [hn0 n (Bm2 _)] at this
   cases this
  ·rcases Nat.lt_or_ge q tl.length with e|e
   ·have:=hall (n+q) (n+q) rfl (by omega)
    rw [hno _ (Bm2 _)] at this
    cases this
   ·rw [List.drop_eq_nil_of_le e] at htw
    exact htw
end
end
section
open Go Go.Proofs Go.RowKit
section
variable {a:Act} {P:Program} {Q:Exit->Act->World->Prop} {w:World}
theorem Mb {f g:Nat->Oper->Prop} (h:∀i o,f i o->g i o):∀(k:Nat) (l:List Oper),Bs f k l->Bs g k l
 |_,[],_=>trivial
 |k,o::l,⟨h1,h2⟩=>⟨h k o h1,Mb h (k+1) l h2⟩
theorem Fg {id:Nat} {l:List Oper} (n:Nat) (st:Oper) (rest:List Oper) (hst:l=l.take n++st::rest) (hln:(l.take n).length=n) (R:Nat->Value->World->Prop) (hn0:0<n)
  (hm:P.follows .mixedOrders=true) (hB:Ps (l.take n) a.tmps.size=true) (hS:My l n st=true) (hR9:Xx n rest=true)
  (hmono:∀i v w' w'',Below w'.heap.size w' w''->R i v w'->R i v w'')
  (hop:Bs (fun i o=>∀(act:Act) w',Below w.heap.size w w'->(∀j,Bx l i j=true->R j (act.tmps.getD (Ae l j) undef) w')->(∀t,Hb l n t=true->act.tmps.getD t undef=a.tmps.getD t undef)->
   ∀K:Act->World->Prop,(∀v w'',Below w'.heap.size w' w''->R i v w''->K (act.put o.dst v) w'')->(No l act o true/\o.wp P act w' K Q)\/(No l act o false/\K (act.put o.dst undef) w')) 0 (l.take n))
  (hend:∀(vs:Nat->Value) act w',Below w.heap.size w w'->(∀i,i<n->R i (vs i) w')->(∀j,j<n->act.tmps.getD (Ae l j) undef=vs j)->(∀t,Hb l n t=true->act.tmps.getD t undef=a.tmps.getD t undef)->act=Al a (Ae l) vs n->Dx P Q (st::rest) act w'):(Code.region id l.toArray true).wp P Q a w:=
 Iq n st rest hst hln R (fun _ w' w''=>Below w'.heap.size w' w'') 0 hn0 (fun _ w w'=>Below w.heap.size w w') hm hB hS hR9 (Below.refl _ w).drew (fun _ _ _ _ h1 _ h2=>h1.st h2) (fun i j v _ _ _ _ _ h3 hr=>hmono j v _ _ h3 hr) (Mb (fun _ _ h act w' _ _ h2=>h act w' h2) 0 _ hop) hend
end
end
section
open Go Go.Proofs Go.RowKit Go.Shelf Ch
def Iz (n k:Nat):List Int:=(List.range n).map fun i=>if i<k then FAR else 0
theorem Aq5 (n k:Nat):(Iz n k).length=n:=by simp [Iz]
theorem Af0 (n:Nat):Iz n 0=List.replicate n 0:=by
 unfold Iz
 apply List.ext_getElem<;>simp
theorem Aq6 (n:Nat):Iz n n=List.replicate n FAR:=by
 unfold Iz
 apply List.ext_getElem
 ·simp
 ·intro i h1 h2
  simp at h1;simp [h1]
theorem Aq4 {n k:Nat} (h:k<n):(Iz n k).set k FAR=Iz n (k+1):=by
 unfold Iz
 apply List.ext_getElem
 ·simp
 ·intro i h1 h2
  simp at h1;rw [List.getElem_set]
  by_cases e:k=i
  ·subst e;simp
  ·rw [if_neg e]
   simp only [List.getElem_map,List.getElem_range];have:(i<k)↔(i<k+1):=by omega
   simp [this]
structure AllM (W:World) (D n:Nat) (aw:Option Addr) (es:List EdgeD) (d:List Int) (wr:World):Prop where
 row:wr.ownsRow D 37 1 (.slice (some ⟨D,0,none⟩) n n) n (d.map Cb)
 bel:Below D W wr
 wts:Cel wr aw (Td es)
 awf:∀b o,aw=some ⟨b,o,none⟩->D<b
section
variable {W wr wr':World} {D n:Nat} {aw:Option Addr} {es:List EdgeD} {d:List Int}
theorem AllM.go (h:AllM W D n aw es d wr) (hb:Below wr.heap.size wr wr') (hD:D<=wr.heap.size):AllM W D n aw es d wr':=⟨Ag h.row hb,h.bel.trans (hb.mono hD),h.wts.go hb,h.awf⟩
theorem AllM.lt (h:AllM W D n aw es d wr):D<wr.heap.size:=(h.row.lt D rfl).2
theorem AllM.set (h:AllM W D n aw es d wr) (u:Nat) (x:Int):AllM W D n aw es (d.set u x) (wr.setCell ⟨D,u,none⟩ (.int .u64 x)):=by
 refine ⟨?_,h.bel.setCell (Bm2 _) _,?_,h.awf⟩
 ·have:=(h.row.stored u (.int .u64 x)).1
  rw [List.map_set];exact this
 ·intro i v hi
  obtain ⟨b,o,e,h1⟩:=h.wts i v hi;refine ⟨b,o,e,?_⟩;rw [Bm8]
  ·exact h1
  ·intro k
   have:=h.awf b o e
   cases k
   omega
theorem AllM.drew (h:AllM W D n aw es d wr):AllM W D n aw es d wr.drew:=h.go (Below.of_dr _ _) (Nat.le_of_lt h.lt)
theorem AllM.at (h:AllM W D n aw es d wr) (hl:d.length=n) {u:Nat} (hu:u<n):wr.cell? ⟨D,u,none⟩=some (.int .u64 (gD d u)):=by
 have h1:=h.row.cellAt u (by omega);rw [h1,Bn9,Bm5 (by omega)];unfold gD;rw [Bn4,Bm6,Bm5 (by omega)];rfl
theorem AllM.wt (h:AllM W D n aw es d wr) {k:Nat} (hk:k<es.length):∃b o,aw=some ⟨b,o,none⟩/\wr.cell? ⟨b,o+k,none⟩=some (.int .u64 es[k].w):=by
 have:(Td es)[k]? =some (.int .u64 es[k].w):=by unfold Td;rw [Bn9,Bm5 hk];rfl
 exact h.wts k _ this
end
def Bh0 (es:List EdgeD) (back:Bool) (no:List Int) (s:Int) (n:Nat) (aw:Option Addr) (W:World) (k:Nat) (v:Value) (wr:World):Prop:=
 ∃c d,v=.bool c/\Rds (Br es back no) s n k ((es.length:Int)*4294967296) d c/\AllM W W.heap.size n aw es d wr
theorem Au7 {back:Bool} {no:List Int} {p:List Int×Bool} {e:EdgeD} (h:Ee no e=false):Dd back no p e=p:=by unfold Dd;rw [h];rfl
theorem Xy {back:Bool} {no:List Int} {p:List Int×Bool} {e:EdgeD} {u v:Nat} (hu:(Fj back e).1=(u:Int)) (hv:(Fj back e).2=(v:Int)) (h:¬(gD p.1 u<4611686018427387904/\gD p.1 u+e.w<gD p.1 v)):Dd back no p e=p:=by
 unfold Dd Dk Iy Al1;simp only [hu,hv]
 split
 ·rw [if_neg]
  simp only [Bool.and_eq_true,decide_eq_true_eq];exact h
 ·rfl
theorem Ac0 {back:Bool} {no:List Int} {p:List Int×Bool} {e:EdgeD} {u v:Nat} (hc:Ee no e=true) (hu:(Fj back e).1=(u:Int)) (hv:(Fj back e).2=(v:Int)) (h:gD p.1 u<4611686018427387904) (h2:gD p.1 u+e.w<gD p.1 v):Dd back no p e=(p.1.set v (gD p.1 u+e.w),true):=by
 unfold Dd Dk Iy Al1;simp only [hu,hv,hc,if_true];rw [if_pos]
 ·rw [Bn4]
 ·simp only [Bool.and_eq_true,decide_eq_true_eq]
  exact ⟨h,h2⟩
def AllPost (es:List EdgeD) (n:Nat) (s:Int) (back:Bool) (no:List Int) (w:World) (e:Ending) (w':World):Prop:=
 ∃(b:Nat) (d:List Int),e=.returned (.slice (some ⟨b,0,none⟩) n n)/\Cel w' (some ⟨b,0,none⟩) (d.map Cb)/\Below w.heap.size w w'/\w.heap.size<=b/\AllIs es n s back no d
theorem AllM.post {W wr w:World} {D n:Nat} {aw:Option Addr} {es:List EdgeD} {d no:List Int} {s:Int} {back:Bool} (h:AllM W D n aw es d wr) (hb:Below w.heap.size w W) (hD:w.heap.size<=D) (hW:D=W.heap.size) (hi:AllIs es n s back no d):AllPost es n s back no w (.returned (.slice (some ⟨D,0,none⟩) n n)) wr:=by
 refine ⟨D,d,rfl,?_,hb.trans (h.bel.mono hD),hD,hi⟩;obtain ⟨ao,cap,e,h1⟩:=Cel.of_owns h.row
 cases e
 exact h1
theorem Lv (n s:Nat) (es:List EdgeD) (ao no:Option Addr) (cap nc:Nat) (back:Bool) (l:List Int) (w:World) (hg:Ak ⟨(n:Int),es⟩=0) (hn:n<=100) (hes:es.length<=300) (hs:s<n) (hl:l.length<=1000000) (hc:Cel w ao (Ay es)) (hno:Cel w no (l.map Ai)):
  Calls Tryz.prog 71 #[.agg #[.int .i64 (n:Int),.slice ao es.length cap],.int .i64 (s:Int),We back no l.length nc] w (AllPost es n s back l w):=by
 obtain ⟨W,hW⟩:∃W,W=(w.alloc (Obj.cells #[.int .i64 (n:Int),.slice ao es.length cap] 24)).alloc (Obj.cells #[.bool back,.slice no l.length nc,.slice none 0 0,.slice none 0 0,.int .u64 0] 119):=⟨_,rfl⟩;have hbw:Below w.heap.size w W:=by rw [hW];exact (Below.of_al _ _).al _
 have c0:W.cell? ⟨w.heap.size,0,none⟩=some (.int .i64 (n:Int)):=by rw [hW];go_simp
 have c1:W.cell? ⟨w.heap.size,1,none⟩=some (.slice ao es.length cap):=by rw [hW];go_simp
 have o0:W.cell? ⟨w.heap.size+1,0,none⟩=some (.bool back):=by rw [hW];go_simp
 have o1:W.cell? ⟨w.heap.size+1,1,none⟩=some (.slice no l.length nc):=by rw [hW];go_simp
 have o2:W.cell? ⟨w.heap.size+1,2,none⟩=some (.slice none 0 0):=by rw [hW];go_simp
 have o3:W.cell? ⟨w.heap.size+1,3,none⟩=some (.slice none 0 0):=by rw [hW];go_simp
 have o4:W.cell? ⟨w.heap.size+1,4,none⟩=some (.int .u64 0):=by rw [hW];go_simp
 have HS:=Bm0 (show W.heap.size=w.heap.size+2 by rw [hW];simp);have HB:=Bm0 hbw;have HW:=Bm0 hW;have HC:=Bm0 (hc.go hbw);have HN:=Bm0 (hno.go hbw);have hE:=Hu hg rfl;have HG:=Bm0 (As6 (es:=es) (n:=n) (back:=back) (no:=l) (fun u v x ⟨y,hy,e1,e2,e3⟩=>by
  have:=hE.ok y hy;rw [e1,e2,e3] at this;exact ⟨this.1,this.2.1,this.2.2.2.1,this.2.2.2.2⟩))
 have HED:=Bm0 (fun j (hj:j<es.length)=>by
  have:=hE.ok es[j] (Bn2 hj);exact (⟨this.1,this.2.1,this.2.2.2.1,this.2.2.2.2⟩:Ac n es[j].f/\Ac n es[j].t/\1<=es[j].w/\es[j].w<=4294967296))
 have X1:=Bm0 (fun WX (hz:Below W.heap.size W WX)=>Lu no nc l (s:Int) WX (by omega) (HN.out.go hz));have X2:=Bm0 (fun WX (hz:Below W.heap.size W WX)=>Jo (n:Int) es ao no cap l.length nc back WX hg (by omega) (HC.out.go hz));have X4:=Bm0 (fun WX (hz:Below W.heap.size W WX) k hk=>Lg (n:Int) es ao no cap nc back l k hk WX hl (by omega) (HC.out.go hz) (HN.out.go hz));have hn0:0<n:=by omega
 have hs0:(0:Int)<=(s:Int):=by omega
 have hs1:(s:Int)<(n:Int):=by omega
 have hn12:(n:Int)<=100:=by omega
 have he40:(es.length:Int)<=300:=by omega
 unfold Ww at X2;clear hW hbw hc hno hg hE
 go_enter Tryz.func71,Tryz.ntmps71
 go_upto_region 1 with (fail)
 rw [<-HW.out]
 go_wp2_with (at_make;go_must ((with_reducible refine Em W.heap.size 37 _ 1 8 Sk Tryz.underlying60 n ?_ ?_ ?_ ?_ ?_ ?_ ?_ ?_);rotate_left 4;(· rfl);(· rfl);(· exact ⟨by simp,by simp,by omega,by omega,by simp⟩);intro wm hown hbl hszm;(have Hmo:=Bm0 hown;have Hmb:=Bm0 hbl;clear hown hbl)))
 have HZ0:=Bm0 (show (madeCells (Value.int .u64 0).cells (n*1)).toList=(Iz n 0).map Cb by
  show (madeCells #[Value.int .u64 0] (n*1)).toList=_
  rw [Nat.mul_one,toList_madeCells_one,Af0,List.map_replicate])
 go_loopg [8] n (fun gg i wr=>∃k:Nat,k<=n/\n-k<=gg/\i=.int .i64 k/\Aside (W.heap.size<wr.heap.size)/\Aside (wr.ownsRow W.heap.size 37 1 (.slice (some ⟨W.heap.size,0,none⟩) n n) n ((Iz n k).map Cb))/\Aside (Below W.heap.size W wr))
 case atStart=>exact ⟨0,Bm3 _,by omega,rfl,hszm,by have:=Hmo.out;rw [HZ0.out] at this;exact this,Hmb.out⟩
 case round=>
  obtain ⟨k,hk,hgg,rfl,HZ2,HO,HBr⟩:=hrel;clear HZ0;have p0:=Bm1 HBr.out c0
  by_cases hlt:k<n
  ·have hlt3:(k:Int)<(n:Int):=by omega
   have hk0:(0:Int)<=(k:Int):=by omega
   obtain ⟨u,j4⟩:∃u,wr.cell? ⟨W.heap.size,k,none⟩=some u:=by
    rw [HO.out.cellAt k (by omega),Bn9,Bm5 (by rw [Aq5];omega)];exact ⟨_,rfl⟩
   have j6:=HO.out.frozenAt k;have HO2:=Bm0 (show (wr.setCell ⟨W.heap.size,k,none⟩ (Cb 4611686018427387904)).ownsRow W.heap.size 37 1 (.slice (some ⟨W.heap.size,0,none⟩) n n) n ((Iz n (k+1)).map Cb) by
    have:=(HO.out.stored k (Cb 4611686018427387904)).1;rw [<-Aq4 hlt,List.map_set];exact this)
   go_wp2
   go_roundg (n-(k+1))
   case measure=>omega
   case rel=>exact ⟨k+1,by omega,by omega,by go_num,(show W.heap.size<(wr.setCell ⟨W.heap.size,k,none⟩ (Cb 4611686018427387904)).heap.size by have:=HZ2.out;simpa [World.setCell] using this),HO2.out,HBr.out.setCell (Bm2 _) _⟩
  ·obtain rfl:n=k:=by omega
   have HR:=Bm0 (show wr.ownsRow W.heap.size 37 1 (.slice (some ⟨W.heap.size,0,none⟩) n n) n ((List.replicate n FAR).map Cb) by have:=HO.out;rwa [Aq6] at this);clear HO;obtain ⟨u,j4⟩:∃u,wr.cell? ⟨W.heap.size,s,none⟩=some u:=by
    rw [HR.out.cellAt s (by omega),Bn9,Bm5 (by simpa using hs)];exact ⟨_,rfl⟩
   have j6:=HR.out.frozenAt s;have HB2:=Bm0 (show Below W.heap.size W (wr.setCell ⟨W.heap.size,s,none⟩ (Cb 0)) from HBr.out.setCell (Bm2 _) _);have HR2:=Bm0 (show (wr.setCell ⟨W.heap.size,s,none⟩ (Cb 0)).ownsRow W.heap.size 37 1 (.slice (some ⟨W.heap.size,0,none⟩) n n) n (((List.replicate n FAR).set s 0).map Cb) by
    have:=(HR.out.stored s (Cb 0)).1;rw [List.map_set];exact this)
   have HSZ:=Bm0 (show (wr.setCell ⟨W.heap.size,s,none⟩ (Cb 0)).heap.size=wr.heap.size by simp [World.setCell]);have r0:=Bm1 HB2.out c0;have r1:=Bm1 HB2.out c1;have s0:=Bm1 HB2.out o0;have s1:=Bm1 HB2.out o1;have s2:=Bm1 HB2.out o2;have s3:=Bm1 HB2.out o3;have s4:=Bm1 HB2.out o4;have t1:=Bm1 HBr.out o1;have X1r:=Bm0 (X1.out wr HBr.out);have X2r:=Bm0 (X2.out _ HB2.out)
   by_cases hin:(s:Int)∈l
   ·rw [decide_eq_true hin] at X1r
    have HI:=Bm0 hin;clear hin r0 r1 s0 s1 s2 s3 s4 j4 j6 X2 X4
    go_wp2_with (go_at_call 44;refine X1r.out.mono ?_;rintro e w1 ⟨rfl,rfl⟩)
    go_ret
    obtain ⟨a9,k9,e9,h9⟩:=Cel.of_owns HR.out
    cases e9
    exact ⟨W.heap.size,_,rfl,h9,HB.out.st HBr.out,by have:=HS.out;omega,AllIs.out HI.out⟩
   ·rw [decide_eq_false hin] at X1r
    have HI:=Bm0 hin;clear hin
    go_wp2_with (first
     |(go_at_call 44;refine X1r.out.mono ?_;rintro e w1 ⟨rfl,rfl⟩)
     |(go_at_call 120;refine X2r.out.mono ?_;rintro e w3 ⟨aw,cw,rfl,hw1,hw2,hw3⟩;(have HM3:=Bm0 (show AllM W W.heap.size n aw es ((List.replicate n FAR).set s 0) w3 from ⟨Ag HR2.out hw2,HB2.out.st hw2,hw1,fun b o e=>by (have h8:=hw3 b (by rw [e];rfl));(have:=HSZ.out);(have:=HZ2.out);omega⟩));clear hw1 hw2 hw3))
    clear r0 r1 s0 s1 s2 s3 s4 t1 j4 j6 p0 X1r X2r X1 X2 HR HR2 HB2 HSZ HZ2 HBr;have HR0:=Bm0 (show Rds (Br es back l) (s:Int) n 0 ((es.length:Int)*4294967296) ((List.replicate n FAR).set s 0) true by
     have:=Rds.start (Br es back l) ((es.length:Int)*4294967296) (show node n (s:Int) from ⟨hs0,hs1⟩)
     rwa [Bn4] at this)
    go_loopg [10,11] (n+1) (fun gg v10 v11 wr=>∃k:Nat,k<=n+1/\n+1-k<=gg/\v11=.int .i64 k/\Aside (Bh0 es back l (s:Int) n aw W k v10 wr))
    case atStart=>exact ⟨0,Bm3 _,by omega,rfl,⟨true,_,rfl,HR0.out,HM3.out⟩⟩
    case round=>
     obtain ⟨k,hk,hgg,rfl,HA⟩:=hrel;obtain ⟨c,d,rfl,hR,hM⟩:=HA.out;have p0:=Bm1 hM.bel c0;have HM:=Bm0 hM;have HRd:=Bm0 hR;clear HA hM hR HM3 HR0
     by_cases hgo:k<=n/\c=true
     ·obtain ⟨hkn,rfl⟩:=hgo
      obtain ⟨f,hf⟩:∃f:Nat->List Int×Bool,f=fun j=>(es.take j).foldl (Dd back l) (d,false):=⟨_,rfl⟩;have HF0:=Bm0 (show f 0=(d,false) by rw [hf];rfl);have HFS:=Bm0 (fun j (hj:j<es.length)=>(by rw [hf];exact Xz hj:f (j+1)=Dd back l (f j) es[j]));have HFE:=Bm0 (show f es.length=Cu d (Br es back l) by rw [hf];simp only [Bq6];exact Vs es back l d);have hB0:(0:Int)<=(k:Int)*((es.length:Int)*4294967296):=Int.mul_nonneg (by omega) (by omega);have hB1:(k:Int)*((es.length:Int)*4294967296)<=101*(300*4294967296):=Int.mul_le_mul (by omega) (by omega) (by omega) (by omega);have HBD:=Bm0 (fun j=>(by rw [hf];exact Bd7 HG.out ⟨hs0,hs1⟩ (by omega) HRd.out.so hB0 (by show _<(4611686018427387904:Int);omega) j:(f j).1.length=n/\∀v,node n v->0<=gD (f j).1 v/\gD (f j).1 v<=4611686018427387904));have HRN:=Bm0 (HRd.out.go (W:=4294967296) HG.out (by omega) ⟨hs0,hs1⟩ (Int.mul_le_mul_of_nonneg_right (by have:=Zu (es:=es) (back:=back) (no:=l);omega) (by omega)) (by omega) (by show _<(4611686018427387904:Int);omega));have hkn3:(k:Int)<=(n:Int):=by omega
      clear hf hB0 hB1 HRd
      go_wp2
      go_loopg [10,12] es.length (fun gg v10 v12 wr=>∃j:Nat,j<=es.length/\es.length-j<=gg/\v12=.int .i64 j/\Aside (v10=.bool (f j).2/\AllM W W.heap.size n aw es (f j).1 wr))
      case atStart=>exact ⟨0,Bm3 _,by omega,rfl,by rw [HF0.out];exact ⟨rfl,HM.out⟩⟩
      case round=>
       obtain ⟨j,hj,hgj,rfl,HA⟩:=hrel;obtain ⟨rfl,hM⟩:=HA.out;have q1:=Bm1 hM.bel c1;clear HM p0 HA;have HM:=Bm0 hM;clear hM
       by_cases hlt:j<es.length
       ·have hlt3:(j:Int)<(es.length:Int):=by omega
        have hj0:(0:Int)<=(j:Int):=by omega
        have hbl:=HM.out.bel;obtain ⟨qb,qo,rfl,y0,y1,y2⟩:=(HC.out.go hbl).edge hlt;obtain ⟨wb,wo,rfl,y3⟩:=HM.out.wt hlt;obtain ⟨e1,e2,e3,e4⟩:=HED.out j hlt;have hends:Ac n (Fj back es[j]).1/\Ac n (Fj back es[j]).2:=by
         unfold Fj
         cases back
         ·exact ⟨e1,e2⟩
         ·exact ⟨e2,e1⟩
        obtain ⟨⟨u0,u1⟩,v0,v1⟩:=hends;obtain ⟨u,hu⟩:∃u:Nat,(Fj back es[j]).1=u:=⟨(Fj back es[j]).1.toNat,by omega⟩;obtain ⟨v,hv⟩:∃v:Nat,(Fj back es[j]).2=v:=⟨(Fj back es[j]).2.toNat,by omega⟩;rw [hu] at u0 u1;rw [hv] at v0 v1;have hun:u<n:=by omega
        have hvn:v<n:=by omega
        have hdl:=(HBD.out j).1;obtain ⟨x0,x1⟩:=(HBD.out j).2 (u:Int) ⟨u0,u1⟩;obtain ⟨z0,z1⟩:=(HBD.out j).2 (v:Int) ⟨v0,v1⟩;have HAT:=Bm0 (fun WX (hz:Below wr.heap.size wr WX)=>(⟨(HM.out.go hz (Nat.le_of_lt HM.out.lt)).at hdl hun,(HM.out.go hz (Nat.le_of_lt HM.out.lt)).at hdl hvn,(HM.out.go hz (Nat.le_of_lt HM.out.lt)).row.frozenAt v⟩:WX.cell? ⟨W.heap.size,u,none⟩=some (.int .u64 (gD (f j).1 u))/\WX.cell? ⟨W.heap.size,v,none⟩=some (.int .u64 (gD (f j).1 v))/\WX.frozen? ⟨W.heap.size,v,none⟩=false));have X3:=Bm0 (fun WX=>Yd es[j] back WX);rw [hu,hv] at X3;have X5:=Bm0 (fun WX (hz:Below wr.heap.size wr WX)=>X4.out WX (hbl.trans (hz.mono (Nat.le_of_lt HM.out.lt))) j hlt);have HN1:=Bm0 (fun (h:Ee l es[j]=false)=>(HFS.out j hlt).trans (Au7 h));have HN2:=Bm0 (fun h=>(HFS.out j hlt).trans (Xy (no:=l) hu hv h));have HN3:=Bm0 (fun hc h1 h2=>(HFS.out j hlt).trans (Ac0 (no:=l) hc hu hv h1 h2));clear hu hv hdl;generalize hbv:Ee l es[j]=cb at*;clear hbv;generalize es[j]=e at*;obtain ⟨ef,et,ew⟩:=e;simp only at y0 y1 y2 y3 e3 e4 HN2 HN3 X3;generalize gD (f j).1 (u:Int)=x at*;generalize gD (f j).1 (v:Int)=y at*;have a0:=Bm1 hbl c0;have b0:=Bm1 hbl o0;have b1:=Bm1 hbl o1;have b2:=Bm1 hbl o2;have b3:=Bm1 hbl o3;have b4:=Bm1 hbl o4;have f1:=fun p=>Ab p q1;have f2:=fun p=>Ab p y0;have f3:=fun p=>Ab p y1;have f4:=fun p=>Ab p y2;have f5:=fun p=>Ab p b0;clear e1 e2 hbl
        go_wp2
        refine Af (by kernel_rfl) (by kernel_rfl) ?_
        repeat (go_big_quiet_step ((go_at_call 126;exact Calls.ext_of (X3.out _))))
        refine wpQuiet_nil ?_;rintro _ ⟨pq,rfl⟩;have HBq:=Bm0 (Ah wr pq);generalize ext wr pq=wq at HBq ⊢;clear f1 f2 f3 f4 f5 y0 y1 y2;obtain ⟨k1,k2,-⟩:=HAT.out wq HBq.out;have g0:=Bm1 HBq.out a0;have g1:=Bm1 HBq.out q1;have g2:=Bm1 HBq.out b0;have g3:=Bm1 HBq.out b1;have g4:=Bm1 HBq.out b2;have g5:=Bm1 HBq.out b3;have g6:=Bm1 HBq.out b4;have g7:=Bm1 HBq.out y3;have f0:=fun p=>Ab p g0;have f1:=fun p=>Ab p g1;have f2:=fun p=>Ab p g2;have f3:=fun p=>Ab p g3;have f4:=fun p=>Ab p g4;have f5:=fun p=>Ab p g5;have f6:=fun p=>Ab p g6;have f7:=fun p=>Ab p g7;have f8:=fun p=>Ab p k1;have f9:=fun p=>Ab p k2;have X6:=Bm0 (fun p=>X5.out (ext wq p) (HBq.out.st (Ah wq p)));clear a0 b0 b1 b2 b3 b4 q1 y3 X4 X5 X3
        cases cb with
        |false=>
         have HST:=Bm0 (HN1.out rfl)
         go_wp2
         refine Af (by kernel_rfl) (by kernel_rfl) ?_
         repeat (go_big_quiet_step ((go_at_call 121;exact Calls.ext_of (X6.out _))))
         refine wpQuiet_nil ?_;rintro _ ⟨ps,rfl⟩;have HBs:=Bm0 (Ah wq ps);generalize ext wq ps=ws at HBs ⊢
         go_wp2
         go_roundg (es.length-(j+1))
         case measure=>omega
         case rel=>exact ⟨j+1,by omega,Bm2 _,by go_num,by rw [HST.out];exact ⟨rfl,HM.out.go (HBq.out.st HBs.out) (Nat.le_of_lt HM.out.lt)⟩⟩
        |true=>
         by_cases hx:x<4611686018427387904
         ·by_cases hy:x+ew<y
          ·have HST:=Bm0 (HN3.out rfl hx hy)
           go_wp2
           refine Af (by kernel_rfl) (by kernel_rfl) ?_
           repeat (go_big_quiet_step ((go_at_call 121;exact Calls.ext_of (X6.out _))))
           refine wpQuiet_nil ?_;rintro _ ⟨ps,rfl⟩;have HBs:=Bm0 (Ah wq ps);generalize ext wq ps=ws at HBs ⊢;clear f0 f1 f2 f3 f4 f5 f6 f7 f8 f9;obtain ⟨k4,k5,k6⟩:=HAT.out ws (HBq.out.st HBs.out);have g8:=Bm1 HBs.out g7
           go_wp2
           go_region
           go_wp2
           go_roundg (es.length-(j+1))
           case measure=>omega
           case rel=>exact ⟨j+1,by omega,Bm2 _,by go_num,by rw [HST.out];exact ⟨rfl,((HM.out.go (HBq.out.st HBs.out) (Nat.le_of_lt HM.out.lt)).set v (x+ew)).drew⟩⟩
          ·have HST:=Bm0 (HN2.out fun h=>hy h.2)
           go_wp2
           refine Af (by kernel_rfl) (by kernel_rfl) ?_
           repeat (go_big_quiet_step ((go_at_call 121;exact Calls.ext_of (X6.out _))))
           refine wpQuiet_nil ?_;rintro _ ⟨ps,rfl⟩;have HBs:=Bm0 (Ah wq ps);generalize ext wq ps=ws at HBs ⊢
           go_wp2
           go_roundg (es.length-(j+1))
           case measure=>omega
           case rel=>exact ⟨j+1,by omega,Bm2 _,by go_num,by rw [HST.out];exact ⟨rfl,HM.out.go (HBq.out.st HBs.out) (Nat.le_of_lt HM.out.lt)⟩⟩
         ·have HST:=Bm0 (HN2.out fun h=>hx h.1)
          obtain rfl:x=4611686018427387904:=by omega
          go_wp2
          refine Af (by kernel_rfl) (by kernel_rfl) ?_
          repeat (go_big_quiet_step ((go_at_call 121;exact Calls.ext_of (X6.out _))))
          refine wpQuiet_nil ?_;rintro _ ⟨ps,rfl⟩;have HBs:=Bm0 (Ah wq ps);generalize ext wq ps=ws at HBs ⊢
          go_wp2
          go_roundg (es.length-(j+1))
          case measure=>omega
          case rel=>exact ⟨j+1,by omega,Bm2 _,by go_num,by rw [HST.out];exact ⟨rfl,HM.out.go (HBq.out.st HBs.out) (Nat.le_of_lt HM.out.lt)⟩⟩
       ·obtain rfl:j=es.length:=by omega
        have HFE2:=Bm0 (show Bh0 es back l (s:Int) n aw W (k+1) (.bool (f es.length).2) wr by
         rw [HFE.out];refine ⟨_,_,rfl,HRN.out,?_⟩;have:=HM.out
         rwa [HFE.out] at this)
        go_wp2
        go_roundg (n+1-(k+1))
        case measure=>omega
        case rel=>exact ⟨k+1,by omega,Bm2 _,by go_num,HFE2.out⟩
     ·have hB1:(k:Int)*((es.length:Int)*4294967296)<=101*(300*4294967296):=Int.mul_le_mul (by omega) (by omega) (by omega) (by omega)
      have HX:=Bm0 (show AllIs es n (s:Int) back l d from Exact.is (HRd.out.done HG.out (by cases c;exact .inl rfl;exact .inr (by have:¬k<=n:=fun h=>hgo ⟨h,rfl⟩;omega))) HRd.out.so HG.out HI.out (by omega));have hcase:((k:Int)<=(n:Int)/\c=false)\/¬((k:Int)<=(n:Int)):=by
       cases c
       ·by_cases h:(k:Int)<=(n:Int)
        ·exact .inl ⟨h,rfl⟩
        ·exact .inr h
       ·exact .inr (fun h=>hgo ⟨by omega,rfl⟩)
      clear hgo hB1 HRd
      rcases hcase with ⟨h1,rfl⟩|h1
      all_goals
       go_wp2
       go_loopg [15] n (fun gg v15 wr=>∃j:Nat,j<=n/\n-j<=gg/\v15=.int .i64 j/\Aside (AllM W W.heap.size n aw es d wr))
       case atStart=>exact ⟨0,Bm3 _,by omega,rfl,HM.out⟩
       case round=>
        obtain ⟨j,hj,hgj,rfl,HA⟩:=hrel;have p0:=Bm1 HA.out.bel c0;have b4:=Bm1 HA.out.bel o4
        by_cases hlt:j<n
        ·have hlt3:(j:Int)<(n:Int):=by omega
         have hj0:(0:Int)<=(j:Int):=by omega
         have f1:=fun p=>Ab p b4
         go_wp2
         refine Af (by kernel_rfl) (by kernel_rfl) ?_
         repeat (go_big_quiet_step (fail))
         refine wpQuiet_nil ?_;rintro _ ⟨pq,rfl⟩;have HBq:=Bm0 (Ah wr pq);generalize ext wr pq=wq at HBq ⊢
         go_wp2
         go_roundg (n-(j+1))
         case measure=>omega
         case rel=>exact ⟨j+1,by omega,Bm2 _,by go_num,HA.out.go HBq.out (Nat.le_of_lt HA.out.lt)⟩
        ·obtain rfl:n=j:=by omega
         go_wp2
         go_ret
         exact HA.out.post HB.out (by have:=HS.out;omega) rfl HX.out
end
section
open Go Go.Proofs Go.RowKit Go.Shelf Ch
theorem AllPost.st {es:List EdgeD} {n:Nat} {s:Int} {back:Bool} {no:List Int} {w W w':World} {e:Ending} (hb:Below w.heap.size w W) (h:AllPost es n s back no W e w'):AllPost es n s back no w e w':=by
 obtain ⟨b,d,h1,h2,h3,h4,h5⟩:=h;have:=hb.size;exact ⟨b,d,h1,h2,hb.st h3,by omega,h5⟩
theorem Rb (n s:Nat) (es:List EdgeD) (ao:Option Addr) (cap:Nat) (back:Bool) (w:World) (hg:Ak ⟨(n:Int),es⟩=0) (hn:n<=100) (hes:es.length<=300) (hs:s<n) (hc:Cel w ao (Ay es)):
  Calls Tryz.prog 43 #[.agg #[.int .i64 (n:Int),.slice ao es.length cap],.int .i64 (s:Int),.bool back] w (AllPost es n s back [] w):=by
 obtain ⟨W,hW⟩:∃W,W=w.alloc (Obj.cells #[.int .i64 (n:Int),.slice ao es.length cap] 24):=⟨_,rfl⟩;have hbw:Below w.heap.size w W:=by rw [hW];exact Below.of_al _ _
 have c0:W.cell? ⟨w.heap.size,0,none⟩=some (.int .i64 (n:Int)):=by rw [hW];go_simp
 have c1:W.cell? ⟨w.heap.size,1,none⟩=some (.slice ao es.length cap):=by rw [hW];go_simp
 have HW:=Bm0 hW;have HB:=Bm0 hbw;have HA:=Bm0 (Lv n s es ao none cap 0 back [] W hg hn hes hs (by simp) (hc.go hbw) (Cel.nil _ _));obtain ⟨Q,hQ⟩:∃Q:Ending->World->Prop,Q=AllPost es n s back [] W:=⟨_,rfl⟩;have HQ:=Bm0 (fun e w' (h:Q e w')=>AllPost.st hbw (show AllPost es n s back [] W e w' by rw [hQ] at h;exact h));rw [<-hQ] at HA;have HQV:=Bm0 (fun e w' (h:Q e w')=>show ∃b,e=.returned (.slice (some ⟨b,0,none⟩) n n) by rw [hQ] at h;obtain ⟨b,_,h,_⟩:=h;exact ⟨b,h⟩);clear hW hbw hc hQ
 go_enter Tryz.func43,Tryz.ntmps43
 go_upto_region 1 with (fail)
 rw [<-HW.out]
 go_wp2_with (go_at_call 71;refine HA.out.mono ?_;rintro e w1 hq;obtain ⟨b,rfl⟩:=HQV.out _ _ hq;(have HH:=Bm0 hq);clear hq)
 go_ret
 exact HQ.out _ _ HH.out
def noL (r:Int->Int) (v k:Nat):List Int:=((List.range k).filter fun u=>decide (u≠v/\r (v:Int)<r (u:Int))).map fun u:Nat=>(u:Int)
theorem Be0 {r:Int->Int} {v k:Nat} (h1:k≠v) (h2:r (v:Int)<r (k:Int)):noL r v (k+1)=noL r v k++[(k:Int)]:=by
 unfold noL;rw [List.range_succ,List.filter_append,Bq1,List.filter_cons_of_pos (by simpa using ⟨h1,h2⟩)];rfl
theorem Aw0 {r:Int->Int} {v k:Nat} (h:¬(k≠v/\r (v:Int)<r (k:Int))):noL r v (k+1)=noL r v k:=by
 unfold noL;rw [List.range_succ,List.filter_append,Bq1,List.filter_cons_of_neg (by simpa using h)];simp
theorem Ai4 (r:Int->Int) (v k:Nat):(noL r v k).length<=k:=by
 unfold noL;rw [Bq2];exact Bm4 (List.length_filter_le _ _) (by simp)
theorem Be1 {r:Int->Int} {n v:Nat} {u:Int}:u∈noL r v n↔noP n r v u:=by
 unfold noL noP Ac;simp only [List.mem_map,List.mem_filter,Bp4,decide_eq_true_eq];constructor
 ·rintro ⟨x,⟨h1,h2,h3⟩,rfl⟩
  exact ⟨⟨by omega,by omega⟩,by omega,h3⟩
 ·rintro ⟨⟨h1,h2⟩,h3,h4⟩
  refine ⟨u.toNat,⟨by omega,by omega,?_⟩,by omega⟩;rw [Bq7 h1];exact h4
theorem Ba4 {w:World} {ao:Option Addr} {l:List Int} (h:Cel w ao (l.map Ai)) (h0:0<l.length):∃b o,ao=some ⟨b,o,none⟩/\∀i (hi:i<l.length),w.cell? ⟨b,o+i,none⟩=some (Ai l[i]):=by
 obtain ⟨b,o,e,_⟩:=h.at h0;refine ⟨b,o,e,fun i hi=>?_⟩;obtain ⟨b',o',e',h1⟩:=h.at hi;rw [e] at e'
 cases e'
 exact h1
def PeakPost (A:Int->Int->Int->Prop) (r:Int->Int) (s v d:Int) (w:World) (e:Ending) (w':World):Prop:=∃b,e=.returned (.bool b)/\(b=true↔Peak A r s v d)/\Below w.heap.size w w'
theorem PeakPost.no {A:Int->Int->Int->Prop} {r:Int->Int} {s v d:Int} {w w':World} (h:¬Peak A r s v d) (hb:Below w.heap.size w w'):PeakPost A r s v d w (.returned (.bool false)) w':=⟨false,rfl,by simp [h],hb⟩
theorem Ya (n s v:Nat) (es:List EdgeD) (R:List Int) (S:List SC) (ro:List Int) (ao ra:Option Addr) (cap rc:Nat) (back:Bool) (d:Int) (w:World) (hg:Ak ⟨(n:Int),es⟩=0) (hok:HierOK es n R S ro) (hn:n<=12) (hes:es.length<=40) (hs:s<n) (hv:v<n)
  (hd:FarV (Bd back (Am es)) (s:Int) (v:Int) d) (hc:Cel w ao (Ay es)) (hR:Cel w ra (R.map Ai)):
  Calls Tryz.prog 94 #[.agg #[.int .i64 (n:Int),.slice ao es.length cap],.slice ra R.length rc,.int .i64 (s:Int),.int .i64 (v:Int),.bool back,.int .u64 d] w (PeakPost (Bd back (Am es)) (rk ro) s v d w):=by
 obtain ⟨W,hW⟩:∃W,W=w.alloc (Obj.cells #[.int .i64 (n:Int),.slice ao es.length cap] 24):=⟨_,rfl⟩;have hbw:Below w.heap.size w W:=by rw [hW];exact Below.of_al _ _
 have c0:W.cell? ⟨w.heap.size,0,none⟩=some (.int .i64 (n:Int)):=by rw [hW];go_simp
 have c1:W.cell? ⟨w.heap.size,1,none⟩=some (.slice ao es.length cap):=by rw [hW];go_simp
 have HW:=Bm0 hW;have HB:=Bm0 hbw;have hlen:=hok.len;obtain ⟨rb,rf,rfl,hcell⟩:=Ba4 (hR.go hbw) (by omega);have HRC:=Bm0 (fun (u:Nat) (hu:u<n)=>(by
  have h1:=hcell u (by omega);have h2:=hok.at1 (u:Int) ⟨by omega,by omega⟩;rw [Bn4,Bm5 (by omega)] at h2;rw [h1,Bo9 h2]:W.cell? ⟨rb,rf+u,none⟩=some (.int .i64 (rk ro (u:Int)))))
 have hnode:∀a b x,Bd back (Am es) a b x->Ac n a/\Ac n b:=(hok.hierB back).node;have HPK:=Bm0 (fun (x:Int) (l:List Int) (hl:∀u,u∈l↔noP n (rk ro) (v:Int) u) (d':List Int) (h1:rk ro (s:Int)<=rk ro (v:Int)) (h2:d<4611686018427387904) (h3:AllIs es n (s:Int) back l d')=>
  show (gD d' (v:Int)=d↔Peak (Bd back (Am es)) (rk ro) s v d) from Av3 hnode (fun a b x=>rel_arcs) hl ⟨by omega,by omega⟩ ⟨by omega,by omega⟩ h1 (hd.lt h2).1 (h3.farX (fun a b x k=>(hok.hierB back).pos a b x (rel_arcs.1 k).1) (fun k=>by have:=((hl _).1 k).2.2;omega) ⟨by omega,by omega⟩) h2)
 have HF:=Bm0 (fun (h:¬d<4611686018427387904) (k:Peak (Bd back (Am es)) (rk ro) s v d)=>show False from (hd.ge h).2 d k.2.1.1);have HLT:=Bm0 (fun (h:rk ro (v:Int)<rk ro (s:Int)) (k:Peak (Bd back (Am es)) (rk ro) s v d)=>show False by have:=k.1;omega);have hd0:=hd.in;have HA:=Bm0 (fun WX (hz:Below W.heap.size W WX) l no nc (hl:l.length<=1000000) (hno:Cel WX no (l.map Ai))=>Lv n s es ao no cap nc back l WX hg (Bm4 hn (by decide)) (Bm4 hes (by decide)) hs hl ((hc.go hbw).go hz) hno);have ks:=HRC.out s hs;have kv:=HRC.out v hv;have hs0:(0:Int)<=(s:Int):=by omega
 have hs1:(s:Int)<(n:Int):=by omega
 have hv0:(0:Int)<=(v:Int):=by omega
 have hv1:(v:Int)<(n:Int):=by omega
 have hRl:(R.length:Int)=(n:Int):=by omega
 have HOK:=Bm0 hok;generalize Bd back (Am es)=A at*;generalize rk ro=r at*;rw [show R.length=n from hlen];clear hRl hlen hcell hd hok hc hR hW hbw hnode;have f0:=fun p=>Ab p ks;have f1:=fun p=>Ab p kv
 by_cases hdF:d<4611686018427387904
 ·have hng:¬4611686018427387904<=d:=by omega
  by_cases hrk:r (v:Int)<r (s:Int)
  ·go_enter Tryz.func94,Tryz.ntmps94
   go_upto_region 1 with (fail)
   rw [<-HW.out];refine Af (by kernel_rfl) (by kernel_rfl) ?_
   repeat (go_big_quiet_step (fail))
   refine wpQuiet_nil ?_;rintro _ ⟨pq,rfl⟩;have HBq:=Bm0 (Ah W pq);generalize ext W pq=wq at HBq ⊢
   go_wp2
   refine bodyPost_ret (v:=.bool false) (by simp [results,Tryz.results94,go_sem];try rfl) rfl ?_;exact PeakPost.no (HLT.out hrk) (HB.out.st HBq.out)
  ·go_enter Tryz.func94,Tryz.ntmps94
   go_upto_region 1 with (fail)
   rw [<-HW.out];refine Af (by kernel_rfl) (by kernel_rfl) ?_
   repeat (go_big_quiet_step (fail))
   refine wpQuiet_nil ?_;rintro _ ⟨pq,rfl⟩;have HBq:=Bm0 (Ah W pq);generalize ext W pq=wq at HBq ⊢;clear f0 f1
   go_wp2
   go_loopg [13,14] n (fun gg v13 v14 wr=>∃k:Nat,k<=n/\n-k<=gg/\v14=.int .i64 k/\Aside (wr.ownsRow W.heap.size 3 1 v13 (noL r v k).length ((noL r v k).map Ai))/\Aside (Below W.heap.size W wr))
   case atStart=>exact ⟨0,Bm3 _,by omega,rfl,World.ownsRow_nil _ _ _ _,HBq.out⟩
   case round=>
    obtain ⟨k,hk,hgg,rfl,HR,HBr⟩:=hrel;have p0:=Bm1 HBr.out c0
    by_cases hlt:k<n
    ·have hlt3:(k:Int)<(n:Int):=by omega
     have hk0:(0:Int)<=(k:Int):=by omega
     have k1:=Bm1 HBr.out kv;have k2:=Bm1 HBr.out (HRC.out k hlt);have f1:=fun p=>Ab p k1;have f2:=fun p=>Ab p k2;have HL:=Bm0 (Ai4 r v k)
     by_cases hkv:k=v
     ·have HST:=Bm0 (Aw0 (r:=r) (v:=v) (k:=k) (fun h=>h.1 hkv))
      have hkb:((k:Int) != (v:Int))=false:=by simp;omega
      go_wp2
      refine Af (by kernel_rfl) (by kernel_rfl) ?_
      repeat (go_big_quiet_step (fail))
      refine wpQuiet_nil ?_;rintro _ ⟨ps,rfl⟩;have HBs:=Bm0 (Ah wr ps);generalize ext wr ps=ws at HBs ⊢
      go_wp2
      go_roundg (n-(k+1))
      case measure=>omega
      case rel=>exact ⟨k+1,by omega,Bm2 _,by go_num,by rw [HST.out];exact Ag HR.out HBs.out,HBr.out.st HBs.out⟩
     ·have hkb:((k:Int) != (v:Int))=true:=by simp;omega
      by_cases hgt:r (v:Int)<r (k:Int)
      ·have HST:=Bm0 (Be0 (r:=r) (v:=v) (k:=k) hkv hgt)
       go_wp2
       refine Af (by kernel_rfl) (by kernel_rfl) ?_
       repeat (go_big_quiet_step (fail))
       refine wpQuiet_nil ?_;rintro _ ⟨ps,rfl⟩;have HBs:=Bm0 (Ah wr ps);generalize ext wr ps=ws at HBs ⊢;have HRs:=Bm0 (Ag HR.out HBs.out);have HB2:=Bm0 (HBr.out.st HBs.out);generalize noL r v k=row at*
       go_wp2_with (at_builtin;go_must (refine Ca W.heap.size 3 _ 1 8 Gk Tryz.underlying25 _ row.length (row.map Ai) ⟨ws.heap.size,0,none⟩ 1 1 [.int .i64 (k:Int)] rfl rfl (World.ownsRow.alloc HRs.out _) (cell_one_new _ _ _) (Cd rfl) ⟨rfl,by decide,(by have:=HL.out;omega),(by have:=HL.out;omega),(by have:=HB2.out.size;simp;omega)⟩ ?_);intro g6 cap6 w6 hown6 hgrow6 hbl6 hat6 hlt6;(have HO6:=Bm0 hown6);(have HB6:=Bm0 ((HB2.out.al _).trans hbl6));clear hown6 hgrow6 hbl6 hat6 hlt6)
       go_roundg (n-(k+1))
       case measure=>omega
       case rel=>exact ⟨k+1,by omega,Bm2 _,by go_num,by rw [HST.out,Bp0,Bq1];exact HO6.out,HB6.out⟩
      ·have HST:=Bm0 (Aw0 (r:=r) (v:=v) (k:=k) (fun h=>hgt h.2))
       go_wp2
       refine Af (by kernel_rfl) (by kernel_rfl) ?_
       repeat (go_big_quiet_step (fail))
       refine wpQuiet_nil ?_;rintro _ ⟨ps,rfl⟩;have HBs:=Bm0 (Ah wr ps);generalize ext wr ps=ws at HBs ⊢
       go_wp2
       go_roundg (n-(k+1))
       case measure=>omega
       case rel=>exact ⟨k+1,by omega,Bm2 _,by go_num,by rw [HST.out];exact Ag HR.out HBs.out,HBr.out.st HBs.out⟩
    ·obtain rfl:n=k:=by omega
     have p1:=Bm1 HBr.out c1;obtain ⟨na,nc,rfl,hce⟩:=Cel.of_owns HR.out;have HAA:=Bm0 (HA.out wr HBr.out (noL r v n) na nc (by have:=Ai4 r v n;omega) hce);have HPP:=Bm0 (HPK.out 0 (noL r v n) (fun u=>Be1));have hls:r (s:Int)<=r (v:Int):=by omega
     unfold AllPost at HAA
     go_wp2_with (go_at_call 71;refine HAA.out.mono ?_;rintro e w3 ⟨b3,d3,rfl,h1,h2,h3,h4⟩;(have HP3:=Bm0 (HPP.out d3 hls hdF h4));(have k3:=(show w3.cell? ⟨b3,v,none⟩=some (.int .u64 (gD d3 (v:Int))) by (obtain ⟨_,_,e9,h9⟩:=h1 v (.int .u64 (gD d3 (v:Int))) (by rw [Bn9];unfold gD;rw [Bn4,Bm6,Bm5 (by rw [h4.1];exact hv)];rfl));cases e9;rw [Nat.zero_add] at h9;exact h9));(have HB3:=Bm0 h2);clear h1 h2 h3 h4)
     refine bodyPost_ret (v:=.bool (gD d3 (v:Int)==d)) (by simp [results,Tryz.results94,go_sem];try rfl) rfl ?_;refine ⟨_,rfl,?_,HB.out.st (HBr.out.st HB3.out)⟩;rw [<-HP3.out];simp
 ·have hge:4611686018427387904<=d:=by omega
  go_enter Tryz.func94,Tryz.ntmps94
  go_upto_region 1 with (fail)
  rw [<-HW.out];refine Af (by kernel_rfl) (by kernel_rfl) ?_
  repeat (go_big_quiet_step (fail))
  refine wpQuiet_nil ?_;rintro _ ⟨pq,rfl⟩;have HBq:=Bm0 (Ah W pq);generalize ext W pq=wq at HBq ⊢
  go_wp2
  refine bodyPost_ret (v:=.bool false) (by simp [results,Tryz.results94,go_sem];try rfl) rfl ?_;exact PeakPost.no (HF.out hdF) (HB.out.st HBq.out)
end
section
open Ch
end
section
open Go Go.Proofs Go.RowKit Go.Shelf Ch
section
variable {A:Int->Int->Int->Prop} {r:Int->Int} {s t d:Int} {k:Nat} {l:List Int}
end
theorem Ls {wr:World} {b n:Nat} {d:List Int} (h:Cel wr (some ⟨b,0,none⟩) (d.map Cb)) (hl:d.length=n) {u:Nat} (hu:u<n):wr.cell? ⟨b,u,none⟩=some (.int .u64 (gD d (u:Int))):=by
 obtain ⟨b',o',e,h1⟩:=h u (.int .u64 (gD d (u:Int))) (by
  rw [Bn9];unfold gD;rw [Bn4,Bm6,Bm5 (by omega)];rfl)
 cases e
 rw [Nat.zero_add] at h1;exact h1
theorem Vv (n s v:Nat) (es:List EdgeD) (R:List Int) (S:List SC) (ro:List Int) (ao ra:Option Addr) (cap rc:Nat) (back:Bool) (d:Int) (hg:Ak ⟨(n:Int),es⟩=0) (hok:HierOK es n R S ro) (hn:n<=12) (hes:es.length<=40) (hs:s<n) (hv:v<n)
  (hd:FarV (Bd back (Am es)) (s:Int) (v:Int) d):∃b:Bool,(b=true↔Peak (Bd back (Am es)) (rk ro) s v d)/\∀w,Cel w ao (Ay es)->Cel w ra (R.map Ai)->
  Calls Tryz.prog 94 #[.agg #[.int .i64 (n:Int),.slice ao es.length cap],.slice ra R.length rc,.int .i64 (s:Int),.int .i64 (v:Int),.bool back,.int .u64 d] w fun e w'=>e=.returned (.bool b)/\Below w.heap.size w w':=by
 classical
 refine ⟨decide (Peak (Bd back (Am es)) (rk ro) s v d),by simp,fun w hc hR=>?_⟩;refine (Ya n s v es R S ro ao ra cap rc back d w hg hok hn hes hs hv hd hc hR).mono ?_;rintro e w' ⟨b,rfl,h1,h2⟩;refine ⟨?_,h2⟩
 congr 2
 cases b
 ·exact (decide_eq_false fun k=>by cases h1.2 k).symm
 ·exact (decide_eq_true (h1.1 rfl)).symm
end
section
namespace Ro
open Go Go.Proofs Go.RowKit Hp Ch
def Ew (n:Nat) (es:List EdgeD) (s t:Int) (l:List Int) (x k:Int):Prop:=
 (k=0/\Ac n s/\Ac n t/\Dist (Am es) s t x/\x<=1152921504606846976/\∃D,ToD es n t D/\RP es D s l)\/(k≠0/\l=[]/\x=0/\DistIs n (Am es) s t 0 k)
def Ku (n:Nat) (es:List EdgeD) (s t:Int) (w:World) (e:Ending) (w':World):Prop:=
 ∃(la:Option Addr) (l:List Int) (lc:Nat) (x k:Int),e=.returned (.tuple #[.agg #[.slice la l.length lc,.int .u64 x],.int .i64 k])/\Cel w' la (l.map Ai)/\Below w.heap.size w w'/\Ew n es s t l x k/\∀y,la=some y->w.heap.size<=y.block
end Ro
end
section
open Go Go.Proofs Go.RowKit Go.Shelf Hp Ch
section
variable {w w':World} {b n:Nat} {f:Int->Option Int}
end
end
section
open Go Go.Proofs Go.RowKit Go.Shelf Hp Ch
section
variable {W2 wr wr':World} {ob hb sb kb n t:Nat} {es:List EdgeD} {lb:List LB} {fb:Nat} {dd:List Int} {B:Nat} {asked asked':List Int}
end
end
end Go.Proofs.YteaaapdjplbljaaGreat
