/- Parts; no condition. -/
import Derived.Test.YteaaapdjplbljaaGreatVc31
set_option linter.unusedVariables false
set_option linter.unusedSimpArgs false
set_option linter.unnecessarySimpa false
set_option maxRecDepth 100000
set_option maxHeartbeats 8000000
namespace Go.Proofs.YteaaapdjplbljaaGreat
section
namespace Ns
structure Seg (a b:Nat) (l1 l2:List Int):Prop where
 len:l2.length=l1.length
 out:∀k,k<a\/b<=k->l2[k]? =l1[k]?
 perm:l2.Perm l1
 pres:∀P:Int->Prop,(∀k x,a<=k->k<b->l1[k]? =some x->P x)->∀k x,a<=k->k<b->l2[k]? =some x->P x
theorem Seg.refl (a b:Nat) (l:List Int):Seg a b l l:=⟨rfl,fun _ _=>rfl,List.Perm.refl _,fun _ h=>h⟩
theorem Seg.trans {a b:Nat} {l1 l2 l3:List Int} (h:Seg a b l1 l2) (k:Seg a b l2 l3):Seg a b l1 l3:=
 ⟨k.len.trans h.len,fun i hi=>(k.out i hi).trans (h.out i hi),k.perm.trans h.perm,fun P hp=>k.pres P (h.pres P hp)⟩
theorem Seg.mono {a b a' b':Nat} {l1 l2:List Int} (h:Seg a b l1 l2) (h1:a'<=a) (h2:b<=b'):Seg a' b' l1 l2:=
 ⟨h.len,fun k hk=>h.out k (by omega),h.perm,fun P hp k x hk1 hk2 hx=>by
  by_cases hin:a<=k/\k<b
  ·exact h.pres P (fun i y hi1 hi2 hy=>hp i y (by omega) (by omega) hy) k x hin.1 hin.2 hx
  ·rw [h.out k (by omega)] at hx
   exact hp k x hk1 hk2 hx⟩
end Ns
end
section
namespace Ns
open Go Go.Proofs Go.RowKit Go.Shelf Hp
def Ao4 (a b:Int):Int:=if a<b then -1 else if b<a then 1 else 0
theorem Al4 (x:Int) (w:World):Calls Tryz.prog 149 #[.int .u64 x] w fun e w'=>e=.returned (.bool false)/\w'=w:=by
 go_enter Tryz.func149,Tryz.ntmps149
 go_wp2
 go_ret
 exact ⟨by simp,rfl⟩
theorem Zc (x y:Int) (w:World):Calls Tryz.prog 92 #[.int .u64 x,.int .u64 y] w fun e w'=>e=.returned (.int .i64 (Ao4 x y))/\w'=w:=by
 have HN:=Bi5 Al4;unfold Ao4
 by_cases h1:x<y
 ·rw [if_pos h1]
  go_enter Tryz.func92,Tryz.ntmps92
  go_wp2_with (go_at_call 149;refine (HN.out _ _).mono ?_;rintro e w1 ⟨rfl,rfl⟩)
  go_ret
  exact ⟨rfl,rfl⟩
 ·rw [if_neg h1]
  by_cases h2:y<x
  ·rw [if_pos h2]
   go_enter Tryz.func92,Tryz.ntmps92
   go_wp2_with (go_at_call 149;refine (HN.out _ _).mono ?_;rintro e w1 ⟨rfl,rfl⟩)
   go_ret
   exact ⟨rfl,rfl⟩
  ·rw [if_neg h2]
   go_enter Tryz.func92,Tryz.ntmps92
   go_wp2_with (go_at_call 149;refine (HN.out _ _).mono ?_;rintro e w1 ⟨rfl,rfl⟩)
   go_ret
   exact ⟨rfl,rfl⟩
abbrev RowI (w:World) (base g N cp:Nat) (l:List Int):Prop:=w.ownsRow base 3 1 (.slice (some ⟨g,0,none⟩) N cp) N (l.map Aj)
theorem RowI.len {w:World} {base g N cp:Nat} {l:List Int} (h:RowI w base g N cp l):l.length=N:=by have:=h.1;simpa using this
theorem RowI.cell {w:World} {base g N cp:Nat} {l:List Int} (h:RowI w base g N cp l) {i:Nat} {x:Int} (hx:l[i]? =some x):w.cell? ⟨g,i,none⟩=some (.int .i64 x):=by
 have hi:=(Bj8.1 hx).1;rw [h.cellAt i (by have:=h.len;omega),Bk4,hx];rfl
theorem RowI.put {w:World} {base g N cp:Nat} {l:List Int} (h:RowI w base g N cp l) (i:Nat) (x:Int):RowI (w.setCell ⟨g,i,none⟩ (.int .i64 x)) base g N cp (l.set i x):=by
 have:=(h.stored i (.int .i64 x)).1;rw [<-List.map_set (f:=Aj)] at this;exact this
theorem RowI.base {w:World} {base g N cp:Nat} {l:List Int} (h:RowI w base g N cp l):base<=g/\g<w.heap.size:=h.lt g rfl
end Ns
end
section
open Go Go.Proofs Go.RowKit
section
variable {a:Act} {P:Program} {Q:Exit->Act->World->Prop} {w:World}
theorem Fc {id:Nat} {l:List Oper} (n:Nat) (hln:l.length=n) (R:Nat->Value->World->Prop) (hm:P.follows .mixedOrders=true) (hB:Oy l a.tmps.size=true)
  (hmono:∀i v w w',Below w.heap.size w w'->R i v w->R i v w')
  (hop:Bx (fun i o=>∀(act:Act) w',Below w.heap.size w w'->(∀j,Cc l i j=true->R j (act.tmps.getD (Ae l j) undef) w')->(∀t,Kk l n t=true->act.tmps.getD t undef=a.tmps.getD t undef)->
   ∀K:Act->World->Prop,(∀v w'',Below w'.heap.size w' w''->R i v w''->K (act.put o.dst v) w'')->o.wp P act w' K Q) 0 l)
  (hend:∀(vs:Nat->Value) w',Below w.heap.size w w'->(∀i,i<n->R i (vs i) w')->Q .normal (Al a (Ae l) vs n) w'):(Code.region id l.toArray true).wp P Q a w:=by
 subst hln;have hg:=fun i (hi:i<l.length)=>Bd hB (Bj0 hi);have hD:∀i,i<l.length->Ae l i<a.tmps.size:=fun i hi=>(hg i hi).2.2.1;have hinj:∀i j,i<l.length->j<l.length->Ae l i=Ae l j->i=j:=fun i j hi hj e=>by
  rcases Nat.lt_trichotomy i j with k|k|k
  ·exact absurd e ((hg j hj).2.2.2.2 i k)
  ·exact k
  ·exact absurd e.symm ((hg i hi).2.2.2.2 j k)
 have hon:∀vs j,j<l.length->(Al a (Ae l) vs l.length).tmps.getD (Ae l j) undef=vs j:=fun vs j hj=>by
  rw [Bm0,Gg hinj hj (hD j hj)];rfl
 have hoff:∀vs t,Kk l l.length t=true->(Al a (Ae l) vs l.length).tmps.getD t undef=a.tmps.getD t undef:=fun vs t ht=>by
  rw [Bm0,Bm0,Et (fun i hi e=>by
   have:=List.all_eq_true.1 ht i (Bl9.2 hi);simp [e] at this)]
 refine Ez (fun i v g _ w=>g=[]/\R i v w) hm hB (fun i v g vs w w' hb h=>⟨h.1,hmono i v w w' hb h.2⟩) (fun i v g vs vs' w _ h=>h) ?_ (fun vs gs w' hb hR _ _=>hend vs w' hb (fun i hi=>(hR i hi).2));have key:∀(k:Nat) (ll:List Oper),(∀i o,ll[i]? =some o->l[k+i]? =some o/\k+i<l.length)->Bx (fun i o=>∀(act:Act) w',Below w.heap.size w w'->(∀j,Cc l i j=true->R j (act.tmps.getD (Ae l j) undef) w')->(∀t,Kk l l.length t=true->act.tmps.getD t undef=a.tmps.getD t undef)->
   ∀K:Act->World->Prop,(∀v w'',Below w'.heap.size w' w''->R i v w''->K (act.put o.dst v) w'')->o.wp P act w' K Q) k ll->Bx (fun i o=>∀(vs:Nat->Value) w',Below w.heap.size w w'->(∀j,Cc l i j=true->∃g:List Nat,g=[]/\R j (vs j) w')->
   ∀K:Act->World->Prop,(∀v g w'',Below w'.heap.size w' w''->(g=[]/\R i v w'')->(∀k∈g,w'.heap.size<=k/\k<w''.heap.size)->K ((Al a (Ae l) vs l.length).put o.dst v) w'')->o.wp P (Al a (Ae l) vs l.length) w' K Q) k ll:=by
  intro k ll
  induction ll generalizing k with
  |nil=>intro _ _;trivial
  |cons o ll ih=>
   intro hll h;refine ⟨fun vs w' hb hd K hK=>?_,ih (k+1) (fun i o' hi=>by
    have:=hll (i+1) o' (by simpa using hi);rw [show k+1+i=k+(i+1) by omega];exact this) h.2⟩
   obtain ⟨h0,h1⟩:=hll 0 o rfl;rw [Nat.add_zero] at h0 h1;refine h.1 _ w' hb (fun j hj=>?_) (fun t ht=>hoff vs t ht) K (fun v w'' hb2 hr=>hK v [] w'' hb2 ⟨rfl,hr⟩ (fun _ h=>nomatch h));have hj2:j<l.length:=by
    have h3:=(Bd hB h0).2.2.2.1;unfold Cc at hj;simp only [h0] at hj;obtain ⟨e,he,k2⟩:=List.any_eq_true.1 hj;simp only [Bool.and_eq_true,beq_iff_eq] at k2;have:=h3 e (Array.mem_toList_iff.1 he) k2.1;omega
   rw [hon vs j hj2];exact (hd j hj).choose_spec.2
 exact key 0 l (fun i o hi=>by
  have hl:=(Bj8.1 hi).1;rw [Nat.zero_add];exact ⟨hi,hl⟩) hop
end
end
section
open Go Go.Proofs Go.RowKit
section
variable {a:Act} {P:Program} {Q:Exit->Act->World->Prop} {w:World}
def Ua (l:List Oper) (sz:Nat):Bool:=(List.range l.length).all fun i=>match l[i]? with
 |none=>false
 |some o=>o.dst.isSome&&decide (Ae l i<sz)&&(o.after.all fun e=>!Region.binds .any e||decide (e.on<i))&&(List.range i).all fun j=>decide (Ae l j≠Ae l i)
theorem Dv {l:List Oper} {sz:Nat} (h:Ua l sz=true) {i:Nat} {o:Oper} (hi:l[i]? =some o):
  o.dst=some (Ae l i)/\Ae l i<sz/\(∀e∈o.after,Region.binds .any e=true->e.on<i)/\∀j,j<i->Ae l j≠Ae l i:=by
 have hlt:i<l.length:=(Bj8.1 hi).1;unfold Ua at h;have h1:=List.all_eq_true.1 h i (Bl9.2 hlt);rw [hi] at h1;clear h;simp only [Bool.and_eq_true] at h1;obtain ⟨⟨⟨h2,h4⟩,h5⟩,h6⟩:=h1;refine ⟨?_,of_decide_eq_true h4,fun e he hb=>?_,fun j hj=>?_⟩
 ·obtain ⟨d,hd⟩:=Option.isSome_iff_exists.1 h2
  unfold Ae;rw [hi];simp [hd]
 ·have h7:=Array.all_eq_true_iff_forall_mem.1 h5 e he
  rw [hb] at h7
  simpa using h7
 ·have h7:=List.all_eq_true.1 h6 j (Bl9.2 hj)
  exact of_decide_eq_true h7
abbrev Ta (l:List Oper) (act:Act) (o:Oper) (b:Bool):Prop:=Region.wanted o (yielded l.toArray act.tmps)=b
theorem Ab {l:List Oper} {act:Act} {o:Oper} (h:o.guard=none):Ta l act o true:=by unfold Ta Region.wanted;rw [h]
def Av6 (l:List Oper) (a:Act) (w:World) (R:Nat->Value->World->Prop) (listed:Array Bool) (a':Act) (w':World):Prop:=
 listed.size=l.length/\(∀i o,l[i]? =some o->listed.getD i false=true->∀e∈o.after,Region.binds .any e=true->listed.getD e.on false=true)/\
  ∃(vs:Nat->Value),a'=Al a (Ae l) vs l.length/\Below w.heap.size w w'/\(∀i,i<l.length->listed.getD i false=true->R i (vs i) w')
theorem Lo {id:Nat} {l:List Oper} (n:Nat) (hln:l.length=n) (R:Nat->Value->World->Prop) (hm:P.follows .mixedOrders=true) (hB:Ua l a.tmps.size=true)
  (hmono:∀i v w w',Below w.heap.size w w'->R i v w->R i v w')
  (hop:Bx (fun i o=>∀(act:Act) w',Below w.heap.size w w'->(∀j,Cc l i j=true->R j (act.tmps.getD (Ae l j) undef) w')->(∀t,Kk l n t=true->act.tmps.getD t undef=a.tmps.getD t undef)->
   ∀K:Act->World->Prop,(∀v w'',Below w'.heap.size w' w''->R i v w''->K (act.put o.dst v) w'')->(Ta l act o true/\o.wp P act w' K Q)\/(Ta l act o false/\K (act.put o.dst undef) w')) 0 l)
  (hend:∀(vs:Nat->Value) w',Below w.heap.size w w'->(∀i,i<n->R i (vs i) w')->Q .normal (Al a (Ae l) vs n) w'):(Code.region id l.toArray true).wp P Q a w:=by
 subst hln;have hg:=fun i (hi:i<l.length)=>Dv hB (Bj0 hi);have hD:∀i,i<l.length->Ae l i<a.tmps.size:=fun i hi=>(hg i hi).2.1;have hinj:∀i j,i<l.length->j<l.length->Ae l i=Ae l j->i=j:=fun i j hi hj e=>by
  rcases Nat.lt_trichotomy i j with k|k|k
  ·exact absurd e ((hg j hj).2.2.2 i k)
  ·exact k
  ·exact absurd e.symm ((hg i hi).2.2.2 j k)
 have hord:∀i o,l[i]? =some o->∀e∈o.after,Region.binds .any e=true->e.on<i:=fun i o hi=>(Dv hB hi).2.2.1;have hon:∀vs j,j<l.length->(Al a (Ae l) vs l.length).tmps.getD (Ae l j) undef=vs j:=fun vs j hj=>by
  rw [Bm0,Gg hinj hj (hD j hj)];rfl
 have hoff:∀vs t,Kk l l.length t=true->(Al a (Ae l) vs l.length).tmps.getD t undef=a.tmps.getD t undef:=fun vs t ht=>by
  rw [Bm0,Bm0,Et (fun i hi e=>by
   have:=List.all_eq_true.1 ht i (Bl9.2 hi);simp [e] at this)]
 have ha:=Hr (a:=a) (a':=a) hinj rfl rfl hD (fun _ _=>rfl);refine Eo hm (Av6 l a w R) ?_ ?_ ?_
 ·have hz:∀i,¬(Array.replicate l.toArray.size false).getD i false=true:=fun i h=>by
   rw [getD_replicate_false] at h
   cases h
  exact ⟨by simp,fun i o _ h=>absurd h (hz i),_,ha,(Below.refl _ w).drew,fun i _ h=>absurd h (hz i)⟩
 ·rintro listed a' w' i ⟨hsz,hcl,vs,rfl,hb,hR⟩ hi
  obtain ⟨h1,o,h2,h3⟩:=mem_ready.1 hi;have h2':l[i]? =some o:=by simpa using h2
  have hlt:i<l.length:=(Bj8.1 h2').1;have hun:∀j,listed.getD j false=true->j≠i:=by
   rintro j hj rfl;have:=getD_both h1;rw [this] at hj
   cases hj
  have hd:=(Dv hB h2').1;have hvi:∀v,Hl vs i v i=v:=fun v=>if_pos rfl;have hvn:∀v j,j≠i->Hl vs i v j=vs j:=fun v j hj=>if_neg hj;have hset:∀j,(listed.setIfInBounds i true).getD j false=true->j=i\/(j≠i/\listed.getD j false=true):=fun j hl=>by
   by_cases e:j=i
   ·exact .inl e
   ·rw [getD_set_ne false (fun h=>e h.symm)] at hl
    exact .inr ⟨e,hl⟩
  have hkeep:∀j,listed.getD j false=true->(listed.setIfInBounds i true).getD j false=true:=fun j hl=>by
   rw [getD_set_ne false (fun h=>hun j hl h.symm)];exact hl
  have hK:∀(v:Value) (w'':World),Below w'.heap.size w' w''->R i v w''->Av6 l a w R (listed.setIfInBounds i true) ((Al a (Ae l) vs l.length).put o.dst v) w'':=by
   intro v w'' hb2 hr;refine ⟨by simp [hsz],?_,Hl vs i v,by rw [hd];exact Gw hinj hD hlt,hb.st hb2,?_⟩
   ·intro j oj hj hl e he hb'
    rcases hset j hl with rfl|⟨hji,hl'⟩
    ·rw [h2'] at hj
     cases hj
     exact hkeep _ (h3 e he hb')
    ·exact hkeep _ (hcl j oj hj hl' e he hb')
   ·intro j hj hl
    rcases hset j hl with rfl|⟨hji,hl'⟩
    ·rw [hvi]
     exact hr
    ·rw [hvn v j hji]
     exact hmono _ _ _ _ hb2 (hR j hj hl')
  have hop':=Ej l 0 hop i o h2';rw [Nat.zero_add] at hop';have hdeps:∀j,Cc l i j=true->R j ((Al a (Ae l) vs l.length).tmps.getD (Ae l j) undef) w':=by
   intro j hj;unfold Cc at hj;simp only [h2'] at hj;obtain ⟨e,he,k2⟩:=List.any_eq_true.1 hj;simp only [Bool.and_eq_true,beq_iff_eq] at k2;have h5:=hord i o h2' e (Array.mem_toList_iff.1 he) k2.1;have h4:=h3 e (Array.mem_toList_iff.1 he) k2.1;rw [k2.2] at h5 h4;rw [hon vs j (by omega)];exact hR j (by omega) h4
  unfold wpOp;simp only [h2]
  rcases hop' _ w' hb hdeps (fun t ht=>hoff vs t ht) (Av6 l a w R (listed.setIfInBounds i true)) hK with ⟨hw,h⟩|⟨hw,h⟩
  ·rw [if_pos hw]
   exact .inl h
  ·rw [if_neg (by rw [show Region.wanted o (yielded l.toArray (Al a (Ae l) vs l.length).tmps)=false from hw];simp)]
   exact h
 ·rintro listed a' w' ⟨hsz,hcl,vs,rfl,hb,hR⟩ hr
  have hall:∀d i,i=d->i<l.length->listed.getD i false=true:=by
   intro d
   induction d using Nat.strongRecOn with
   |_ d ih=>
    rintro i rfl hi
    cases hl:listed.getD i false with
    |true=>rfl
    |false=>
     have hin:i∈Region.ready .any l.toArray listed:=by
      refine mem_ready.2 ⟨Go.getD_in (by omega) hl,l[i],by simp [hi],fun e he hb'=>?_⟩;have h6:=hord i l[i] (Bj0 hi) e he hb';exact ih e.on h6 e.on rfl (by omega)
     rw [hr] at hin
     cases hin
  exact hend vs w' hb (fun i hi=>hR i hi (hall i i rfl hi))
end
end
section
open Go Go.Proofs Go.RowKit
section
variable {a:Act} {P:Program} {Q:Exit->Act->World->Prop} {w:World}
def Ab4 (l:List Oper) (n:Nat) (a:Act) (w:World) (R:Nat->Value->List Nat->World->Prop) (Qn:Act->World->Prop) (listed:Array Bool) (a':Act) (w':World):Prop:=
 listed.size=n+1/\((listed.getD n false=false/\(∀i o,i<n->l[i]? =some o->listed.getD i false=true->∀e∈o.after,Region.binds .any e=true->listed.getD e.on false=true)/\
  ∃(vs:Nat->Value) (gs:Nat->List Nat),a'=Al a (Ae l) vs n/\Below w.heap.size w w'/\(∀i,i<n->listed.getD i false=true->R i (vs i) (gs i) w')/\(∀i,i<n->listed.getD i false=true->∀k∈gs i,w.heap.size<=k/\k<w'.heap.size)/\
   ∀i j k,i<n->j<n->listed.getD i false=true->listed.getD j false=true->i≠j->k∈gs i->k∉gs j)\/((∀i,i<n+1->listed.getD i false=true)/\Qn a' w'))
theorem Br {id:Nat} {l:List Oper} (n:Nat) (st:Oper) (hst:l=l.take n++[st]) (hln:(l.take n).length=n) (R:Nat->Value->List Nat->World->Prop) (hm:P.follows .mixedOrders=true) (hB:Ua (l.take n) a.tmps.size=true) (hS:Ox l n st=true)
  (hmono:∀i v g w w',Below w.heap.size w w'->R i v g w->R i v g w')
  (hop:Bx (fun i o=>∀(act:Act) (gs:Nat->List Nat) w',Below w.heap.size w w'->(∀j,Cc l i j=true->R j (act.tmps.getD (Ae l j) undef) (gs j) w')->(∀j j' k,Cc l i j=true->Cc l i j'=true->j≠j'->k∈gs j->k∉gs j')->(∀t,Kk l n t=true->act.tmps.getD t undef=a.tmps.getD t undef)->
   ∀K:Act->World->Prop,(∀v g w'',Below w'.heap.size w' w''->R i v g w''->(∀k∈g,w'.heap.size<=k/\k<w''.heap.size)->K (act.put o.dst v) w'')->(Ta l act o true/\o.wp P act w' K Q)\/(Ta l act o false/\K (act.put o.dst undef) w')) 0 (l.take n))
  (hend:∀(vs:Nat->Value) (gs:Nat->List Nat) act w',Below w.heap.size w w'->(∀i,i<n->R i (vs i) (gs i) w')->(∀i k,i<n->k∈gs i->w.heap.size<=k/\k<w'.heap.size)->(∀i j k,i<n->j<n->i≠j->k∈gs i->k∉gs j)->(∀j,j<n->act.tmps.getD (Ae l j) undef=vs j)->(∀t,Kk l n t=true->act.tmps.getD t undef=a.tmps.getD t undef)->act=Al a (Ae l) vs n->st.wp P act w' (fun a' w'=>Q .normal a' w') Q):(Code.region id l.toArray true).wp P Q a w:=by
 have hlen:l.length=n+1:=by rw [hst,Bl5,hln];rfl
 have hat:∀i,i<n->l[i]? =(l.take n)[i]?:=fun i hi=>by rw [Bn6 hi]
 have hda:∀i,i<n->Ae l i=Ae (l.take n) i:=fun i hi=>by unfold Ae;rw [hat i hi]
 have hatn:l[n]? =some st:=by rw [hst,Bm3 (by omega),hln,Nat.sub_self];rfl
 have hg:=fun i (hi:i<n)=>Dv hB (Bj0 (show i<(l.take n).length by omega));have hD:∀i,i<n->Ae l i<a.tmps.size:=fun i hi=>by rw [hda i hi];exact (hg i hi).2.1
 have hinj:∀i j,i<n->j<n->Ae l i=Ae l j->i=j:=fun i j hi hj e=>by
  rw [hda i hi,hda j hj] at e
  rcases Nat.lt_trichotomy i j with k|k|k
  ·exact absurd e ((hg j hj).2.2.2 i k)
  ·exact k
  ·exact absurd e.symm ((hg i hi).2.2.2 j k)
 have hord:∀i o,i<n->l[i]? =some o->∀e∈o.after,Region.binds .any e=true->e.on<i:=fun i o hi ho=>(Dv hB ((hat i hi).symm.trans ho)).2.2.1;have hon:∀vs j,j<n->(Al a (Ae l) vs n).tmps.getD (Ae l j) undef=vs j:=fun vs j hj=>by
  rw [Bm0,Gg hinj hj (hD j hj)];rfl
 have hoff:∀vs t,Kk l n t=true->(Al a (Ae l) vs n).tmps.getD t undef=a.tmps.getD t undef:=fun vs t ht=>by
  rw [Bm0,Bm0,Et (fun i hi e=>by
   have:=List.all_eq_true.1 ht i (Bl9.2 hi);simp [e] at this)]
 unfold Ox at hS;simp only [Bool.and_eq_true] at hS;obtain ⟨⟨s1,s2⟩,s3⟩:=hS;have hsd:∀e∈st.after,Region.binds .any e=true->e.on<n:=fun e he hb=>by
  rw [Array.all_eq_true_iff_forall_mem] at s2;have:=s2 e he;rw [hb] at this
  simpa using this
 have hwait:∀i,i<n->∃j,i<j/\j<=n/\∃o,l[j]? =some o/\∃e∈o.after,Region.binds .any e=true/\e.on=i:=fun i hi=>by
  have k1:=List.all_eq_true.1 s3 i (Bl9.2 hi);obtain ⟨j,hj,k2⟩:=List.any_eq_true.1 k1;simp only [Bool.and_eq_true,decide_eq_true_eq] at k2;obtain ⟨o,ho,k3⟩:=Region.waitsFor_spec k2.2;exact ⟨j,k2.1,by have:=Bl9.1 hj;omega,o,by simpa using ho,k3⟩
 have ha:=Hr (a:=a) (a':=a) hinj rfl rfl hD (fun _ _=>rfl);refine Eo hm (Ab4 l n a w R (Q .normal)) ?_ ?_ ?_
 ·have hz:∀i,¬(Array.replicate l.toArray.size false).getD i false=true:=fun i k=>by
   rw [getD_replicate_false] at k
   cases k
  refine ⟨by simp [hlen],.inl ⟨?_,fun i o _ _ k=>absurd k (hz i),_,fun _=>[],ha,(Below.refl _ w).drew,fun i _ k=>absurd k (hz i),fun i _ k=>absurd k (hz i),fun i j k _ _ h=>absurd h (hz i)⟩⟩
  cases k:(Array.replicate l.toArray.size false).getD n false with
  |false=>rfl
  |true=>exact absurd k (hz n)
 ·rintro listed a' w' i ⟨hsz,h1|⟨hall,-⟩⟩ hi
  ·obtain ⟨hn0,hcl,vs,gs,rfl,hb,hR,hF,hN⟩:=h1
   obtain ⟨h1,o,h2,h3⟩:=mem_ready.1 hi;have h2':l[i]? =some o:=by simpa using h2
   have hlt:i<n+1:=by have:=(Bj8.1 h2').1;omega
   have hun:∀j,listed.getD j false=true->j≠i:=by
    rintro j hj rfl;have:=getD_both h1;rw [this] at hj
    cases hj
   by_cases hin:i<n
   ·have h2h:(l.take n)[i]? =some o:=(hat i hin).symm.trans h2'
    have hdo:o.dst=some (Ae l i):=by rw [hda i hin];exact (Dv hB h2h).1
    have hset:∀j,(listed.setIfInBounds i true).getD j false=true->j=i\/(j≠i/\listed.getD j false=true):=fun j hl=>by
     by_cases e:j=i
     ·exact .inl e
     ·rw [getD_set_ne false (fun k=>e k.symm)] at hl
      exact .inr ⟨e,hl⟩
    have hkeep:∀j,listed.getD j false=true->(listed.setIfInBounds i true).getD j false=true:=fun j hl=>by
     rw [getD_set_ne false (fun k=>hun j hl k.symm)];exact hl
    have hK:∀(v:Value) (g:List Nat) (w'':World),Below w'.heap.size w' w''->R i v g w''->(∀k∈g,w'.heap.size<=k/\k<w''.heap.size)->Ab4 l n a w R (Q .normal) (listed.setIfInBounds i true) ((Al a (Ae l) vs n).put o.dst v) w'':=by
     intro v g w'' hb2 hr hf;obtain ⟨gs2,hgs⟩:∃gs2:Nat->List Nat,gs2=fun j=>if j=i then g else gs j:=⟨_,rfl⟩
     have hgi:gs2 i=g:=by rw [hgs];exact if_pos rfl
     have hgn:∀j,j≠i->gs2 j=gs j:=fun j hj=>by rw [hgs];exact if_neg hj
     have hsz2:=hb2.size;refine ⟨by simp [hsz],.inl ⟨by rw [getD_set_ne false (by omega)];exact hn0,?_,Hl vs i v,gs2,by rw [hdo];exact Gw hinj hD hin,hb.st hb2,?_,?_,?_⟩⟩
     ·intro j oj hjn hj hl e he hb'
      rcases hset j hl with rfl|⟨hji,hl'⟩
      ·rw [h2'] at hj
       cases hj
       exact hkeep _ (h3 e he hb')
      ·exact hkeep _ (hcl j oj hjn hj hl' e he hb')
     ·intro j hj hl
      rcases hset j hl with rfl|⟨hji,hl'⟩
      ·rw [show Hl vs j v j=v from if_pos rfl,hgi]
       exact hr
      ·rw [show Hl vs i v j=vs j from if_neg hji,hgn j hji]
       exact hmono _ _ _ _ _ hb2 (hR j hj hl')
     ·intro j hj hl k hk
      rcases hset j hl with rfl|⟨hji,hl'⟩
      ·rw [hgi] at hk
       have:=hf k hk;have:=hb.size;exact ⟨by omega,by omega⟩
      ·rw [hgn j hji] at hk
       have:=hF j hj hl' k hk;exact ⟨this.1,by omega⟩
     ·intro j1 j2 k hj1 hj2 hl1 hl2 hne hk1 hk2
      rcases hset j1 hl1 with rfl|⟨hji1,hl1'⟩<;>rcases hset j2 hl2 with e2|⟨hji2,hl2'⟩
      ·exact absurd e2.symm hne
      ·rw [hgi] at hk1
       rw [hgn j2 hji2] at hk2;have:=hf k hk1;have:=hF j2 hj2 hl2' k hk2;omega
      ·subst e2
       rw [hgi] at hk2;rw [hgn j1 hji1] at hk1;have:=hf k hk2;have:=hF j1 hj1 hl1' k hk1;omega
      ·rw [hgn j1 hji1] at hk1
       rw [hgn j2 hji2] at hk2;exact hN j1 j2 k hj1 hj2 hl1' hl2' hne hk1 hk2
    have hopi:=Ej (l.take n) 0 hop i o h2h;rw [Nat.zero_add] at hopi;have hdl:∀j,Cc l i j=true->j<i/\listed.getD j false=true:=by
     intro j hj;unfold Cc at hj;simp only [h2'] at hj;obtain ⟨e,he,k2⟩:=List.any_eq_true.1 hj;simp only [Bool.and_eq_true,beq_iff_eq] at k2;have h5:=hord i o hin h2' e (Array.mem_toList_iff.1 he) k2.1;have h4:=h3 e (Array.mem_toList_iff.1 he) k2.1;rw [k2.2] at h5 h4;exact ⟨h5,h4⟩
    have hdeps:∀j,Cc l i j=true->R j ((Al a (Ae l) vs n).tmps.getD (Ae l j) undef) (gs j) w':=by
     intro j hj;obtain ⟨h5,h4⟩:=hdl j hj;rw [hon vs j (by omega)];exact hR j (by omega) h4
    have hdis:∀j j' k,Cc l i j=true->Cc l i j'=true->j≠j'->k∈gs j->k∉gs j':=fun j j' k hj hj' hne hk=>by
     obtain ⟨h5,h4⟩:=hdl j hj;obtain ⟨h6,h7⟩:=hdl j' hj';exact hN j j' k (by omega) (by omega) h4 h7 hne hk
    unfold wpOp;simp only [h2]
    rcases hopi _ gs w' hb hdeps hdis (fun t ht=>hoff vs t ht) (Ab4 l n a w R (Q .normal) (listed.setIfInBounds i true)) hK with ⟨hw,h⟩|⟨hw,h⟩
    ·rw [if_pos hw]
     exact .inl h
    ·rw [if_neg (by rw [show Region.wanted o (yielded l.toArray (Al a (Ae l) vs n).tmps)=false from hw];simp)]
     exact h
   ·obtain rfl:i=n:=by omega
    have ho:o=st:=Bl4 (h2'.symm.trans hatn);subst ho;have hall:∀d j,i-j=d->j<i->listed.getD j false=true:=by
     intro d
     induction d using Nat.strongRecOn with
     |_ d ih=>
      intro j hd hj;obtain ⟨k,k1,k2,ok,k3,e,he,hb',rfl⟩:=hwait j hj
      by_cases hk:k=i
      ·subst hk
       rw [h2'] at k3
       cases k3
       exact h3 e he hb'
      ·exact hcl k ok (by omega) k3 (ih (i-k) (by omega) k rfl (by omega)) e he hb'
    unfold wpOp;simp only [h2];rw [if_pos (by simp [Region.wanted,Option.isNone_iff_eq_none.1 s1])];refine .inl (Oper.wp_mono (fun a1 w1 hq=>?_) (hend vs gs _ w' hb (fun j hj=>hR j hj (hall _ j rfl hj)) (fun j k hj hk=>hF j hj (hall _ j rfl hj) k hk) (fun j1 j2 k h1 h2=>hN j1 j2 k h1 h2 (hall _ j1 rfl h1) (hall _ j2 rfl h2)) (fun j hj=>hon vs j hj) (fun t ht=>hoff vs t ht) rfl));refine ⟨by simp [hsz],.inr ⟨fun j hj=>?_,hq⟩⟩
    by_cases e:j=i
    ·subst e
     rw [Bm0,Array.getElem?_setIfInBounds_self_of_lt (by omega)];rfl
    ·rw [getD_set_ne false (fun k=>e k.symm)]
     exact hall _ j rfl (by omega)
  ·obtain ⟨h1,o,h2,h3⟩:=mem_ready.1 hi
   have h2':l[i]? =some o:=by simpa using h2
   have hlt:i<n+1:=by have:=(Bj8.1 h2').1;omega
   have:=hall i hlt;rw [getD_both h1] at this
   cases this
 ·rintro listed a' w' ⟨hsz,h1|⟨-,hq⟩⟩ hr
  ·obtain ⟨hn0,hcl,vs,gs,rfl,hb,hR,hF,hN⟩:=h1
   exfalso
   have hall:∀d i,i=d->i<n+1->listed.getD i false=true:=by
    intro d
    induction d using Nat.strongRecOn with
    |_ d ih=>
     rintro i rfl hi
     cases hl:listed.getD i false with
     |true=>rfl
     |false=>
      have hin:i∈Region.ready .any l.toArray listed:=by
       refine mem_ready.2 ⟨Go.getD_in (by omega) hl,l[i]'(by omega),by simp [hlen,hi],fun e he hb'=>?_⟩;have h6:e.on<i:=by
        by_cases k:i<n
        ·exact hord i _ k (Bj0 (by omega)) e he hb'
        ·obtain rfl:i=n:=by omega
         have h8:l[i]'(by omega)=st:=Bl4 ((Bj0 (by omega)).symm.trans hatn);rw [h8] at he;exact hsd e he hb'
       exact ih e.on h6 e.on rfl (by omega)
      rw [hr] at hin
      cases hin
   have:=hall n n rfl (by omega);rw [hn0] at this
   cases this
  ·exact hq
def Aq8 (vals:List Value) (i:Nat) (v:Value) (_:List Nat) (_:World):Prop:=v=vals.getD i undef
theorem Ut {vals:List Value}:∀(i:Nat) (v:Value) (g:List Nat) (w w':World),Below w.heap.size w w'->Aq8 vals i v g w->Aq8 vals i v g w':=fun _ _ _ _ _ _ h=>h
end
end
end Go.Proofs.YteaaapdjplbljaaGreat
