/- A region whose operations only grow memory, in any order, some of them under a guard, the frame unseen. -/
import Derived.Test.YteaaapdjplbljaaVa10
set_option linter.unusedVariables false
set_option linter.unusedSimpArgs false
set_option linter.unnecessarySimpa false
namespace Go.Proofs.Yteaaapdjplbljaa
open Go Go.Proofs Go.RowKit
section
variable {a:Act} {P:Program} {Q:Exit→Act→World→Prop} {w:World}
def growG (l:List Oper) (sz:Nat):Bool:=(List.range l.length).all fun i=>match l[i]? with
 |none=>false
 |some o=>o.dst.isSome&&decide (dstAt l i<sz)&&(o.after.all fun e=>!Region.binds .any e||decide (e.on<i))&&(List.range i).all fun j=>decide (dstAt l j≠dstAt l i)
theorem growG_at {l:List Oper} {sz:Nat} (h:growG l sz=true) {i:Nat} {o:Oper} (hi:l[i]? =some o):
  o.dst=some (dstAt l i)∧dstAt l i<sz∧(∀e∈o.after,Region.binds .any e=true→e.on<i)∧∀j,j<i→dstAt l j≠dstAt l i:=by
 have hlt:i<l.length:=(List.getElem?_eq_some_iff.1 hi).1
 unfold growG at h
 have h1:=List.all_eq_true.1 h i (List.mem_range.2 hlt)
 rw [hi] at h1
 clear h
 simp only [Bool.and_eq_true] at h1
 obtain ⟨⟨⟨h2,h4⟩,h5⟩,h6⟩:=h1
 refine ⟨?_,of_decide_eq_true h4,fun e he hb=>?_,fun j hj=>?_⟩
 ·obtain ⟨d,hd⟩:=Option.isSome_iff_exists.1 h2
  unfold dstAt
  rw [hi]
  simp [hd]
 ·have h7:=Array.all_eq_true_iff_forall_mem.1 h5 e he
  rw [hb] at h7
  simpa using h7
 ·have h7:=List.all_eq_true.1 h6 j (List.mem_range.2 hj)
  exact of_decide_eq_true h7
abbrev Goes (l:List Oper) (act:Act) (o:Oper) (b:Bool):Prop:=Region.wanted o (yielded l.toArray act.tmps)=b
theorem goes_free {l:List Oper} {act:Act} {o:Oper} (h:o.guard=none):Goes l act o true:=by unfold Goes Region.wanted;rw [h]
theorem yielded_of {l:List Oper} {act:Act} {j t:Nat} {b:Bool} (hd:((l[j]?).bind (·.dst))=some t) (hv:act.tmps.getD t undef=.bool b):yielded l.toArray act.tmps j=some b:=by
 have ht:act.tmps[t]? =some (.bool b):=by
  rw [Array.getD_eq_getD_getElem?] at hv
  cases e:act.tmps[t]? with
  |none=>rw [e] at hv;cases hv
  |some v=>rw [e] at hv;exact congrArg some hv
 unfold yielded
 have:((l.toArray[j]?).bind (·.dst))=some t:=by rw [List.getElem?_toArray];exact hd
 rw [this]
 simp [ht]
theorem goes_yes {l:List Oper} {act:Act} {o:Oper} (j:Nat) (b:Bool) {t:Nat} (h:o.guard=some (j,b)) (hd:((l[j]?).bind (·.dst))=some t) (hv:act.tmps.getD t undef=.bool b):Goes l act o true:=by
 unfold Goes Region.wanted
 rw [h]
 simp only [yielded_of hd hv]
 simp
theorem goes_no {l:List Oper} {act:Act} {o:Oper} (j:Nat) (b c:Bool) {t:Nat} (h:o.guard=some (j,b)) (hd:((l[j]?).bind (·.dst))=some t) (hv:act.tmps.getD t undef=.bool c) (hc:(c==b)=false):Goes l act o false:=by
 unfold Goes Region.wanted
 rw [h]
 simp only [yielded_of hd hv]
 simpa using hc
def growJ (l:List Oper) (a:Act) (w:World) (R:Nat→Value→World→Prop) (listed:Array Bool) (a':Act) (w':World):Prop:=
 listed.size=l.length∧(∀i o,l[i]? =some o→listed.getD i false=true→∀e∈o.after,Region.binds .any e=true→listed.getD e.on false=true)∧
  ∃(vs:Nat→Value),a'=puts a (dstAt l) vs l.length∧Below w.heap.size w w'∧(∀i,i<l.length→listed.getD i false=true→R i (vs i) w')
theorem wp_region_grows_g {id:Nat} {l:List Oper} (n:Nat) (hln:l.length=n) (R:Nat→Value→World→Prop) (hm:P.follows .mixedOrders=true) (hB:growG l a.tmps.size=true)
  (hmono:∀i v w w',Below w.heap.size w w'→R i v w→R i v w')
  (hop:opsAll (fun i o=>∀(act:Act) w',Below w.heap.size w w'→(∀j,depB l i j=true→R j (act.tmps.getD (dstAt l j) undef) w')→(∀t,offB l n t=true→act.tmps.getD t undef=a.tmps.getD t undef)→
   ∀K:Act→World→Prop,(∀v w'',Below w'.heap.size w' w''→R i v w''→K (act.put o.dst v) w'')→(Goes l act o true∧o.wp P act w' K Q)∨(Goes l act o false∧K (act.put o.dst undef) w')) 0 l)
  (hend:∀(vs:Nat→Value) w',Below w.heap.size w w'→(∀i,i<n→R i (vs i) w')→Q .normal (puts a (dstAt l) vs n) w'):(Code.region id l.toArray true).wp P Q a w:=by
 subst hln
 have hg:=fun i (hi:i<l.length)=>growG_at hB (List.getElem?_eq_getElem hi)
 have hD:∀i,i<l.length→dstAt l i<a.tmps.size:=fun i hi=>(hg i hi).2.1
 have hinj:∀i j,i<l.length→j<l.length→dstAt l i=dstAt l j→i=j:=fun i j hi hj e=>by
  rcases Nat.lt_trichotomy i j with k|k|k
  ·exact absurd e ((hg j hj).2.2.2 i k)
  ·exact k
  ·exact absurd e.symm ((hg i hi).2.2.2 j k)
 have hord:∀i o,l[i]? =some o→∀e∈o.after,Region.binds .any e=true→e.on<i:=fun i o hi=>(growG_at hB hi).2.2.1
 have hon:∀vs j,j<l.length→(puts a (dstAt l) vs l.length).tmps.getD (dstAt l j) undef=vs j:=fun vs j hj=>by
  rw [Array.getD_eq_getD_getElem?,puts_on hinj hj (hD j hj)]
  rfl
 have hoff:∀vs t,offB l l.length t=true→(puts a (dstAt l) vs l.length).tmps.getD t undef=a.tmps.getD t undef:=fun vs t ht=>by
  rw [Array.getD_eq_getD_getElem?,Array.getD_eq_getD_getElem?,puts_off (fun i hi e=>by
   have:=List.all_eq_true.1 ht i (List.mem_range.2 hi)
   simp [e] at this)]
 have ha:=puts_of (a:=a) (a':=a) hinj rfl rfl hD (fun _ _=>rfl)
 refine wp_region_inv hm (growJ l a w R) ?_ ?_ ?_
 ·have hz:∀i,¬(Array.replicate l.toArray.size false).getD i false=true:=fun i h=>by
   rw [getD_replicate_false] at h
   cases h
  exact ⟨by simp,fun i o _ h=>absurd h (hz i),_,ha,(Below.refl _ w).drew,fun i _ h=>absurd h (hz i)⟩
 ·rintro listed a' w' i ⟨hsz,hcl,vs,rfl,hb,hR⟩ hi
  obtain ⟨h1,o,h2,h3⟩:=mem_ready.1 hi
  have h2':l[i]? =some o:=by simpa using h2
  have hlt:i<l.length:=(List.getElem?_eq_some_iff.1 h2').1
  have hun:∀j,listed.getD j false=true→j≠i:=by
   rintro j hj rfl
   have:=getD_both h1
   rw [this] at hj
   cases hj
  have hd:=(growG_at hB h2').1
  have hvi:∀v,updV vs i v i=v:=fun v=>if_pos rfl
  have hvn:∀v j,j≠i→updV vs i v j=vs j:=fun v j hj=>if_neg hj
  have hset:∀j,(listed.setIfInBounds i true).getD j false=true→j=i∨(j≠i∧listed.getD j false=true):=fun j hl=>by
   by_cases e:j=i
   ·exact .inl e
   ·rw [getD_set_ne false (fun h=>e h.symm)] at hl
    exact .inr ⟨e,hl⟩
  have hkeep:∀j,listed.getD j false=true→(listed.setIfInBounds i true).getD j false=true:=fun j hl=>by
   rw [getD_set_ne false (fun h=>hun j hl h.symm)]
   exact hl
  have hK:∀(v:Value) (w'':World),Below w'.heap.size w' w''→R i v w''→growJ l a w R (listed.setIfInBounds i true) ((puts a (dstAt l) vs l.length).put o.dst v) w'':=by
   intro v w'' hb2 hr
   refine ⟨by simp [hsz],?_,updV vs i v,by rw [hd];exact puts_put hinj hD hlt,hb.st hb2,?_⟩
   ·intro j oj hj hl e he hb'
    rcases hset j hl with rfl|⟨hji,hl'⟩
    ·rw [h2'] at hj
     cases hj
     exact hkeep _ (h3 e he hb')
    ·exact hkeep _ (hcl j oj hj hl' e he hb')
   ·intro j hj hl
    rcases hset j hl with rfl|⟨hji,hl'⟩
    ·rw [hvi]
     exact hr
    ·rw [hvn v j hji]
     exact hmono _ _ _ _ hb2 (hR j hj hl')
  have hop':=opsAll_get l 0 hop i o h2'
  rw [Nat.zero_add] at hop'
  have hdeps:∀j,depB l i j=true→R j ((puts a (dstAt l) vs l.length).tmps.getD (dstAt l j) undef) w':=by
   intro j hj
   unfold depB at hj
   simp only [h2'] at hj
   obtain ⟨e,he,k2⟩:=List.any_eq_true.1 hj
   simp only [Bool.and_eq_true,beq_iff_eq] at k2
   have h5:=hord i o h2' e (Array.mem_toList_iff.1 he) k2.1
   have h4:=h3 e (Array.mem_toList_iff.1 he) k2.1
   rw [k2.2] at h5 h4
   rw [hon vs j (by omega)]
   exact hR j (by omega) h4
  unfold wpOp
  simp only [h2]
  rcases hop' _ w' hb hdeps (fun t ht=>hoff vs t ht) (growJ l a w R (listed.setIfInBounds i true)) hK with ⟨hw,h⟩|⟨hw,h⟩
  ·rw [if_pos hw]
   exact .inl h
  ·rw [if_neg (by rw [show Region.wanted o (yielded l.toArray (puts a (dstAt l) vs l.length).tmps)=false from hw];simp)]
   exact h
 ·rintro listed a' w' ⟨hsz,hcl,vs,rfl,hb,hR⟩ hr
  have hall:∀d i,i=d→i<l.length→listed.getD i false=true:=by
   intro d
   induction d using Nat.strongRecOn with
   |_ d ih=>
    rintro i rfl hi
    cases hl:listed.getD i false with
    |true=>rfl
    |false=>
     have hin:i∈Region.ready .any l.toArray listed:=by
      refine mem_ready.2 ⟨Go.getD_in (by omega) hl,l[i],by simp [hi],fun e he hb'=>?_⟩
      have h6:=hord i l[i] (List.getElem?_eq_getElem hi) e he hb'
      exact ih e.on h6 e.on rfl (by omega)
     rw [hr] at hin
     cases hin
  exact hend vs w' hb (fun i hi=>hR i hi (hall i i rfl hi))
end
end Go.Proofs.Yteaaapdjplbljaa
