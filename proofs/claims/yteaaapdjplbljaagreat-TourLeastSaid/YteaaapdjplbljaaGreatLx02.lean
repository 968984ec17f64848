/- A region whose operations come in any order, each of which changes memory in its own way, the last of which may assign what earlier ones read, the frame unseen. -/
import Derived.Test.YteaaapdjplbljaaGreatLxS
import Derived.Test.YteaaapdjplbljaaGreatLw45
set_option linter.unusedVariables false
set_option linter.unusedSimpArgs false
set_option linter.unnecessarySimpa false
namespace Go.Proofs.YteaaapdjplbljaaGreat
open Go Go.Proofs Go.RowKit
section
variable {a:Act} {P:Program} {Q:Exit→Act→World→Prop} {w:World}
def reachB (l:List Oper) (i:Nat):Nat→Nat→Bool
 |0,j=>j==i
 |f+1,j=>j==i||(match l[j]? with|some o=>o.after.toList.any fun e=>Region.binds .any e&&reachB l i f e.on|none=>false)
def offI (l:List Oper) (n i t:Nat):Bool:=(List.range n).all fun j=>!(dstAt l j==t)||reachB l i n j
theorem reachB_listed {l:List Oper} {i:Nat} {listed:Array Bool} (hcl:∀k o,l[k]? =some o→listed.getD k false=true→∀e∈o.after,Region.binds .any e=true→listed.getD e.on false=true):∀f j,reachB l i f j=true→listed.getD j false=true→listed.getD i false=true
 |0,j,h,hj=>by
  unfold reachB at h
  rw [beq_iff_eq] at h
  exact h▸hj
 |f+1,j,h,hj=>by
  unfold reachB at h
  simp only [Bool.or_eq_true,beq_iff_eq] at h
  rcases h with h|h
  ·exact h▸hj
  ·cases hl:l[j]? with
   |none=>rw [hl] at h;cases h
   |some o=>
    rw [hl] at h
    obtain ⟨e,he,h2⟩:=List.any_eq_true.1 h
    simp only [Bool.and_eq_true] at h2
    exact reachB_listed hcl f e.on h2.2 (hcl j o hl hj e (Array.mem_toList_iff.1 he) h2.1)
def growJu (l:List Oper) (n:Nat) (a:Act) (w:World) (R:Nat→Value→World→Prop) (m:Nat) (T:Bool→World→World→Prop) (listed:Array Bool) (a':Act) (w':World):Prop:=
 listed.size=n∧(∀i o,l[i]? =some o→listed.getD i false=true→∀e∈o.after,Region.binds .any e=true→listed.getD e.on false=true)∧
  ∃vs:Nat→Value,a'=puts a (dstAt l) vs n∧T (listed.getD m false) w w'∧(∀i,i<n→listed.getD i false=true→R i (vs i) w')∧∀i,i<n→listed.getD i false=false→vs i=a.tmps.getD (dstAt l i) undef
theorem wp_region_any {id:Nat} {l:List Oper} (n:Nat) (hln:l.length=n) (R:Nat→Value→World→Prop) (G:Nat→World→World→Prop) (m:Nat) (hmn:m<n) (T:Bool→World→World→Prop)
  (hm:P.follows .mixedOrders=true) (hB:growG l a.tmps.size=true)
  (hT0:T false w w.drew) (hTt:∀i b w' w'',T b w w'→(i=m→b=false)→G i w' w''→T (b||decide (i=m)) w w'') (hmono:∀i j v b w' w'',i≠j→reachB l i n j=false→T b w w'→G i w' w''→R j v w'→R j v w'')
  (hop:opsAll (fun i o=>∀(act:Act) w' b,(i=m→b=false)→T b w w'→(∀j,depB l i j=true→R j (act.tmps.getD (dstAt l j) undef) w')→(∀t,offI l n i t=true→act.tmps.getD t undef=a.tmps.getD t undef)→
   ∀K:Act→World→Prop,(∀v w'',G i w' w''→R i v w''→K (act.put o.dst v) w'')→(Goes l act o true∧o.wp P act w' K Q)∨(Goes l act o false∧K (act.put o.dst undef) w')) 0 l)
  (hend:∀(vs:Nat→Value) act w',T true w w'→(∀i,i<n→R i (vs i) w')→(∀j,j<n→act.tmps.getD (dstAt l j) undef=vs j)→(∀t,offB l n t=true→act.tmps.getD t undef=a.tmps.getD t undef)→act=puts a (dstAt l) vs n→Q .normal act w'):(Code.region id l.toArray true).wp P Q a w:=by
 have hg:=fun i (hi:i<n)=>growG_at hB (List.getElem?_eq_getElem (show i<l.length by omega))
 have hD:∀i,i<n→dstAt l i<a.tmps.size:=fun i hi=>(hg i hi).2.1
 have hinj:∀i j,i<n→j<n→dstAt l i=dstAt l j→i=j:=fun i j hi hj e=>by
  rcases Nat.lt_trichotomy i j with k|k|k
  ·exact absurd e ((hg j hj).2.2.2 i k)
  ·exact k
  ·exact absurd e.symm ((hg i hi).2.2.2 j k)
 have hord:∀i o,l[i]? =some o→∀e∈o.after,Region.binds .any e=true→e.on<i:=fun i o ho=>(growG_at hB ho).2.2.1
 have hon:∀vs j,j<n→(puts a (dstAt l) vs n).tmps.getD (dstAt l j) undef=vs j:=fun vs j hj=>by
  rw [Array.getD_eq_getD_getElem?,puts_on hinj hj (hD j hj)]
  rfl
 have hoff:∀vs t,offB l n t=true→(puts a (dstAt l) vs n).tmps.getD t undef=a.tmps.getD t undef:=fun vs t ht=>by
  rw [Array.getD_eq_getD_getElem?,Array.getD_eq_getD_getElem?,puts_off (fun i hi e=>by
   have:=List.all_eq_true.1 ht i (List.mem_range.2 hi)
   simp [e] at this)]
 have ha:=puts_of (a:=a) (a':=a) hinj rfl rfl hD (fun _ _=>rfl)
 have hsetl:∀(listed:Array Bool) i j,listed.size=n→i<n→(listed.setIfInBounds i true).getD j false=if j=i then true else listed.getD j false:=fun listed i j hsz hi=>by
  by_cases e:j=i
  ·subst e
   rw [if_pos rfl,Array.getD_eq_getD_getElem?,Array.getElem?_setIfInBounds_self_of_lt (by omega)]
   rfl
  ·rw [if_neg e,getD_set_ne false (fun k=>e k.symm)]
 refine wp_region_inv hm (growJu l n a w R m T) ?_ ?_ ?_
 ·have hz:∀i,(Array.replicate l.toArray.size false).getD i false=false:=fun i=>getD_replicate_false ..
  exact ⟨by simp [hln],fun i o _ k=>(by rw [hz i] at k;cases k),_,ha,by rw [hz m];exact hT0,fun i _ k=>(by rw [hz i] at k;cases k),fun i _ _=>by first|rfl|simp [Array.getD_eq_getD_getElem?]⟩
 ·rintro listed a' w' i ⟨hsz,hcl,vs,rfl,hb,hR,hU⟩ hi
  obtain ⟨h1,o,h2,h3⟩:=mem_ready.1 hi
  have h2':l[i]? =some o:=by simpa using h2
  have hin:i<n:=by have:=(List.getElem?_eq_some_iff.1 h2').1;omega
  have hun:listed.getD i false=false:=getD_both h1
  have hdo:o.dst=some (dstAt l i):=(growG_at hB h2').1
  have hK:∀(v:Value) (w'':World),G i w' w''→R i v w''→growJu l n a w R m T (listed.setIfInBounds i true) ((puts a (dstAt l) vs n).put o.dst v) w'':=by
   intro v w'' hb2 hr
   refine ⟨by simp [hsz],?_,updV vs i v,by rw [hdo];exact puts_put hinj hD hin,?_,?_,?_⟩
   ·intro j oj hj hl e he hb'
    rw [hsetl _ _ _ hsz hin] at hl ⊢
    split
    ·rfl
    ·by_cases hji:j=i
     ·subst hji
      rw [h2'] at hj
      cases hj
      exact h3 e he hb'
     ·rw [if_neg hji] at hl
      exact hcl j oj hj hl e he hb'
   ·have h9:=hTt i _ _ _ hb (fun e=>by rw [←e];exact hun) hb2
    rw [hsetl _ _ _ hsz hin]
    by_cases e:m=i
    ·rw [if_pos e]
     rwa [decide_eq_true e.symm,Bool.or_true] at h9
    ·rw [if_neg e]
     rwa [decide_eq_false (fun k=>e k.symm),Bool.or_false] at h9
   ·intro j hj hl
    rw [hsetl _ _ _ hsz hin] at hl
    by_cases hji:j=i
    ·subst hji
     rw [show updV vs j v j=v from if_pos rfl]
     exact hr
    ·rw [if_neg hji] at hl
     rw [show updV vs i v j=vs j from if_neg hji]
     refine hmono i j _ _ _ _ (fun e=>hji e.symm) ?_ hb hb2 (hR j hj hl)
     cases hrb:reachB l i n j with
     |false=>rfl
     |true=>
      have:=reachB_listed hcl n j hrb hl
      rw [hun] at this
      cases this
   ·intro j hj hl
    rw [hsetl _ _ _ hsz hin] at hl
    by_cases hji:j=i
    ·rw [if_pos hji] at hl
     cases hl
    ·rw [if_neg hji] at hl
     rw [show updV vs i v j=vs j from if_neg hji]
     exact hU j hj hl
  have hopi:=opsAll_get l 0 hop i o h2'
  rw [Nat.zero_add] at hopi
  have hdeps:∀j,depB l i j=true→R j ((puts a (dstAt l) vs n).tmps.getD (dstAt l j) undef) w':=by
   intro j hj
   unfold depB at hj
   simp only [h2'] at hj
   obtain ⟨e,he,k2⟩:=List.any_eq_true.1 hj
   simp only [Bool.and_eq_true,beq_iff_eq] at k2
   have h5:=hord i o h2' e (Array.mem_toList_iff.1 he) k2.1
   have h4:=h3 e (Array.mem_toList_iff.1 he) k2.1
   rw [k2.2] at h5 h4
   rw [hon vs j (by omega)]
   exact hR j (by omega) h4
  have hoffi:∀t,offI l n i t=true→(puts a (dstAt l) vs n).tmps.getD t undef=a.tmps.getD t undef:=by
   intro t ht
   by_cases hex:∃j,j<n∧dstAt l j=t
   ·obtain ⟨j,hj,rfl⟩:=hex
    rw [hon vs j hj]
    refine hU j hj ?_
    have:=List.all_eq_true.1 ht j (List.mem_range.2 hj)
    simp only [beq_self_eq_true,Bool.not_true,Bool.false_or] at this
    cases hl:listed.getD j false with
    |false=>rfl
    |true=>
     have:=reachB_listed hcl n j this hl
     rw [hun] at this
     cases this
   ·refine hoff vs t (List.all_eq_true.2 fun j hj=>?_)
    have:dstAt l j≠t:=fun e=>hex ⟨j,List.mem_range.1 hj,e⟩
    simp [this]
  unfold wpOp
  simp only [h2]
  rcases hopi _ w' _ (fun e=>by rw [←e];exact hun) hb hdeps hoffi (growJu l n a w R m T (listed.setIfInBounds i true)) hK with ⟨hw,h⟩|⟨hw,h⟩
  ·rw [if_pos hw]
   exact .inl h
  ·rw [if_neg (by rw [show Region.wanted o (yielded l.toArray (puts a (dstAt l) vs n).tmps)=false from hw];simp)]
   exact h
 ·rintro listed a' w' ⟨hsz,hcl,vs,rfl,hb,hR,hU⟩ hr
  have hall:∀d i,i=d→i<n→listed.getD i false=true:=by
   intro d
   induction d using Nat.strongRecOn with
   |_ d ih=>
    rintro i rfl hi
    cases hl:listed.getD i false with
    |true=>rfl
    |false=>
     have hin:i∈Region.ready .any l.toArray listed:=by
      refine mem_ready.2 ⟨Go.getD_in (by omega) hl,l[i]'(by omega),by simp [hln,hi],fun e he hb'=>?_⟩
      have h6:=hord i _ (List.getElem?_eq_getElem (by omega)) e he hb'
      exact ih e.on h6 e.on rfl (by omega)
     rw [hr] at hin
     cases hin
  rw [hall m m rfl hmn] at hb
  exact hend vs _ w' hb (fun j hj=>hR j hj (hall _ j rfl hj)) (fun j hj=>hon vs j hj) (fun t ht=>hoff vs t ht) rfl
theorem wp_region_anyX {id:Nat} {l:List Oper} (n:Nat) (hln:l.length=n) (R:Nat→Value→World→Prop) (m:Nat) (hmn:m<n) (X:Nat→Prop)
  (hm:P.follows .mixedOrders=true) (hB:growG l a.tmps.size=true)
  (hmono:∀i v w' w'',Below w'.heap.size w' w''→R i v w'→R i v w'') (hoff9:∀i v w' w'',i≠m→reachB l m n i=false→OffX X w' w''→R i v w'→R i v w'')
  (hop:opsAll (fun i o=>∀(act:Act) w',OffX X w w'→(i=m→Below w.heap.size w w')→(∀j,depB l i j=true→R j (act.tmps.getD (dstAt l j) undef) w')→(∀t,offI l n i t=true→act.tmps.getD t undef=a.tmps.getD t undef)→
   ∀K:Act→World→Prop,(∀v w'',stepX X m i w' w''→R i v w''→K (act.put o.dst v) w'')→(Goes l act o true∧o.wp P act w' K Q)∨(Goes l act o false∧K (act.put o.dst undef) w')) 0 l)
  (hend:∀(vs:Nat→Value) act w',OffX X w w'→(∀i,i<n→R i (vs i) w')→(∀j,j<n→act.tmps.getD (dstAt l j) undef=vs j)→(∀t,offB l n t=true→act.tmps.getD t undef=a.tmps.getD t undef)→act=puts a (dstAt l) vs n→Q .normal act w'):(Code.region id l.toArray true).wp P Q a w:=by
 refine wp_region_any n hln R (stepX X m) m hmn (stepY X) hm hB (Below.refl _ w).drew ?_ ?_ ?_ (fun vs act w' h=>hend vs act w' h)
 ·intro i b w' w'' h1 h2 h3
  unfold stepX at h3
  by_cases e:i=m
  ·rw [if_pos e] at h3
   rw [decide_eq_true e,Bool.or_true]
   exact h1.b.trans h3
  ·rw [if_neg e] at h3
   rw [decide_eq_false e,Bool.or_false]
   unfold stepY at h1 ⊢
   cases b with
   |true=>exact OffX.trans h1 (.of_below h3)
   |false=>exact Below.st h1 h3
 ·intro i j v b w' w'' hij hrb h1 h3 hr
  unfold stepX at h3
  by_cases e:i=m
  ·rw [if_pos e] at h3
   exact hoff9 j v _ _ (fun k=>hij (e.trans k.symm)) (e▸hrb) h3 hr
  ·rw [if_neg e] at h3
   exact hmono j v _ _ h3 hr
 ·have key:∀(k:Nat) (ll:List Oper),opsAll (fun i o=>∀(act:Act) w',OffX X w w'→(i=m→Below w.heap.size w w')→(∀j,depB l i j=true→R j (act.tmps.getD (dstAt l j) undef) w')→(∀t,offI l n i t=true→act.tmps.getD t undef=a.tmps.getD t undef)→
   ∀K:Act→World→Prop,(∀v w'',stepX X m i w' w''→R i v w''→K (act.put o.dst v) w'')→(Goes l act o true∧o.wp P act w' K Q)∨(Goes l act o false∧K (act.put o.dst undef) w')) k ll→opsAll (fun i o=>∀(act:Act) w' b,(i=m→b=false)→stepY X b w w'→(∀j,depB l i j=true→R j (act.tmps.getD (dstAt l j) undef) w')→(∀t,offI l n i t=true→act.tmps.getD t undef=a.tmps.getD t undef)→
   ∀K:Act→World→Prop,(∀v w'',stepX X m i w' w''→R i v w''→K (act.put o.dst v) w'')→(Goes l act o true∧o.wp P act w' K Q)∨(Goes l act o false∧K (act.put o.dst undef) w')) k ll:=by
   intro k ll
   induction ll generalizing k with
   |nil=>intro _;trivial
   |cons o ll ih=>
    intro h
    exact ⟨fun act w' b h1 h2=>h.1 act w' h2.b (fun e=>by rw [h1 e] at h2;exact h2),ih (k+1) h.2⟩
  exact key 0 _ hop
end
end Go.Proofs.YteaaapdjplbljaaGreat
