/- The same within a round of a range over a function. -/
import Derived.OrdersIn
import Derived.RangeFuncIn
import Derived.Test.YtkdomobedfhhgaaGreatQm02
set_option linter.unusedVariables false
set_option linter.unusedSimpArgs false
set_option linter.unnecessarySimpa false
namespace Go.Proofs.YtkdomobedfhhgaaGreat
open Go Go.Proofs Go.RowKit
theorem wpOpIn_roundK {F:Fence} {n:Nat} {P:Program} {ops:Array Oper} {Q:Exit→Act→World→Prop} {i l:Nat} {K:Act→World→Prop} {a:Act} {w:World} (hro:F.round=none) (hd:∀o∈ops.toList,∀c,o.op≠.defer c)
  (h:wpOpIn F n P ops Q i K a w):wpOpIn (F.inRound l) n P ops Q i K a w:=by
 unfold wpOpIn at*
 cases ho:ops[i]? with
 |none=>rw [ho] at h;exact h
 |some o=>
  rw [ho] at h
  have hm:o∈ops.toList:=by rw [Array.mem_toList_iff];exact Array.mem_of_getElem? ho
  simp only at h ⊢
  split
  ·rename_i hw
   rw [if_pos hw] at h
   unfold Oper.wpIn at*
   refine ⟨h.1,?_⟩
   have h2:=h.2
   rw [Oper.semAt_eq _ _ _ (hd o hm)] at h2 ⊢
   generalize (execOp a.eval o).run P w=r at*
   cases r with
   |ok x w'=>cases x<;>exact h2
   |halt x w'=>cases x<;>exact h2
  ·rename_i hw
   rw [if_neg hw] at h
   exact h
theorem wpAnyIn_roundK {F:Fence} {n:Nat} {P:Program} {md:Region.Mode} {ops:Array Oper} {Q:Exit→Act→World→Prop} {l:Nat} (hro:F.round=none) (hd:∀o∈ops.toList,∀c,o.op≠.defer c):
  ∀(fuel:Nat) (listed:Array Bool) (a:Act) (w:World),wpAnyIn F n P md ops Q fuel listed a w→wpAnyIn (F.inRound l) n P md ops Q fuel listed a w
 |0,_,_,_,h=>h
 |fuel+1,listed,a,w,h=>⟨h.1,fun i hi=>wpOpIn_mono (fun a w h=>wpAnyIn_roundK hro hd fuel _ a w h) (wpOpIn_roundK hro hd (h.2 i hi))⟩
def noDefK (ops:List Oper):Bool:=ops.all fun o=>match o.op with| .defer _=>false|_=>true
theorem noDefK_spec {ops:List Oper} (h:noDefK ops=true):∀o∈ops,∀c,o.op≠.defer c:=by
 intro o ho c e
 unfold noDefK at h
 have:=List.all_eq_true.1 h o ho
 rw [e] at this
 cases this
theorem wpIn_region_roundK {F:Fence} {n:Nat} {P:Program} {ops:Array Oper} {Q:Exit→Act→World→Prop} {id l:Nat} {a:Act} {w:World} (hro:F.round=none) (hd:noDefK ops.toList=true) (hm:P.follows .mixedOrders=true)
  (h:wpAnyIn F n P .any ops Q ops.size (Array.replicate ops.size false) a w.drew):(Code.region id ops true).wpIn (F.inRound l) n P Q a w:=
 wpIn_region_any hm (wpAnyIn_roundK hro (noDefK_spec hd) _ _ _ _ h)
theorem Oper.wpIn_of_wp {m:Nat} {P:Program} {o:Oper} {a:Act} {w:World} {K:Act→World→Prop} {Q:Exit→Act→World→Prop} (h:o.wp P a w K Q):o.wpIn Fence.wide m P a w K Q:=by
 refine ⟨fun _ _=>trivial,?_⟩
 unfold Oper.wp at h
 show o.uponIn Fence.wide m P a K Q ((execOp a.eval o).run P w)
 generalize (execOp a.eval o).run P w=r at*
 cases r with
 |ok x w'=>
  cases x<;>simp only [Oper.upon] at h<;>simp only [Oper.uponIn]
  all_goals first
   |exact h
   |exact h.elim
   |exact ⟨(fun hh=>by cases hh),callsIn_wide.2 h⟩
   |exact ⟨(fun hh=>by cases hh),fun c cs _=>let ⟨v,w1,r,s⟩:=h c cs;⟨v,w1,r,stepsIn_wide.2 s⟩⟩
 |halt x w'=>cases x<;>exact h
theorem opsAll_mono {p q:Nat→Oper→Prop} (h:∀i o,p i o→q i o):∀{l:List Oper} {k:Nat},opsAll p k l→opsAll q k l
 |[],_,_=>trivial
 |_::_,_,hp=>⟨h _ _ hp.1,opsAll_mono h hp.2⟩
section
variable {a:Act} {P:Program} {Q:Exit→Act→World→Prop} {w:World}
theorem wpAnyIn_inv {m:Nat} {ops:Array Oper} {md:Region.Mode} (J:Array Bool→Act→World→Prop) (hJ:∀listed a w i,J listed a w→i∈Region.ready md ops listed→wpOpIn Fence.wide m P ops Q i (fun a' w'=>J (listed.setIfInBounds i true) a' w') a w)
  (hend:∀listed a w,J listed a w→Region.ready md ops listed=[]→Q .normal a w):
  ∀(fuel:Nat) (listed:Array Bool) (a:Act) (w:World),toCome listed ops.size≤fuel→J listed a w→wpAnyIn Fence.wide m P md ops Q fuel listed a w
 |0,listed,a,w,hf,h=>by
  have hr:Region.ready md ops listed=[]:=by
   rw [List.eq_nil_iff_forall_not_mem]
   intro i hi
   obtain ⟨h1,o,h2,_⟩:=mem_ready.1 hi
   have hlt:i<ops.size:=(Array.getElem?_eq_some_iff.1 h2).1
   exact toCome_zero (by omega) hlt h1
  exact ⟨hr,hend _ _ _ h hr⟩
 |fuel+1,listed,a,w,hf,h=>by
  refine ⟨hend _ _ _ h,fun i hi=>?_⟩
  obtain ⟨h1,o,h2,_⟩:=mem_ready.1 hi
  have hlt:i<ops.size:=(Array.getElem?_eq_some_iff.1 h2).1
  have hc:=toCome_lt hlt h1
  exact wpOpIn_mono (fun a' w' h'=>wpAnyIn_inv J hJ hend fuel _ a' w' (by omega) h') (hJ _ _ _ _ h hi)
theorem wpIn_region_inv {id rl m:Nat} {l:List Oper} (hdf:noDefK l=true) (hm:P.follows .mixedOrders=true) (J:Array Bool→Act→World→Prop) (h0:J (Array.replicate l.toArray.size false) a w.drew)
  (hJ:∀listed a w i,J listed a w→i∈Region.ready .any l.toArray listed→wpOpIn Fence.wide m P l.toArray Q i (fun a' w'=>J (listed.setIfInBounds i true) a' w') a w)
  (hend:∀listed a w,J listed a w→Region.ready .any l.toArray listed=[]→Q .normal a w):(Code.region id l.toArray true).wpIn (Fence.wide.inRound rl) m P Q a w:=
 wpIn_region_roundK rfl (by simpa using hdf) hm (wpAnyIn_inv J hJ hend _ _ _ _ (toCome_le _ _) h0)
theorem wpIn_region_grow {id rl m:Nat} {l:List Oper} (D:Nat→Nat) (R:Nat→Value→List Nat→(Nat→Value)→World→Prop) (hdf:noDefK l=true) (hm:P.follows .mixedOrders=true)
  (hD:∀i,i<l.length→D i<a.tmps.size) (hdst:∀i o,l[i]? =some o→o.dst=some (D i)∧o.guard=none) (hinj:∀i j,i<l.length→j<l.length→D i=D j→i=j)
  (hord:∀i o,l[i]? =some o→∀e∈o.after,Region.binds .any e=true→e.on<i) (hmono:∀i v g vs w w',Below w.heap.size w w'→R i v g vs w→R i v g vs w')
  (hloc:∀i o,l[i]? =some o→∀v g vs vs' w,(∀e∈o.after,Region.binds .any e=true→vs' e.on=vs e.on)→R i v g vs w→R i v g vs' w)
  (hop:∀i o,l[i]? =some o→∀(vs:Nat→Value) w',Below w.heap.size w w'→(∀e∈o.after,Region.binds .any e=true→∃g,R e.on (vs e.on) g vs w')→
   ∀K:Act→World→Prop,(∀v g w'',Below w'.heap.size w' w''→R i v g vs w''→(∀k∈g,w'.heap.size≤k∧k<w''.heap.size)→K ((puts a D vs l.length).put (some (D i)) v) w'')→o.wp P (puts a D vs l.length) w' K Q)
  (hend:∀(vs:Nat→Value) (gs:Nat→List Nat) w',Below w.heap.size w w'→(∀i,i<l.length→R i (vs i) (gs i) vs w')→(∀i k,i<l.length→k∈gs i→w.heap.size≤k∧k<w'.heap.size)→(∀i j k,i<l.length→j<l.length→i≠j→k∈gs i→k∉gs j)→Q .normal (puts a D vs l.length) w'):(Code.region id l.toArray true).wpIn (Fence.wide.inRound rl) m P Q a w:=by
 have ha:=puts_of (a:=a) (a':=a) hinj rfl rfl hD (fun _ _=>rfl)
 refine wpIn_region_inv hdf hm (fun listed a' w'=>listed.size=l.length∧(∀i o,l[i]? =some o→listed.getD i false=true→∀e∈o.after,Region.binds .any e=true→listed.getD e.on false=true)∧
  ∃(vs:Nat→Value) (gs:Nat→List Nat),a'=puts a D vs l.length∧Below w.heap.size w w'∧(∀i,i<l.length→listed.getD i false=true→R i (vs i) (gs i) vs w')∧(∀i,i<l.length→listed.getD i false=true→∀k∈gs i,w.heap.size≤k∧k<w'.heap.size)∧
   ∀i j k,i<l.length→j<l.length→listed.getD i false=true→listed.getD j false=true→i≠j→k∈gs i→k∉gs j) ?_ ?_ ?_
 ·have hz:∀i,¬(Array.replicate l.toArray.size false).getD i false=true:=fun i h=>by
   rw [getD_replicate_false] at h
   cases h
  exact ⟨by simp,fun i o _ h=>absurd h (hz i),_,fun _=>[],ha,(Below.refl _ w).drew,fun i _ h=>absurd h (hz i),fun i _ h=>absurd h (hz i),fun i j k _ _ h=>absurd h (hz i)⟩
 ·rintro listed a' w' i ⟨hsz,hcl,vs,gs,rfl,hb,hR,hF,hN⟩ hi
  obtain ⟨h1,o,h2,h3⟩:=mem_ready.1 hi
  have h2':l[i]? =some o:=by simpa using h2
  have hlt:i<l.length:=(List.getElem?_eq_some_iff.1 h2').1
  have hun:∀j,listed.getD j false=true→j≠i:=by
   rintro j hj rfl
   have:=getD_both h1
   rw [this] at hj
   cases hj
  obtain ⟨hd,hg⟩:=hdst i o h2'
  unfold wpOpIn
  simp only [h2]
  rw [if_pos (by simp [Region.wanted,hg])]
  refine Oper.wpIn_of_wp (hop i o h2' vs w' hb (fun e he hb'=>?_) _ (fun v g w'' hb2 hr hf=>?_))
  ·have h4:=h3 e he hb'
   have h5:e.on<l.length:=by have:=hord i o h2' e he hb';omega
   exact ⟨_,hR _ h5 h4⟩
  ·have hset:∀j,(listed.setIfInBounds i true).getD j false=true→j=i∨(j≠i∧listed.getD j false=true):=fun j hl=>by
    by_cases e:j=i
    ·exact .inl e
    ·rw [getD_set_ne false (fun h=>e h.symm)] at hl
     exact .inr ⟨e,hl⟩
   have hkeep:∀j,listed.getD j false=true→(listed.setIfInBounds i true).getD j false=true:=fun j hl=>by
    rw [getD_set_ne false (fun h=>hun j hl h.symm)]
    exact hl
   obtain ⟨gs2,hgs⟩:∃gs2:Nat→List Nat,gs2=fun j=>if j=i then g else gs j:=⟨_,rfl⟩
   have hgi:gs2 i=g:=by rw [hgs];exact if_pos rfl
   have hgn:∀j,j≠i→gs2 j=gs j:=fun j hj=>by rw [hgs];exact if_neg hj
   have hvi:updV vs i v i=v:=if_pos rfl
   have hvn:∀j,j≠i→updV vs i v j=vs j:=fun j hj=>if_neg hj
   have hsz2:=hb2.size
   refine ⟨by simp [hsz],?_,updV vs i v,gs2,puts_put hinj hD hlt,hb.st hb2,?_,?_,?_⟩
   ·intro j oj hj hl e he hb'
    rcases hset j hl with rfl|⟨hji,hl'⟩
    ·rw [h2'] at hj
     cases hj
     exact hkeep _ (h3 e he hb')
    ·exact hkeep _ (hcl j oj hj hl' e he hb')
   ·intro j hj hl
    rcases hset j hl with rfl|⟨hji,hl'⟩
    ·rw [hvi,hgi]
     exact hloc j o h2' _ _ _ _ _ (fun e he hb'=>hvn _ (by have:=hord j o h2' e he hb';omega)) hr
    ·rw [hvn j hji,hgn j hji]
     exact hloc j l[j] (List.getElem?_eq_getElem hj) _ _ _ _ _ (fun e he hb'=>hvn _ (hun _ (hcl j l[j] (List.getElem?_eq_getElem hj) hl' e he hb'))) (hmono _ _ _ _ _ _ hb2 (hR j hj hl'))
   ·intro j hj hl k hk
    rcases hset j hl with rfl|⟨hji,hl'⟩
    ·rw [hgi] at hk
     have:=hf k hk
     have:=hb.size
     exact ⟨by omega,by omega⟩
    ·rw [hgn j hji] at hk
     have:=hF j hj hl' k hk
     exact ⟨this.1,by omega⟩
   ·intro j1 j2 k hj1 hj2 hl1 hl2 hne hk1 hk2
    rcases hset j1 hl1 with rfl|⟨hji1,hl1'⟩<;>rcases hset j2 hl2 with e2|⟨hji2,hl2'⟩
    ·exact absurd e2.symm hne
    ·rw [hgi] at hk1
     rw [hgn j2 hji2] at hk2
     have:=hf k hk1
     have:=hF j2 hj2 hl2' k hk2
     omega
    ·subst e2
     rw [hgi] at hk2
     rw [hgn j1 hji1] at hk1
     have:=hf k hk2
     have:=hF j1 hj1 hl1' k hk1
     omega
    ·rw [hgn j1 hji1] at hk1
     rw [hgn j2 hji2] at hk2
     exact hN j1 j2 k hj1 hj2 hl1' hl2' hne hk1 hk2
 ·rintro listed a' w' ⟨hsz,hcl,vs,gs,rfl,hb,hR,hF,hN⟩ hr
  have hall:∀d i,i=d→i<l.length→listed.getD i false=true:=by
   intro d
   induction d using Nat.strongRecOn with
   |_ d ih=>
    rintro i rfl hi
    cases hl:listed.getD i false with
    |true=>rfl
    |false=>
     have hin:i∈Region.ready .any l.toArray listed:=by
      refine mem_ready.2 ⟨getD_in (by omega) hl,l[i],by simp [hi],fun e he hb'=>?_⟩
      have h6:=hord i l[i] (List.getElem?_eq_getElem hi) e he hb'
      exact ih e.on h6 e.on rfl (by omega)
     rw [hr] at hin
     cases hin
  exact hend vs gs w' hb (fun i hi=>hR i hi (hall i i rfl hi)) (fun i k hi hk=>hF i hi (hall i i rfl hi) k hk) (fun i j k hi hj=>hN i j k hi hj (hall i i rfl hi) (hall j j rfl hj))
theorem wpIn_region_grows {id rl m:Nat} {l:List Oper} (R:Nat→Value→List Nat→(Nat→Value)→World→Prop) (hdf:noDefK l=true) (hm:P.follows .mixedOrders=true) (hB:growB l a.tmps.size=true)
  (hmono:∀i v g vs w w',Below w.heap.size w w'→R i v g vs w→R i v g vs w')
  (hloc:∀i v g vs vs' w,(∀j,depB l i j=true→vs' j=vs j)→R i v g vs w→R i v g vs' w)
  (hop:opsAll (fun i o=>∀(vs:Nat→Value) w',Below w.heap.size w w'→(∀j,depB l i j=true→∃g,R j (vs j) g vs w')→
   ∀K:Act→World→Prop,(∀v g w'',Below w'.heap.size w' w''→R i v g vs w''→(∀k∈g,w'.heap.size≤k∧k<w''.heap.size)→K ((puts a (dstAt l) vs l.length).put o.dst v) w'')→o.wp P (puts a (dstAt l) vs l.length) w' K Q) 0 l)
  (hend:∀(vs:Nat→Value) (gs:Nat→List Nat) w',Below w.heap.size w w'→(∀i,i<l.length→R i (vs i) (gs i) vs w')→(∀i k,i<l.length→k∈gs i→w.heap.size≤k∧k<w'.heap.size)→(∀i j k,i<l.length→j<l.length→i≠j→k∈gs i→k∉gs j)→Q .normal (puts a (dstAt l) vs l.length) w'):(Code.region id l.toArray true).wpIn (Fence.wide.inRound rl) m P Q a w:=by
 have hg:=fun i (hi:i<l.length)=>growB_at hB (List.getElem?_eq_getElem hi)
 have hds:∀i o,l[i]? =some o→o.dst=some (dstAt l i):=fun i o hi=>by
  have h:=(growB_at hB hi).1
  obtain ⟨d,hd⟩:=Option.isSome_iff_exists.1 h
  unfold dstAt
  rw [hi]
  simp [hd]
 have hdep:∀i o,l[i]? =some o→∀j,depB l i j=true→∃e∈o.after,Region.binds .any e=true∧e.on=j:=fun i o hi j h=>by
  unfold depB at h
  simp only [hi] at h
  obtain ⟨e,he,h2⟩:=List.any_eq_true.1 h
  simp only [Bool.and_eq_true,beq_iff_eq] at h2
  exact ⟨e,Array.mem_toList_iff.1 he,h2⟩
 refine wpIn_region_grow (dstAt l) R hdf hm (fun i hi=>(hg i hi).2.2.1) (fun i o hi=>⟨hds i o hi,by have:=(growB_at hB hi).2.1;simpa using this⟩) ?_ (fun i o hi=>(growB_at hB hi).2.2.2.1) hmono ?_ ?_ hend
 ·intro i j hi hj e
  rcases Nat.lt_trichotomy i j with h|h|h
  ·exact absurd e ((hg j hj).2.2.2.2 i h)
  ·exact h
  ·exact absurd e.symm ((hg i hi).2.2.2.2 j h)
 ·intro i o hi v g vs vs' w1 h hr
  refine hloc i v g vs vs' w1 (fun j hj=>?_) hr
  obtain ⟨e,he,hb,rfl⟩:=hdep i o hi j hj
  exact h e he hb
 ·intro i o hi vs w' hb hR K hK
  have h:=opsAll_get l 0 hop i o hi
  rw [Nat.zero_add] at h
  refine h vs w' hb (fun j hj=>?_) K (fun v g w'' h1 h2 h3=>?_)
  ·obtain ⟨e,he,hb,rfl⟩:=hdep i o hi j hj
   exact hR e he hb
  ·rw [hds i o hi]
   exact hK v g w'' h1 h2 h3
theorem wpIn_region_vals {id rl m:Nat} {l:List Oper} (vals:List Value) (hdf:noDefK l=true) (hm:P.follows .mixedOrders=true) (hB:growB l a.tmps.size=true)
  (hop:opsAll (fun i o=>∀(vs:Nat→Value) w',Below w.heap.size w w'→(∀j,depB l i j=true→vs j=vals.getD j undef)→
   ∀K:Act→World→Prop,(∀w'',Below w'.heap.size w' w''→K ((puts a (dstAt l) vs l.length).put o.dst (vals.getD i undef)) w'')→o.wp P (puts a (dstAt l) vs l.length) w' K Q) 0 l)
  (hend:∀w',Below w.heap.size w w'→Q .normal (puts a (dstAt l) (fun i=>vals.getD i undef) l.length) w'):(Code.region id l.toArray true).wpIn (Fence.wide.inRound rl) m P Q a w:=by
 refine wpIn_region_grows (fun i v _ _ _=>v=vals.getD i undef) hdf hm hB (fun _ _ _ _ _ _ _ h=>h) (fun _ _ _ _ _ _ _ h=>h) ?_ ?_
 ·refine opsAll_mono (fun i o h vs w' hb hd K hK=>?_) hop
  exact h vs w' hb (fun j hj=>(hd j hj).choose_spec) K (fun w'' hb2=>hK _ [] w'' hb2 rfl (fun k hk=>nomatch hk))
 ·intro vs gs w' hb hR _ _
  have:∀n,n≤l.length→puts a (dstAt l) vs n=puts a (dstAt l) (fun i=>vals.getD i undef) n:=by
   intro n
   induction n with
   |zero=>intro _;rfl
   |succ n ih=>
    intro hn
    show Act.put _ _ _=Act.put _ _ _
    rw [ih (by omega),hR n (by omega)]
  rw [this _ (Nat.le_refl _)]
  exact hend w' hb
end
end Go.Proofs.YtkdomobedfhhgaaGreat
