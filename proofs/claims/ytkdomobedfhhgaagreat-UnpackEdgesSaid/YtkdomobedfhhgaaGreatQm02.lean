/- A region that draws its order, by what holds between its operations: whatever comes next keeps it. A region that draws its order, whose operations only grow memory: each gives a value of which something is known that stays known. -/
import Derived.StillTail
import Derived.Test.YtkdomobedfhhgaaGreatQm01
set_option linter.unusedVariables false
set_option linter.unusedSimpArgs false
set_option linter.unnecessarySimpa false
section
namespace Go.Proofs.YtkdomobedfhhgaaGreat
open Go Go.Proofs Go.RowKit
section
variable {P:Program} {ops:Array Oper} {md:Region.Mode} {Q:Exit→Act→World→Prop}
def toCome (listed:Array Bool):Nat→Nat
 |0=>0
 |n+1=>toCome listed n+(if listed.getD n true=false then 1 else 0)
theorem toCome_set {listed:Array Bool} {i:Nat}:∀{n:Nat},toCome (listed.setIfInBounds i true) n≤toCome listed n
 |0=>Nat.le_refl _
 |n+1=>by
  have ih:=toCome_set (listed:=listed) (i:=i) (n:=n)
  unfold toCome
  by_cases e:i=n
  ·subst e
   have:¬(listed.setIfInBounds i true).getD i true=false:=by
    rcases Nat.lt_or_ge i listed.size with h|h<;>simp [h]
   rw [if_neg this]
   omega
  ·rw [getD_set_ne true e]
   omega
theorem toCome_lt {listed:Array Bool} {i:Nat}:∀{n:Nat},i<n→listed.getD i true=false→toCome (listed.setIfInBounds i true) n<toCome listed n
 |n+1,hi,hf=>by
  unfold toCome
  by_cases e:i=n
  ·subst e
   have h1:=toCome_set (listed:=listed) (i:=i) (n:=i)
   have:¬(listed.setIfInBounds i true).getD i true=false:=by
    rcases Nat.lt_or_ge i listed.size with h|h<;>simp [h]
   rw [if_neg this,if_pos hf]
   omega
  ·have ih:=toCome_lt (n:=n) (by omega) hf
   rw [getD_set_ne true e]
   omega
theorem toCome_le (listed:Array Bool):∀n,toCome listed n≤n
 |0=>Nat.le_refl _
 |n+1=>by
  have:=toCome_le listed n
  unfold toCome
  split<;>omega
theorem toCome_zero {listed:Array Bool}:∀{n i:Nat},toCome listed n=0→i<n→listed.getD i true≠false
 |n+1,i,h,hi=>by
  unfold toCome at h
  by_cases e:i=n
  ·subst e
   intro hf
   rw [if_pos hf] at h
   omega
  ·exact toCome_zero (n:=n) (by omega) (by omega)
theorem wpAny_inv (J:Array Bool→Act→World→Prop) (hJ:∀listed a w i,J listed a w→i∈Region.ready md ops listed→wpOp P ops Q i (fun a' w'=>J (listed.setIfInBounds i true) a' w') a w)
  (hend:∀listed a w,J listed a w→Region.ready md ops listed=[]→Q .normal a w):
  ∀(fuel:Nat) (listed:Array Bool) (a:Act) (w:World),toCome listed ops.size≤fuel→J listed a w→wpAny P md ops Q fuel listed a w
 |0,listed,a,w,hf,h=>by
  have hr:Region.ready md ops listed=[]:=by
   rw [List.eq_nil_iff_forall_not_mem]
   intro i hi
   obtain ⟨h1,o,h2,_⟩:=mem_ready.1 hi
   have hlt:i<ops.size:=(Array.getElem?_eq_some_iff.1 h2).1
   exact toCome_zero (by omega) hlt h1
  exact ⟨hr,hend _ _ _ h hr⟩
 |fuel+1,listed,a,w,hf,h=>by
  refine ⟨hend _ _ _ h,fun i hi=>?_⟩
  obtain ⟨h1,o,h2,_⟩:=mem_ready.1 hi
  have hlt:i<ops.size:=(Array.getElem?_eq_some_iff.1 h2).1
  have hc:=toCome_lt hlt h1
  exact wpOp_mono (fun a' w' h'=>wpAny_inv J hJ hend fuel _ a' w' (by omega) h') (hJ _ _ _ _ h hi)
theorem wp_region_inv {id:Nat} {a:Act} {w:World} {l:List Oper} (hm:P.follows .mixedOrders=true) (J:Array Bool→Act→World→Prop) (h0:J (Array.replicate l.toArray.size false) a w.drew)
  (hJ:∀listed a w i,J listed a w→i∈Region.ready .any l.toArray listed→wpOp P l.toArray Q i (fun a' w'=>J (listed.setIfInBounds i true) a' w') a w)
  (hend:∀listed a w,J listed a w→Region.ready .any l.toArray listed=[]→Q .normal a w):(Code.region id l.toArray true).wp P Q a w:=
 wp_region_any hm (wpAny_inv J hJ hend _ _ _ _ (toCome_le _ _) h0)
end
end Go.Proofs.YtkdomobedfhhgaaGreat
end
section
namespace Go.Proofs.YtkdomobedfhhgaaGreat
open Go Go.Proofs Go.RowKit
section
def puts (a:Act) (D:Nat→Nat) (vs:Nat→Value):Nat→Act
 |0=>a
 |n+1=>(puts a D vs n).put (some (D n)) (vs n)
variable {a a':Act} {D:Nat→Nat} {vs:Nat→Value}
theorem puts_size:∀n,(puts a D vs n).tmps.size=a.tmps.size
 |0=>rfl
 |n+1=>by
  show ((puts a D vs n).tmps.setIfInBounds _ _).size=_
  rw [Array.size_setIfInBounds,puts_size n]
theorem puts_defers:∀n,(puts a D vs n).defers=a.defers
 |0=>rfl
 |n+1=>puts_defers n
theorem puts_off {t:Nat}:∀{n:Nat},(∀i,i<n→D i≠t)→(puts a D vs n).tmps[t]? =a.tmps[t]?
 |0,_=>rfl
 |n+1,h=>by
  show ((puts a D vs n).tmps.setIfInBounds _ _)[t]? =_
  rw [Array.getElem?_setIfInBounds_ne (h n (by omega)),puts_off (fun i hi=>h i (by omega))]
theorem puts_on {i:Nat}:∀{n:Nat},(∀i j,i<n→j<n→D i=D j→i=j)→i<n→D i<a.tmps.size→(puts a D vs n).tmps[D i]? =some (vs i)
 |n+1,hinj,hi,hs=>by
  show ((puts a D vs n).tmps.setIfInBounds _ _)[D i]? =_
  by_cases e:i=n
  ·subst e
   rw [Array.getElem?_setIfInBounds_self_of_lt (by rw [puts_size];exact hs)]
  ·rw [Array.getElem?_setIfInBounds_ne (fun h=>e (hinj i n hi (by omega) h.symm)),puts_on (fun i j hi hj=>hinj i j (by omega) (by omega)) (by omega) hs]
theorem puts_of {n:Nat} (hinj:∀i j,i<n→j<n→D i=D j→i=j) (hs:a'.tmps.size=a.tmps.size) (hd:a'.defers=a.defers) (hD:∀i,i<n→D i<a.tmps.size)
  (h:∀t,(∀i,i<n→D i≠t)→a'.tmps[t]? =a.tmps[t]?):a'=puts a D (fun i=>a'.tmps.getD (D i) undef) n:=by
 have ht:a'.tmps=(puts a D (fun i=>a'.tmps.getD (D i) undef) n).tmps:=by
  apply Array.ext_getElem?
  intro t
  by_cases e:∃i,i<n∧D i=t
  ·obtain ⟨i,hi,rfl⟩:=e
   rw [puts_on hinj hi (hD i hi)]
   have:D i<a'.tmps.size:=by rw [hs];exact hD i hi
   rw [Array.getD_eq_getD_getElem?,Array.getElem?_eq_getElem this]
   rfl
  ·have hne:∀i,i<n→D i≠t:=fun i hi h'=>e ⟨i,hi,h'⟩
   rw [puts_off hne,h t hne]
 have hdd:=puts_defers (a:=a) (D:=D) (vs:=fun i=>a'.tmps.getD (D i) undef) n
 rw [←hd] at hdd
 cases a' with
 |mk tm df=>
  generalize hp:puts a D (fun i=>(Act.mk tm df).tmps.getD (D i) undef) n=p at*
  cases p with
  |mk tm' df'=>simp only at ht hdd;rw [ht,hdd]
def updV (vs:Nat→Value) (i:Nat) (v:Value):Nat→Value:=fun j=>if j=i then v else vs j
theorem puts_put {n i:Nat} {v:Value} (hinj:∀i j,i<n→j<n→D i=D j→i=j) (hD:∀i,i<n→D i<a.tmps.size) (hi:i<n):(puts a D vs n).put (some (D i)) v=puts a D (updV vs i v) n:=by
 have h0:=puts_of (a:=a) (a':=(puts a D vs n).put (some (D i)) v) hinj (by show ((puts a D vs n).tmps.setIfInBounds _ _).size=_;rw [Array.size_setIfInBounds,puts_size]) (puts_defers n) hD (fun t ht=>by
  show ((puts a D vs n).tmps.setIfInBounds _ _)[t]? =_
  rw [Array.getElem?_setIfInBounds_ne (ht i hi),puts_off ht])
 rw [h0]
 have:∀m,m≤n→puts a D (fun j=>((puts a D vs n).put (some (D i)) v).tmps.getD (D j) undef) m=puts a D (updV vs i v) m:=by
  intro m
  induction m with
  |zero=>intro _;rfl
  |succ m ih=>
   intro hm
   show Act.put _ _ _=Act.put _ _ _
   rw [ih (by omega)]
   congr 1
   show ((puts a D vs n).tmps.setIfInBounds (D i) v).getD (D m) undef=if m=i then v else vs m
   rw [Array.getD_eq_getD_getElem?]
   by_cases e:m=i
   ·subst e
    rw [Array.getElem?_setIfInBounds_self_of_lt (by rw [puts_size];exact hD m hi),if_pos rfl]
    rfl
   ·rw [Array.getElem?_setIfInBounds_ne (fun h=>e (hinj i m hi (by omega) h).symm),puts_on hinj (by omega) (hD m (by omega)),if_neg e]
    rfl
 exact this n (Nat.le_refl _)
def nextQ (Q:Exit→Act→World→Prop) (K:Act→World→Prop):Exit→Act→World→Prop
 | .normal=>K
 |e=>Q e
variable {P:Program} {Q:Exit→Act→World→Prop} {w:World}
theorem wp_region_grow {id:Nat} {l:List Oper} (D:Nat→Nat) (R:Nat→Value→List Nat→(Nat→Value)→World→Prop) (hm:P.follows .mixedOrders=true)
  (hD:∀i,i<l.length→D i<a.tmps.size) (hdst:∀i o,l[i]? =some o→o.dst=some (D i)∧o.guard=none) (hinj:∀i j,i<l.length→j<l.length→D i=D j→i=j)
  (hord:∀i o,l[i]? =some o→∀e∈o.after,Region.binds .any e=true→e.on<i) (hmono:∀i v g vs w w',Below w.heap.size w w'→R i v g vs w→R i v g vs w')
  (hloc:∀i o,l[i]? =some o→∀v g vs vs' w,(∀e∈o.after,Region.binds .any e=true→vs' e.on=vs e.on)→R i v g vs w→R i v g vs' w)
  (hop:∀i o,l[i]? =some o→∀(vs:Nat→Value) w',Below w.heap.size w w'→(∀e∈o.after,Region.binds .any e=true→∃g,R e.on (vs e.on) g vs w')→
   ∀K:Act→World→Prop,(∀v g w'',Below w'.heap.size w' w''→R i v g vs w''→(∀k∈g,w'.heap.size≤k∧k<w''.heap.size)→K ((puts a D vs l.length).put (some (D i)) v) w'')→o.wp P (puts a D vs l.length) w' K Q)
  (hend:∀(vs:Nat→Value) (gs:Nat→List Nat) w',Below w.heap.size w w'→(∀i,i<l.length→R i (vs i) (gs i) vs w')→(∀i k,i<l.length→k∈gs i→w.heap.size≤k∧k<w'.heap.size)→(∀i j k,i<l.length→j<l.length→i≠j→k∈gs i→k∉gs j)→Q .normal (puts a D vs l.length) w'):(Code.region id l.toArray true).wp P Q a w:=by
 have ha:=puts_of (a:=a) (a':=a) hinj rfl rfl hD (fun _ _=>rfl)
 refine wp_region_inv hm (fun listed a' w'=>listed.size=l.length∧(∀i o,l[i]? =some o→listed.getD i false=true→∀e∈o.after,Region.binds .any e=true→listed.getD e.on false=true)∧
  ∃(vs:Nat→Value) (gs:Nat→List Nat),a'=puts a D vs l.length∧Below w.heap.size w w'∧(∀i,i<l.length→listed.getD i false=true→R i (vs i) (gs i) vs w')∧(∀i,i<l.length→listed.getD i false=true→∀k∈gs i,w.heap.size≤k∧k<w'.heap.size)∧
   ∀i j k,i<l.length→j<l.length→listed.getD i false=true→listed.getD j false=true→i≠j→k∈gs i→k∉gs j) ?_ ?_ ?_
 ·have hz:∀i,¬(Array.replicate l.toArray.size false).getD i false=true:=fun i h=>by
   rw [getD_replicate_false] at h
   cases h
  exact ⟨by simp,fun i o _ h=>absurd h (hz i),_,fun _=>[],ha,(Below.refl _ w).drew,fun i _ h=>absurd h (hz i),fun i _ h=>absurd h (hz i),fun i j k _ _ h=>absurd h (hz i)⟩
 ·rintro listed a' w' i ⟨hsz,hcl,vs,gs,rfl,hb,hR,hF,hN⟩ hi
  obtain ⟨h1,o,h2,h3⟩:=mem_ready.1 hi
  have h2':l[i]? =some o:=by simpa using h2
  have hlt:i<l.length:=(List.getElem?_eq_some_iff.1 h2').1
  have hun:∀j,listed.getD j false=true→j≠i:=by
   rintro j hj rfl
   have:=getD_both h1
   rw [this] at hj
   cases hj
  obtain ⟨hd,hg⟩:=hdst i o h2'
  unfold wpOp
  simp only [h2]
  rw [if_pos (by simp [Region.wanted,hg])]
  refine .inl (hop i o h2' vs w' hb (fun e he hb'=>?_) _ (fun v g w'' hb2 hr hf=>?_))
  ·have h4:=h3 e he hb'
   have h5:e.on<l.length:=by have:=hord i o h2' e he hb';omega
   exact ⟨_,hR _ h5 h4⟩
  ·have hset:∀j,(listed.setIfInBounds i true).getD j false=true→j=i∨(j≠i∧listed.getD j false=true):=fun j hl=>by
    by_cases e:j=i
    ·exact .inl e
    ·rw [getD_set_ne false (fun h=>e h.symm)] at hl
     exact .inr ⟨e,hl⟩
   have hkeep:∀j,listed.getD j false=true→(listed.setIfInBounds i true).getD j false=true:=fun j hl=>by
    rw [getD_set_ne false (fun h=>hun j hl h.symm)]
    exact hl
   obtain ⟨gs2,hgs⟩:∃gs2:Nat→List Nat,gs2=fun j=>if j=i then g else gs j:=⟨_,rfl⟩
   have hgi:gs2 i=g:=by rw [hgs];exact if_pos rfl
   have hgn:∀j,j≠i→gs2 j=gs j:=fun j hj=>by rw [hgs];exact if_neg hj
   have hvi:updV vs i v i=v:=if_pos rfl
   have hvn:∀j,j≠i→updV vs i v j=vs j:=fun j hj=>if_neg hj
   have hsz2:=hb2.size
   refine ⟨by simp [hsz],?_,updV vs i v,gs2,puts_put hinj hD hlt,hb.st hb2,?_,?_,?_⟩
   ·intro j oj hj hl e he hb'
    rcases hset j hl with rfl|⟨hji,hl'⟩
    ·rw [h2'] at hj
     cases hj
     exact hkeep _ (h3 e he hb')
    ·exact hkeep _ (hcl j oj hj hl' e he hb')
   ·intro j hj hl
    rcases hset j hl with rfl|⟨hji,hl'⟩
    ·rw [hvi,hgi]
     exact hloc j o h2' _ _ _ _ _ (fun e he hb'=>hvn _ (by have:=hord j o h2' e he hb';omega)) hr
    ·rw [hvn j hji,hgn j hji]
     exact hloc j l[j] (List.getElem?_eq_getElem hj) _ _ _ _ _ (fun e he hb'=>hvn _ (hun _ (hcl j l[j] (List.getElem?_eq_getElem hj) hl' e he hb'))) (hmono _ _ _ _ _ _ hb2 (hR j hj hl'))
   ·intro j hj hl k hk
    rcases hset j hl with rfl|⟨hji,hl'⟩
    ·rw [hgi] at hk
     have:=hf k hk
     have:=hb.size
     exact ⟨by omega,by omega⟩
    ·rw [hgn j hji] at hk
     have:=hF j hj hl' k hk
     exact ⟨this.1,by omega⟩
   ·intro j1 j2 k hj1 hj2 hl1 hl2 hne hk1 hk2
    rcases hset j1 hl1 with rfl|⟨hji1,hl1'⟩<;>rcases hset j2 hl2 with e2|⟨hji2,hl2'⟩
    ·exact absurd e2.symm hne
    ·rw [hgi] at hk1
     rw [hgn j2 hji2] at hk2
     have:=hf k hk1
     have:=hF j2 hj2 hl2' k hk2
     omega
    ·subst e2
     rw [hgi] at hk2
     rw [hgn j1 hji1] at hk1
     have:=hf k hk2
     have:=hF j1 hj1 hl1' k hk1
     omega
    ·rw [hgn j1 hji1] at hk1
     rw [hgn j2 hji2] at hk2
     exact hN j1 j2 k hj1 hj2 hl1' hl2' hne hk1 hk2
 ·rintro listed a' w' ⟨hsz,hcl,vs,gs,rfl,hb,hR,hF,hN⟩ hr
  have hall:∀d i,i=d→i<l.length→listed.getD i false=true:=by
   intro d
   induction d using Nat.strongRecOn with
   |_ d ih=>
    rintro i rfl hi
    cases hl:listed.getD i false with
    |true=>rfl
    |false=>
     have hin:i∈Region.ready .any l.toArray listed:=by
      refine mem_ready.2 ⟨getD_in (by omega) hl,l[i],by simp [hi],fun e he hb'=>?_⟩
      have h6:=hord i l[i] (List.getElem?_eq_getElem hi) e he hb'
      exact ih e.on h6 e.on rfl (by omega)
     rw [hr] at hin
     cases hin
  exact hend vs gs w' hb (fun i hi=>hR i hi (hall i i rfl hi)) (fun i k hi hk=>hF i hi (hall i i rfl hi) k hk) (fun i j k hi hj=>hN i j k hi hj (hall i i rfl hi) (hall j j rfl hj))
def dstAt (l:List Oper) (i:Nat):Nat:=((l[i]?).bind (·.dst)).getD 0
def depB (l:List Oper) (i j:Nat):Bool:=match l[i]? with
 |none=>false
 |some o=>o.after.toList.any fun e=>Region.binds .any e&&e.on==j
def growB (l:List Oper) (sz:Nat):Bool:=(List.range l.length).all fun i=>match l[i]? with
 |none=>false
 |some o=>o.dst.isSome&&o.guard.isNone&&decide (dstAt l i<sz)&&(o.after.all fun e=>!Region.binds .any e||decide (e.on<i))&&(List.range i).all fun j=>decide (dstAt l j≠dstAt l i)
def opsAll (p:Nat→Oper→Prop):Nat→List Oper→Prop
 |_,[]=>True
 |k,o::l=>p k o∧opsAll p (k+1) l
theorem opsAll_get {p:Nat→Oper→Prop} (l:List Oper):∀(k:Nat),opsAll p k l→∀i o,l[i]? =some o→p (k+i) o:=by
 induction l with
 |nil=>intro k _ i o e;simp at e
 |cons x l ih=>
  intro k h i o e
  cases i with
  |zero=>
   have e':x=o:=by simpa using e
   subst e'
   exact h.1
  |succ i=>
   have:=ih (k+1) h.2 i o (by simpa using e)
   rwa [show k+(i+1)=k+1+i by omega]
theorem growB_at {l:List Oper} {sz:Nat} (h:growB l sz=true) {i:Nat} {o:Oper} (hi:l[i]? =some o):
  o.dst.isSome=true∧o.guard.isNone=true∧dstAt l i<sz∧(∀e∈o.after,Region.binds .any e=true→e.on<i)∧∀j,j<i→dstAt l j≠dstAt l i:=by
 have hlt:i<l.length:=(List.getElem?_eq_some_iff.1 hi).1
 unfold growB at h
 have h1:=List.all_eq_true.1 h i (List.mem_range.2 hlt)
 rw [hi] at h1
 clear h
 simp only [Bool.and_eq_true] at h1
 obtain ⟨⟨⟨⟨h2,h3⟩,h4⟩,h5⟩,h6⟩:=h1
 refine ⟨h2,h3,of_decide_eq_true h4,fun e he hb=>?_,fun j hj=>?_⟩
 ·have h7:=Array.all_eq_true_iff_forall_mem.1 h5 e he
  rw [hb] at h7
  simpa using h7
 ·have h7:=List.all_eq_true.1 h6 j (List.mem_range.2 hj)
  exact of_decide_eq_true h7
theorem wp_region_grows {id:Nat} {l:List Oper} (R:Nat→Value→List Nat→(Nat→Value)→World→Prop) (hm:P.follows .mixedOrders=true) (hB:growB l a.tmps.size=true)
  (hmono:∀i v g vs w w',Below w.heap.size w w'→R i v g vs w→R i v g vs w')
  (hloc:∀i v g vs vs' w,(∀j,depB l i j=true→vs' j=vs j)→R i v g vs w→R i v g vs' w)
  (hop:opsAll (fun i o=>∀(vs:Nat→Value) w',Below w.heap.size w w'→(∀j,depB l i j=true→∃g,R j (vs j) g vs w')→
   ∀K:Act→World→Prop,(∀v g w'',Below w'.heap.size w' w''→R i v g vs w''→(∀k∈g,w'.heap.size≤k∧k<w''.heap.size)→K ((puts a (dstAt l) vs l.length).put o.dst v) w'')→o.wp P (puts a (dstAt l) vs l.length) w' K Q) 0 l)
  (hend:∀(vs:Nat→Value) (gs:Nat→List Nat) w',Below w.heap.size w w'→(∀i,i<l.length→R i (vs i) (gs i) vs w')→(∀i k,i<l.length→k∈gs i→w.heap.size≤k∧k<w'.heap.size)→(∀i j k,i<l.length→j<l.length→i≠j→k∈gs i→k∉gs j)→Q .normal (puts a (dstAt l) vs l.length) w'):(Code.region id l.toArray true).wp P Q a w:=by
 have hg:=fun i (hi:i<l.length)=>growB_at hB (List.getElem?_eq_getElem hi)
 have hds:∀i o,l[i]? =some o→o.dst=some (dstAt l i):=fun i o hi=>by
  have h:=(growB_at hB hi).1
  obtain ⟨d,hd⟩:=Option.isSome_iff_exists.1 h
  unfold dstAt
  rw [hi]
  simp [hd]
 have hdep:∀i o,l[i]? =some o→∀j,depB l i j=true→∃e∈o.after,Region.binds .any e=true∧e.on=j:=fun i o hi j h=>by
  unfold depB at h
  simp only [hi] at h
  obtain ⟨e,he,h2⟩:=List.any_eq_true.1 h
  simp only [Bool.and_eq_true,beq_iff_eq] at h2
  exact ⟨e,Array.mem_toList_iff.1 he,h2⟩
 refine wp_region_grow (dstAt l) R hm (fun i hi=>(hg i hi).2.2.1) (fun i o hi=>⟨hds i o hi,by have:=(growB_at hB hi).2.1;simpa using this⟩) ?_ (fun i o hi=>(growB_at hB hi).2.2.2.1) hmono ?_ ?_ hend
 ·intro i j hi hj e
  rcases Nat.lt_trichotomy i j with h|h|h
  ·exact absurd e ((hg j hj).2.2.2.2 i h)
  ·exact h
  ·exact absurd e.symm ((hg i hi).2.2.2.2 j h)
 ·intro i o hi v g vs vs' w1 h hr
  refine hloc i v g vs vs' w1 (fun j hj=>?_) hr
  obtain ⟨e,he,hb,rfl⟩:=hdep i o hi j hj
  exact h e he hb
 ·intro i o hi vs w' hb hR K hK
  have h:=opsAll_get l 0 hop i o hi
  rw [Nat.zero_add] at h
  refine h vs w' hb (fun j hj=>?_) K (fun v g w'' h1 h2 h3=>?_)
  ·obtain ⟨e,he,hb,rfl⟩:=hdep i o hi j hj
   exact hR e he hb
  ·rw [hds i o hi]
   exact hK v g w'' h1 h2 h3
end
end Go.Proofs.YtkdomobedfhhgaaGreat
end
