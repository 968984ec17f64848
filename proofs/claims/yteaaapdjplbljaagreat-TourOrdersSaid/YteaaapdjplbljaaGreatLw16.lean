/- A region that draws its order, by what holds between its operations: whatever comes next keeps it. A region that draws its order, whose operations only grow memory: each gives a value of which something is known that stays known. A map of places by pairs of numbers, as it lies in memory. The core of a contraction as it lies in memory. -/
import Derived.StillTail
import Derived.Test.YteaaapdjplbljaaGreatLw02
import Derived.Test.YteaaapdjplbljaaGreatProg
import Derived.Test.YteaaapdjplbljaaGreatLw11
import Derived.WideKeyPair
import Derived.Test.YteaaapdjplbljaaGreatLw13
set_option linter.unusedVariables false
set_option linter.unusedSimpArgs false
set_option linter.unnecessarySimpa false
section
namespace Go.Proofs.YteaaapdjplbljaaGreat
open Go Go.Proofs Go.RowKit
section
variable {P:Program} {ops:Array Oper} {md:Region.Mode} {Q:Exit→Act→World→Prop}
def toCome (listed:Array Bool):Nat→Nat
 |0=>0
 |n+1=>toCome listed n+(if listed.getD n true=false then 1 else 0)
theorem toCome_set {listed:Array Bool} {i:Nat}:∀{n:Nat},toCome (listed.setIfInBounds i true) n≤toCome listed n
 |0=>Nat.le_refl _
 |n+1=>by
  have ih:=toCome_set (listed:=listed) (i:=i) (n:=n)
  unfold toCome
  by_cases e:i=n
  ·subst e
   have:¬(listed.setIfInBounds i true).getD i true=false:=by
    rcases Nat.lt_or_ge i listed.size with h|h<;>simp [h]
   rw [if_neg this]
   omega
  ·rw [getD_set_ne true e]
   omega
theorem toCome_lt {listed:Array Bool} {i:Nat}:∀{n:Nat},i<n→listed.getD i true=false→toCome (listed.setIfInBounds i true) n<toCome listed n
 |n+1,hi,hf=>by
  unfold toCome
  by_cases e:i=n
  ·subst e
   have h1:=toCome_set (listed:=listed) (i:=i) (n:=i)
   have:¬(listed.setIfInBounds i true).getD i true=false:=by
    rcases Nat.lt_or_ge i listed.size with h|h<;>simp [h]
   rw [if_neg this,if_pos hf]
   omega
  ·have ih:=toCome_lt (n:=n) (by omega) hf
   rw [getD_set_ne true e]
   omega
theorem toCome_le (listed:Array Bool):∀n,toCome listed n≤n
 |0=>Nat.le_refl _
 |n+1=>by
  have:=toCome_le listed n
  unfold toCome
  split<;>omega
theorem toCome_zero {listed:Array Bool}:∀{n i:Nat},toCome listed n=0→i<n→listed.getD i true≠false
 |n+1,i,h,hi=>by
  unfold toCome at h
  by_cases e:i=n
  ·subst e
   intro hf
   rw [if_pos hf] at h
   omega
  ·exact toCome_zero (n:=n) (by omega) (by omega)
theorem wpAny_inv (J:Array Bool→Act→World→Prop) (hJ:∀listed a w i,J listed a w→i∈Region.ready md ops listed→wpOp P ops Q i (fun a' w'=>J (listed.setIfInBounds i true) a' w') a w)
  (hend:∀listed a w,J listed a w→Region.ready md ops listed=[]→Q .normal a w):
  ∀(fuel:Nat) (listed:Array Bool) (a:Act) (w:World),toCome listed ops.size≤fuel→J listed a w→wpAny P md ops Q fuel listed a w
 |0,listed,a,w,hf,h=>by
  have hr:Region.ready md ops listed=[]:=by
   rw [List.eq_nil_iff_forall_not_mem]
   intro i hi
   obtain ⟨h1,o,h2,_⟩:=mem_ready.1 hi
   have hlt:i<ops.size:=(Array.getElem?_eq_some_iff.1 h2).1
   exact toCome_zero (by omega) hlt h1
  exact ⟨hr,hend _ _ _ h hr⟩
 |fuel+1,listed,a,w,hf,h=>by
  refine ⟨hend _ _ _ h,fun i hi=>?_⟩
  obtain ⟨h1,o,h2,_⟩:=mem_ready.1 hi
  have hlt:i<ops.size:=(Array.getElem?_eq_some_iff.1 h2).1
  have hc:=toCome_lt hlt h1
  exact wpOp_mono (fun a' w' h'=>wpAny_inv J hJ hend fuel _ a' w' (by omega) h') (hJ _ _ _ _ h hi)
theorem wp_region_inv {id:Nat} {a:Act} {w:World} {l:List Oper} (hm:P.follows .mixedOrders=true) (J:Array Bool→Act→World→Prop) (h0:J (Array.replicate l.toArray.size false) a w.drew)
  (hJ:∀listed a w i,J listed a w→i∈Region.ready .any l.toArray listed→wpOp P l.toArray Q i (fun a' w'=>J (listed.setIfInBounds i true) a' w') a w)
  (hend:∀listed a w,J listed a w→Region.ready .any l.toArray listed=[]→Q .normal a w):(Code.region id l.toArray true).wp P Q a w:=
 wp_region_any hm (wpAny_inv J hJ hend _ _ _ _ (toCome_le _ _) h0)
end
end Go.Proofs.YteaaapdjplbljaaGreat
end
section
namespace Go.Proofs.YteaaapdjplbljaaGreat
open Go Go.Proofs Go.RowKit
section
def puts (a:Act) (D:Nat→Nat) (vs:Nat→Value):Nat→Act
 |0=>a
 |n+1=>(puts a D vs n).put (some (D n)) (vs n)
variable {a a':Act} {D:Nat→Nat} {vs:Nat→Value}
theorem puts_size:∀n,(puts a D vs n).tmps.size=a.tmps.size
 |0=>rfl
 |n+1=>by
  show ((puts a D vs n).tmps.setIfInBounds _ _).size=_
  rw [Array.size_setIfInBounds,puts_size n]
theorem puts_defers:∀n,(puts a D vs n).defers=a.defers
 |0=>rfl
 |n+1=>puts_defers n
theorem puts_off {t:Nat}:∀{n:Nat},(∀i,i<n→D i≠t)→(puts a D vs n).tmps[t]? =a.tmps[t]?
 |0,_=>rfl
 |n+1,h=>by
  show ((puts a D vs n).tmps.setIfInBounds _ _)[t]? =_
  rw [Array.getElem?_setIfInBounds_ne (h n (by omega)),puts_off (fun i hi=>h i (by omega))]
theorem puts_on {i:Nat}:∀{n:Nat},(∀i j,i<n→j<n→D i=D j→i=j)→i<n→D i<a.tmps.size→(puts a D vs n).tmps[D i]? =some (vs i)
 |n+1,hinj,hi,hs=>by
  show ((puts a D vs n).tmps.setIfInBounds _ _)[D i]? =_
  by_cases e:i=n
  ·subst e
   rw [Array.getElem?_setIfInBounds_self_of_lt (by rw [puts_size];exact hs)]
  ·rw [Array.getElem?_setIfInBounds_ne (fun h=>e (hinj i n hi (by omega) h.symm)),puts_on (fun i j hi hj=>hinj i j (by omega) (by omega)) (by omega) hs]
theorem puts_of {n:Nat} (hinj:∀i j,i<n→j<n→D i=D j→i=j) (hs:a'.tmps.size=a.tmps.size) (hd:a'.defers=a.defers) (hD:∀i,i<n→D i<a.tmps.size)
  (h:∀t,(∀i,i<n→D i≠t)→a'.tmps[t]? =a.tmps[t]?):a'=puts a D (fun i=>a'.tmps.getD (D i) undef) n:=by
 have ht:a'.tmps=(puts a D (fun i=>a'.tmps.getD (D i) undef) n).tmps:=by
  apply Array.ext_getElem?
  intro t
  by_cases e:∃i,i<n∧D i=t
  ·obtain ⟨i,hi,rfl⟩:=e
   rw [puts_on hinj hi (hD i hi)]
   have:D i<a'.tmps.size:=by rw [hs];exact hD i hi
   rw [Array.getD_eq_getD_getElem?,Array.getElem?_eq_getElem this]
   rfl
  ·have hne:∀i,i<n→D i≠t:=fun i hi h'=>e ⟨i,hi,h'⟩
   rw [puts_off hne,h t hne]
 have hdd:=puts_defers (a:=a) (D:=D) (vs:=fun i=>a'.tmps.getD (D i) undef) n
 rw [←hd] at hdd
 cases a' with
 |mk tm df=>
  generalize hp:puts a D (fun i=>(Act.mk tm df).tmps.getD (D i) undef) n=p at*
  cases p with
  |mk tm' df'=>simp only at ht hdd;rw [ht,hdd]
def updV (vs:Nat→Value) (i:Nat) (v:Value):Nat→Value:=fun j=>if j=i then v else vs j
theorem puts_put {n i:Nat} {v:Value} (hinj:∀i j,i<n→j<n→D i=D j→i=j) (hD:∀i,i<n→D i<a.tmps.size) (hi:i<n):(puts a D vs n).put (some (D i)) v=puts a D (updV vs i v) n:=by
 have h0:=puts_of (a:=a) (a':=(puts a D vs n).put (some (D i)) v) hinj (by show ((puts a D vs n).tmps.setIfInBounds _ _).size=_;rw [Array.size_setIfInBounds,puts_size]) (puts_defers n) hD (fun t ht=>by
  show ((puts a D vs n).tmps.setIfInBounds _ _)[t]? =_
  rw [Array.getElem?_setIfInBounds_ne (ht i hi),puts_off ht])
 rw [h0]
 have:∀m,m≤n→puts a D (fun j=>((puts a D vs n).put (some (D i)) v).tmps.getD (D j) undef) m=puts a D (updV vs i v) m:=by
  intro m
  induction m with
  |zero=>intro _;rfl
  |succ m ih=>
   intro hm
   show Act.put _ _ _=Act.put _ _ _
   rw [ih (by omega)]
   congr 1
   show ((puts a D vs n).tmps.setIfInBounds (D i) v).getD (D m) undef=if m=i then v else vs m
   rw [Array.getD_eq_getD_getElem?]
   by_cases e:m=i
   ·subst e
    rw [Array.getElem?_setIfInBounds_self_of_lt (by rw [puts_size];exact hD m hi),if_pos rfl]
    rfl
   ·rw [Array.getElem?_setIfInBounds_ne (fun h=>e (hinj i m hi (by omega) h).symm),puts_on hinj (by omega) (hD m (by omega)),if_neg e]
    rfl
 exact this n (Nat.le_refl _)
variable {P:Program} {Q:Exit→Act→World→Prop} {w:World}
theorem wp_region_grow {id:Nat} {l:List Oper} (D:Nat→Nat) (R:Nat→Value→List Nat→(Nat→Value)→World→Prop) (hm:P.follows .mixedOrders=true)
  (hD:∀i,i<l.length→D i<a.tmps.size) (hdst:∀i o,l[i]? =some o→o.dst=some (D i)∧o.guard=none) (hinj:∀i j,i<l.length→j<l.length→D i=D j→i=j)
  (hord:∀i o,l[i]? =some o→∀e∈o.after,Region.binds .any e=true→e.on<i) (hmono:∀i v g vs w w',Below w.heap.size w w'→R i v g vs w→R i v g vs w')
  (hloc:∀i o,l[i]? =some o→∀v g vs vs' w,(∀e∈o.after,Region.binds .any e=true→vs' e.on=vs e.on)→R i v g vs w→R i v g vs' w)
  (hop:∀i o,l[i]? =some o→∀(vs:Nat→Value) w',Below w.heap.size w w'→(∀e∈o.after,Region.binds .any e=true→∃g,R e.on (vs e.on) g vs w')→
   ∀K:Act→World→Prop,(∀v g w'',Below w'.heap.size w' w''→R i v g vs w''→(∀k∈g,w'.heap.size≤k∧k<w''.heap.size)→K ((puts a D vs l.length).put (some (D i)) v) w'')→o.wp P (puts a D vs l.length) w' K Q)
  (hend:∀(vs:Nat→Value) (gs:Nat→List Nat) w',Below w.heap.size w w'→(∀i,i<l.length→R i (vs i) (gs i) vs w')→(∀i k,i<l.length→k∈gs i→w.heap.size≤k∧k<w'.heap.size)→(∀i j k,i<l.length→j<l.length→i≠j→k∈gs i→k∉gs j)→Q .normal (puts a D vs l.length) w'):(Code.region id l.toArray true).wp P Q a w:=by
 have ha:=puts_of (a:=a) (a':=a) hinj rfl rfl hD (fun _ _=>rfl)
 refine wp_region_inv hm (fun listed a' w'=>listed.size=l.length∧(∀i o,l[i]? =some o→listed.getD i false=true→∀e∈o.after,Region.binds .any e=true→listed.getD e.on false=true)∧
  ∃(vs:Nat→Value) (gs:Nat→List Nat),a'=puts a D vs l.length∧Below w.heap.size w w'∧(∀i,i<l.length→listed.getD i false=true→R i (vs i) (gs i) vs w')∧(∀i,i<l.length→listed.getD i false=true→∀k∈gs i,w.heap.size≤k∧k<w'.heap.size)∧
   ∀i j k,i<l.length→j<l.length→listed.getD i false=true→listed.getD j false=true→i≠j→k∈gs i→k∉gs j) ?_ ?_ ?_
 ·have hz:∀i,¬(Array.replicate l.toArray.size false).getD i false=true:=fun i h=>by
   rw [getD_replicate_false] at h
   cases h
  exact ⟨by simp,fun i o _ h=>absurd h (hz i),_,fun _=>[],ha,(Below.refl _ w).drew,fun i _ h=>absurd h (hz i),fun i _ h=>absurd h (hz i),fun i j k _ _ h=>absurd h (hz i)⟩
 ·rintro listed a' w' i ⟨hsz,hcl,vs,gs,rfl,hb,hR,hF,hN⟩ hi
  obtain ⟨h1,o,h2,h3⟩:=mem_ready.1 hi
  have h2':l[i]? =some o:=by simpa using h2
  have hlt:i<l.length:=(List.getElem?_eq_some_iff.1 h2').1
  have hun:∀j,listed.getD j false=true→j≠i:=by
   rintro j hj rfl
   have:=getD_both h1
   rw [this] at hj
   cases hj
  obtain ⟨hd,hg⟩:=hdst i o h2'
  unfold wpOp
  simp only [h2]
  rw [if_pos (by simp [Region.wanted,hg])]
  refine .inl (hop i o h2' vs w' hb (fun e he hb'=>?_) _ (fun v g w'' hb2 hr hf=>?_))
  ·have h4:=h3 e he hb'
   have h5:e.on<l.length:=by have:=hord i o h2' e he hb';omega
   exact ⟨_,hR _ h5 h4⟩
  ·have hset:∀j,(listed.setIfInBounds i true).getD j false=true→j=i∨(j≠i∧listed.getD j false=true):=fun j hl=>by
    by_cases e:j=i
    ·exact .inl e
    ·rw [getD_set_ne false (fun h=>e h.symm)] at hl
     exact .inr ⟨e,hl⟩
   have hkeep:∀j,listed.getD j false=true→(listed.setIfInBounds i true).getD j false=true:=fun j hl=>by
    rw [getD_set_ne false (fun h=>hun j hl h.symm)]
    exact hl
   obtain ⟨gs2,hgs⟩:∃gs2:Nat→List Nat,gs2=fun j=>if j=i then g else gs j:=⟨_,rfl⟩
   have hgi:gs2 i=g:=by rw [hgs];exact if_pos rfl
   have hgn:∀j,j≠i→gs2 j=gs j:=fun j hj=>by rw [hgs];exact if_neg hj
   have hvi:updV vs i v i=v:=if_pos rfl
   have hvn:∀j,j≠i→updV vs i v j=vs j:=fun j hj=>if_neg hj
   have hsz2:=hb2.size
   refine ⟨by simp [hsz],?_,updV vs i v,gs2,puts_put hinj hD hlt,hb.st hb2,?_,?_,?_⟩
   ·intro j oj hj hl e he hb'
    rcases hset j hl with rfl|⟨hji,hl'⟩
    ·rw [h2'] at hj
     cases hj
     exact hkeep _ (h3 e he hb')
    ·exact hkeep _ (hcl j oj hj hl' e he hb')
   ·intro j hj hl
    rcases hset j hl with rfl|⟨hji,hl'⟩
    ·rw [hvi,hgi]
     exact hloc j o h2' _ _ _ _ _ (fun e he hb'=>hvn _ (by have:=hord j o h2' e he hb';omega)) hr
    ·rw [hvn j hji,hgn j hji]
     exact hloc j l[j] (List.getElem?_eq_getElem hj) _ _ _ _ _ (fun e he hb'=>hvn _ (hun _ (hcl j l[j] (List.getElem?_eq_getElem hj) hl' e he hb'))) (hmono _ _ _ _ _ _ hb2 (hR j hj hl'))
   ·intro j hj hl k hk
    rcases hset j hl with rfl|⟨hji,hl'⟩
    ·rw [hgi] at hk
     have:=hf k hk
     have:=hb.size
     exact ⟨by omega,by omega⟩
    ·rw [hgn j hji] at hk
     have:=hF j hj hl' k hk
     exact ⟨this.1,by omega⟩
   ·intro j1 j2 k hj1 hj2 hl1 hl2 hne hk1 hk2
    rcases hset j1 hl1 with rfl|⟨hji1,hl1'⟩<;>rcases hset j2 hl2 with e2|⟨hji2,hl2'⟩
    ·exact absurd e2.symm hne
    ·rw [hgi] at hk1
     rw [hgn j2 hji2] at hk2
     have:=hf k hk1
     have:=hF j2 hj2 hl2' k hk2
     omega
    ·subst e2
     rw [hgi] at hk2
     rw [hgn j1 hji1] at hk1
     have:=hf k hk2
     have:=hF j1 hj1 hl1' k hk1
     omega
    ·rw [hgn j1 hji1] at hk1
     rw [hgn j2 hji2] at hk2
     exact hN j1 j2 k hj1 hj2 hl1' hl2' hne hk1 hk2
 ·rintro listed a' w' ⟨hsz,hcl,vs,gs,rfl,hb,hR,hF,hN⟩ hr
  have hall:∀d i,i=d→i<l.length→listed.getD i false=true:=by
   intro d
   induction d using Nat.strongRecOn with
   |_ d ih=>
    rintro i rfl hi
    cases hl:listed.getD i false with
    |true=>rfl
    |false=>
     have hin:i∈Region.ready .any l.toArray listed:=by
      refine mem_ready.2 ⟨getD_in (by omega) hl,l[i],by simp [hi],fun e he hb'=>?_⟩
      have h6:=hord i l[i] (List.getElem?_eq_getElem hi) e he hb'
      exact ih e.on h6 e.on rfl (by omega)
     rw [hr] at hin
     cases hin
  exact hend vs gs w' hb (fun i hi=>hR i hi (hall i i rfl hi)) (fun i k hi hk=>hF i hi (hall i i rfl hi) k hk) (fun i j k hi hj=>hN i j k hi hj (hall i i rfl hi) (hall j j rfl hj))
def dstAt (l:List Oper) (i:Nat):Nat:=((l[i]?).bind (·.dst)).getD 0
def depB (l:List Oper) (i j:Nat):Bool:=match l[i]? with
 |none=>false
 |some o=>o.after.toList.any fun e=>Region.binds .any e&&e.on==j
def growB (l:List Oper) (sz:Nat):Bool:=(List.range l.length).all fun i=>match l[i]? with
 |none=>false
 |some o=>o.dst.isSome&&o.guard.isNone&&decide (dstAt l i<sz)&&(o.after.all fun e=>!Region.binds .any e||decide (e.on<i))&&(List.range i).all fun j=>decide (dstAt l j≠dstAt l i)
def opsAll (p:Nat→Oper→Prop):Nat→List Oper→Prop
 |_,[]=>True
 |k,o::l=>p k o∧opsAll p (k+1) l
theorem opsAll_get {p:Nat→Oper→Prop} (l:List Oper):∀(k:Nat),opsAll p k l→∀i o,l[i]? =some o→p (k+i) o:=by
 induction l with
 |nil=>intro k _ i o e;simp at e
 |cons x l ih=>
  intro k h i o e
  cases i with
  |zero=>
   have e':x=o:=by simpa using e
   subst e'
   exact h.1
  |succ i=>
   have:=ih (k+1) h.2 i o (by simpa using e)
   rwa [show k+(i+1)=k+1+i by omega]
theorem growB_at {l:List Oper} {sz:Nat} (h:growB l sz=true) {i:Nat} {o:Oper} (hi:l[i]? =some o):
  o.dst.isSome=true∧o.guard.isNone=true∧dstAt l i<sz∧(∀e∈o.after,Region.binds .any e=true→e.on<i)∧∀j,j<i→dstAt l j≠dstAt l i:=by
 have hlt:i<l.length:=(List.getElem?_eq_some_iff.1 hi).1
 unfold growB at h
 have h1:=List.all_eq_true.1 h i (List.mem_range.2 hlt)
 rw [hi] at h1
 clear h
 simp only [Bool.and_eq_true] at h1
 obtain ⟨⟨⟨⟨h2,h3⟩,h4⟩,h5⟩,h6⟩:=h1
 refine ⟨h2,h3,of_decide_eq_true h4,fun e he hb=>?_,fun j hj=>?_⟩
 ·have h7:=Array.all_eq_true_iff_forall_mem.1 h5 e he
  rw [hb] at h7
  simpa using h7
 ·have h7:=List.all_eq_true.1 h6 j (List.mem_range.2 hj)
  exact of_decide_eq_true h7
theorem wp_region_grows {id:Nat} {l:List Oper} (R:Nat→Value→List Nat→(Nat→Value)→World→Prop) (hm:P.follows .mixedOrders=true) (hB:growB l a.tmps.size=true)
  (hmono:∀i v g vs w w',Below w.heap.size w w'→R i v g vs w→R i v g vs w')
  (hloc:∀i v g vs vs' w,(∀j,depB l i j=true→vs' j=vs j)→R i v g vs w→R i v g vs' w)
  (hop:opsAll (fun i o=>∀(vs:Nat→Value) w',Below w.heap.size w w'→(∀j,depB l i j=true→∃g,R j (vs j) g vs w')→
   ∀K:Act→World→Prop,(∀v g w'',Below w'.heap.size w' w''→R i v g vs w''→(∀k∈g,w'.heap.size≤k∧k<w''.heap.size)→K ((puts a (dstAt l) vs l.length).put o.dst v) w'')→o.wp P (puts a (dstAt l) vs l.length) w' K Q) 0 l)
  (hend:∀(vs:Nat→Value) (gs:Nat→List Nat) w',Below w.heap.size w w'→(∀i,i<l.length→R i (vs i) (gs i) vs w')→(∀i k,i<l.length→k∈gs i→w.heap.size≤k∧k<w'.heap.size)→(∀i j k,i<l.length→j<l.length→i≠j→k∈gs i→k∉gs j)→Q .normal (puts a (dstAt l) vs l.length) w'):(Code.region id l.toArray true).wp P Q a w:=by
 have hg:=fun i (hi:i<l.length)=>growB_at hB (List.getElem?_eq_getElem hi)
 have hds:∀i o,l[i]? =some o→o.dst=some (dstAt l i):=fun i o hi=>by
  have h:=(growB_at hB hi).1
  obtain ⟨d,hd⟩:=Option.isSome_iff_exists.1 h
  unfold dstAt
  rw [hi]
  simp [hd]
 have hdep:∀i o,l[i]? =some o→∀j,depB l i j=true→∃e∈o.after,Region.binds .any e=true∧e.on=j:=fun i o hi j h=>by
  unfold depB at h
  simp only [hi] at h
  obtain ⟨e,he,h2⟩:=List.any_eq_true.1 h
  simp only [Bool.and_eq_true,beq_iff_eq] at h2
  exact ⟨e,Array.mem_toList_iff.1 he,h2⟩
 refine wp_region_grow (dstAt l) R hm (fun i hi=>(hg i hi).2.2.1) (fun i o hi=>⟨hds i o hi,by have:=(growB_at hB hi).2.1;simpa using this⟩) ?_ (fun i o hi=>(growB_at hB hi).2.2.2.1) hmono ?_ ?_ hend
 ·intro i j hi hj e
  rcases Nat.lt_trichotomy i j with h|h|h
  ·exact absurd e ((hg j hj).2.2.2.2 i h)
  ·exact h
  ·exact absurd e.symm ((hg i hi).2.2.2.2 j h)
 ·intro i o hi v g vs vs' w1 h hr
  refine hloc i v g vs vs' w1 (fun j hj=>?_) hr
  obtain ⟨e,he,hb,rfl⟩:=hdep i o hi j hj
  exact h e he hb
 ·intro i o hi vs w' hb hR K hK
  have h:=opsAll_get l 0 hop i o hi
  rw [Nat.zero_add] at h
  refine h vs w' hb (fun j hj=>?_) K (fun v g w'' h1 h2 h3=>?_)
  ·obtain ⟨e,he,hb,rfl⟩:=hdep i o hi j hj
   exact hR e he hb
  ·rw [hds i o hi]
   exact hK v g w'' h1 h2 h3
end
end Go.Proofs.YteaaapdjplbljaaGreat
end
section
namespace Go.Proofs.YteaaapdjplbljaaGreat
open Go Go.Proofs Go.RowKit Go.Shelf Go.Proofs.YteaaapdjplbljaaGreat.Ch
theorem mq_arr:Go.WideMaps.ArrKey Tryz.prog 254 3 2:=⟨Tryz.underlying254,by kernel_rfl,by kernel_rfl,by kernel_rfl⟩
theorem mq_keyed:Maps.Keyed Tryz.prog 254:=Maps.Keyed.of_law mq_arr.law
theorem mq_under:Tryz.prog.underlying 180=some (.map 254 3):=Tryz.underlying180
def pairK (u v:Int):Lit:=.string (keyBytes [.int .i64 u,.int .i64 v])
theorem pairK_of {u v:Int} (hu:In6 u) (hv:In6 v):keyOf Tryz.prog 254 (.agg #[.int .i64 u,.int .i64 v])=some (pairK u v):=
 Go.WideMaps.keyOf_pair mq_arr Tryz.underlying3 ⟨Tryz.prog.types.size-1,by kernel_rfl⟩ (in6_wf hu) (in6_wf hv)
theorem pairK_inj {u v u' v':Int} (hu:In6 u) (hv:In6 v) (hu':In6 u') (hv':In6 v') (h:pairK u v=pairK u' v'):u=u'∧v=v':=by
 have:=mq_keyed.inj (pairK_of hu hv) (by rw [h];exact pairK_of hu' hv')
 simp at this
 exact this
def posO (o:Option Nat):Int:=o.elim 0 (fun i=>(i:Int))
def MapP (w:World) (b n:Nat) (p:Int→Int→Option Nat):Prop:=
 ∃D:DataW Unit,w.ownsMap Tryz.prog 254 (plainElem Tryz.prog 3) b n D∧∀u v,In6 u→In6 v→Maps.has D (pairK u v)=(p u v).isSome∧D.atKey (pairK u v) (.lit (.int .i64 0))=.lit (.int .i64 (posO (p u v)))
variable {w w':World} {b n:Nat} {p:Int→Int→Option Nat}
theorem MapP.lt (h:MapP w b n p):b<w.heap.size:=let ⟨_,k,_⟩:=h;k.lt
theorem MapP.mono (h:MapP w b n p) {n':Nat} (hn:n≤n'):MapP w b n' p:=let ⟨D,k,r⟩:=h;⟨D,k.mono hn,r⟩
theorem MapP.eq (h:MapP w b n p) (he:w'.heap[b]? =w.heap[b]?):MapP w' b n p:=by
 obtain ⟨D,⟨es,clock,hb,r⟩,q⟩:=h
 exact ⟨D,⟨es,clock,he.trans hb,r⟩,q⟩
theorem MapP.go (h:MapP w b n p) (hb:Below w.heap.size w w'):MapP w' b n p:=h.eq (hb.block b h.lt)
theorem MapP.off {X:Nat→Prop} (h:MapP w b n p) (ho:OffX X w w') (hn:¬X b):MapP w' b n p:=h.eq (ho.block b h.lt hn)
theorem MapP.new (w:World):MapP (w.alloc (.map #[] 0)) w.heap.size 0 (fun _ _=>none):=
 ⟨.map [],World.ownsMap_made w _ _ _,fun u _ _ _=>⟨rfl,rfl⟩⟩
theorem mq_zero (w:World):(zeroValue 3).run Tryz.prog w=.ok (.int .i64 0) w:=by kernel_rfl
theorem MapP.look (h:MapP w b n p) {u v:Int} (hu:In6 u) (hv:In6 v):(Instr.lookup 180 (.map (some b)) (.agg #[.int .i64 u,.int .i64 v]) true).run Tryz.prog w=.ok (.tuple #[.int .i64 (posO (p u v)),.bool (p u v).isSome]) w:=by
 obtain ⟨D,k,q⟩:=h
 obtain ⟨x,ps,h1,h2⟩:=k.look_ok mq_keyed mq_under (mq_zero w) (zd:=.lit (.int .i64 0)) (zp:=[]) (plainElem_int Tryz.underlying3 (by decide)) (pairK_of hu hv)
 obtain ⟨q1,q2⟩:=q u v hu hv
 rw [q2] at h2
 obtain ⟨c,rfl,hc,_⟩:=plainElem_int_inv Tryz.underlying3 h2
 simp only [Prod.mk.injEq,DataW.lit.injEq,Lit.int.injEq,true_and] at hc
 rw [h1,q1,hc.1]
theorem MapP.get (h:MapP w b n p) {u v:Int} (hu:In6 u) (hv:In6 v):(Instr.lookup 180 (.map (some b)) (.agg #[.int .i64 u,.int .i64 v]) false).run Tryz.prog w=.ok (.int .i64 (posO (p u v))) w:=by
 obtain ⟨D,k,q⟩:=h
 obtain ⟨x,ps,h1,h2⟩:=k.lookup mq_keyed mq_under (mq_zero w) (zd:=.lit (.int .i64 0)) (zp:=[]) (plainElem_int Tryz.underlying3 (by decide)) (pairK_of hu hv)
 obtain ⟨q1,q2⟩:=q u v hu hv
 rw [q2] at h2
 obtain ⟨c,rfl,hc,_⟩:=plainElem_int_inv Tryz.underlying3 h2
 simp only [Prod.mk.injEq,DataW.lit.injEq,Lit.int.injEq,true_and] at hc
 rw [h1,hc.1]
theorem MapP.put (h:MapP w b n p) (hn:n<1000000000000000000) {u v:Int} {i:Nat} (hu:In6 u) (hv:In6 v) (hi:i<1000000000000000000):
  ∃w',(Instr.mapUpdate 180 (.map (some b)) (.agg #[.int .i64 u,.int .i64 v]) (.int .i64 (i:Int))).run Tryz.prog w=.ok () w'∧MapP w' b (n+1) (fun a c=>if a=u∧c=v then some i else p a c)∧OffX (· =b) w w'∧w'.heap.size=w.heap.size∧∀a,w'.frozen? a=w.frozen? a:=by
 obtain ⟨D,k,q⟩:=h
 obtain ⟨w',h1,h2,h3⟩:=k.store (H:=Unit) mq_keyed mq_under (by unfold maxLen;omega) (val:=.int .i64 (i:Int)) (d:=.lit (.int .i64 (i:Int))) (ps:=[]) (pairK_of hu hv) (plainElem_int Tryz.underlying3 (in6_wf (by constructor<;>omega)))
 have hg:=h3.grown
 have hz:w'.heap.size=w.heap.size:=by
  obtain ⟨es,clock,es',clock',hb,rfl⟩:=h3
  simp [ChangeMaps.setBlock]
 refine ⟨w',h1,⟨_,h2,fun a c ha hc=>?_⟩,⟨hg.os,hg.tape,hg.output,hg.size,fun j hj hjb=>hg.block j hj (fun e=>hjb (Option.some.inj e))⟩,hz,h3.frozen⟩
 obtain ⟨q1,q2⟩:=q a c ha hc
 show _=(if a=u∧c=v then some i else p a c).isSome∧_=DataW.lit (Lit.int IntKind.i64 (posO (if a=u∧c=v then some i else p a c)))
 by_cases e:a=u∧c=v
 ·obtain ⟨rfl,rfl⟩:=e
  rw [if_pos ⟨rfl,rfl⟩,Maps.has_put_same k.isMap (k:=pairK a c) trivial,Maps.atKey_put_same k.isMap (k:=pairK a c) trivial]
  exact ⟨rfl,rfl⟩
 ·rw [if_neg e,Maps.has_put_other (fun h=>e (pairK_inj ha hc hu hv h)),Maps.atKey_put_other (fun h=>e (pairK_inj ha hc hu hv h))]
  exact ⟨q1,q2⟩
end Go.Proofs.YteaaapdjplbljaaGreat
end
section
namespace Go.Proofs.YteaaapdjplbljaaGreat
open Go Go.Proofs Go.RowKit Go.Shelf Go.Proofs.YteaaapdjplbljaaGreat.Hp Go.Proofs.YteaaapdjplbljaaGreat.Ch
def cellsS (x:SC):List Value:=[.int .i64 x.f,.int .i64 x.t,.int .u64 x.w,.int .i64 x.e,.int .i64 x.a,.int .i64 x.b]
def flatS:List SC→List Value
 |[]=>[]
 |x::l=>cellsS x++flatS l
theorem flatS_len:∀l,(flatS l).length=l.length*6
 |[]=>rfl
 |x::l=>by rw [flatS];simp [flatS_len l,cellsS];omega
theorem flatS_append:∀(l m:List SC),flatS (l++m)=flatS l++flatS m
 |[],m=>rfl
 |x::l,m=>by rw [List.cons_append,flatS,flatS,flatS_append l m,List.append_assoc]
theorem flatS_get:∀(l:List SC) (k:Nat) (h:k<l.length) (j:Nat),j<6→(flatS l)[k*6+j]? =(cellsS l[k])[j]?
 |x::l,0,_,j,hj=>by
  rw [flatS,List.getElem?_append_left (by simp [cellsS];omega)]
  simp
 |x::l,k+1,h,j,hj=>by
  have:=flatS_get l k (by simpa using h) j hj
  rw [flatS,List.getElem?_append_right (by simp [cellsS];omega)]
  rw [show (k+1)*6+j-(cellsS x).length=k*6+j by simp [cellsS];omega]
  exact this
structure CS where
 cb:Nat
 ob:Nat
 gb:Nat
 mb:Nat
 db:Nat
 cO:Nat
 cG:Nat
 cD:Nat
 hops:Int
 settles:Int
 vr:Value
 vS:Value
 rows:List Value
 c:CoreD
 gone:List Bool
 dep:List Int
 nb:Nat
abbrev nilV:Value:=.slice none 0 0
def CS.blk (s:CS):Nat→Option Nat
 |0=>some s.cb
 |1=>some s.ob
 |2=>some s.gb
 |3=>some s.mb
 |4=>some s.db
 |5=>s.vS.ownBlock
 |i+6=>(s.rows.getD i nilV).ownBlock
def CS.X (s:CS) (k:Nat):Prop:=∃i,s.blk i=some k
abbrev CS.n (s:CS):Nat:=s.c.O.length
def CS.cells (s:CS):List Value:=[.slice (some ⟨s.ob,0,none⟩) s.n s.cO,.slice (some ⟨s.gb,0,none⟩) s.n s.cG,.map (some s.mb),s.vS,.int .i64 s.hops,.int .i64 s.settles,s.vr,.slice (some ⟨s.db,0,none⟩) s.n s.cD]
structure CoreW (w:World) (base:Nat) (s:CS):Prop where
 re:PB w s.cb s.cells
 out:w.ownsRow base 247 1 (.slice (some ⟨s.ob,0,none⟩) s.n s.cO) s.n s.rows
 gon:w.ownsRow base 4 1 (.slice (some ⟨s.gb,0,none⟩) s.n s.cG) s.n (s.gone.map encB)
 dp:w.ownsRow base 3 1 (.slice (some ⟨s.db,0,none⟩) s.n s.cD) s.n (s.dep.map encI)
 mp:MapP w s.mb s.nb s.c.p
 ss:w.ownsRow base 187 6 s.vS s.c.S.length (flatS s.c.S)
 row:∀u,w.ownsRow base 253 2 (s.rows.getD u nilV) (s.c.O.getD u []).length (flatI (s.c.O.getD u []))
 ge:∀i k,s.blk i=some k→base≤k∧k<w.heap.size
 sep:∀i j k,i≠j→s.blk i=some k→s.blk j≠some k
variable {w w':World} {base:Nat} {s:CS}
theorem CoreW.lens (h:CoreW w base s):s.rows.length=s.n∧s.gone.length=s.n∧s.dep.length=s.n:=by
 have h1:=h.out.1
 have h2:=h.gon.1
 have h3:=h.dp.1
 simp at h1 h2 h3
 exact ⟨h1,h2,h3⟩
theorem owns_eqb {w w':World} {base size n:Nat} {e:TypeId} {v:Value} {xs:List Value} (h:w.ownsRow base e size v n xs) (he:∀k,v.ownBlock=some k→w'.heap[k]? =w.heap[k]?):w'.ownsRow base e size v n xs:=by
 refine ⟨h.1,?_⟩
 rcases h.2 with h2|⟨g,cap,cur,hv,hb,hg,r⟩
 ·exact .inl h2
 ·exact .inr ⟨g,cap,cur,hv,hb,(he g (by rw [hv];rfl)).trans hg,r⟩
theorem CoreW.off {X:Nat→Prop} (h:CoreW w base s) (ho:OffX X w w') (hX:∀k,s.X k→¬X k):CoreW w' base s:=by
 have hk:∀i k,s.blk i=some k→w'.heap[k]? =w.heap[k]?:=fun i k hi=>ho.block k (h.ge i k hi).2 (hX k ⟨i,hi⟩)
 exact ⟨h.re.eq (hk 0 _ rfl),owns_eqb h.out (fun k e=>hk 1 k e),owns_eqb h.gon (fun k e=>hk 2 k e),owns_eqb h.dp (fun k e=>hk 4 k e),h.mp.eq (hk 3 _ rfl),owns_eqb h.ss (fun k e=>hk 5 k e),fun u=>owns_eqb (h.row u) (fun k e=>hk (u+6) k e),
  fun i k hi=>⟨(h.ge i k hi).1,by have:=(h.ge i k hi).2;have:=ho.size;omega⟩,h.sep⟩
theorem CoreW.go (h:CoreW w base s) (hb:Below w.heap.size w w'):CoreW w' base s:=h.off (X:=fun _=>False) (.of_below hb) (fun _ _ h=>h)
theorem CoreW.map (h:CoreW w base s) {p:Int→Int→Option Nat} {nb:Nat} (hm:MapP w' s.mb nb p) (ho:OffX (· =s.mb) w w'):CoreW w' base { s with c:=⟨s.c.O,p,s.c.S⟩,nb:=nb }:=by
 have hk:∀i k,i≠3→s.blk i=some k→w'.heap[k]? =w.heap[k]?:=fun i k hi hb=>ho.block k (h.ge i k hb).2 (fun e=>h.sep i 3 k hi hb (by rw [e];rfl))
 exact ⟨h.re.eq (hk 0 _ (by omega) rfl),owns_eqb h.out (fun k e=>hk 1 k (by omega) e),owns_eqb h.gon (fun k e=>hk 2 k (by omega) e),owns_eqb h.dp (fun k e=>hk 4 k (by omega) e),hm,owns_eqb h.ss (fun k e=>hk 5 k (by omega) e),fun u=>owns_eqb (h.row u) (fun k e=>hk (u+6) k (by omega) e),
  fun i k hi=>⟨(h.ge i k hi).1,by have:=(h.ge i k hi).2;have:=ho.size;omega⟩,h.sep⟩
theorem sep_set {f f':Nat→Option Nat} {i0 N:Nat} (hsep:∀i j k,i≠j→f i=some k→f j≠some k) (hlt:∀i k,f i=some k→k<N) (hne:∀i,i≠i0→f' i=f i) (hi0:f' i0=f i0∨∃g,f' i0=some g∧N≤g):
  ∀i j k,i≠j→f' i=some k→f' j≠some k:=by
 intro i j k hij hi hj
 by_cases e1:i=i0
 ·subst e1
  rw [hne j (Ne.symm hij)] at hj
  rcases hi0 with e|⟨g,e,hg⟩
  ·rw [e] at hi
   exact hsep i j k hij hi hj
  ·rw [e] at hi
   cases hi
   have:=hlt _ _ hj
   omega
 ·rw [hne i e1] at hi
  by_cases e2:j=i0
  ·subst e2
   rcases hi0 with e|⟨g,e,hg⟩
   ·rw [e] at hj
    exact hsep i j k hij hi hj
   ·rw [e] at hj
    cases hj
    have:=hlt _ _ hi
    omega
  ·rw [hne j e2] at hj
   exact hsep i j k hij hi hj
theorem same_cell {W:World} {a:Addr} {v:Value} {k:Nat} (h:k≠a.block):(W.setCell a v).heap[k]? =W.heap[k]?:=Below.heap_setCell _ _ _ _ h
theorem CoreW.sapp (h:CoreW w base s) {v':Value} {S':List SC} (hown:w'.ownsRow base 187 6 v' S'.length (flatS S')) (ho:OffX (fun k=>s.vS.ownBlock=some k) w w') (hb:v'.ownBlock=s.vS.ownBlock∨∃g,v'.ownBlock=some g∧w.heap.size≤g):
  CoreW (w'.setCell ⟨s.cb,3,none⟩ v') base { s with vS:=v',c:=⟨s.c.O,s.c.p,S'⟩ }:=by
 have hk:∀i k,i≠5→s.blk i=some k→w'.heap[k]? =w.heap[k]?:=fun i k hi hb=>ho.block k (h.ge i k hb).2 (fun e=>h.sep i 5 k hi hb e)
 have hk2:∀i k,i≠5→i≠0→s.blk i=some k→(w'.setCell ⟨s.cb,3,none⟩ v').heap[k]? =w.heap[k]?:=fun i k hi h0 hb=>(same_cell (fun e=>h.sep 0 i k (Ne.symm h0) (by rw [show k=s.cb from e];rfl) hb)).trans (hk i k hi hb)
 have hne:∀i,i≠5→CS.blk { s with vS:=v',c:=⟨s.c.O,s.c.p,S'⟩ } i=s.blk i:=by
  intro i hi
  match i with
  |0|1|2|3|4=>rfl
  |5=>exact absurd rfl hi
  |i+6=>rfl
 have hvc:∀k,v'.ownBlock=some k→k≠s.cb:=by
  rintro k hk3 rfl
  rcases hb with e|⟨g,e,hg⟩
  ·exact h.sep 0 5 s.cb (by omega) rfl (by show s.vS.ownBlock=_;rw [←e];exact hk3)
  ·rw [e] at hk3
   cases hk3
   have:=(h.ge 0 s.cb rfl).2
   omega
 refine ⟨?_,owns_eqb h.out (fun k e=>hk2 1 k (by omega) (by omega) e),owns_eqb h.gon (fun k e=>hk2 2 k (by omega) (by omega) e),owns_eqb h.dp (fun k e=>hk2 4 k (by omega) (by omega) e),h.mp.eq (hk2 3 _ (by omega) (by omega) rfl),owns_eqb hown (fun k e=>same_cell (hvc k e)),
  fun u=>owns_eqb (h.row u) (fun k e=>hk2 (u+6) k (by omega) (by omega) e),?_,sep_set h.sep (fun i k hi=>(h.ge i k hi).2) hne hb⟩
 ·exact (h.re.eq (hk 0 _ (by omega) rfl)).set 3 v'
 ·intro i k hi
  by_cases e:i=5
  ·subst e
   have:=hown.lt k hi
   exact ⟨this.1,by rw [World.size_setCell];exact this.2⟩
  ·rw [hne i e] at hi
   have:=h.ge i k hi
   exact ⟨this.1,by rw [World.size_setCell];have:=ho.size;omega⟩
theorem CoreW.rset (h:CoreW w base s) {v':Value} {u:Nat} {r':List (Int×Int)} (hu:u<s.n) (hown:w'.ownsRow base 253 2 v' r'.length (flatI r')) (ho:OffX (fun k=>(s.rows.getD u nilV).ownBlock=some k) w w')
  (hb:v'.ownBlock=(s.rows.getD u nilV).ownBlock∨∃g,v'.ownBlock=some g∧w.heap.size≤g):
  CoreW (w'.setCell ⟨s.ob,u,none⟩ v') base { s with rows:=s.rows.set u v',c:=⟨s.c.O.set u r',s.c.p,s.c.S⟩ }:=by
 obtain ⟨l1,l2,l3⟩:=h.lens
 have hn:CS.n { s with rows:=s.rows.set u v',c:=⟨s.c.O.set u r',s.c.p,s.c.S⟩ }=s.n:=List.length_set
 have hk:∀i k,i≠u+6→s.blk i=some k→w'.heap[k]? =w.heap[k]?:=fun i k hi hb=>ho.block k (h.ge i k hb).2 (fun e=>h.sep i (u+6) k hi hb e)
 have hk2:∀i k,i≠u+6→i≠1→s.blk i=some k→(w'.setCell ⟨s.ob,u,none⟩ v').heap[k]? =w.heap[k]?:=fun i k hi h0 hb=>(same_cell (fun e=>h.sep 1 i k (Ne.symm h0) (by rw [show k=s.ob from e];rfl) hb)).trans (hk i k hi hb)
 have hgd:∀i,(s.rows.set u v').getD i nilV=if i=u then v' else s.rows.getD i nilV:=fun i=>getD_set _ _ _ _ _ (by omega)
 have hgO:∀i,(s.c.O.set u r').getD i []=if i=u then r' else s.c.O.getD i []:=fun i=>getD_set _ _ _ _ _ hu
 have hne:∀i,i≠u+6→CS.blk { s with rows:=s.rows.set u v',c:=⟨s.c.O.set u r',s.c.p,s.c.S⟩ } i=s.blk i:=by
  intro i hi
  match i with
  |0|1|2|3|4|5=>rfl
  |i+6=>
   show ((s.rows.set u v').getD i nilV).ownBlock=(s.rows.getD i nilV).ownBlock
   rw [hgd,if_neg (by omega)]
 have hu6:CS.blk { s with rows:=s.rows.set u v',c:=⟨s.c.O.set u r',s.c.p,s.c.S⟩ } (u+6)=v'.ownBlock:=by
  show ((s.rows.set u v').getD u nilV).ownBlock=_
  rw [hgd,if_pos rfl]
 have hvc:∀k,v'.ownBlock=some k→k≠s.ob:=by
  rintro k hk3 rfl
  rcases hb with e|⟨g,e,hg⟩
  ·exact h.sep 1 (u+6) s.ob (by omega) rfl (by show (s.rows.getD u nilV).ownBlock=_;rw [←e];exact hk3)
  ·rw [e] at hk3
   cases hk3
   have:=(h.ge 1 s.ob rfl).2
   omega
 refine ⟨?_,?_,?_,?_,h.mp.eq (hk2 3 _ (by omega) (by omega) rfl),owns_eqb h.ss (fun k e=>hk2 5 k (by omega) (by omega) e),?_,?_,sep_set h.sep (fun i k hi=>(h.ge i k hi).2) hne (by rw [hu6];exact hb)⟩
 ·have:=h.re.eq (hk2 0 _ (by omega) (by omega) rfl)
  unfold CS.cells at this ⊢
  rw [hn]
  exact this
 ·rw [hn]
  exact (((owns_eqb h.out (fun k e=>hk 1 k (by omega) e):w'.ownsRow base _ 1 _ _ s.rows)).stored u v').1
 ·rw [hn]
  exact owns_eqb h.gon (fun k e=>hk2 2 k (by omega) (by omega) e)
 ·rw [hn]
  exact owns_eqb h.dp (fun k e=>hk2 4 k (by omega) (by omega) e)
 ·intro i
  show World.ownsRow _ base _ 2 ((s.rows.set u v').getD i nilV) ((s.c.O.set u r').getD i []).length (flatI ((s.c.O.set u r').getD i []))
  rw [hgd,hgO]
  by_cases e:i=u
  ·rw [if_pos e,if_pos e]
   exact owns_eqb hown (fun k e=>same_cell (hvc k e))
  ·rw [if_neg e,if_neg e]
   exact owns_eqb (h.row i) (fun k e2=>hk2 (i+6) k (by omega) (by omega) e2)
 ·intro i k hi
  by_cases e:i=u+6
  ·subst e
   rw [hu6] at hi
   have:=hown.lt k hi
   exact ⟨this.1,by rw [World.size_setCell];exact this.2⟩
  ·rw [hne i e] at hi
   have:=h.ge i k hi
   exact ⟨this.1,by rw [World.size_setCell];have:=ho.size;omega⟩
theorem CoreW.gset (h:CoreW w base s) (u:Nat) (b:Bool):CoreW (w.setCell ⟨s.gb,u,none⟩ (.bool b)) base { s with gone:=s.gone.set u b }:=by
 have hk2:∀i k,i≠2→s.blk i=some k→(w.setCell ⟨s.gb,u,none⟩ (.bool b)).heap[k]? =w.heap[k]?:=fun i k h0 hb=>same_cell (fun e=>h.sep 2 i k (Ne.symm h0) (by rw [show k=s.gb from e];rfl) hb)
 refine ⟨h.re.eq (hk2 0 _ (by omega) rfl),owns_eqb h.out (fun k e=>hk2 1 k (by omega) e),?_,owns_eqb h.dp (fun k e=>hk2 4 k (by omega) e),h.mp.eq (hk2 3 _ (by omega) rfl),owns_eqb h.ss (fun k e=>hk2 5 k (by omega) e),fun u=>owns_eqb (h.row u) (fun k e=>hk2 (u+6) k (by omega) e),
  fun i k hi=>by rw [World.size_setCell];exact h.ge i k hi,h.sep⟩
 have:=(h.gon.stored u (.bool b)).1
 show World.ownsRow _ _ _ _ _ _ ((s.gone.set u b).map encB)
 rw [List.map_set]
 exact this
theorem CoreW.dset (h:CoreW w base s) (u:Nat) (x:Int):CoreW (w.setCell ⟨s.db,u,none⟩ (.int .i64 x)) base { s with dep:=s.dep.set u x }:=by
 have hk2:∀i k,i≠4→s.blk i=some k→(w.setCell ⟨s.db,u,none⟩ (.int .i64 x)).heap[k]? =w.heap[k]?:=fun i k h0 hb=>same_cell (fun e=>h.sep 4 i k (Ne.symm h0) (by rw [show k=s.db from e];rfl) hb)
 refine ⟨h.re.eq (hk2 0 _ (by omega) rfl),owns_eqb h.out (fun k e=>hk2 1 k (by omega) e),owns_eqb h.gon (fun k e=>hk2 2 k (by omega) e),?_,h.mp.eq (hk2 3 _ (by omega) rfl),owns_eqb h.ss (fun k e=>hk2 5 k (by omega) e),fun u=>owns_eqb (h.row u) (fun k e=>hk2 (u+6) k (by omega) e),
  fun i k hi=>by rw [World.size_setCell];exact h.ge i k hi,h.sep⟩
 have:=(h.dp.stored u (.int .i64 x)).1
 show World.ownsRow _ _ _ _ _ _ ((s.dep.set u x).map encI)
 rw [List.map_set]
 exact this
theorem CoreW.net (h:CoreW w base s):NetW w (.slice (some ⟨s.ob,0,none⟩) s.n s.cO) (.slice (some ⟨s.gb,0,none⟩) s.n s.cG) s.c.O s.gone:=by
 obtain ⟨l1,l2,l3⟩:=h.lens
 obtain ⟨a1,c1,e1,k1⟩:=Cel.of_owns h.out
 obtain ⟨a2,c2,e2,k2⟩:=Cel.of_owns h.gon
 cases e1
 cases e2
 refine ⟨_,_,_,_,s.rows,rfl,by rw [l2],k1,l1,k2,?_⟩
 intro i hi
 have hr:=h.row i
 have hi2:i<s.rows.length:=by rw [l1];exact hi
 have eO:s.c.O.getD i []=s.c.O[i]:=by rw [List.getD_eq_getElem?_getD,List.getElem?_eq_getElem hi];rfl
 have eR:s.rows.getD i nilV=s.rows[i]:=by rw [List.getD_eq_getElem?_getD,List.getElem?_eq_getElem hi2];rfl
 rw [eO,eR] at hr
 obtain ⟨a,c,e,k⟩:=Cel.of_owns hr
 exact ⟨a,c,by rw [List.getElem?_eq_getElem hi2,e],k⟩
end Go.Proofs.YteaaapdjplbljaaGreat
end
