/- A region that draws its order, by what holds between its operations: whatever comes next keeps it. A region that draws its order, whose operations only grow memory: each gives a value of which something is known that stays known. -/
import Derived.StillTail
import Derived.Test.YteaaapdjplbljaaVa01
set_option linter.unusedVariables false
set_option linter.unusedSimpArgs false
set_option linter.unnecessarySimpa false
section
namespace Go.Proofs.Yteaaapdjplbljaa
open Go Go.Proofs Go.RowKit
section
variable {P:Program} {ops:Array Oper} {md:Region.Mode} {Q:Exit→Act→World→Prop}
def toCome (listed:Array Bool):Nat→Nat
 |0=>0
 |n+1=>toCome listed n+(if listed.getD n true=false then 1 else 0)
theorem toCome_set {listed:Array Bool} {i:Nat}:∀{n:Nat},toCome (listed.setIfInBounds i true) n≤toCome listed n
 |0=>Nat.le_refl _
 |n+1=>by
  have ih:=toCome_set (listed:=listed) (i:=i) (n:=n)
  unfold toCome
  by_cases e:i=n
  ·subst e
   have:¬(listed.setIfInBounds i true).getD i true=false:=by
    rcases Nat.lt_or_ge i listed.size with h|h<;>simp [h]
   rw [if_neg this]
   omega
  ·rw [getD_set_ne true e]
   omega
theorem toCome_lt {listed:Array Bool} {i:Nat}:∀{n:Nat},i<n→listed.getD i true=false→toCome (listed.setIfInBounds i true) n<toCome listed n
 |n+1,hi,hf=>by
  unfold toCome
  by_cases e:i=n
  ·subst e
   have h1:=toCome_set (listed:=listed) (i:=i) (n:=i)
   have:¬(listed.setIfInBounds i true).getD i true=false:=by
    rcases Nat.lt_or_ge i listed.size with h|h<;>simp [h]
   rw [if_neg this,if_pos hf]
   omega
  ·have ih:=toCome_lt (n:=n) (by omega) hf
   rw [getD_set_ne true e]
   omega
theorem toCome_le (listed:Array Bool):∀n,toCome listed n≤n
 |0=>Nat.le_refl _
 |n+1=>by
  have:=toCome_le listed n
  unfold toCome
  split<;>omega
theorem toCome_zero {listed:Array Bool}:∀{n i:Nat},toCome listed n=0→i<n→listed.getD i true≠false
 |n+1,i,h,hi=>by
  unfold toCome at h
  by_cases e:i=n
  ·subst e
   intro hf
   rw [if_pos hf] at h
   omega
  ·exact toCome_zero (n:=n) (by omega) (by omega)
theorem wpAny_inv (J:Array Bool→Act→World→Prop) (hJ:∀listed a w i,J listed a w→i∈Region.ready md ops listed→wpOp P ops Q i (fun a' w'=>J (listed.setIfInBounds i true) a' w') a w)
  (hend:∀listed a w,J listed a w→Region.ready md ops listed=[]→Q .normal a w):
  ∀(fuel:Nat) (listed:Array Bool) (a:Act) (w:World),toCome listed ops.size≤fuel→J listed a w→wpAny P md ops Q fuel listed a w
 |0,listed,a,w,hf,h=>by
  have hr:Region.ready md ops listed=[]:=by
   rw [List.eq_nil_iff_forall_not_mem]
   intro i hi
   obtain ⟨h1,o,h2,_⟩:=mem_ready.1 hi
   have hlt:i<ops.size:=(Array.getElem?_eq_some_iff.1 h2).1
   exact toCome_zero (by omega) hlt h1
  exact ⟨hr,hend _ _ _ h hr⟩
 |fuel+1,listed,a,w,hf,h=>by
  refine ⟨hend _ _ _ h,fun i hi=>?_⟩
  obtain ⟨h1,o,h2,_⟩:=mem_ready.1 hi
  have hlt:i<ops.size:=(Array.getElem?_eq_some_iff.1 h2).1
  have hc:=toCome_lt hlt h1
  exact wpOp_mono (fun a' w' h'=>wpAny_inv J hJ hend fuel _ a' w' (by omega) h') (hJ _ _ _ _ h hi)
theorem wp_region_inv {id:Nat} {a:Act} {w:World} {l:List Oper} (hm:P.follows .mixedOrders=true) (J:Array Bool→Act→World→Prop) (h0:J (Array.replicate l.toArray.size false) a w.drew)
  (hJ:∀listed a w i,J listed a w→i∈Region.ready .any l.toArray listed→wpOp P l.toArray Q i (fun a' w'=>J (listed.setIfInBounds i true) a' w') a w)
  (hend:∀listed a w,J listed a w→Region.ready .any l.toArray listed=[]→Q .normal a w):(Code.region id l.toArray true).wp P Q a w:=
 wp_region_any hm (wpAny_inv J hJ hend _ _ _ _ (toCome_le _ _) h0)
end
end Go.Proofs.Yteaaapdjplbljaa
end
section
namespace Go.Proofs.Yteaaapdjplbljaa
open Go Go.Proofs Go.RowKit
section
def puts (a:Act) (D:Nat→Nat) (vs:Nat→Value):Nat→Act
 |0=>a
 |n+1=>(puts a D vs n).put (some (D n)) (vs n)
variable {a a':Act} {D:Nat→Nat} {vs:Nat→Value}
theorem puts_size:∀n,(puts a D vs n).tmps.size=a.tmps.size
 |0=>rfl
 |n+1=>by
  show ((puts a D vs n).tmps.setIfInBounds _ _).size=_
  rw [Array.size_setIfInBounds,puts_size n]
theorem puts_defers:∀n,(puts a D vs n).defers=a.defers
 |0=>rfl
 |n+1=>puts_defers n
theorem puts_off {t:Nat}:∀{n:Nat},(∀i,i<n→D i≠t)→(puts a D vs n).tmps[t]? =a.tmps[t]?
 |0,_=>rfl
 |n+1,h=>by
  show ((puts a D vs n).tmps.setIfInBounds _ _)[t]? =_
  rw [Array.getElem?_setIfInBounds_ne (h n (by omega)),puts_off (fun i hi=>h i (by omega))]
theorem puts_on {i:Nat}:∀{n:Nat},(∀i j,i<n→j<n→D i=D j→i=j)→i<n→D i<a.tmps.size→(puts a D vs n).tmps[D i]? =some (vs i)
 |n+1,hinj,hi,hs=>by
  show ((puts a D vs n).tmps.setIfInBounds _ _)[D i]? =_
  by_cases e:i=n
  ·subst e
   rw [Array.getElem?_setIfInBounds_self_of_lt (by rw [puts_size];exact hs)]
  ·rw [Array.getElem?_setIfInBounds_ne (fun h=>e (hinj i n hi (by omega) h.symm)),puts_on (fun i j hi hj=>hinj i j (by omega) (by omega)) (by omega) hs]
theorem puts_of {n:Nat} (hinj:∀i j,i<n→j<n→D i=D j→i=j) (hs:a'.tmps.size=a.tmps.size) (hd:a'.defers=a.defers) (hD:∀i,i<n→D i<a.tmps.size)
  (h:∀t,(∀i,i<n→D i≠t)→a'.tmps[t]? =a.tmps[t]?):a'=puts a D (fun i=>a'.tmps.getD (D i) undef) n:=by
 have ht:a'.tmps=(puts a D (fun i=>a'.tmps.getD (D i) undef) n).tmps:=by
  apply Array.ext_getElem?
  intro t
  by_cases e:∃i,i<n∧D i=t
  ·obtain ⟨i,hi,rfl⟩:=e
   rw [puts_on hinj hi (hD i hi)]
   have:D i<a'.tmps.size:=by rw [hs];exact hD i hi
   rw [Array.getD_eq_getD_getElem?,Array.getElem?_eq_getElem this]
   rfl
  ·have hne:∀i,i<n→D i≠t:=fun i hi h'=>e ⟨i,hi,h'⟩
   rw [puts_off hne,h t hne]
 have hdd:=puts_defers (a:=a) (D:=D) (vs:=fun i=>a'.tmps.getD (D i) undef) n
 rw [←hd] at hdd
 cases a' with
 |mk tm df=>
  generalize hp:puts a D (fun i=>(Act.mk tm df).tmps.getD (D i) undef) n=p at*
  cases p with
  |mk tm' df'=>simp only at ht hdd;rw [ht,hdd]
def updV (vs:Nat→Value) (i:Nat) (v:Value):Nat→Value:=fun j=>if j=i then v else vs j
theorem puts_put {n i:Nat} {v:Value} (hinj:∀i j,i<n→j<n→D i=D j→i=j) (hD:∀i,i<n→D i<a.tmps.size) (hi:i<n):(puts a D vs n).put (some (D i)) v=puts a D (updV vs i v) n:=by
 have h0:=puts_of (a:=a) (a':=(puts a D vs n).put (some (D i)) v) hinj (by show ((puts a D vs n).tmps.setIfInBounds _ _).size=_;rw [Array.size_setIfInBounds,puts_size]) (puts_defers n) hD (fun t ht=>by
  show ((puts a D vs n).tmps.setIfInBounds _ _)[t]? =_
  rw [Array.getElem?_setIfInBounds_ne (ht i hi),puts_off ht])
 rw [h0]
 have:∀m,m≤n→puts a D (fun j=>((puts a D vs n).put (some (D i)) v).tmps.getD (D j) undef) m=puts a D (updV vs i v) m:=by
  intro m
  induction m with
  |zero=>intro _;rfl
  |succ m ih=>
   intro hm
   show Act.put _ _ _=Act.put _ _ _
   rw [ih (by omega)]
   congr 1
   show ((puts a D vs n).tmps.setIfInBounds (D i) v).getD (D m) undef=if m=i then v else vs m
   rw [Array.getD_eq_getD_getElem?]
   by_cases e:m=i
   ·subst e
    rw [Array.getElem?_setIfInBounds_self_of_lt (by rw [puts_size];exact hD m hi),if_pos rfl]
    rfl
   ·rw [Array.getElem?_setIfInBounds_ne (fun h=>e (hinj i m hi (by omega) h).symm),puts_on hinj (by omega) (hD m (by omega)),if_neg e]
    rfl
 exact this n (Nat.le_refl _)
variable {P:Program} {Q:Exit→Act→World→Prop} {w:World}
def dstAt (l:List Oper) (i:Nat):Nat:=((l[i]?).bind (·.dst)).getD 0
def depB (l:List Oper) (i j:Nat):Bool:=match l[i]? with
 |none=>false
 |some o=>o.after.toList.any fun e=>Region.binds .any e&&e.on==j
def opsAll (p:Nat→Oper→Prop):Nat→List Oper→Prop
 |_,[]=>True
 |k,o::l=>p k o∧opsAll p (k+1) l
theorem opsAll_get {p:Nat→Oper→Prop} (l:List Oper):∀(k:Nat),opsAll p k l→∀i o,l[i]? =some o→p (k+i) o:=by
 induction l with
 |nil=>intro k _ i o e;simp at e
 |cons x l ih=>
  intro k h i o e
  cases i with
  |zero=>
   have e':x=o:=by simpa using e
   subst e'
   exact h.1
  |succ i=>
   have:=ih (k+1) h.2 i o (by simpa using e)
   rwa [show k+(i+1)=k+1+i by omega]
end
end Go.Proofs.Yteaaapdjplbljaa
end
