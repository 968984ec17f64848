/- A region within a round of a range over a function: operations that only grow memory, in any order, and a last one that waits for all of them. A region whose operations only grow memory, in any order, the frame unseen: what is asked of each operation is what its operands are. The library's contracts that the proof uses, laid at this program by the kit's own command; no condition. How far nodes are, round by round, in plain Lean. Walks over the reference of searches: is a number in a row, which edges count, their ends, all weights. Walks over the reference of searches: all weights, how far all nodes are. Walk of the library's slices.Repeat at one weight. Walks: one row behind another (slices.Grow, slices.Concat of two). Walks: two rows, one behind the other, by the reference; a route behind another. -/
import Derived.Test.YtkdomobedfhhgaaGreatQm28
import Derived.Shelf.Small.Bits
import Derived.Shelf.Small.Wraps
import Derived.Shelf.Strconv.Itoa0
import Derived.Shelf.Bits.Mul64
import Derived.Shelf.Slices.Reverse
import Derived.Ground.Names2Prog
import Derived.Shelf.Slices.Clone
import Derived.Shelf.Slices.SearchI
import Derived.Shelf.Slices.Cells
import Derived.Ground.SlgnProg
import Derived.Shelf.SlicesE.Clone
import Derived.Ground.SlsfProg
import Derived.Shelf.SlSortCmp.Insertion
import Derived.Test.YtkdomobedfhhgaaGreatProg
import Derived.Test.YtkdomobedfhhgaaGreatQm09
import Derived.Test.YtkdomobedfhhgaaGreatQm14
import Derived.Test.YtkdomobedfhhgaaGreatQm17
import Derived.Test.YtkdomobedfhhgaaGreatQm31
import Derived.Laws.CopyOwn
import Derived.Deep.RegionLaw
import Derived.Test.YtkdomobedfhhgaaGreatQm22
import Derived.Lib.AppendZeros
import Derived.Laws.OwnMore
import Derived.Test.YtkdomobedfhhgaaGreatQm13
set_option linter.unusedVariables false
set_option linter.unusedSimpArgs false
set_option linter.unnecessarySimpa false
section
namespace Go.Proofs.YtkdomobedfhhgaaGreat
open Go Go.Proofs Go.RowKit
def lastB (l:List Oper) (n:Nat) (st:Oper):Bool:=
 st.guard.isNone&&(st.after.all fun e=>!Region.binds .any e||decide (e.on<n))&&((List.range n).all fun i=>(List.range (n+1)).any fun j=>decide (i<j)&&Region.waitsFor .any l.toArray j i)
section
variable {a:Act} {P:Program} {Q:Exit→Act→World→Prop} {w:World}
def offB (l:List Oper) (n t:Nat):Bool:=(List.range n).all fun i=>dstAt l i != t
end
end Go.Proofs.YtkdomobedfhhgaaGreat
end
section
namespace Go.Proofs.YtkdomobedfhhgaaGreat
open Go Go.Proofs Go.RowKit
section
variable {a:Act} {P:Program} {Q:Exit→Act→World→Prop} {w:World}
theorem wp_region_grows_act {id:Nat} {l:List Oper} (n:Nat) (hln:l.length=n) (R:Nat→Value→World→Prop) (hm:P.follows .mixedOrders=true) (hB:growB l a.tmps.size=true)
  (hmono:∀i v w w',Below w.heap.size w w'→R i v w→R i v w')
  (hop:opsAll (fun i o=>∀(act:Act) w',Below w.heap.size w w'→(∀j,depB l i j=true→R j (act.tmps.getD (dstAt l j) undef) w')→(∀t,offB l n t=true→act.tmps.getD t undef=a.tmps.getD t undef)→
   ∀K:Act→World→Prop,(∀v w'',Below w'.heap.size w' w''→R i v w''→K (act.put o.dst v) w'')→o.wp P act w' K Q) 0 l)
  (hend:∀(vs:Nat→Value) w',Below w.heap.size w w'→(∀i,i<n→R i (vs i) w')→Q .normal (puts a (dstAt l) vs n) w'):(Code.region id l.toArray true).wp P Q a w:=by
 subst hln
 have hg:=fun i (hi:i<l.length)=>growB_at hB (List.getElem?_eq_getElem hi)
 have hD:∀i,i<l.length→dstAt l i<a.tmps.size:=fun i hi=>(hg i hi).2.2.1
 have hinj:∀i j,i<l.length→j<l.length→dstAt l i=dstAt l j→i=j:=fun i j hi hj e=>by
  rcases Nat.lt_trichotomy i j with k|k|k
  ·exact absurd e ((hg j hj).2.2.2.2 i k)
  ·exact k
  ·exact absurd e.symm ((hg i hi).2.2.2.2 j k)
 have hon:∀vs j,j<l.length→(puts a (dstAt l) vs l.length).tmps.getD (dstAt l j) undef=vs j:=fun vs j hj=>by
  rw [Array.getD_eq_getD_getElem?,puts_on hinj hj (hD j hj)]
  rfl
 have hoff:∀vs t,offB l l.length t=true→(puts a (dstAt l) vs l.length).tmps.getD t undef=a.tmps.getD t undef:=fun vs t ht=>by
  rw [Array.getD_eq_getD_getElem?,Array.getD_eq_getD_getElem?,puts_off (fun i hi e=>by
   have:=List.all_eq_true.1 ht i (List.mem_range.2 hi)
   simp [e] at this)]
 refine wp_region_grows (fun i v g _ w=>g=[]∧R i v w) hm hB (fun i v g vs w w' hb h=>⟨h.1,hmono i v w w' hb h.2⟩) (fun i v g vs vs' w _ h=>h) ?_ (fun vs gs w' hb hR _ _=>hend vs w' hb (fun i hi=>(hR i hi).2))
 have key:∀(k:Nat) (ll:List Oper),(∀i o,ll[i]? =some o→l[k+i]? =some o∧k+i<l.length)→opsAll (fun i o=>∀(act:Act) w',Below w.heap.size w w'→(∀j,depB l i j=true→R j (act.tmps.getD (dstAt l j) undef) w')→(∀t,offB l l.length t=true→act.tmps.getD t undef=a.tmps.getD t undef)→
   ∀K:Act→World→Prop,(∀v w'',Below w'.heap.size w' w''→R i v w''→K (act.put o.dst v) w'')→o.wp P act w' K Q) k ll→opsAll (fun i o=>∀(vs:Nat→Value) w',Below w.heap.size w w'→(∀j,depB l i j=true→∃g:List Nat,g=[]∧R j (vs j) w')→
   ∀K:Act→World→Prop,(∀v g w'',Below w'.heap.size w' w''→(g=[]∧R i v w'')→(∀k∈g,w'.heap.size≤k∧k<w''.heap.size)→K ((puts a (dstAt l) vs l.length).put o.dst v) w'')→o.wp P (puts a (dstAt l) vs l.length) w' K Q) k ll:=by
  intro k ll
  induction ll generalizing k with
  |nil=>intro _ _;trivial
  |cons o ll ih=>
   intro hll h
   refine ⟨fun vs w' hb hd K hK=>?_,ih (k+1) (fun i o' hi=>by
    have:=hll (i+1) o' (by simpa using hi)
    rw [show k+1+i=k+(i+1) by omega]
    exact this) h.2⟩
   obtain ⟨h0,h1⟩:=hll 0 o rfl
   rw [Nat.add_zero] at h0 h1
   refine h.1 _ w' hb (fun j hj=>?_) (fun t ht=>hoff vs t ht) K (fun v w'' hb2 hr=>hK v [] w'' hb2 ⟨rfl,hr⟩ (fun _ h=>nomatch h))
   have hj2:j<l.length:=by
    have h3:=(growB_at hB h0).2.2.2.1
    unfold depB at hj
    simp only [h0] at hj
    obtain ⟨e,he,k2⟩:=List.any_eq_true.1 hj
    simp only [Bool.and_eq_true,beq_iff_eq] at k2
    have:=h3 e (Array.mem_toList_iff.1 he) k2.1
    omega
   rw [hon vs j hj2]
   exact (hd j hj).choose_spec.2
 exact key 0 l (fun i o hi=>by
  have hl:=(List.getElem?_eq_some_iff.1 hi).1
  rw [Nat.zero_add]
  exact ⟨hi,hl⟩) hop
end
end Go.Proofs.YtkdomobedfhhgaaGreat
end
section
namespace Go.Proofs
open Go.Shelf
end Go.Proofs
end
section
namespace Go.Proofs.YtkdomobedfhhgaaGreat.Ch
def FAR:Int:=4611686018427387904
structure Arc where
 u:Int
 v:Int
 w:Int
def rel (L:List Arc):Int→Int→Int→Prop:=fun u v w=>(⟨u,v,w⟩:Arc)∈L
def gD (d:List Int) (v:Int):Int:=d.getD v.toNat FAR
theorem gD_set {d:List Int} {v u x:Int} (hv:0≤v) (hl:v.toNat<d.length) (hu:0≤u):gD (d.set v.toNat x) u=if u=v then x else gD d u:=by
 unfold gD
 rw [List.getD_eq_getElem?_getD,List.getElem?_set,List.getD_eq_getElem?_getD]
 by_cases e:v.toNat=u.toNat
 ·rw [if_pos e,if_pos hl,if_pos (by omega)]
  rfl
 ·rw [if_neg e,if_neg (by omega)]
def fires (d:List Int) (e:Arc):Bool:=decide (gD d e.u<FAR)&&decide (gD d e.u+e.w<gD d e.v)
def relaxC (p:List Int×Bool) (e:Arc):List Int×Bool:=if fires p.1 e then (p.1.set e.v.toNat (gD p.1 e.u+e.w),true) else p
def roundC (d:List Int) (L:List Arc):List Int×Bool:=L.foldl relaxC (d,false)
abbrev node (n:Nat) (v:Int):Prop:=0≤v∧v<(n:Int)
structure Sofar (L:List Arc) (s:Int) (n:Nat) (m:Int) (d:List Int):Prop where
 len:d.length=n
 way:∀v,node n v→gD d v=FAR∨(Way0 (rel L) Any s v (gD d v)∧gD d v≤m)
 self:gD d s=0
structure Good (L:List Arc) (n:Nat) (W:Int):Prop where
 ends:∀e∈L,node n e.u∧node n e.v
 pos:∀e∈L,1≤e.w∧e.w≤W
variable {L:List Arc} {s:Int} {n:Nat} {m W:Int} {d:List Int}
theorem Good.hA (h:Good L n W):∀u v w,rel L u v w→1≤w:=fun _ _ _ k=>(h.pos _ k).1
theorem Sofar.le (h:Sofar L s n m d) (hm:m<FAR) {v:Int} (hv:node n v):gD d v≤FAR:=by
 rcases h.way v hv with e|⟨_,e⟩<;>omega
theorem Sofar.nonneg (hg:Good L n W) (h:Sofar L s n m d) {v:Int} (hv:node n v):0≤gD d v:=by
 rcases h.way v hv with e|⟨e,_⟩
 ·rw [e];decide
 ·exact e.nonneg hg.hA
theorem Sofar.relax (hg:Good L n W) (h:Sofar L s n m d) {e:Arc} (he:e∈L) (hf:fires d e=true) (hs:node n s):
  Sofar L s n (m+W) (d.set e.v.toNat (gD d e.u+e.w))∧∀v,node n v→gD (d.set e.v.toNat (gD d e.u+e.w)) v≤gD d v:=by
 unfold fires at hf
 simp only [Bool.and_eq_true,decide_eq_true_eq] at hf
 obtain ⟨f1,f2⟩:=hf
 obtain ⟨⟨u0,u1⟩,⟨v0,v1⟩⟩:=hg.ends e he
 have hw:=hg.pos e he
 have hl:e.v.toNat<d.length:=by rw [h.len];omega
 have hu:Way0 (rel L) Any s e.u (gD d e.u)∧gD d e.u≤m:=by
  rcases h.way e.u ⟨u0,u1⟩ with k|k
  ·omega
  ·exact k
 refine ⟨⟨by rw [List.length_set];exact h.len,?_,?_⟩,?_⟩
 ·intro v hv
  rw [gD_set v0 hl hv.1]
  split
  ·rename_i k
   subst k
   exact .inr ⟨hu.1.trans trivial (.inr (.one he)),by omega⟩
  ·rcases h.way v hv with k|⟨k1,k2⟩
   ·exact .inl k
   ·exact .inr ⟨k1,by omega⟩
 ·rw [gD_set v0 hl hs.1]
  split
  ·rename_i k
   have:=hu.1.nonneg hg.hA
   rw [←k,h.self] at f2
   omega
  ·exact h.self
 ·intro v hv
  rw [gD_set v0 hl hv.1]
  split
  ·rename_i k
   subst k
   omega
  ·exact Int.le_refl _
theorem Sofar.mono (h:Sofar L s n m d) {m':Int} (hm:m≤m'):Sofar L s n m' d:=⟨h.len,fun v hv=>(h.way v hv).imp id (fun k=>⟨k.1,by omega⟩),h.self⟩
theorem Sofar.part (hg:Good L n W) (hs:node n s) (hW:0≤W):∀(K:List Arc) (d:List Int) (m:Int) (c:Bool),(∀e∈K,e∈L)→Sofar L s n m d→
  Sofar L s n (m+K.length*W) (K.foldl relaxC (d,c)).1∧(∀v,node n v→gD (K.foldl relaxC (d,c)).1 v≤gD d v)∧
  (∀e∈K,m+K.length*W<FAR→gD d e.u<FAR→gD (K.foldl relaxC (d,c)).1 e.v≤gD d e.u+e.w)∧
  ((K.foldl relaxC (d,c)).2=false→c=false∧(K.foldl relaxC (d,c)).1=d∧∀e∈K,fires d e=false)
 |[],d,m,c,_,h=>⟨by simpa using h,fun _ _=>Int.le_refl _,by simp,fun e=>⟨e,rfl,by simp⟩⟩
 |e::K,d,m,c,hK,h=>by
  have heL:=hK e (by simp)
  rw [List.foldl_cons]
  have hlen:((e::K).length:Int)*W=W+K.length*W:=by
   rw [List.length_cons]
   push_cast
   rw [Int.add_mul]
   omega
  cases hf:fires d e with
  |false=>
   have hr:relaxC (d,c) e=(d,c):=by unfold relaxC;simp [hf]
   rw [hr]
   obtain ⟨a1,a2,a3,a4⟩:=Sofar.part hg hs hW K d m c (fun x hx=>hK x (by simp [hx])) h
   refine ⟨a1.mono (by omega),a2,?_,fun k=>?_⟩
   ·intro x hx hm hu
    rcases List.mem_cons.1 hx with rfl|hx
    ·have h1:=a2 x.v (hg.ends x heL).2
     unfold fires at hf
     simp only [Bool.and_eq_false_iff,decide_eq_false_iff_not] at hf
     omega
    ·exact a3 x hx (by omega) hu
   ·obtain ⟨b1,b2,b3⟩:=a4 k
    refine ⟨b1,b2,?_⟩
    intro x hx
    rcases List.mem_cons.1 hx with rfl|hx
    ·exact hf
    ·exact b3 x hx
  |true=>
   have hr:relaxC (d,c) e=(d.set e.v.toNat (gD d e.u+e.w),true):=by unfold relaxC;simp [hf]
   rw [hr]
   obtain ⟨r1,r2⟩:=h.relax hg heL hf hs
   obtain ⟨a1,a2,a3,a4⟩:=Sofar.part hg hs hW K _ (m+W) true (fun x hx=>hK x (by simp [hx])) r1
   refine ⟨a1.mono (by omega),fun v hv=>Int.le_trans (a2 v hv) (r2 v hv),?_,fun k=>?_⟩
   ·intro x hx hm hu
    rcases List.mem_cons.1 hx with rfl|hx
    ·have h1:=a2 x.v (hg.ends x heL).2
     have h2:gD (d.set x.v.toNat (gD d x.u+x.w)) x.v=gD d x.u+x.w:=by
      rw [gD_set (hg.ends x heL).2.1 (by rw [h.len];have:=(hg.ends x heL).2;unfold node at this;omega) (hg.ends x heL).2.1,if_pos rfl]
     omega
    ·have hxn:=(hg.ends x (hK x (by simp [hx]))).1
     have h1:=r2 x.u hxn
     have:=a3 x hx (by omega) (by omega)
     omega
   ·exact absurd (a4 k).1 (by simp)
def Right (L:List Arc) (s:Int) (d:List Int) (v:Int):Prop:=∀e,Dist (rel L) s v e→gD d v=e∧gD d v≠FAR
open Classical in
noncomputable def left (L:List Arc) (s:Int) (n:Nat) (d:List Int):Nat:=(List.range n).countP fun v:Nat=>decide (¬Right L s d (v:Int))
theorem left_le (L:List Arc) (s:Int) (n:Nat) (d:List Int):left L s n d≤n:=by
 unfold left
 exact Nat.le_trans List.countP_le_length (by simp)
theorem countP_lt {p q:Nat→Bool}:∀(l:List Nat),(∀x∈l,p x=true→q x=true)→(∃x∈l,q x=true∧p x=false)→l.countP p<l.countP q
 |[],_,h=>by obtain ⟨x,hx,_⟩:=h;simp at hx
 |y::l,h1,h2=>by
  rw [List.countP_cons,List.countP_cons]
  have hle:l.countP p≤l.countP q:=List.countP_mono_left fun x hx=>h1 x (by simp [hx])
  obtain ⟨x,hx,hq,hp⟩:=h2
  rcases List.mem_cons.1 hx with rfl|hx
  ·rw [hq,hp]
   simp
   omega
  ·have:=countP_lt l (fun z hz=>h1 z (by simp [hz])) ⟨x,hx,hq,hp⟩
   have hy:=h1 y (by simp)
   cases hpy:p y with
   |false=>simp;split<;>omega
   |true=>rw [hy hpy];simp;omega
structure Exact (L:List Arc) (s:Int) (n:Nat) (d:List Int):Prop where
 len:d.length=n
 dist:∀v e,node n v→Dist (rel L) s v e→gD d v=e
 none:∀v,node n v→(∀e,¬Dist (rel L) s v e)→gD d v=FAR
 fin:∀v e,node n v→Dist (rel L) s v e→gD d v≠FAR
theorem Sofar.exact (hg:Good L n W) (h:Sofar L s n m d) (h0:∀v e,node n v→Dist (rel L) s v e→gD d v=e∧gD d v≠FAR):Exact L s n d:=by
 refine ⟨h.len,fun v e hv hd=>(h0 v e hv hd).1,?_,fun v e hv hd=>(h0 v e hv hd).2⟩
 intro v hv hn
 rcases h.way v hv with k|⟨k,_⟩
 ·exact k
 ·obtain ⟨e,he⟩:=dist_some hg.hA k
  exact absurd he (hn e)
open Classical in
theorem left_zero (h0:left L s n d=0) {v:Int} (hv:node n v):Right L s d v:=by
 unfold left at h0
 rw [List.countP_eq_zero] at h0
 have e1:((v.toNat:Nat):Int)=v:=by have:=hv.1;omega
 exact Classical.byContradiction fun k=>h0 v.toNat (List.mem_range.2 (by have h1:=hv.2;have h2:=hv.1;omega)) (decide_eq_true (by rw [e1];exact k))
open Classical in
theorem zero_left (h0:∀v,node n v→Right L s d v):left L s n d=0:=by
 unfold left
 rw [List.countP_eq_zero]
 intro v hv hp
 exact of_decide_eq_true hp (h0 _ ⟨by omega,by have:=List.mem_range.1 hv;omega⟩)
theorem Sofar.zero (hg:Good L n W) (h:Sofar L s n m d) (h0:left L s n d=0):Exact L s n d:=
 h.exact hg fun _ _ hv hd=>left_zero h0 hv _ hd
theorem least_of {p:Int→Int→Prop} (h:∃v e,p v e∧0≤e):∃v e,p v e∧0≤e∧∀v' e',p v' e'→0≤e'→e≤e':=by
 have key:∀k v e,e.toNat=k→p v e→0≤e→∃v e,p v e∧0≤e∧∀v' e',p v' e'→0≤e'→e≤e':=by
  intro k
  induction k using Nat.strongRecOn with
  |_ k ih=>
   intro v e hk hp he
   by_cases hl:∃v' e',p v' e'∧0≤e'∧e'<e
   ·obtain ⟨v',e',h1,h2,h3⟩:=hl
    exact ih e'.toNat (by omega) v' e' rfl h1 h2
   ·refine ⟨v,e,hp,he,fun v' e' h1 h2=>?_⟩
    have:¬e'<e:=fun h3=>hl ⟨v',e',h1,h2,h3⟩
    omega
 obtain ⟨v,e,h1,h2⟩:=h
 exact key _ v e rfl h1 h2
theorem Right.keep (hg:Good L n W) (hW:0≤W) (hs:node n s) (h:Sofar L s n m d) (hm:m+L.length*W<FAR) {v:Int} (hv:node n v) (hr:Right L s d v):Right L s (roundC d L).1 v:=by
 have hmw:0≤(L.length:Int)*W:=Int.mul_nonneg (by omega) hW
 obtain ⟨a1,a2,_,_⟩:=Sofar.part hg hs hW L d m false (fun e h=>h) h
 intro e hd
 obtain ⟨r1,r2⟩:=hr e hd
 have h1:gD (roundC d L).1 v≤gD d v:=a2 v hv
 have h2:gD d v≤m:=by
  rcases h.way v hv with k|⟨_,k⟩
  ·exact absurd k r2
  ·exact k
 rcases a1.way v hv with k|⟨k,_⟩
 ·have k':gD (roundC d L).1 v=FAR:=k
  omega
 ·have k':e≤gD (roundC d L).1 v:=hd.2 _ k
  omega
open Classical in
theorem left_less (hg:Good L n W) (hW:0≤W) (hs:node n s) (h:Sofar L s n m d) (hm:m+L.length*W+W<FAR) (h0:left L s n d≠0):left L s n (roundC d L).1<left L s n d:=by
 have hmw:0≤(L.length:Int)*W:=Int.mul_nonneg (by omega) hW
 obtain ⟨a1,a2,a3,a4⟩:=Sofar.part hg hs hW L d m false (fun e h=>h) h
 have hex:∃v e,(node n v∧Dist (rel L) s v e∧¬Right L s d v)∧0≤e:=by
  refine Classical.byContradiction fun k=>h0 (zero_left fun v hv=>Classical.byContradiction fun hr=>?_)
  refine k ?_
  unfold Right at hr
  obtain ⟨e,he⟩:∃e,Dist (rel L) s v e:=Classical.byContradiction fun hn=>hr fun e he=>absurd ⟨e,he⟩ hn
  exact ⟨v,e,⟨hv,he,hr⟩,he.1.nonneg hg.hA⟩
 obtain ⟨v,e,⟨hv,hd,hne⟩,he0,hmin⟩:=least_of hex
 have hvs:s≠v:=by
  rintro rfl
  apply hne
  intro e' he'
  obtain rfl:=he'.uniq (.self hg.hA s)
  rw [h.self]
  exact ⟨rfl,by decide⟩
 obtain ⟨x,w,hx,hdx⟩:=hd.pred hvs
 have hxn:=(hg.ends _ hx).1
 simp only at hxn
 have hw1:=hg.pos _ hx
 simp only at hw1
 have hxr:Right L s d x:=by
  refine Classical.byContradiction fun k=>?_
  have:=hmin x (e-w) ⟨hxn,hdx,k⟩ (hdx.1.nonneg hg.hA)
  omega
 obtain ⟨hxe,hxf⟩:=hxr _ hdx
 have hxm:gD d x≤m:=by
  rcases h.way x hxn with k|⟨_,k⟩
  ·exact absurd k hxf
  ·exact k
 have hxd:=a3 _ hx (by omega) (by simp only;omega)
 simp only at hxd
 have hev:Right L s (roundC d L).1 v:=by
  intro e' he'
  obtain rfl:=hd.uniq he'
  have h1:gD (roundC d L).1 v≤e:=by show gD (List.foldl relaxC (d,false) L).1 v≤e;omega
  rcases a1.way v hv with k|⟨k,_⟩
  ·have k':gD (roundC d L).1 v=FAR:=k
   omega
  ·have k':e≤gD (roundC d L).1 v:=hd.2 _ k
   omega
 have e1:((v.toNat:Nat):Int)=v:=by have:=hv.1;omega
 unfold left
 refine countP_lt _ ?_ ⟨v.toNat,List.mem_range.2 (by have h1:=hv.1;have h2:=hv.2;omega),decide_eq_true (by rw [e1];exact hne),decide_eq_false (by rw [e1];exact fun k=>k hev)⟩
 intro u hu hp
 have hp:=of_decide_eq_true hp
 exact decide_eq_true fun hr=>hp (hr.keep hg hW hs h (by omega) ⟨by omega,by have:=List.mem_range.1 hu;omega⟩)
theorem Sofar.still (hg:Good L n W) (h:Sofar L s n m d) (hf:∀e∈L,fires d e=false) (hm:m+W<FAR) (hW:0≤W):Exact L s n d:=by
 have key:∀{u v e},Way (rel L) Any u v e→gD d u+e<FAR→gD d v≤gD d u+e:=by
  intro u v e hw
  induction hw with
  |@one u v w k=>
   intro hb
   have h1:=hf _ k
   have h2:=(hg.pos _ k).1
   simp only at h2
   unfold fires at h1
   simp only [Bool.and_eq_false_iff,decide_eq_false_iff_not] at h1
   omega
  |@cons u x v w e k _ k2 ih=>
   intro hb
   have h1:=hf _ k
   have h2:=(hg.pos _ k).1
   have h3:=k2.pos hg.hA
   simp only at h2
   unfold fires at h1
   simp only [Bool.and_eq_false_iff,decide_eq_false_iff_not] at h1
   have:=ih (by omega)
   omega
 have bound:∀{v e},Way (rel L) Any s v e→gD d v<FAR:=by
  intro v e hw
  have h2:∀{u v e},Way (rel L) Any u v e→gD d u<FAR→gD d v<FAR:=by
   intro u v e hw
   have step:∀{u v w},rel L u v w→gD d u<FAR→gD d v<FAR:=by
    intro u v w k hu
    have h1:=hf _ k
    have hn:=(hg.ends _ k).2
    unfold fires at h1
    simp only [Bool.and_eq_false_iff,decide_eq_false_iff_not] at h1
    rcases h.way v hn with k2|⟨_,k2⟩
    ·
     rcases h.way u (hg.ends _ k).1 with k3|⟨_,k3⟩
     ·omega
     ·have h4:=(hg.pos _ k).2
      simp only at h1 h4
      omega
    ·omega
   induction hw with
   |one k=>exact step k
   |cons k _ _ ih=>exact fun hu=>ih (step k hu)
  exact h2 hw (by rw [h.self];decide)
 refine h.exact hg fun v e hv hd=>?_
 rcases h.way v hv with k|⟨k,k2⟩
 ·exfalso
  rcases hd.1 with ⟨rfl,rfl⟩|hw
  ·rw [h.self] at k;cases k
  ·have:=bound hw;omega
 ·refine ⟨?_,by omega⟩
  have h1:=hd.2 _ k
  rcases hd.1 with ⟨rfl,rfl⟩|hw
  ·exact h.self
  ·have:=key hw (by rw [h.self];omega)
   rw [h.self] at this
   omega
theorem Sofar.round (hg:Good L n W) (hW:0≤W) (hs:node n s) (h:Sofar L s n m d) (hm:m+L.length*W+W<FAR):
  Sofar L s n (m+L.length*W) (roundC d L).1∧(left L s n (roundC d L).1<left L s n d∨left L s n (roundC d L).1=0)∧((roundC d L).2=false→Exact L s n (roundC d L).1):=by
 have hmw:0≤(L.length:Int)*W:=Int.mul_nonneg (by omega) hW
 obtain ⟨a1,a2,a3,a4⟩:=Sofar.part hg hs hW L d m false (fun e h=>h) h
 refine ⟨a1,?_,fun k=>?_⟩
 ·by_cases h0:left L s n d=0
  ·exact .inr (zero_left fun v hv=>(left_zero h0 hv).keep hg hW hs h (by omega) hv)
  ·exact .inl (left_less hg hW hs h hm h0)
 ·obtain ⟨_,k2,k3⟩:=a4 k
  show Exact L s n (List.foldl relaxC (d,false) L).1
  rw [k2]
  exact h.still hg k3 (by omega) hW
theorem Sofar.begin (L:List Arc) {s:Int} {n:Nat} (hs:node n s):Sofar L s n 0 ((List.replicate n FAR).set s.toNat 0):=by
 have hl:s.toNat<(List.replicate n FAR).length:=by simp;omega
 refine ⟨by simp,?_,?_⟩
 ·intro v hv
  rw [gD_set hs.1 hl hv.1]
  split
  ·rename_i e
   subst e
   exact .inr ⟨.inl ⟨rfl,rfl⟩,Int.le_refl _⟩
  ·refine .inl ?_
   unfold gD
   rw [List.getD_eq_getElem?_getD,List.getElem?_replicate]
   split<;>rfl
 ·rw [gD_set hs.1 hl hs.1,if_pos rfl]
end Go.Proofs.YtkdomobedfhhgaaGreat.Ch
end
section
namespace Go.Proofs.YtkdomobedfhhgaaGreat
open Go Go.Proofs Go.RowKit Go.Shelf Go.Proofs.YtkdomobedfhhgaaGreat.Ch
def endsC (back:Bool) (e:EdgeD):Int×Int:=if back then (e.t,e.f) else (e.f,e.t)
def countB (no:List Int) (e:EdgeD):Bool:=!decide (e.f∈no)&&!decide (e.t∈no)
end Go.Proofs.YtkdomobedfhhgaaGreat
end
section
namespace Go.Proofs.YtkdomobedfhhgaaGreat
open Go Go.Proofs Go.RowKit Go.Shelf Go.Proofs.YtkdomobedfhhgaaGreat.Ch
end Go.Proofs.YtkdomobedfhhgaaGreat
end
section
namespace Go.Proofs.YtkdomobedfhhgaaGreat
open Go Go.Proofs Go.RowKit Go.Shelf Go.Proofs.YtkdomobedfhhgaaGreat.Hp Go.Proofs.YtkdomobedfhhgaaGreat.Ch
end Go.Proofs.YtkdomobedfhhgaaGreat
end
section
namespace Go.Proofs.YtkdomobedfhhgaaGreat
open Go Go.Proofs Go.RowKit Go.Shelf Go.Proofs.YtkdomobedfhhgaaGreat.Hp Go.Proofs.YtkdomobedfhhgaaGreat.Ch
set_option maxHeartbeats 1000000 in
theorem Grow_any (n:Nat) (w:World) (hn:n≤1099511627776):
  Calls Tryz.prog 131 #[.slice none 0 0,.int .i64 n] w fun e w'=>∃ao cap,e=.returned (.slice ao 0 cap)∧w'.ownsRow w.heap.size 3 1 (.slice ao 0 cap) 0 []∧Below w.heap.size w w':=by
 by_cases h0:n=0
 ·subst h0
  go_enter Tryz.func131,Tryz.ntmps131
  go_wp2
  go_ret
  exact ⟨none,0,rfl,⟨rfl,.inl ⟨rfl,rfl⟩⟩,Below.refl _ _⟩
 ·have hE:=elem_int
  obtain ⟨hE,hz1,hz2⟩:=hE
  obtain ⟨i,hi,hz,hsz,hby⟩:=info_parts hE
  have hrz:=Lib.hid (fun ty=>Lib.run_append_nil_zeros w 25 3 ty 3 i _ .i64 .i64 Tryz.underlying25 Tryz.underlying3 hi hz n (by omega) (by omega) (by omega) (by rw [hby];omega))
  have hGn:n≤grownCap w n 0 3:=grownCap_ge w _ _ _
  have hG63:grownCap w n 0 3≤maxLen:=grownCap_le_maxLen w n 0 3 (by unfold maxLen;omega)
  generalize grownCap w n 0 3=G at*
  obtain ⟨W,hW⟩:∃W,W=w.drew.alloc (.cells (Builtin.zeroCells (Value.int .i64 0).cells n++Builtin.zeroCells (Value.int .i64 0).cells (G-n)) 3):=⟨_,rfl⟩
  rw [←hW] at hrz
  have HO:Aside (W.ownsRow w.heap.size 3 1 (.slice (some ⟨w.heap.size,0,none⟩) 0 G) 0 []):=by
   refine ⟨rfl,.inr ⟨w.heap.size,G,Builtin.zeroCells (Value.int .i64 0).cells n++Builtin.zeroCells (Value.int .i64 0).cells (G-n),rfl,Nat.le_refl _,?_,Nat.zero_le _,hG63,?_,?_⟩⟩
   ·rw [hW];exact (MapKept.heap_alloc w.drew _).1
   ·simp [size_zeroCells,Value.cells];omega
   ·simp
  have HB:Aside (Below w.heap.size w W):=by rw [hW];exact Below.al (Below.of_dr w 1) _
  clear hW hE hz1 hz2 hi hz hsz hby
  have hG9:(0:Int)≤(G:Int):=by omega
  have hc1:((n:Int)>0)=True:=by simp;omega
  have hc2:((n:Int)<0)=False:=by simp
  unfold maxLen at hG63
  go_enter Tryz.func131,Tryz.ntmps131
  go_wp2_with (at_builtin;refine Lib.wpList_append_run _ rfl _ _ _ _ rfl _ _ rfl rfl _ _ (hrz.out _) ?_)
  go_ret
  exact ⟨_,G,rfl,HO.out,HB.out⟩
set_option maxRecDepth 100000 in
set_option maxHeartbeats 1000000 in
theorem Concat2_any (bk:Nat) (ao bo:Option Addr) (ca cb cq:Nat) (la lb:List Int) (w:World) (hla:la.length≤1048576) (hlb:lb.length≤1048576)
  (h0:w.cell? ⟨bk,0,none⟩=some (.slice ao la.length ca)) (h1:w.cell? ⟨bk,1,none⟩=some (.slice bo lb.length cb)) (ha:Cel w ao (la.map encI)) (hb:Cel w bo (lb.map encI)):
  Calls Tryz.prog 89 #[.slice (some ⟨bk,0,none⟩) 2 cq] w fun e w'=>∃ao' cap',e=.returned (.slice ao' (la++lb).length cap')∧Cel w' ao' ((la++lb).map encI)∧Below w.heap.size w w'∧∀x,ao'=some x→w.heap.size≤x.block:=by
 have HA:=Lib.hid ha
 have HB:=Lib.hid hb
 have H0:=Lib.hid h0
 have H1:=Lib.hid h1
 clear ha hb
 have HG:=Lib.hid (fun W=>Grow_any (la.length+lb.length) W (by omega))
 go_enter Tryz.func89,Tryz.ntmps89
 go_wp2
 refine wp_loop_rounds 3 ?_
 rw [rounds_succ]
 go_wp2
 rw [rounds_succ]
 go_wp2
 rw [rounds_succ]
 go_wp2_with fail
 refine (HG.out _).mono ?_
 rintro e w1 ⟨a1,c1,rfl,ho1,hb1⟩
 have m0:=cell_later hb1 h0
 have m1:=cell_later hb1 h1
 have HO1:=Lib.hid ho1
 have HB1:=Lib.hid hb1
 clear ho1 hb1 h0 h1
 go_wp2
 refine wp_loop_rounds 3 ?_
 rw [rounds_succ]
 obtain ⟨a2,c2,w2,hr2,ho2,hb2⟩:=run_appAll (P:=Tryz.prog) 25 25 w.heap.size 3 _ 8 elem_int Tryz.underlying25 a1 0 c1 [] HO1.out ao la.length ca (la.map encI) (HA.out.go HB1.out) (fun u hu=>by obtain ⟨x,_,rfl⟩:=List.mem_map.1 hu;rfl) (by refine ⟨by simp,by omega,by omega,HB1.out.size⟩)
 simp only [Nat.zero_add,List.nil_append] at hr2 ho2
 have HB2:=Lib.hid (HB1.out.trans hb2)
 have n0:=cell_later HB2.out H0.out
 have n1:=cell_later HB2.out H1.out
 obtain ⟨a3,c3,w3,hr3,ho3,hb3⟩:=run_appAll (P:=Tryz.prog) 25 25 w.heap.size 3 _ 8 elem_int Tryz.underlying25 a2 la.length c2 (la.map encI) ho2 bo lb.length cb (lb.map encI) (HB.out.go HB2.out) (fun u hu=>by obtain ⟨x,_,rfl⟩:=List.mem_map.1 hu;rfl) (by refine ⟨by simp,by omega,by omega,HB2.out.size⟩)
 have HR2:=Lib.hid hr2
 have HR3:=Lib.hid hr3
 have HO3:=Lib.hid ho3
 have HB3:=Lib.hid (HB2.out.trans hb3)
 clear hr2 ho2 hb2 hr3 ho3 hb3
 go_wp2_with (at_builtin;refine Lib.wpList_append_run _ rfl _ _ _ _ rfl _ _ rfl rfl _ _ HR2.out ?_)
 rw [rounds_succ]
 go_wp2_with (at_builtin;refine Lib.wpList_append_run _ rfl _ _ _ _ rfl _ _ rfl rfl _ _ HR3.out ?_)
 rw [rounds_succ]
 go_wp2
 go_ret
 obtain ⟨ao3,cap3,e3,h3⟩:=Cel.of_owns HO3.out
 cases e3
 refine ⟨a3,c3,?_,by simpa using h3,HB3.out,?_⟩
 ·simp
 ·rintro x rfl
  rcases HO3.out.2 with ⟨e,_⟩|⟨g,cap',cur,e,hb,_⟩
  ·cases e
  ·cases e
   exact hb
end Go.Proofs.YtkdomobedfhhgaaGreat
end
section
namespace Go.Proofs.YtkdomobedfhhgaaGreat
open Go.Proofs Go.RowKit Go.Shelf
set_option maxRecDepth 100000 in
set_option maxHeartbeats 1000000 in
theorem Join_any (ao bo:Option Addr) (ca cb:Nat) (la lb:List Int) (wa wb:Int) (w:World) (hla:la.length≤1048576) (hlb:lb.length≤1048576)
  (ha:Cel w ao (la.map encI)) (hb:Cel w bo (lb.map encI)):
  Calls Tryz.prog 107 #[.agg #[.slice ao la.length ca,.int .u64 wa],.agg #[.slice bo lb.length cb,.int .u64 wb]] w fun e w'=>
   ∃ao' cap',e=.returned (.agg #[.slice ao' (la++lb).length cap',.int .u64 (IntKind.u64.wrap (wa+wb))])∧Cel w' ao' ((la++lb).map encI)∧Below w.heap.size w w'∧∀x,ao'=some x→w.heap.size≤x.block:=by
 have HA:=Lib.hid ha
 have HB:=Lib.hid hb
 clear ha hb
 have HC:=Lib.hid (fun bk cq W h0 h1 h2 h3=>Concat2_any bk ao bo ca cb cq la lb W hla hlb h0 h1 h2 h3)
 generalize (la++lb).length=n at*
 go_enter Tryz.func107,Tryz.ntmps107
 have d1:¬(w.heap.size+1+1=w.heap.size):=by omega
 have d2:¬(w.heap.size=w.heap.size+1+1):=by omega
 go_wp2
 go_region_held3 (fun w'=>w'.cell? ⟨w.heap.size,0,none⟩=some (.slice ao la.length ca)∧w'.cell? ⟨w.heap.size,1,none⟩=some (.int .u64 wa)∧w'.cell? ⟨w.heap.size+1,0,none⟩=some (.slice bo lb.length cb)∧w'.cell? ⟨w.heap.size+1,1,none⟩=some (.int .u64 wb)) (go_keep) (first
  |(go_at_call 89;refine (HC.out _ _ _ (by go_simp) (by go_simp) (HA.out.go (by repeat (first|exact Below.refl _ _|refine Below.al ?_ _|refine Below.dr ?_ _|refine Below.drew ?_|assumption|(refine Below.st ?_ (by assumption))))) (HB.out.go (by repeat (first|exact Below.refl _ _|refine Below.al ?_ _|refine Below.dr ?_ _|refine Below.drew ?_|assumption|(refine Below.st ?_ (by assumption)))))).mono ?_;rintro e w1 ⟨a1,c1,rfl,hc1,hb1,hn1⟩;have q0:=cell_later hb1 (a:=⟨w.heap.size,0,none⟩) (v:=.slice ao la.length ca) (by go_simp);have q1:=cell_later hb1 (a:=⟨w.heap.size,1,none⟩) (v:=.int .u64 wa) (by go_simp);have q2:=cell_later hb1 (a:=⟨w.heap.size+1,0,none⟩) (v:=.slice bo lb.length cb) (by go_simp);have q3:=cell_later hb1 (a:=⟨w.heap.size+1,1,none⟩) (v:=.int .u64 wb) (by go_simp);have q4:=cell_later hb1 (a:=⟨w.heap.size+1+1,0,none⟩) (v:=.slice none 0 0) (by go_simp);have q5:=cell_later hb1 (a:=⟨w.heap.size+1+1,1,none⟩) (v:=.int .u64 0) (by go_simp);have z4:w1.frozen? ⟨w.heap.size+1+1,0,none⟩=false:=(hb1.frozen (by simp)).trans (by go_simp);have z5:w1.frozen? ⟨w.heap.size+1+1,1,none⟩=false:=(hb1.frozen (by simp)).trans (by go_simp)))
 go_wp2
 have r0:((w1.setCell ⟨w.heap.size+1+1,0,none⟩ (.slice a1 n c1)).setCell ⟨w.heap.size+1+1,1,none⟩ (.int .u64 (IntKind.u64.wrap (wa+wb)))).cell? ⟨w.heap.size+1+1,0,none⟩=some (.slice a1 n c1):=by
  rw [World.cell?_setCell_other _ _ _ _ (by simp)];exact World.cell?_setCell_same _ _ _ q4
 have r1:((w1.setCell ⟨w.heap.size+1+1,0,none⟩ (.slice a1 n c1)).setCell ⟨w.heap.size+1+1,1,none⟩ (.int .u64 (IntKind.u64.wrap (wa+wb)))).cell? ⟨w.heap.size+1+1,1,none⟩=some (.int .u64 (IntKind.u64.wrap (wa+wb))):=
  World.cell?_setCell_same _ _ _ (u:=.int .u64 0) (by rw [World.cell?_setCell_other _ _ _ _ (by simp)];exact q5)
 have hb2:Below w.heap.size w w1:=by repeat (first|exact Below.refl _ _|refine Below.al ?_ _|refine Below.dr ?_ _|refine Below.drew ?_|assumption|(refine Below.st ?_ (by assumption)))
 have hs2:=hb1.size
 simp at hs2
 have hb3:Below w.heap.size w ((w1.setCell ⟨w.heap.size+1+1,0,none⟩ (.slice a1 n c1)).setCell ⟨w.heap.size+1+1,1,none⟩ (.int .u64 (IntKind.u64.wrap (wa+wb)))):=(hb2.setCell (by simp;omega) _).setCell (by simp;omega) _
 have hc3:Cel ((w1.setCell ⟨w.heap.size+1+1,0,none⟩ (.slice a1 n c1)).setCell ⟨w.heap.size+1+1,1,none⟩ (.int .u64 (IntKind.u64.wrap (wa+wb)))) a1 ((la++lb).map encI):=by
  intro i u hu
  obtain ⟨b,o,e,h⟩:=hc1 i u hu
  have:=hn1 _ e
  simp at this
  refine ⟨b,o,e,?_⟩
  rw [World.cell?_setCell_far _ _ _ _ (by simp;omega),World.cell?_setCell_far _ _ _ _ (by simp;omega)]
  exact h
 have HF:=Lib.hid (And.intro hc3 (And.intro hb3 (show ∀x,a1=some x→w.heap.size≤x.block from fun x hx=>by
  have:=hn1 _ hx
  simp at this
  omega)))
 clear hn1 q0 q1 q2 q3 q4 q5 z4 z5 hb1 hb2 hc1 hb3 hc3
 generalize (w1.setCell ⟨w.heap.size+1+1,0,none⟩ (.slice a1 n c1)).setCell ⟨w.heap.size+1+1,1,none⟩ (.int .u64 (IntKind.u64.wrap (wa+wb)))=W at*
 refine bodyPost_ret (by simp [results,Tryz.results107,go_sem,r0,r1];try rfl) rfl ?_
 exact ⟨a1,c1,rfl,HF.out.1,HF.out.2.1,HF.out.2.2⟩
theorem take_succ_map {α β:Type} (f:α→β) (l:List α) (k:Nat) (h:k<l.length):(l.take k).map f++[f l[k]]=(l.take (k+1)).map f:=by
 rw [List.take_succ_eq_append_getElem h,List.map_append];rfl
set_option maxRecDepth 100000 in
set_option maxHeartbeats 1000000 in
theorem refJoin_any (ao bo:Option Addr) (ca cb:Nat) (la lb:List Int) (w:World) (hla:la.length≤1048576) (hlb:lb.length≤1048576)
  (ha:Cel w ao (la.map encI)) (hb:Cel w bo (lb.map encI)):
  Calls Tryz.prog 57 #[.slice ao la.length ca,.slice bo lb.length cb] w fun e w'=>
   ∃ao' cap',e=.returned (.slice ao' (la++lb).length cap')∧Cel w' ao' ((la++lb).map encI)∧Below w.heap.size w w':=by
 have HA:=Lib.hid ha
 have HB:=Lib.hid hb
 clear ha hb
 go_enter Tryz.func57,Tryz.ntmps57
 go_wp2
 go_loopg [5,6] la.length (fun gg v i wr=>∃(k cap':Nat) (ao':Option Addr),k≤la.length∧la.length-k≤gg∧i=.int .i64 k∧v=.slice ao' k cap'∧w.heap.size≤wr.heap.size∧
  Aside (wr.ownsRow w.heap.size 3 1 (.slice ao' k cap') k ((la.take k).map encI)∧Below w.heap.size w wr))
 case atStart=>exact ⟨0,0,none,Nat.zero_le _,by omega,rfl,rfl,Nat.le_refl _,⟨rfl,.inl ⟨rfl,rfl⟩⟩,Below.refl _ _⟩
 case round=>
  obtain ⟨k,cap',ao',hk,hg,rfl,rfl,hsz,HO⟩:=hrel
  by_cases hlt:k<la.length
  ·obtain ⟨b,o,hao,f1⟩:=(HA.out.go HO.out.2).at hlt
   have hx:=Lib.hid (take_succ_map encI la k hlt)
   generalize la[k]=x at*
   have i0:(k:Int)<(la.length:Int):=by omega
   have k0:(0:Int)≤(k:Int):=by omega
   subst hao
   go_wp2_with (at_builtin;go_must ((with_reducible refine wpList_app w.heap.size 3 _ 1 8 elem_int Tryz.underlying25 (.slice ao' k cap') k _ ⟨wr.heap.size,0,none⟩ 1 1 ?_ ?_ ?_ (World.ownsRow.alloc HO.out.1 _) ?_ ?_ ?_ ?_);rotate_left 1;(· rfl);(· rfl);(· exact cell_one_new _ _ _);(· exact one_cells rfl);(· exact ⟨rfl,by decide,by omega,by omega,by simp;omega⟩);intro g1 cap1 w1 hown hgrow hbl hat hlt1;(have H1o:=Lib.hid hown;have H1b:=Lib.hid hbl;have H1g:=Lib.hid (And.intro hgrow hat);clear hown hgrow hbl hat)))
   go_roundg (la.length-(k+1))
   case measure=>omega
   case rel=>
    refine ⟨k+1,cap1,some ⟨g1,0,none⟩,by omega,by omega,by go_num,rfl,by have:=H1b.out.size;simp at this;omega,⟨?_,HO.out.2.trans ((Below.alloc (Below.refl _ _) hsz _).trans H1b.out)⟩⟩
    rw [←hx.out]
    exact H1o.out
  ·obtain rfl:k=la.length:=by omega
   have HO1:=Lib.hid (by have:=HO.out;rw [List.take_length] at this;exact this:wr.ownsRow w.heap.size 3 1 (.slice ao' la.length cap') la.length (la.map encI)∧Below w.heap.size w wr)
   clear HO hk hlt hg
   generalize wr=w1 at*
   go_wp2
   go_loopg [5,7] lb.length (fun gg v i wr=>∃(k cap':Nat) (ao':Option Addr),k≤lb.length∧lb.length-k≤gg∧i=.int .i64 k∧v=.slice ao' (la.length+k) cap'∧w.heap.size≤wr.heap.size∧
    Aside (wr.ownsRow w.heap.size 3 1 (.slice ao' (la.length+k) cap') (la.length+k) (la.map encI++(lb.take k).map encI)∧Below w.heap.size w wr))
   case atStart=>exact ⟨0,cap',ao',Nat.zero_le _,by omega,rfl,rfl,hsz,by simpa using HO1.out.1,HO1.out.2⟩
   case round=>
    clear HO1 hsz
    obtain ⟨k,cap',ao',hk,hg,rfl,rfl,hsz,HO⟩:=hrel
    by_cases hlt:k<lb.length
    ·obtain ⟨b,o,hao,f1⟩:=(HB.out.go HO.out.2).at hlt
     have hx:=Lib.hid (take_succ_map encI lb k hlt)
     generalize lb[k]=x at*
     have i0:(k:Int)<(lb.length:Int):=by omega
     have k0:(0:Int)≤(k:Int):=by omega
     subst hao
     go_wp2_with (at_builtin;go_must ((with_reducible refine wpList_app w.heap.size 3 _ 1 8 elem_int Tryz.underlying25 (.slice ao' (la.length+k) cap') (la.length+k) _ ⟨wr.heap.size,0,none⟩ 1 1 ?_ ?_ ?_ (World.ownsRow.alloc HO.out.1 _) ?_ ?_ ?_ ?_);rotate_left 1;(· rfl);(· rfl);(· exact cell_one_new _ _ _);(· exact one_cells rfl);(· exact ⟨rfl,by decide,by omega,by omega,by simp;omega⟩);intro g1 cap1 w1 hown hgrow hbl hat hlt1;(have H1o:=Lib.hid hown;have H1b:=Lib.hid hbl;have H1g:=Lib.hid (And.intro hgrow hat);clear hown hgrow hbl hat)))
     go_roundg (lb.length-(k+1))
     case measure=>omega
     case rel=>
      refine ⟨k+1,cap1,some ⟨g1,0,none⟩,by omega,by omega,by go_num,rfl,by have:=H1b.out.size;simp at this;omega,⟨?_,HO.out.2.trans ((Below.alloc (Below.refl _ _) hsz _).trans H1b.out)⟩⟩
      rw [←hx.out,←List.append_assoc]
      exact H1o.out
    ·obtain rfl:k=lb.length:=by omega
     go_wp2
     go_ret
     obtain ⟨ao3,cap3,e3,h3⟩:=Cel.of_owns HO.out.1
     cases e3
     rw [List.take_length] at h3
     exact ⟨ao',cap',by rw [List.length_append];rfl,by rw [List.map_append];exact h3,HO.out.2⟩
end Go.Proofs.YtkdomobedfhhgaaGreat
end
