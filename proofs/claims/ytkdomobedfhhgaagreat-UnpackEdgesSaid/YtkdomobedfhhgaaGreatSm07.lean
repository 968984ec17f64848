/- Rows of indices by their keys, laid one behind the other, in plain Lean. A row that is sorted by insertion, in plain Lean; which places are nearest, in plain Lean. Walks of the library's stable sort, at rows of at most 20 numbers: the sort by insertion. A region whose operations only grow memory, in any order, some of them under a guard, the frame unseen. A region whose operations only grow memory, in any order, some of them under a guard, with a last one that waits for all of them, the frame unseen. -/
import Derived.Test.YtkdomobedfhhgaaGreatQm01
import Derived.Test.YtkdomobedfhhgaaGreatProg
import Derived.Test.YtkdomobedfhhgaaGreatQm07
import Derived.Deep.Cut
import Derived.Deep.RegionLaw
import Derived.Deep.CutRange
import Derived.Test.YtkdomobedfhhgaaGreatSm04
set_option linter.unusedVariables false
set_option linter.unusedSimpArgs false
set_option linter.unnecessarySimpa false
section
namespace Go.Proofs.YtkdomobedfhhgaaGreat.Ad
def cntN (kf:Nat→Nat):Nat→Nat→Nat
 |0,_=>0
 |k+1,v=>cntN kf k v+(if kf k=v then 1 else 0)
def preN (kf:Nat→Nat):Nat→Nat→Nat
 |0,_=>0
 |k+1,j=>preN kf k j+(if kf k<j then 1 else 0)
theorem preN_succ (kf:Nat→Nat) (j:Nat):∀k,preN kf k (j+1)=preN kf k j+cntN kf k j
 |0=>rfl
 |k+1=>by
  unfold preN cntN
  rw [preN_succ kf j k]
  by_cases h1:kf k<j
  ·rw [if_pos h1,if_pos (by omega),if_neg (by omega)]
   omega
  ·by_cases h2:kf k=j
   ·rw [if_neg h1,if_pos h2,if_pos (by omega)]
    omega
   ·rw [if_neg h1,if_neg h2,if_neg (by omega)]
    omega
theorem preN_zero (kf:Nat→Nat):∀k,preN kf k 0=0
 |0=>rfl
 |k+1=>by unfold preN;rw [preN_zero kf k,if_neg (by omega)]
theorem preN_mono (kf:Nat→Nat) {i j:Nat} (h:i≤j):∀k,preN kf k i≤preN kf k j
 |0=>Nat.le_refl _
 |k+1=>by
  have:=preN_mono kf h k
  unfold preN
  split<;>split<;>omega
theorem preN_all {kf:Nat→Nat} {n:Nat}:∀k,(∀i,i<k→kf i<n)→preN kf k n=k
 |0,_=>rfl
 |k+1,h=>by
  unfold preN
  rw [preN_all k (fun i hi=>h i (by omega)),if_pos (h k (by omega))]
theorem preN_le (kf:Nat→Nat) (j:Nat):∀k,preN kf k j≤k
 |0=>Nat.le_refl _
 |k+1=>by
  have:=preN_le kf j k
  unfold preN
  split<;>omega
theorem cntN_le (kf:Nat→Nat) (v:Nat):∀k,cntN kf k v≤k
 |0=>Nat.le_refl _
 |k+1=>by
  have:=cntN_le kf v k
  unfold cntN
  split<;>omega
theorem cntN_mono (kf:Nat→Nat) (v:Nat) {i:Nat}:∀{j},i≤j→cntN kf i v≤cntN kf j v
 |0,h=>by
  have:i=0:=by omega
  subst this
  exact Nat.le_refl _
 |j+1,h=>by
  by_cases e:i=j+1
  ·subst e;exact Nat.le_refl _
  ·have:=cntN_mono kf v (i:=i) (j:=j) (by omega)
   show _≤cntN kf j v+_
   omega
theorem cntN_lt (kf:Nat→Nat) {i j:Nat} (h:i<j):cntN kf i (kf i)<cntN kf j (kf i):=by
 have h1:=cntN_mono kf (kf i) (show i+1≤j by omega)
 have h2:cntN kf (i+1) (kf i)=cntN kf i (kf i)+1:=by
  show cntN kf i (kf i)+(if kf i=kf i then 1 else 0)=_
  rw [if_pos rfl]
 omega
def posN (kf:Nat→Nat) (m i:Nat):Nat:=preN kf m (kf i)+cntN kf i (kf i)
theorem posN_seg (kf:Nat→Nat) {m i:Nat} (h:i<m):posN kf m i<preN kf m (kf i+1):=by
 have:=cntN_lt kf h
 unfold posN
 rw [preN_succ]
 omega
theorem posN_lt {kf:Nat→Nat} {m n i:Nat} (h:i<m) (hk:∀i,i<m→kf i<n):posN kf m i<m:=by
 have h1:=posN_seg kf h
 have h2:=preN_mono kf (show kf i+1≤n from hk i h) m
 rw [preN_all m hk] at h2
 omega
theorem posN_ne {kf:Nat→Nat} {m i j:Nat} (hj:j<m) (hij:i<j):posN kf m i≠posN kf m j:=by
 have hi:i<m:=by omega
 rcases Nat.lt_trichotomy (kf i) (kf j) with h|h|h
 ·have h1:=posN_seg kf hi
  have h2:=preN_mono kf (show kf i+1≤kf j by omega) m
  unfold posN at*
  omega
 ·have h1:=cntN_lt kf hij
  unfold posN
  rw [←h]
  omega
 ·have h1:=posN_seg kf hj
  have h2:=preN_mono kf (show kf j+1≤kf i by omega) m
  unfold posN at*
  omega
def idxN (kf:Nat→Nat):Nat→Nat→List Int
 |0,_=>[]
 |k+1,v=>if kf k=v then idxN kf k v++[(k:Int)] else idxN kf k v
theorem idxN_len (kf:Nat→Nat) (v:Nat):∀k,(idxN kf k v).length=cntN kf k v
 |0=>rfl
 |k+1=>by
  unfold idxN cntN
  split
  ·rw [List.length_append,idxN_len kf v k];rfl
  ·rw [idxN_len kf v k];rfl
theorem idxN_at (kf:Nat→Nat) (v:Nat):∀k j x,(idxN kf k v)[j]? =some x→∃i:Nat,x=(i:Int)∧i<k∧kf i=v∧cntN kf i v=j
 |0,j,x,h=>by simp [idxN] at h
 |k+1,j,x,h=>by
  unfold idxN at h
  split at h
  ·rename_i e
   rcases Nat.lt_or_ge j (idxN kf k v).length with hj|hj
   ·rw [List.getElem?_append_left hj] at h
    obtain ⟨i,h1,h2,h3⟩:=idxN_at kf v k j x h
    exact ⟨i,h1,by omega,h3⟩
   ·rw [List.getElem?_append_right hj] at h
    have hj0:j=(idxN kf k v).length:=by
     have:=(List.getElem?_eq_some_iff.1 h).1
     simp at this
     omega
    subst hj0
    rw [Nat.sub_self] at h
    cases h
    exact ⟨k,rfl,by omega,e,(idxN_len kf v k).symm⟩
  ·obtain ⟨i,h1,h2,h3⟩:=idxN_at kf v k j x h
   exact ⟨i,h1,by omega,h3⟩
theorem idxN_mem {kf:Nat→Nat} {v:Nat} {x:Int}:∀{k},x∈idxN kf k v↔∃i:Nat,x=(i:Int)∧i<k∧kf i=v
 |0=>by simp [idxN]
 |k+1=>by
  unfold idxN
  have ih:=@idxN_mem kf v x k
  split
  ·rename_i e
   rw [List.mem_append,List.mem_singleton,ih]
   constructor
   ·rintro (⟨i,h1,h2,h3⟩|rfl)
    ·exact ⟨i,h1,by omega,h3⟩
    ·exact ⟨k,rfl,by omega,e⟩
   ·rintro ⟨i,rfl,h2,h3⟩
    by_cases e2:i=k
    ·subst e2;exact .inr rfl
    ·exact .inl ⟨i,rfl,by omega,h3⟩
  ·rename_i e
   rw [ih]
   constructor
   ·rintro ⟨i,h1,h2,h3⟩
    exact ⟨i,h1,by omega,h3⟩
   ·rintro ⟨i,rfl,h2,h3⟩
    refine ⟨i,rfl,?_,h3⟩
    by_cases e2:i=k
    ·subst e2;exact absurd h3 e
    ·omega
theorem idxN_asc (kf:Nat→Nat) (v:Nat):∀k,(idxN kf k v).Pairwise (· <·)
 |0=>List.Pairwise.nil
 |k+1=>by
  unfold idxN
  split
  ·refine List.pairwise_append.2 ⟨idxN_asc kf v k,List.pairwise_singleton _ _,fun a ha b hb=>?_⟩
   obtain rfl:=List.mem_singleton.1 hb
   obtain ⟨i,rfl,hi,_⟩:=idxN_mem.1 ha
   omega
  ·exact idxN_asc kf v k
def EdgP (kf:Nat→Nat) (m k:Nat) (xs:List Int):Prop:=xs.length=m∧∀i,i<k→xs[posN kf m i]? =some (i:Int)
theorem EdgP.step {kf:Nat→Nat} {m n k:Nat} {xs:List Int} (h:EdgP kf m k xs) (hk:k<m) (hn:∀i,i<m→kf i<n):EdgP kf m (k+1) (xs.set (posN kf m k) (k:Int)):=by
 refine ⟨by rw [List.length_set];exact h.1,fun i hi=>?_⟩
 have hp:=posN_lt hk hn
 by_cases e:i=k
 ·subst e
  rw [List.getElem?_set_self (by rw [h.1];exact hp)]
 ·have:=posN_ne (kf:=kf) (m:=m) hk (show i<k by omega)
  rw [List.getElem?_set_ne (fun e2=>this e2.symm)]
  exact h.2 i (by omega)
theorem EdgP.row {kf:Nat→Nat} {m:Nat} {xs:List Int} (h:EdgP kf m m xs) (v:Nat) {j:Nat} {x:Int} (hx:(idxN kf m v)[j]? =some x):xs[preN kf m v+j]? =some x:=by
 obtain ⟨i,rfl,h1,h2,h3⟩:=idxN_at kf v m j x hx
 have:=h.2 i h1
 unfold posN at this
 rw [h2,h3] at this
 exact this
def begL (kf:Nat→Nat) (n k:Nat):List Int:=(List.range (n+1)).map fun j=>if j=0 then 0 else (cntN kf k (j-1):Int)
def midL (kf:Nat→Nat) (n m v:Nat):List Int:=(List.range (n+1)).map fun j=>if j≤v then (preN kf m j:Int) else (cntN kf m (j-1):Int)
def atL (kf:Nat→Nat) (n m k:Nat):List Int:=(List.range (n+1)).map fun j=>((preN kf m j+cntN kf k j:Nat):Int)
theorem begL_len (kf:Nat→Nat) (n k:Nat):(begL kf n k).length=n+1:=by simp [begL]
theorem midL_len (kf:Nat→Nat) (n m v:Nat):(midL kf n m v).length=n+1:=by simp [midL]
theorem atL_len (kf:Nat→Nat) (n m k:Nat):(atL kf n m k).length=n+1:=by simp [atL]
theorem begL_at {kf:Nat→Nat} {n k v:Nat} (h:v<n):(begL kf n k)[v+1]? =some (cntN kf k v:Int):=by
 unfold begL
 rw [List.getElem?_map,List.getElem?_range (by omega)]
 simp
theorem begL_start (kf:Nat→Nat) (n:Nat):begL kf n 0=List.replicate (n+1) 0:=by
 apply List.ext_getElem?
 intro j
 unfold begL
 rw [List.getElem?_map,List.getElem?_replicate]
 by_cases h:j<n+1
 ·rw [List.getElem?_range h,if_pos h]
  simp [cntN]
 ·rw [List.getElem?_eq_none (by simp;omega),if_neg h]
  rfl
theorem begL_step {kf:Nat→Nat} {n k:Nat} (h:kf k<n):(begL kf n k).set (kf k+1) ((cntN kf k (kf k):Int)+1)=begL kf n (k+1):=by
 apply List.ext_getElem?
 intro j
 by_cases hj:j<n+1
 ·by_cases e:kf k+1=j
  ·subst e
   rw [List.getElem?_set_self (by rw [begL_len];exact hj),begL_at h]
   show _=some ((cntN kf k (kf k)+(if kf k=kf k then 1 else 0):Nat):Int)
   rw [if_pos rfl]
   rfl
  ·rw [List.getElem?_set_ne e]
   unfold begL
   rw [List.getElem?_map,List.getElem?_map,List.getElem?_range hj]
   simp only [Option.map_some]
   by_cases h0:j=0
   ·rw [if_pos h0,if_pos h0]
   ·rw [if_neg h0,if_neg h0]
    show _=some ((cntN kf k (j-1)+(if kf k=j-1 then 1 else 0):Nat):Int)
    rw [if_neg (by omega)]
    rfl
 ·rw [List.getElem?_eq_none (by rw [List.length_set,begL_len];omega),List.getElem?_eq_none (by rw [begL_len];omega)]
theorem midL_start (kf:Nat→Nat) (n m:Nat):midL kf n m 0=begL kf n m:=by
 unfold midL begL
 apply List.map_congr_left
 intro j _
 by_cases h:j=0
 ·subst h
  rw [if_pos (Nat.le_refl _),if_pos rfl,preN_zero]
  rfl
 ·rw [if_neg (by omega),if_neg h]
theorem midL_at0 {kf:Nat→Nat} {n m v:Nat} (h:v<n):(midL kf n m v)[v]? =some (preN kf m v:Int):=by
 unfold midL
 rw [List.getElem?_map,List.getElem?_range (by omega)]
 simp
theorem midL_at1 {kf:Nat→Nat} {n m v:Nat} (h:v<n):(midL kf n m v)[v+1]? =some (cntN kf m v:Int):=by
 unfold midL
 rw [List.getElem?_map,List.getElem?_range (by omega)]
 simp only [Option.map_some]
 rw [if_neg (by omega)]
 rfl
theorem midL_step {kf:Nat→Nat} {n m v:Nat} (h:v<n):(midL kf n m v).set (v+1) ((cntN kf m v:Int)+(preN kf m v:Int))=midL kf n m (v+1):=by
 apply List.ext_getElem?
 intro j
 by_cases hj:j<n+1
 ·by_cases e:v+1=j
  ·subst e
   rw [List.getElem?_set_self (by rw [midL_len];exact hj)]
   unfold midL
   rw [List.getElem?_map,List.getElem?_range hj]
   simp only [Option.map_some]
   rw [if_pos (Nat.le_refl _),preN_succ]
   congr 1
   omega
  ·rw [List.getElem?_set_ne e]
   unfold midL
   rw [List.getElem?_map,List.getElem?_map,List.getElem?_range hj]
   simp only [Option.map_some]
   by_cases h0:j≤v
   ·rw [if_pos h0,if_pos (by omega)]
   ·rw [if_neg h0,if_neg (by omega)]
 ·rw [List.getElem?_eq_none (by rw [List.length_set,midL_len];omega),List.getElem?_eq_none (by rw [midL_len];omega)]
theorem atL_start (kf:Nat→Nat) (n m:Nat):midL kf n m n=atL kf n m 0:=by
 unfold midL atL
 apply List.map_congr_left
 intro j hj
 have:=List.mem_range.1 hj
 rw [if_pos (by omega)]
 rfl
theorem atL_at {kf:Nat→Nat} {n m k v:Nat} (h:v<n+1):(atL kf n m k)[v]? =some ((preN kf m v+cntN kf k v:Nat):Int):=by
 unfold atL
 rw [List.getElem?_map,List.getElem?_range h]
 rfl
theorem atL_step {kf:Nat→Nat} {n m k:Nat} (h:kf k<n):(atL kf n m k).set (kf k) ((posN kf m k:Int)+1)=atL kf n m (k+1):=by
 apply List.ext_getElem?
 intro j
 by_cases hj:j<n+1
 ·by_cases e:kf k=j
  ·subst e
   rw [List.getElem?_set_self (by rw [atL_len];exact hj),atL_at hj]
   show _=some ((preN kf m (kf k)+(cntN kf k (kf k)+(if kf k=kf k then 1 else 0)):Nat):Int)
   rw [if_pos rfl]
   unfold posN
   congr 1
  ·rw [List.getElem?_set_ne e,atL_at hj,atL_at hj]
   show _=some ((preN kf m j+(cntN kf k j+(if kf k=j then 1 else 0)):Nat):Int)
   rw [if_neg e]
   rfl
 ·rw [List.getElem?_eq_none (by rw [List.length_set,atL_len];omega),List.getElem?_eq_none (by rw [atL_len];omega)]
end Go.Proofs.YtkdomobedfhhgaaGreat.Ad
end
section
namespace Go.Proofs.YtkdomobedfhhgaaGreat.Ns
structure Seg (a b:Nat) (l1 l2:List Int):Prop where
 len:l2.length=l1.length
 out:∀k,k<a∨b≤k→l2[k]? =l1[k]?
 perm:l2.Perm l1
 pres:∀P:Int→Prop,(∀k x,a≤k→k<b→l1[k]? =some x→P x)→∀k x,a≤k→k<b→l2[k]? =some x→P x
theorem Seg.refl (a b:Nat) (l:List Int):Seg a b l l:=⟨rfl,fun _ _=>rfl,List.Perm.refl _,fun _ h=>h⟩
theorem Seg.trans {a b:Nat} {l1 l2 l3:List Int} (h:Seg a b l1 l2) (k:Seg a b l2 l3):Seg a b l1 l3:=
 ⟨k.len.trans h.len,fun i hi=>(k.out i hi).trans (h.out i hi),k.perm.trans h.perm,fun P hp=>k.pres P (h.pres P hp)⟩
theorem Seg.mono {a b a' b':Nat} {l1 l2:List Int} (h:Seg a b l1 l2) (h1:a'≤a) (h2:b≤b'):Seg a' b' l1 l2:=
 ⟨h.len,fun k hk=>h.out k (by omega),h.perm,fun P hp k x hk1 hk2 hx=>by
  by_cases hin:a≤k∧k<b
  ·exact h.pres P (fun i y hi1 hi2 hy=>hp i y (by omega) (by omega) hy) k x hin.1 hin.2 hx
  ·rw [h.out k (by omega)] at hx
   exact hp k x hk1 hk2 hx⟩
end Go.Proofs.YtkdomobedfhhgaaGreat.Ns
end
section
namespace Go.Proofs.YtkdomobedfhhgaaGreat.Ns
open Go Go.Proofs Go.RowKit Go.Shelf Go.Proofs.YtkdomobedfhhgaaGreat Go.Proofs.YtkdomobedfhhgaaGreat.Hp
abbrev RowI (w:World) (base g N cp:Nat) (l:List Int):Prop:=w.ownsRow base 3 1 (.slice (some ⟨g,0,none⟩) N cp) N (l.map encI)
theorem RowI.len {w:World} {base g N cp:Nat} {l:List Int} (h:RowI w base g N cp l):l.length=N:=by have:=h.1;simpa using this
theorem RowI.cell {w:World} {base g N cp:Nat} {l:List Int} (h:RowI w base g N cp l) {i:Nat} {x:Int} (hx:l[i]? =some x):w.cell? ⟨g,i,none⟩=some (.int .i64 x):=by
 have hi:=(List.getElem?_eq_some_iff.1 hx).1
 rw [h.cellAt i (by have:=h.len;omega),List.getElem?_map,hx]
 rfl
theorem RowI.put {w:World} {base g N cp:Nat} {l:List Int} (h:RowI w base g N cp l) (i:Nat) (x:Int):RowI (w.setCell ⟨g,i,none⟩ (.int .i64 x)) base g N cp (l.set i x):=by
 have:=(h.stored i (.int .i64 x)).1
 rw [←List.map_set (f:=encI)] at this
 exact this
theorem RowI.base {w:World} {base g N cp:Nat} {l:List Int} (h:RowI w base g N cp l):base≤g∧g<w.heap.size:=h.lt g rfl
end Go.Proofs.YtkdomobedfhhgaaGreat.Ns
end
section
namespace Go.Proofs.YtkdomobedfhhgaaGreat
open Go Go.Proofs Go.RowKit
section
variable {a:Act} {P:Program} {Q:Exit→Act→World→Prop} {w:World}
def growG (l:List Oper) (sz:Nat):Bool:=(List.range l.length).all fun i=>match l[i]? with
 |none=>false
 |some o=>o.dst.isSome&&decide (dstAt l i<sz)&&(o.after.all fun e=>!Region.binds .any e||decide (e.on<i))&&(List.range i).all fun j=>decide (dstAt l j≠dstAt l i)
theorem growG_at {l:List Oper} {sz:Nat} (h:growG l sz=true) {i:Nat} {o:Oper} (hi:l[i]? =some o):
  o.dst=some (dstAt l i)∧dstAt l i<sz∧(∀e∈o.after,Region.binds .any e=true→e.on<i)∧∀j,j<i→dstAt l j≠dstAt l i:=by
 have hlt:i<l.length:=(List.getElem?_eq_some_iff.1 hi).1
 unfold growG at h
 have h1:=List.all_eq_true.1 h i (List.mem_range.2 hlt)
 rw [hi] at h1
 clear h
 simp only [Bool.and_eq_true] at h1
 obtain ⟨⟨⟨h2,h4⟩,h5⟩,h6⟩:=h1
 refine ⟨?_,of_decide_eq_true h4,fun e he hb=>?_,fun j hj=>?_⟩
 ·obtain ⟨d,hd⟩:=Option.isSome_iff_exists.1 h2
  unfold dstAt
  rw [hi]
  simp [hd]
 ·have h7:=Array.all_eq_true_iff_forall_mem.1 h5 e he
  rw [hb] at h7
  simpa using h7
 ·have h7:=List.all_eq_true.1 h6 j (List.mem_range.2 hj)
  exact of_decide_eq_true h7
abbrev Goes (l:List Oper) (act:Act) (o:Oper) (b:Bool):Prop:=Region.wanted o (yielded l.toArray act.tmps)=b
theorem goes_free {l:List Oper} {act:Act} {o:Oper} (h:o.guard=none):Goes l act o true:=by unfold Goes Region.wanted;rw [h]
def growJ (l:List Oper) (a:Act) (w:World) (R:Nat→Value→World→Prop) (listed:Array Bool) (a':Act) (w':World):Prop:=
 listed.size=l.length∧(∀i o,l[i]? =some o→listed.getD i false=true→∀e∈o.after,Region.binds .any e=true→listed.getD e.on false=true)∧
  ∃(vs:Nat→Value),a'=puts a (dstAt l) vs l.length∧Below w.heap.size w w'∧(∀i,i<l.length→listed.getD i false=true→R i (vs i) w')
theorem wp_region_grows_g {id:Nat} {l:List Oper} (n:Nat) (hln:l.length=n) (R:Nat→Value→World→Prop) (hm:P.follows .mixedOrders=true) (hB:growG l a.tmps.size=true)
  (hmono:∀i v w w',Below w.heap.size w w'→R i v w→R i v w')
  (hop:opsAll (fun i o=>∀(act:Act) w',Below w.heap.size w w'→(∀j,depB l i j=true→R j (act.tmps.getD (dstAt l j) undef) w')→(∀t,offB l n t=true→act.tmps.getD t undef=a.tmps.getD t undef)→
   ∀K:Act→World→Prop,(∀v w'',Below w'.heap.size w' w''→R i v w''→K (act.put o.dst v) w'')→(Goes l act o true∧o.wp P act w' K Q)∨(Goes l act o false∧K (act.put o.dst undef) w')) 0 l)
  (hend:∀(vs:Nat→Value) w',Below w.heap.size w w'→(∀i,i<n→R i (vs i) w')→Q .normal (puts a (dstAt l) vs n) w'):(Code.region id l.toArray true).wp P Q a w:=by
 subst hln
 have hg:=fun i (hi:i<l.length)=>growG_at hB (List.getElem?_eq_getElem hi)
 have hD:∀i,i<l.length→dstAt l i<a.tmps.size:=fun i hi=>(hg i hi).2.1
 have hinj:∀i j,i<l.length→j<l.length→dstAt l i=dstAt l j→i=j:=fun i j hi hj e=>by
  rcases Nat.lt_trichotomy i j with k|k|k
  ·exact absurd e ((hg j hj).2.2.2 i k)
  ·exact k
  ·exact absurd e.symm ((hg i hi).2.2.2 j k)
 have hord:∀i o,l[i]? =some o→∀e∈o.after,Region.binds .any e=true→e.on<i:=fun i o hi=>(growG_at hB hi).2.2.1
 have hon:∀vs j,j<l.length→(puts a (dstAt l) vs l.length).tmps.getD (dstAt l j) undef=vs j:=fun vs j hj=>by
  rw [Array.getD_eq_getD_getElem?,puts_on hinj hj (hD j hj)]
  rfl
 have hoff:∀vs t,offB l l.length t=true→(puts a (dstAt l) vs l.length).tmps.getD t undef=a.tmps.getD t undef:=fun vs t ht=>by
  rw [Array.getD_eq_getD_getElem?,Array.getD_eq_getD_getElem?,puts_off (fun i hi e=>by
   have:=List.all_eq_true.1 ht i (List.mem_range.2 hi)
   simp [e] at this)]
 have ha:=puts_of (a:=a) (a':=a) hinj rfl rfl hD (fun _ _=>rfl)
 refine wp_region_inv hm (growJ l a w R) ?_ ?_ ?_
 ·have hz:∀i,¬(Array.replicate l.toArray.size false).getD i false=true:=fun i h=>by
   rw [getD_replicate_false] at h
   cases h
  exact ⟨by simp,fun i o _ h=>absurd h (hz i),_,ha,(Below.refl _ w).drew,fun i _ h=>absurd h (hz i)⟩
 ·rintro listed a' w' i ⟨hsz,hcl,vs,rfl,hb,hR⟩ hi
  obtain ⟨h1,o,h2,h3⟩:=mem_ready.1 hi
  have h2':l[i]? =some o:=by simpa using h2
  have hlt:i<l.length:=(List.getElem?_eq_some_iff.1 h2').1
  have hun:∀j,listed.getD j false=true→j≠i:=by
   rintro j hj rfl
   have:=getD_both h1
   rw [this] at hj
   cases hj
  have hd:=(growG_at hB h2').1
  have hvi:∀v,updV vs i v i=v:=fun v=>if_pos rfl
  have hvn:∀v j,j≠i→updV vs i v j=vs j:=fun v j hj=>if_neg hj
  have hset:∀j,(listed.setIfInBounds i true).getD j false=true→j=i∨(j≠i∧listed.getD j false=true):=fun j hl=>by
   by_cases e:j=i
   ·exact .inl e
   ·rw [getD_set_ne false (fun h=>e h.symm)] at hl
    exact .inr ⟨e,hl⟩
  have hkeep:∀j,listed.getD j false=true→(listed.setIfInBounds i true).getD j false=true:=fun j hl=>by
   rw [getD_set_ne false (fun h=>hun j hl h.symm)]
   exact hl
  have hK:∀(v:Value) (w'':World),Below w'.heap.size w' w''→R i v w''→growJ l a w R (listed.setIfInBounds i true) ((puts a (dstAt l) vs l.length).put o.dst v) w'':=by
   intro v w'' hb2 hr
   refine ⟨by simp [hsz],?_,updV vs i v,by rw [hd];exact puts_put hinj hD hlt,hb.st hb2,?_⟩
   ·intro j oj hj hl e he hb'
    rcases hset j hl with rfl|⟨hji,hl'⟩
    ·rw [h2'] at hj
     cases hj
     exact hkeep _ (h3 e he hb')
    ·exact hkeep _ (hcl j oj hj hl' e he hb')
   ·intro j hj hl
    rcases hset j hl with rfl|⟨hji,hl'⟩
    ·rw [hvi]
     exact hr
    ·rw [hvn v j hji]
     exact hmono _ _ _ _ hb2 (hR j hj hl')
  have hop':=opsAll_get l 0 hop i o h2'
  rw [Nat.zero_add] at hop'
  have hdeps:∀j,depB l i j=true→R j ((puts a (dstAt l) vs l.length).tmps.getD (dstAt l j) undef) w':=by
   intro j hj
   unfold depB at hj
   simp only [h2'] at hj
   obtain ⟨e,he,k2⟩:=List.any_eq_true.1 hj
   simp only [Bool.and_eq_true,beq_iff_eq] at k2
   have h5:=hord i o h2' e (Array.mem_toList_iff.1 he) k2.1
   have h4:=h3 e (Array.mem_toList_iff.1 he) k2.1
   rw [k2.2] at h5 h4
   rw [hon vs j (by omega)]
   exact hR j (by omega) h4
  unfold wpOp
  simp only [h2]
  rcases hop' _ w' hb hdeps (fun t ht=>hoff vs t ht) (growJ l a w R (listed.setIfInBounds i true)) hK with ⟨hw,h⟩|⟨hw,h⟩
  ·rw [if_pos hw]
   exact .inl h
  ·rw [if_neg (by rw [show Region.wanted o (yielded l.toArray (puts a (dstAt l) vs l.length).tmps)=false from hw];simp)]
   exact h
 ·rintro listed a' w' ⟨hsz,hcl,vs,rfl,hb,hR⟩ hr
  have hall:∀d i,i=d→i<l.length→listed.getD i false=true:=by
   intro d
   induction d using Nat.strongRecOn with
   |_ d ih=>
    rintro i rfl hi
    cases hl:listed.getD i false with
    |true=>rfl
    |false=>
     have hin:i∈Region.ready .any l.toArray listed:=by
      refine mem_ready.2 ⟨Go.getD_in (by omega) hl,l[i],by simp [hi],fun e he hb'=>?_⟩
      have h6:=hord i l[i] (List.getElem?_eq_getElem hi) e he hb'
      exact ih e.on h6 e.on rfl (by omega)
     rw [hr] at hin
     cases hin
  exact hend vs w' hb (fun i hi=>hR i hi (hall i i rfl hi))
end
end Go.Proofs.YtkdomobedfhhgaaGreat
end
section
namespace Go.Proofs.YtkdomobedfhhgaaGreat
open Go Go.Proofs Go.RowKit
section
variable {a:Act} {P:Program} {Q:Exit→Act→World→Prop} {w:World}
def growJs (l:List Oper) (n:Nat) (a:Act) (w:World) (R:Nat→Value→List Nat→World→Prop) (Qn:Act→World→Prop) (listed:Array Bool) (a':Act) (w':World):Prop:=
 listed.size=n+1∧((listed.getD n false=false∧(∀i o,i<n→l[i]? =some o→listed.getD i false=true→∀e∈o.after,Region.binds .any e=true→listed.getD e.on false=true)∧
  ∃(vs:Nat→Value) (gs:Nat→List Nat),a'=puts a (dstAt l) vs n∧Below w.heap.size w w'∧(∀i,i<n→listed.getD i false=true→R i (vs i) (gs i) w')∧(∀i,i<n→listed.getD i false=true→∀k∈gs i,w.heap.size≤k∧k<w'.heap.size)∧
   ∀i j k,i<n→j<n→listed.getD i false=true→listed.getD j false=true→i≠j→k∈gs i→k∉gs j)∨((∀i,i<n+1→listed.getD i false=true)∧Qn a' w'))
theorem wp_region_grows_s {id:Nat} {l:List Oper} (n:Nat) (st:Oper) (hst:l=l.take n++[st]) (hln:(l.take n).length=n) (R:Nat→Value→List Nat→World→Prop) (hm:P.follows .mixedOrders=true) (hB:growG (l.take n) a.tmps.size=true) (hS:lastB l n st=true)
  (hmono:∀i v g w w',Below w.heap.size w w'→R i v g w→R i v g w')
  (hop:opsAll (fun i o=>∀(act:Act) (gs:Nat→List Nat) w',Below w.heap.size w w'→(∀j,depB l i j=true→R j (act.tmps.getD (dstAt l j) undef) (gs j) w')→(∀j j' k,depB l i j=true→depB l i j'=true→j≠j'→k∈gs j→k∉gs j')→(∀t,offB l n t=true→act.tmps.getD t undef=a.tmps.getD t undef)→
   ∀K:Act→World→Prop,(∀v g w'',Below w'.heap.size w' w''→R i v g w''→(∀k∈g,w'.heap.size≤k∧k<w''.heap.size)→K (act.put o.dst v) w'')→(Goes l act o true∧o.wp P act w' K Q)∨(Goes l act o false∧K (act.put o.dst undef) w')) 0 (l.take n))
  (hend:∀(vs:Nat→Value) (gs:Nat→List Nat) act w',Below w.heap.size w w'→(∀i,i<n→R i (vs i) (gs i) w')→(∀i k,i<n→k∈gs i→w.heap.size≤k∧k<w'.heap.size)→(∀i j k,i<n→j<n→i≠j→k∈gs i→k∉gs j)→(∀j,j<n→act.tmps.getD (dstAt l j) undef=vs j)→(∀t,offB l n t=true→act.tmps.getD t undef=a.tmps.getD t undef)→act=puts a (dstAt l) vs n→st.wp P act w' (fun a' w'=>Q .normal a' w') Q):(Code.region id l.toArray true).wp P Q a w:=by
 have hlen:l.length=n+1:=by rw [hst,List.length_append,hln];rfl
 have hat:∀i,i<n→l[i]? =(l.take n)[i]?:=fun i hi=>by rw [List.getElem?_take_of_lt hi]
 have hda:∀i,i<n→dstAt l i=dstAt (l.take n) i:=fun i hi=>by unfold dstAt;rw [hat i hi]
 have hatn:l[n]? =some st:=by rw [hst,List.getElem?_append_right (by omega),hln,Nat.sub_self];rfl
 have hg:=fun i (hi:i<n)=>growG_at hB (List.getElem?_eq_getElem (show i<(l.take n).length by omega))
 have hD:∀i,i<n→dstAt l i<a.tmps.size:=fun i hi=>by rw [hda i hi];exact (hg i hi).2.1
 have hinj:∀i j,i<n→j<n→dstAt l i=dstAt l j→i=j:=fun i j hi hj e=>by
  rw [hda i hi,hda j hj] at e
  rcases Nat.lt_trichotomy i j with k|k|k
  ·exact absurd e ((hg j hj).2.2.2 i k)
  ·exact k
  ·exact absurd e.symm ((hg i hi).2.2.2 j k)
 have hord:∀i o,i<n→l[i]? =some o→∀e∈o.after,Region.binds .any e=true→e.on<i:=fun i o hi ho=>(growG_at hB ((hat i hi).symm.trans ho)).2.2.1
 have hon:∀vs j,j<n→(puts a (dstAt l) vs n).tmps.getD (dstAt l j) undef=vs j:=fun vs j hj=>by
  rw [Array.getD_eq_getD_getElem?,puts_on hinj hj (hD j hj)]
  rfl
 have hoff:∀vs t,offB l n t=true→(puts a (dstAt l) vs n).tmps.getD t undef=a.tmps.getD t undef:=fun vs t ht=>by
  rw [Array.getD_eq_getD_getElem?,Array.getD_eq_getD_getElem?,puts_off (fun i hi e=>by
   have:=List.all_eq_true.1 ht i (List.mem_range.2 hi)
   simp [e] at this)]
 unfold lastB at hS
 simp only [Bool.and_eq_true] at hS
 obtain ⟨⟨s1,s2⟩,s3⟩:=hS
 have hsd:∀e∈st.after,Region.binds .any e=true→e.on<n:=fun e he hb=>by
  rw [Array.all_eq_true_iff_forall_mem] at s2
  have:=s2 e he
  rw [hb] at this
  simpa using this
 have hwait:∀i,i<n→∃j,i<j∧j≤n∧∃o,l[j]? =some o∧∃e∈o.after,Region.binds .any e=true∧e.on=i:=fun i hi=>by
  have k1:=List.all_eq_true.1 s3 i (List.mem_range.2 hi)
  obtain ⟨j,hj,k2⟩:=List.any_eq_true.1 k1
  simp only [Bool.and_eq_true,decide_eq_true_eq] at k2
  obtain ⟨o,ho,k3⟩:=Region.waitsFor_spec k2.2
  exact ⟨j,k2.1,by have:=List.mem_range.1 hj;omega,o,by simpa using ho,k3⟩
 have ha:=puts_of (a:=a) (a':=a) hinj rfl rfl hD (fun _ _=>rfl)
 refine wp_region_inv hm (growJs l n a w R (Q .normal)) ?_ ?_ ?_
 ·have hz:∀i,¬(Array.replicate l.toArray.size false).getD i false=true:=fun i k=>by
   rw [getD_replicate_false] at k
   cases k
  refine ⟨by simp [hlen],.inl ⟨?_,fun i o _ _ k=>absurd k (hz i),_,fun _=>[],ha,(Below.refl _ w).drew,fun i _ k=>absurd k (hz i),fun i _ k=>absurd k (hz i),fun i j k _ _ h=>absurd h (hz i)⟩⟩
  cases k:(Array.replicate l.toArray.size false).getD n false with
  |false=>rfl
  |true=>exact absurd k (hz n)
 ·rintro listed a' w' i ⟨hsz,h1|⟨hall,-⟩⟩ hi
  ·obtain ⟨hn0,hcl,vs,gs,rfl,hb,hR,hF,hN⟩:=h1
   obtain ⟨h1,o,h2,h3⟩:=mem_ready.1 hi
   have h2':l[i]? =some o:=by simpa using h2
   have hlt:i<n+1:=by have:=(List.getElem?_eq_some_iff.1 h2').1;omega
   have hun:∀j,listed.getD j false=true→j≠i:=by
    rintro j hj rfl
    have:=getD_both h1
    rw [this] at hj
    cases hj
   by_cases hin:i<n
   ·have h2h:(l.take n)[i]? =some o:=(hat i hin).symm.trans h2'
    have hdo:o.dst=some (dstAt l i):=by rw [hda i hin];exact (growG_at hB h2h).1
    have hset:∀j,(listed.setIfInBounds i true).getD j false=true→j=i∨(j≠i∧listed.getD j false=true):=fun j hl=>by
     by_cases e:j=i
     ·exact .inl e
     ·rw [getD_set_ne false (fun k=>e k.symm)] at hl
      exact .inr ⟨e,hl⟩
    have hkeep:∀j,listed.getD j false=true→(listed.setIfInBounds i true).getD j false=true:=fun j hl=>by
     rw [getD_set_ne false (fun k=>hun j hl k.symm)]
     exact hl
    have hK:∀(v:Value) (g:List Nat) (w'':World),Below w'.heap.size w' w''→R i v g w''→(∀k∈g,w'.heap.size≤k∧k<w''.heap.size)→growJs l n a w R (Q .normal) (listed.setIfInBounds i true) ((puts a (dstAt l) vs n).put o.dst v) w'':=by
     intro v g w'' hb2 hr hf
     obtain ⟨gs2,hgs⟩:∃gs2:Nat→List Nat,gs2=fun j=>if j=i then g else gs j:=⟨_,rfl⟩
     have hgi:gs2 i=g:=by rw [hgs];exact if_pos rfl
     have hgn:∀j,j≠i→gs2 j=gs j:=fun j hj=>by rw [hgs];exact if_neg hj
     have hsz2:=hb2.size
     refine ⟨by simp [hsz],.inl ⟨by rw [getD_set_ne false (by omega)];exact hn0,?_,updV vs i v,gs2,by rw [hdo];exact puts_put hinj hD hin,hb.st hb2,?_,?_,?_⟩⟩
     ·intro j oj hjn hj hl e he hb'
      rcases hset j hl with rfl|⟨hji,hl'⟩
      ·rw [h2'] at hj
       cases hj
       exact hkeep _ (h3 e he hb')
      ·exact hkeep _ (hcl j oj hjn hj hl' e he hb')
     ·intro j hj hl
      rcases hset j hl with rfl|⟨hji,hl'⟩
      ·rw [show updV vs j v j=v from if_pos rfl,hgi]
       exact hr
      ·rw [show updV vs i v j=vs j from if_neg hji,hgn j hji]
       exact hmono _ _ _ _ _ hb2 (hR j hj hl')
     ·intro j hj hl k hk
      rcases hset j hl with rfl|⟨hji,hl'⟩
      ·rw [hgi] at hk
       have:=hf k hk
       have:=hb.size
       exact ⟨by omega,by omega⟩
      ·rw [hgn j hji] at hk
       have:=hF j hj hl' k hk
       exact ⟨this.1,by omega⟩
     ·intro j1 j2 k hj1 hj2 hl1 hl2 hne hk1 hk2
      rcases hset j1 hl1 with rfl|⟨hji1,hl1'⟩<;>rcases hset j2 hl2 with e2|⟨hji2,hl2'⟩
      ·exact absurd e2.symm hne
      ·rw [hgi] at hk1
       rw [hgn j2 hji2] at hk2
       have:=hf k hk1
       have:=hF j2 hj2 hl2' k hk2
       omega
      ·subst e2
       rw [hgi] at hk2
       rw [hgn j1 hji1] at hk1
       have:=hf k hk2
       have:=hF j1 hj1 hl1' k hk1
       omega
      ·rw [hgn j1 hji1] at hk1
       rw [hgn j2 hji2] at hk2
       exact hN j1 j2 k hj1 hj2 hl1' hl2' hne hk1 hk2
    have hopi:=opsAll_get (l.take n) 0 hop i o h2h
    rw [Nat.zero_add] at hopi
    have hdl:∀j,depB l i j=true→j<i∧listed.getD j false=true:=by
     intro j hj
     unfold depB at hj
     simp only [h2'] at hj
     obtain ⟨e,he,k2⟩:=List.any_eq_true.1 hj
     simp only [Bool.and_eq_true,beq_iff_eq] at k2
     have h5:=hord i o hin h2' e (Array.mem_toList_iff.1 he) k2.1
     have h4:=h3 e (Array.mem_toList_iff.1 he) k2.1
     rw [k2.2] at h5 h4
     exact ⟨h5,h4⟩
    have hdeps:∀j,depB l i j=true→R j ((puts a (dstAt l) vs n).tmps.getD (dstAt l j) undef) (gs j) w':=by
     intro j hj
     obtain ⟨h5,h4⟩:=hdl j hj
     rw [hon vs j (by omega)]
     exact hR j (by omega) h4
    have hdis:∀j j' k,depB l i j=true→depB l i j'=true→j≠j'→k∈gs j→k∉gs j':=fun j j' k hj hj' hne hk=>by
     obtain ⟨h5,h4⟩:=hdl j hj
     obtain ⟨h6,h7⟩:=hdl j' hj'
     exact hN j j' k (by omega) (by omega) h4 h7 hne hk
    unfold wpOp
    simp only [h2]
    rcases hopi _ gs w' hb hdeps hdis (fun t ht=>hoff vs t ht) (growJs l n a w R (Q .normal) (listed.setIfInBounds i true)) hK with ⟨hw,h⟩|⟨hw,h⟩
    ·rw [if_pos hw]
     exact .inl h
    ·rw [if_neg (by rw [show Region.wanted o (yielded l.toArray (puts a (dstAt l) vs n).tmps)=false from hw];simp)]
     exact h
   ·obtain rfl:i=n:=by omega
    have ho:o=st:=Option.some.inj (h2'.symm.trans hatn)
    subst ho
    have hall:∀d j,i-j=d→j<i→listed.getD j false=true:=by
     intro d
     induction d using Nat.strongRecOn with
     |_ d ih=>
      intro j hd hj
      obtain ⟨k,k1,k2,ok,k3,e,he,hb',rfl⟩:=hwait j hj
      by_cases hk:k=i
      ·subst hk
       rw [h2'] at k3
       cases k3
       exact h3 e he hb'
      ·exact hcl k ok (by omega) k3 (ih (i-k) (by omega) k rfl (by omega)) e he hb'
    unfold wpOp
    simp only [h2]
    rw [if_pos (by simp [Region.wanted,Option.isNone_iff_eq_none.1 s1])]
    refine .inl (Oper.wp_mono (fun a1 w1 hq=>?_) (hend vs gs _ w' hb (fun j hj=>hR j hj (hall _ j rfl hj)) (fun j k hj hk=>hF j hj (hall _ j rfl hj) k hk) (fun j1 j2 k h1 h2=>hN j1 j2 k h1 h2 (hall _ j1 rfl h1) (hall _ j2 rfl h2)) (fun j hj=>hon vs j hj) (fun t ht=>hoff vs t ht) rfl))
    refine ⟨by simp [hsz],.inr ⟨fun j hj=>?_,hq⟩⟩
    by_cases e:j=i
    ·subst e
     rw [Array.getD_eq_getD_getElem?,Array.getElem?_setIfInBounds_self_of_lt (by omega)]
     rfl
    ·rw [getD_set_ne false (fun k=>e k.symm)]
     exact hall _ j rfl (by omega)
  ·obtain ⟨h1,o,h2,h3⟩:=mem_ready.1 hi
   have h2':l[i]? =some o:=by simpa using h2
   have hlt:i<n+1:=by have:=(List.getElem?_eq_some_iff.1 h2').1;omega
   have:=hall i hlt
   rw [getD_both h1] at this
   cases this
 ·rintro listed a' w' ⟨hsz,h1|⟨-,hq⟩⟩ hr
  ·obtain ⟨hn0,hcl,vs,gs,rfl,hb,hR,hF,hN⟩:=h1
   exfalso
   have hall:∀d i,i=d→i<n+1→listed.getD i false=true:=by
    intro d
    induction d using Nat.strongRecOn with
    |_ d ih=>
     rintro i rfl hi
     cases hl:listed.getD i false with
     |true=>rfl
     |false=>
      have hin:i∈Region.ready .any l.toArray listed:=by
       refine mem_ready.2 ⟨Go.getD_in (by omega) hl,l[i]'(by omega),by simp [hlen,hi],fun e he hb'=>?_⟩
       have h6:e.on<i:=by
        by_cases k:i<n
        ·exact hord i _ k (List.getElem?_eq_getElem (by omega)) e he hb'
        ·obtain rfl:i=n:=by omega
         have h8:l[i]'(by omega)=st:=Option.some.inj ((List.getElem?_eq_getElem (by omega)).symm.trans hatn)
         rw [h8] at he
         exact hsd e he hb'
       exact ih e.on h6 e.on rfl (by omega)
      rw [hr] at hin
      cases hin
   have:=hall n n rfl (by omega)
   rw [hn0] at this
   cases this
  ·exact hq
def valR (vals:List Value) (i:Nat) (v:Value) (_:List Nat) (_:World):Prop:=v=vals.getD i undef
theorem valR_go {vals:List Value}:∀(i:Nat) (v:Value) (g:List Nat) (w w':World),Below w.heap.size w w'→valR vals i v g w→valR vals i v g w':=fun _ _ _ _ _ _ h=>h
end
end Go.Proofs.YtkdomobedfhhgaaGreat
end
