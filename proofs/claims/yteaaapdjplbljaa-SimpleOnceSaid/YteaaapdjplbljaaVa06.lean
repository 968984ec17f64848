/- Rows of indices by their keys, laid one behind the other, in plain Lean. -/
import Derived.Test.YteaaapdjplbljaaVa01
set_option linter.unusedVariables false
set_option linter.unusedSimpArgs false
set_option linter.unnecessarySimpa false
namespace Go.Proofs.Yteaaapdjplbljaa.Ad
def cntN (kf:Nat→Nat):Nat→Nat→Nat
 |0,_=>0
 |k+1,v=>cntN kf k v+(if kf k=v then 1 else 0)
def preN (kf:Nat→Nat):Nat→Nat→Nat
 |0,_=>0
 |k+1,j=>preN kf k j+(if kf k<j then 1 else 0)
theorem preN_succ (kf:Nat→Nat) (j:Nat):∀k,preN kf k (j+1)=preN kf k j+cntN kf k j
 |0=>rfl
 |k+1=>by
  unfold preN cntN
  rw [preN_succ kf j k]
  by_cases h1:kf k<j
  ·rw [if_pos h1,if_pos (by omega),if_neg (by omega)]
   omega
  ·by_cases h2:kf k=j
   ·rw [if_neg h1,if_pos h2,if_pos (by omega)]
    omega
   ·rw [if_neg h1,if_neg h2,if_neg (by omega)]
    omega
theorem preN_zero (kf:Nat→Nat):∀k,preN kf k 0=0
 |0=>rfl
 |k+1=>by unfold preN;rw [preN_zero kf k,if_neg (by omega)]
theorem preN_mono (kf:Nat→Nat) {i j:Nat} (h:i≤j):∀k,preN kf k i≤preN kf k j
 |0=>Nat.le_refl _
 |k+1=>by
  have:=preN_mono kf h k
  unfold preN
  split<;>split<;>omega
theorem preN_all {kf:Nat→Nat} {n:Nat}:∀k,(∀i,i<k→kf i<n)→preN kf k n=k
 |0,_=>rfl
 |k+1,h=>by
  unfold preN
  rw [preN_all k (fun i hi=>h i (by omega)),if_pos (h k (by omega))]
theorem preN_le (kf:Nat→Nat) (j:Nat):∀k,preN kf k j≤k
 |0=>Nat.le_refl _
 |k+1=>by
  have:=preN_le kf j k
  unfold preN
  split<;>omega
theorem cntN_le (kf:Nat→Nat) (v:Nat):∀k,cntN kf k v≤k
 |0=>Nat.le_refl _
 |k+1=>by
  have:=cntN_le kf v k
  unfold cntN
  split<;>omega
theorem cntN_mono (kf:Nat→Nat) (v:Nat) {i:Nat}:∀{j},i≤j→cntN kf i v≤cntN kf j v
 |0,h=>by
  have:i=0:=by omega
  subst this
  exact Nat.le_refl _
 |j+1,h=>by
  by_cases e:i=j+1
  ·subst e;exact Nat.le_refl _
  ·have:=cntN_mono kf v (i:=i) (j:=j) (by omega)
   show _≤cntN kf j v+_
   omega
theorem cntN_lt (kf:Nat→Nat) {i j:Nat} (h:i<j):cntN kf i (kf i)<cntN kf j (kf i):=by
 have h1:=cntN_mono kf (kf i) (show i+1≤j by omega)
 have h2:cntN kf (i+1) (kf i)=cntN kf i (kf i)+1:=by
  show cntN kf i (kf i)+(if kf i=kf i then 1 else 0)=_
  rw [if_pos rfl]
 omega
def posN (kf:Nat→Nat) (m i:Nat):Nat:=preN kf m (kf i)+cntN kf i (kf i)
theorem posN_seg (kf:Nat→Nat) {m i:Nat} (h:i<m):posN kf m i<preN kf m (kf i+1):=by
 have:=cntN_lt kf h
 unfold posN
 rw [preN_succ]
 omega
theorem posN_lt {kf:Nat→Nat} {m n i:Nat} (h:i<m) (hk:∀i,i<m→kf i<n):posN kf m i<m:=by
 have h1:=posN_seg kf h
 have h2:=preN_mono kf (show kf i+1≤n from hk i h) m
 rw [preN_all m hk] at h2
 omega
theorem posN_ne {kf:Nat→Nat} {m i j:Nat} (hj:j<m) (hij:i<j):posN kf m i≠posN kf m j:=by
 have hi:i<m:=by omega
 rcases Nat.lt_trichotomy (kf i) (kf j) with h|h|h
 ·have h1:=posN_seg kf hi
  have h2:=preN_mono kf (show kf i+1≤kf j by omega) m
  unfold posN at*
  omega
 ·have h1:=cntN_lt kf hij
  unfold posN
  rw [←h]
  omega
 ·have h1:=posN_seg kf hj
  have h2:=preN_mono kf (show kf j+1≤kf i by omega) m
  unfold posN at*
  omega
def idxN (kf:Nat→Nat):Nat→Nat→List Int
 |0,_=>[]
 |k+1,v=>if kf k=v then idxN kf k v++[(k:Int)] else idxN kf k v
theorem idxN_len (kf:Nat→Nat) (v:Nat):∀k,(idxN kf k v).length=cntN kf k v
 |0=>rfl
 |k+1=>by
  unfold idxN cntN
  split
  ·rw [List.length_append,idxN_len kf v k];rfl
  ·rw [idxN_len kf v k];rfl
theorem idxN_at (kf:Nat→Nat) (v:Nat):∀k j x,(idxN kf k v)[j]? =some x→∃i:Nat,x=(i:Int)∧i<k∧kf i=v∧cntN kf i v=j
 |0,j,x,h=>by simp [idxN] at h
 |k+1,j,x,h=>by
  unfold idxN at h
  split at h
  ·rename_i e
   rcases Nat.lt_or_ge j (idxN kf k v).length with hj|hj
   ·rw [List.getElem?_append_left hj] at h
    obtain ⟨i,h1,h2,h3⟩:=idxN_at kf v k j x h
    exact ⟨i,h1,by omega,h3⟩
   ·rw [List.getElem?_append_right hj] at h
    have hj0:j=(idxN kf k v).length:=by
     have:=(List.getElem?_eq_some_iff.1 h).1
     simp at this
     omega
    subst hj0
    rw [Nat.sub_self] at h
    cases h
    exact ⟨k,rfl,by omega,e,(idxN_len kf v k).symm⟩
  ·obtain ⟨i,h1,h2,h3⟩:=idxN_at kf v k j x h
   exact ⟨i,h1,by omega,h3⟩
theorem idxN_mem {kf:Nat→Nat} {v:Nat} {x:Int}:∀{k},x∈idxN kf k v↔∃i:Nat,x=(i:Int)∧i<k∧kf i=v
 |0=>by simp [idxN]
 |k+1=>by
  unfold idxN
  have ih:=@idxN_mem kf v x k
  split
  ·rename_i e
   rw [List.mem_append,List.mem_singleton,ih]
   constructor
   ·rintro (⟨i,h1,h2,h3⟩|rfl)
    ·exact ⟨i,h1,by omega,h3⟩
    ·exact ⟨k,rfl,by omega,e⟩
   ·rintro ⟨i,rfl,h2,h3⟩
    by_cases e2:i=k
    ·subst e2;exact .inr rfl
    ·exact .inl ⟨i,rfl,by omega,h3⟩
  ·rename_i e
   rw [ih]
   constructor
   ·rintro ⟨i,h1,h2,h3⟩
    exact ⟨i,h1,by omega,h3⟩
   ·rintro ⟨i,rfl,h2,h3⟩
    refine ⟨i,rfl,?_,h3⟩
    by_cases e2:i=k
    ·subst e2;exact absurd h3 e
    ·omega
def EdgP (kf:Nat→Nat) (m k:Nat) (xs:List Int):Prop:=xs.length=m∧∀i,i<k→xs[posN kf m i]? =some (i:Int)
theorem EdgP.step {kf:Nat→Nat} {m n k:Nat} {xs:List Int} (h:EdgP kf m k xs) (hk:k<m) (hn:∀i,i<m→kf i<n):EdgP kf m (k+1) (xs.set (posN kf m k) (k:Int)):=by
 refine ⟨by rw [List.length_set];exact h.1,fun i hi=>?_⟩
 have hp:=posN_lt hk hn
 by_cases e:i=k
 ·subst e
  rw [List.getElem?_set_self (by rw [h.1];exact hp)]
 ·have:=posN_ne (kf:=kf) (m:=m) hk (show i<k by omega)
  rw [List.getElem?_set_ne (fun e2=>this e2.symm)]
  exact h.2 i (by omega)
theorem EdgP.row {kf:Nat→Nat} {m:Nat} {xs:List Int} (h:EdgP kf m m xs) (v:Nat) {j:Nat} {x:Int} (hx:(idxN kf m v)[j]? =some x):xs[preN kf m v+j]? =some x:=by
 obtain ⟨i,rfl,h1,h2,h3⟩:=idxN_at kf v m j x hx
 have:=h.2 i h1
 unfold posN at this
 rw [h2,h3] at this
 exact this
def begL (kf:Nat→Nat) (n k:Nat):List Int:=(List.range (n+1)).map fun j=>if j=0 then 0 else (cntN kf k (j-1):Int)
def midL (kf:Nat→Nat) (n m v:Nat):List Int:=(List.range (n+1)).map fun j=>if j≤v then (preN kf m j:Int) else (cntN kf m (j-1):Int)
def atL (kf:Nat→Nat) (n m k:Nat):List Int:=(List.range (n+1)).map fun j=>((preN kf m j+cntN kf k j:Nat):Int)
theorem begL_len (kf:Nat→Nat) (n k:Nat):(begL kf n k).length=n+1:=by simp [begL]
theorem midL_len (kf:Nat→Nat) (n m v:Nat):(midL kf n m v).length=n+1:=by simp [midL]
theorem atL_len (kf:Nat→Nat) (n m k:Nat):(atL kf n m k).length=n+1:=by simp [atL]
theorem begL_at {kf:Nat→Nat} {n k v:Nat} (h:v<n):(begL kf n k)[v+1]? =some (cntN kf k v:Int):=by
 unfold begL
 rw [List.getElem?_map,List.getElem?_range (by omega)]
 simp
theorem begL_start (kf:Nat→Nat) (n:Nat):begL kf n 0=List.replicate (n+1) 0:=by
 apply List.ext_getElem?
 intro j
 unfold begL
 rw [List.getElem?_map,List.getElem?_replicate]
 by_cases h:j<n+1
 ·rw [List.getElem?_range h,if_pos h]
  simp [cntN]
 ·rw [List.getElem?_eq_none (by simp;omega),if_neg h]
  rfl
theorem begL_step {kf:Nat→Nat} {n k:Nat} (h:kf k<n):(begL kf n k).set (kf k+1) ((cntN kf k (kf k):Int)+1)=begL kf n (k+1):=by
 apply List.ext_getElem?
 intro j
 by_cases hj:j<n+1
 ·by_cases e:kf k+1=j
  ·subst e
   rw [List.getElem?_set_self (by rw [begL_len];exact hj),begL_at h]
   show _=some ((cntN kf k (kf k)+(if kf k=kf k then 1 else 0):Nat):Int)
   rw [if_pos rfl]
   rfl
  ·rw [List.getElem?_set_ne e]
   unfold begL
   rw [List.getElem?_map,List.getElem?_map,List.getElem?_range hj]
   simp only [Option.map_some]
   by_cases h0:j=0
   ·rw [if_pos h0,if_pos h0]
   ·rw [if_neg h0,if_neg h0]
    show _=some ((cntN kf k (j-1)+(if kf k=j-1 then 1 else 0):Nat):Int)
    rw [if_neg (by omega)]
    rfl
 ·rw [List.getElem?_eq_none (by rw [List.length_set,begL_len];omega),List.getElem?_eq_none (by rw [begL_len];omega)]
theorem midL_start (kf:Nat→Nat) (n m:Nat):midL kf n m 0=begL kf n m:=by
 unfold midL begL
 apply List.map_congr_left
 intro j _
 by_cases h:j=0
 ·subst h
  rw [if_pos (Nat.le_refl _),if_pos rfl,preN_zero]
  rfl
 ·rw [if_neg (by omega),if_neg h]
theorem midL_at0 {kf:Nat→Nat} {n m v:Nat} (h:v<n):(midL kf n m v)[v]? =some (preN kf m v:Int):=by
 unfold midL
 rw [List.getElem?_map,List.getElem?_range (by omega)]
 simp
theorem midL_at1 {kf:Nat→Nat} {n m v:Nat} (h:v<n):(midL kf n m v)[v+1]? =some (cntN kf m v:Int):=by
 unfold midL
 rw [List.getElem?_map,List.getElem?_range (by omega)]
 simp only [Option.map_some]
 rw [if_neg (by omega)]
 rfl
theorem midL_step {kf:Nat→Nat} {n m v:Nat} (h:v<n):(midL kf n m v).set (v+1) ((cntN kf m v:Int)+(preN kf m v:Int))=midL kf n m (v+1):=by
 apply List.ext_getElem?
 intro j
 by_cases hj:j<n+1
 ·by_cases e:v+1=j
  ·subst e
   rw [List.getElem?_set_self (by rw [midL_len];exact hj)]
   unfold midL
   rw [List.getElem?_map,List.getElem?_range hj]
   simp only [Option.map_some]
   rw [if_pos (Nat.le_refl _),preN_succ]
   congr 1
   omega
  ·rw [List.getElem?_set_ne e]
   unfold midL
   rw [List.getElem?_map,List.getElem?_map,List.getElem?_range hj]
   simp only [Option.map_some]
   by_cases h0:j≤v
   ·rw [if_pos h0,if_pos (by omega)]
   ·rw [if_neg h0,if_neg (by omega)]
 ·rw [List.getElem?_eq_none (by rw [List.length_set,midL_len];omega),List.getElem?_eq_none (by rw [midL_len];omega)]
theorem atL_start (kf:Nat→Nat) (n m:Nat):midL kf n m n=atL kf n m 0:=by
 unfold midL atL
 apply List.map_congr_left
 intro j hj
 have:=List.mem_range.1 hj
 rw [if_pos (by omega)]
 rfl
theorem atL_at {kf:Nat→Nat} {n m k v:Nat} (h:v<n+1):(atL kf n m k)[v]? =some ((preN kf m v+cntN kf k v:Nat):Int):=by
 unfold atL
 rw [List.getElem?_map,List.getElem?_range h]
 rfl
theorem atL_step {kf:Nat→Nat} {n m k:Nat} (h:kf k<n):(atL kf n m k).set (kf k) ((posN kf m k:Int)+1)=atL kf n m (k+1):=by
 apply List.ext_getElem?
 intro j
 by_cases hj:j<n+1
 ·by_cases e:kf k=j
  ·subst e
   rw [List.getElem?_set_self (by rw [atL_len];exact hj),atL_at hj]
   show _=some ((preN kf m (kf k)+(cntN kf k (kf k)+(if kf k=kf k then 1 else 0)):Nat):Int)
   rw [if_pos rfl]
   unfold posN
   congr 1
  ·rw [List.getElem?_set_ne e,atL_at hj,atL_at hj]
   show _=some ((preN kf m j+(cntN kf k j+(if kf k=j then 1 else 0)):Nat):Int)
   rw [if_neg e]
   rfl
 ·rw [List.getElem?_eq_none (by rw [List.length_set,atL_len];omega),List.getElem?_eq_none (by rw [atL_len];omega)]
end Go.Proofs.Yteaaapdjplbljaa.Ad
