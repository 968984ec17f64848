/- Parts; no condition. -/
import Derived.Test.YteaaapdjplbljaaGreatVa04
import Derived.Deep.CutRange
import Derived.StillTail
set_option linter.unusedVariables false
set_option linter.unusedSimpArgs false
set_option linter.unnecessarySimpa false
set_option maxRecDepth 100000
set_option maxHeartbeats 8000000
namespace Go.Proofs.YteaaapdjplbljaaGreat
section
namespace Ad
def Ct (kf:Nat->Nat):Nat->Nat->Nat
 |0,_=>0
 |k+1,v=>Ct kf k v+(if kf k=v then 1 else 0)
def Ck (kf:Nat->Nat):Nat->Nat->Nat
 |0,_=>0
 |k+1,j=>Ck kf k j+(if kf k<j then 1 else 0)
theorem Kg (kf:Nat->Nat) (j:Nat):∀k,Ck kf k (j+1)=Ck kf k j+Ct kf k j
 |0=>rfl
 |k+1=>by
  unfold Ck Ct;rw [Kg kf j k]
  by_cases h1:kf k<j
  ·rw [if_pos h1,if_pos (by omega),if_neg (by omega)]
   omega
  ·by_cases h2:kf k=j
   ·rw [if_neg h1,if_pos h2,if_pos (by omega)]
    omega
   ·rw [if_neg h1,if_neg h2,if_neg (by omega)]
    omega
theorem Uh (kf:Nat->Nat):∀k,Ck kf k 0=0
 |0=>rfl
 |k+1=>by unfold Ck;rw [Uh kf k,if_neg (by omega)]
theorem Hf (kf:Nat->Nat) {i j:Nat} (h:i<=j):∀k,Ck kf k i<=Ck kf k j
 |0=>Bj5 _
 |k+1=>by
  have:=Hf kf h k;unfold Ck
  split<;>split<;>omega
theorem Yg {kf:Nat->Nat} {n:Nat}:∀k,(∀i,i<k->kf i<n)->Ck kf k n=k
 |0,_=>rfl
 |k+1,h=>by
  unfold Ck;rw [Yg k (fun i hi=>h i (by omega)),if_pos (h k (by omega))]
theorem Wa (kf:Nat->Nat) (j:Nat):∀k,Ck kf k j<=k
 |0=>Bj5 _
 |k+1=>by
  have:=Wa kf j k;unfold Ck
  split<;>omega
theorem Qd (kf:Nat->Nat) (v:Nat):∀k,Ct kf k v<=k
 |0=>Bj5 _
 |k+1=>by
  have:=Qd kf v k;unfold Ct
  split<;>omega
theorem Vg (kf:Nat->Nat) (v:Nat) {i:Nat}:∀{j},i<=j->Ct kf i v<=Ct kf j v
 |0,h=>by
  have:i=0:=by omega
  subst this;exact Bj5 _
 |j+1,h=>by
  by_cases e:i=j+1
  ·subst e;exact Bj5 _
  ·have:=Vg kf v (i:=i) (j:=j) (by omega)
   show _<=Ct kf j v+_
   omega
theorem Aj9 (kf:Nat->Nat) {i j:Nat} (h:i<j):Ct kf i (kf i)<Ct kf j (kf i):=by
 have h1:=Vg kf (kf i) (show i+1<=j by omega);have h2:Ct kf (i+1) (kf i)=Ct kf i (kf i)+1:=by
  show Ct kf i (kf i)+(if kf i=kf i then 1 else 0)=_
  rw [if_pos rfl]
 omega
def Lr (kf:Nat->Nat) (m i:Nat):Nat:=Ck kf m (kf i)+Ct kf i (kf i)
theorem Rd (kf:Nat->Nat) {m i:Nat} (h:i<m):Lr kf m i<Ck kf m (kf i+1):=by
 have:=Aj9 kf h;unfold Lr;rw [Kg];omega
theorem Ah6 {kf:Nat->Nat} {m n i:Nat} (h:i<m) (hk:∀i,i<m->kf i<n):Lr kf m i<m:=by
 have h1:=Rd kf h;have h2:=Hf kf (show kf i+1<=n from hk i h) m;rw [Yg m hk] at h2;omega
theorem Bb5 {kf:Nat->Nat} {m i j:Nat} (hj:j<m) (hij:i<j):Lr kf m i≠Lr kf m j:=by
 have hi:i<m:=by omega
 rcases Nat.lt_trichotomy (kf i) (kf j) with h|h|h
 ·have h1:=Rd kf hi
  have h2:=Hf kf (show kf i+1<=kf j by omega) m;unfold Lr at*;omega
 ·have h1:=Aj9 kf hij
  unfold Lr;rw [<-h];omega
 ·have h1:=Rd kf hj
  have h2:=Hf kf (show kf j+1<=kf i by omega) m;unfold Lr at*;omega
def Em (kf:Nat->Nat):Nat->Nat->List Int
 |0,_=>[]
 |k+1,v=>if kf k=v then Em kf k v++[(k:Int)] else Em kf k v
theorem Jt (kf:Nat->Nat) (v:Nat):∀k,(Em kf k v).length=Ct kf k v
 |0=>rfl
 |k+1=>by
  unfold Em Ct
  split
  ·rw [Bm3,Jt kf v k];rfl
  ·rw [Jt kf v k];rfl
theorem Wn (kf:Nat->Nat) (v:Nat):∀k j x,(Em kf k v)[j]? =some x->∃i:Nat,x=(i:Int)/\i<k/\kf i=v/\Ct kf i v=j
 |0,j,x,h=>by simp [Em] at h
 |k+1,j,x,h=>by
  unfold Em at h
  split at h
  ·rename_i e
   rcases Nat.lt_or_ge j (Em kf k v).length with hj|hj
   ·rw [Bn2 hj] at h
    obtain ⟨i,h1,h2,h3⟩:=Wn kf v k j x h;exact ⟨i,h1,by omega,h3⟩
   ·rw [Bn1 hj] at h
    have hj0:j=(Em kf k v).length:=by
     have:=(Bk6.1 h).1;simp at this;omega
    subst hj0;rw [Nat.sub_self] at h
    cases h
    exact ⟨k,rfl,by omega,e,(Jt kf v k).symm⟩
  ·obtain ⟨i,h1,h2,h3⟩:=Wn kf v k j x h
   exact ⟨i,h1,by omega,h3⟩
theorem Dt {kf:Nat->Nat} {v:Nat} {x:Int}:∀{k},x∈Em kf k v↔∃i:Nat,x=(i:Int)/\i<k/\kf i=v
 |0=>by simp [Em]
 |k+1=>by
  unfold Em;have ih:=@Dt kf v x k
  split
  ·rename_i e
   rw [Bm6,Bl0,ih];constructor
   ·rintro (⟨i,h1,h2,h3⟩|rfl)
    ·exact ⟨i,h1,by omega,h3⟩
    ·exact ⟨k,rfl,by omega,e⟩
   ·rintro ⟨i,rfl,h2,h3⟩
    by_cases e2:i=k
    ·subst e2;exact .inr rfl
    ·exact .inl ⟨i,rfl,by omega,h3⟩
  ·rename_i e
   rw [ih];constructor
   ·rintro ⟨i,h1,h2,h3⟩
    exact ⟨i,h1,by omega,h3⟩
   ·rintro ⟨i,rfl,h2,h3⟩
    refine ⟨i,rfl,?_,h3⟩
    by_cases e2:i=k
    ·subst e2;exact absurd h3 e
    ·omega
theorem Ry (kf:Nat->Nat) (v:Nat):∀k,(Em kf k v).Pairwise (· <·)
 |0=>List.Pairwise.nil
 |k+1=>by
  unfold Em
  split
  ·refine Bo3.2 ⟨Ry kf v k,List.pairwise_singleton _ _,fun a ha b hb=>?_⟩
   obtain rfl:=Bl0.1 hb;obtain ⟨i,rfl,hi,_⟩:=Dt.1 ha;omega
  ·exact Ry kf v k
def EdgP (kf:Nat->Nat) (m k:Nat) (xs:List Int):Prop:=xs.length=m/\∀i,i<k->xs[Lr kf m i]? =some (i:Int)
theorem EdgP.step {kf:Nat->Nat} {m n k:Nat} {xs:List Int} (h:EdgP kf m k xs) (hk:k<m) (hn:∀i,i<m->kf i<n):EdgP kf m (k+1) (xs.set (Lr kf m k) (k:Int)):=by
 refine ⟨by rw [Bk4];exact h.1,fun i hi=>?_⟩;have hp:=Ah6 hk hn
 by_cases e:i=k
 ·subst e
  rw [Bo2 (by rw [h.1];exact hp)]
 ·have:=Bb5 (kf:=kf) (m:=m) hk (show i<k by omega)
  rw [Bo1 (fun e2=>this e2.symm)];exact h.2 i (by omega)
theorem EdgP.row {kf:Nat->Nat} {m:Nat} {xs:List Int} (h:EdgP kf m m xs) (v:Nat) {j:Nat} {x:Int} (hx:(Em kf m v)[j]? =some x):xs[Ck kf m v+j]? =some x:=by
 obtain ⟨i,rfl,h1,h2,h3⟩:=Wn kf v m j x hx;have:=h.2 i h1;unfold Lr at this;rw [h2,h3] at this;exact this
def Ov (kf:Nat->Nat) (n k:Nat):List Int:=(List.range (n+1)).map fun j=>if j=0 then 0 else (Ct kf k (j-1):Int)
def Gk (kf:Nat->Nat) (n m v:Nat):List Int:=(List.range (n+1)).map fun j=>if j<=v then (Ck kf m j:Int) else (Ct kf m (j-1):Int)
def atL (kf:Nat->Nat) (n m k:Nat):List Int:=(List.range (n+1)).map fun j=>((Ck kf m j+Ct kf k j:Nat):Int)
theorem Sv (kf:Nat->Nat) (n k:Nat):(Ov kf n k).length=n+1:=by simp [Ov]
theorem Mo (kf:Nat->Nat) (n m v:Nat):(Gk kf n m v).length=n+1:=by simp [Gk]
theorem Ww (kf:Nat->Nat) (n m k:Nat):(atL kf n m k).length=n+1:=by simp [atL]
theorem Ak3 {kf:Nat->Nat} {n k v:Nat} (h:v<n):(Ov kf n k)[v+1]? =some (Ct kf k v:Int):=by
 unfold Ov;rw [Bl2,List.getElem?_range (by omega)];simp
theorem Af8 (kf:Nat->Nat) (n:Nat):Ov kf n 0=List.replicate (n+1) 0:=by
 apply List.ext_getElem?
 intro j;unfold Ov;rw [Bl2,Bn3]
 by_cases h:j<n+1
 ·rw [List.getElem?_range h,if_pos h]
  simp [Ct]
 ·rw [Bn0 (by simp;omega),if_neg h]
  rfl
theorem Ar1 {kf:Nat->Nat} {n k:Nat} (h:kf k<n):(Ov kf n k).set (kf k+1) ((Ct kf k (kf k):Int)+1)=Ov kf n (k+1):=by
 apply List.ext_getElem?
 intro j
 by_cases hj:j<n+1
 ·by_cases e:kf k+1=j
  ·subst e
   rw [Bo2 (by rw [Sv];exact hj),Ak3 h]
   show _=some ((Ct kf k (kf k)+(if kf k=kf k then 1 else 0):Nat):Int)
   rw [if_pos rfl];rfl
  ·rw [Bo1 e]
   unfold Ov;rw [Bl2,Bl2,List.getElem?_range hj];simp only [Option.map_some]
   by_cases h0:j=0
   ·rw [if_pos h0,if_pos h0]
   ·rw [if_neg h0,if_neg h0]
    show _=some ((Ct kf k (j-1)+(if kf k=j-1 then 1 else 0):Nat):Int)
    rw [if_neg (by omega)];rfl
 ·rw [Bn0 (by rw [Bk4,Sv];omega),Bn0 (by rw [Sv];omega)]
theorem Ac5 (kf:Nat->Nat) (n m:Nat):Gk kf n m 0=Ov kf n m:=by
 unfold Gk Ov
 apply List.map_congr_left
 intro j _
 by_cases h:j=0
 ·subst h
  rw [if_pos (Bj5 _),if_pos rfl,Uh];rfl
 ·rw [if_neg (by omega),if_neg h]
theorem Av2 {kf:Nat->Nat} {n m v:Nat} (h:v<n):(Gk kf n m v)[v]? =some (Ck kf m v:Int):=by
 unfold Gk;rw [Bl2,List.getElem?_range (by omega)];simp
theorem Av1 {kf:Nat->Nat} {n m v:Nat} (h:v<n):(Gk kf n m v)[v+1]? =some (Ct kf m v:Int):=by
 unfold Gk;rw [Bl2,List.getElem?_range (by omega)];simp only [Option.map_some];rw [if_neg (by omega)];rfl
theorem Am7 {kf:Nat->Nat} {n m v:Nat} (h:v<n):(Gk kf n m v).set (v+1) ((Ct kf m v:Int)+(Ck kf m v:Int))=Gk kf n m (v+1):=by
 apply List.ext_getElem?
 intro j
 by_cases hj:j<n+1
 ·by_cases e:v+1=j
  ·subst e
   rw [Bo2 (by rw [Mo];exact hj)];unfold Gk;rw [Bl2,List.getElem?_range hj];simp only [Option.map_some];rw [if_pos (Bj5 _),Kg]
   congr 1
   omega
  ·rw [Bo1 e]
   unfold Gk;rw [Bl2,Bl2,List.getElem?_range hj];simp only [Option.map_some]
   by_cases h0:j<=v
   ·rw [if_pos h0,if_pos (by omega)]
   ·rw [if_neg h0,if_neg (by omega)]
 ·rw [Bn0 (by rw [Bk4,Mo];omega),Bn0 (by rw [Mo];omega)]
theorem Ow (kf:Nat->Nat) (n m:Nat):Gk kf n m n=atL kf n m 0:=by
 unfold Gk atL
 apply List.map_congr_left
 intro j hj;have:=Bm7.1 hj;rw [if_pos (by omega)];rfl
theorem Ox {kf:Nat->Nat} {n m k v:Nat} (h:v<n+1):(atL kf n m k)[v]? =some ((Ck kf m v+Ct kf k v:Nat):Int):=by
 unfold atL;rw [Bl2,List.getElem?_range h];rfl
theorem Az1 {kf:Nat->Nat} {n m k:Nat} (h:kf k<n):(atL kf n m k).set (kf k) ((Lr kf m k:Int)+1)=atL kf n m (k+1):=by
 apply List.ext_getElem?
 intro j
 by_cases hj:j<n+1
 ·by_cases e:kf k=j
  ·subst e
   rw [Bo2 (by rw [Ww];exact hj),Ox hj]
   show _=some ((Ck kf m (kf k)+(Ct kf k (kf k)+(if kf k=kf k then 1 else 0)):Nat):Int)
   rw [if_pos rfl];unfold Lr
   congr 1
  ·rw [Bo1 e,Ox hj,Ox hj]
   show _=some ((Ck kf m j+(Ct kf k j+(if kf k=j then 1 else 0)):Nat):Int)
   rw [if_neg e];rfl
 ·rw [Bn0 (by rw [Bk4,Ww];omega),Bn0 (by rw [Ww];omega)]
end Ad
end
section
namespace Ns
structure Seg (a b:Nat) (l1 l2:List Int):Prop where
 len:l2.length=l1.length
 out:∀k,k<a\/b<=k->l2[k]? =l1[k]?
 perm:l2.Perm l1
 pres:∀P:Int->Prop,(∀k x,a<=k->k<b->l1[k]? =some x->P x)->∀k x,a<=k->k<b->l2[k]? =some x->P x
theorem Seg.refl (a b:Nat) (l:List Int):Seg a b l l:=⟨rfl,fun _ _=>rfl,List.Perm.refl _,fun _ h=>h⟩
theorem Seg.trans {a b:Nat} {l1 l2 l3:List Int} (h:Seg a b l1 l2) (k:Seg a b l2 l3):Seg a b l1 l3:=
 ⟨k.len.trans h.len,fun i hi=>(k.out i hi).trans (h.out i hi),k.perm.trans h.perm,fun P hp=>k.pres P (h.pres P hp)⟩
theorem Seg.mono {a b a' b':Nat} {l1 l2:List Int} (h:Seg a b l1 l2) (h1:a'<=a) (h2:b<=b'):Seg a' b' l1 l2:=
 ⟨h.len,fun k hk=>h.out k (by omega),h.perm,fun P hp k x hk1 hk2 hx=>by
  by_cases hin:a<=k/\k<b
  ·exact h.pres P (fun i y hi1 hi2 hy=>hp i y (by omega) (by omega) hy) k x hin.1 hin.2 hx
  ·rw [h.out k (by omega)] at hx
   exact hp k x hk1 hk2 hx⟩
end Ns
end
section
namespace Ns
open Go Go.Proofs Go.RowKit Go.Shelf Hp
def Dw (a b:Int):Int:=if a<b then -1 else if b<a then 1 else 0
abbrev RowI (w:World) (base g N cp:Nat) (l:List Int):Prop:=w.ownsRow base 3 1 (.slice (some ⟨g,0,none⟩) N cp) N (l.map Ai)
theorem RowI.len {w:World} {base g N cp:Nat} {l:List Int} (h:RowI w base g N cp l):l.length=N:=by have:=h.1;simpa using this
theorem RowI.cell {w:World} {base g N cp:Nat} {l:List Int} (h:RowI w base g N cp l) {i:Nat} {x:Int} (hx:l[i]? =some x):w.cell? ⟨g,i,none⟩=some (.int .i64 x):=by
 have hi:=(Bk6.1 hx).1;rw [h.cellAt i (by have:=h.len;omega),Bl2,hx];rfl
theorem RowI.put {w:World} {base g N cp:Nat} {l:List Int} (h:RowI w base g N cp l) (i:Nat) (x:Int):RowI (w.setCell ⟨g,i,none⟩ (.int .i64 x)) base g N cp (l.set i x):=by
 have:=(h.stored i (.int .i64 x)).1;rw [<-List.map_set (f:=Ai)] at this;exact this
theorem RowI.base {w:World} {base g N cp:Nat} {l:List Int} (h:RowI w base g N cp l):base<=g/\g<w.heap.size:=h.lt g rfl
end Ns
end
section
open Go Go.Proofs Go.RowKit
section
variable {P:Program} {ops:Array Oper} {md:Region.Mode} {Q:Exit->Act->World->Prop}
def Es (listed:Array Bool):Nat->Nat
 |0=>0
 |n+1=>Es listed n+(if listed.getD n true=false then 1 else 0)
theorem Qp {listed:Array Bool} {i:Nat}:∀{n:Nat},Es (listed.setIfInBounds i true) n<=Es listed n
 |0=>Bj5 _
 |n+1=>by
  have ih:=Qp (listed:=listed) (i:=i) (n:=n);unfold Es
  by_cases e:i=n
  ·subst e
   have:¬(listed.setIfInBounds i true).getD i true=false:=by
    rcases Nat.lt_or_ge i listed.size with h|h<;>simp [h]
   rw [if_neg this];omega
  ·rw [getD_set_ne true e]
   omega
theorem Np {listed:Array Bool} {i:Nat}:∀{n:Nat},i<n->listed.getD i true=false->Es (listed.setIfInBounds i true) n<Es listed n
 |n+1,hi,hf=>by
  unfold Es
  by_cases e:i=n
  ·subst e
   have h1:=Qp (listed:=listed) (i:=i) (n:=i);have:¬(listed.setIfInBounds i true).getD i true=false:=by
    rcases Nat.lt_or_ge i listed.size with h|h<;>simp [h]
   rw [if_neg this,if_pos hf];omega
  ·have ih:=Np (n:=n) (by omega) hf
   rw [getD_set_ne true e];omega
theorem Nq (listed:Array Bool):∀n,Es listed n<=n
 |0=>Bj5 _
 |n+1=>by
  have:=Nq listed n;unfold Es
  split<;>omega
theorem Jf {listed:Array Bool}:∀{n i:Nat},Es listed n=0->i<n->listed.getD i true≠false
 |n+1,i,h,hi=>by
  unfold Es at h
  by_cases e:i=n
  ·subst e
   intro hf;rw [if_pos hf] at h;omega
  ·exact Jf (n:=n) (by omega) (by omega)
theorem Ua (J:Array Bool->Act->World->Prop) (hJ:∀listed a w i,J listed a w->i∈Region.ready md ops listed->wpOp P ops Q i (fun a' w'=>J (listed.setIfInBounds i true) a' w') a w)
  (hend:∀listed a w,J listed a w->Region.ready md ops listed=[]->Q .normal a w):
  ∀(fuel:Nat) (listed:Array Bool) (a:Act) (w:World),Es listed ops.size<=fuel->J listed a w->wpAny P md ops Q fuel listed a w
 |0,listed,a,w,hf,h=>by
  have hr:Region.ready md ops listed=[]:=by
   rw [List.eq_nil_iff_forall_not_mem];intro i hi;obtain ⟨h1,o,h2,_⟩:=mem_ready.1 hi;have hlt:i<ops.size:=(Bk0.1 h2).1;exact Jf (by omega) hlt h1
  exact ⟨hr,hend _ _ _ h hr⟩
 |fuel+1,listed,a,w,hf,h=>by
  refine ⟨hend _ _ _ h,fun i hi=>?_⟩;obtain ⟨h1,o,h2,_⟩:=mem_ready.1 hi;have hlt:i<ops.size:=(Bk0.1 h2).1;have hc:=Np hlt h1;exact wpOp_mono (fun a' w' h'=>Ua J hJ hend fuel _ a' w' (by omega) h') (hJ _ _ _ _ h hi)
theorem Ey {id:Nat} {a:Act} {w:World} {l:List Oper} (hm:P.follows .mixedOrders=true) (J:Array Bool->Act->World->Prop) (h0:J (Array.replicate l.toArray.size false) a w.drew)
  (hJ:∀listed a w i,J listed a w->i∈Region.ready .any l.toArray listed->wpOp P l.toArray Q i (fun a' w'=>J (listed.setIfInBounds i true) a' w') a w)
  (hend:∀listed a w,J listed a w->Region.ready .any l.toArray listed=[]->Q .normal a w):(Code.region id l.toArray true).wp P Q a w:=
 wp_region_any hm (Ua J hJ hend _ _ _ _ (Nq _ _) h0)
end
end
section
open Go Go.Proofs Go.RowKit
section
def Al (a:Act) (D:Nat->Nat) (vs:Nat->Value):Nat->Act
 |0=>a
 |n+1=>(Al a D vs n).put (some (D n)) (vs n)
variable {a a':Act} {D:Nat->Nat} {vs:Nat->Value}
theorem Kf:∀n,(Al a D vs n).tmps.size=a.tmps.size
 |0=>rfl
 |n+1=>by
  show ((Al a D vs n).tmps.setIfInBounds _ _).size=_
  rw [Array.size_setIfInBounds,Kf n]
theorem Jn:∀n,(Al a D vs n).defers=a.defers
 |0=>rfl
 |n+1=>Jn n
theorem Fc {t:Nat}:∀{n:Nat},(∀i,i<n->D i≠t)->(Al a D vs n).tmps[t]? =a.tmps[t]?
 |0,_=>rfl
 |n+1,h=>by
  show ((Al a D vs n).tmps.setIfInBounds _ _)[t]? =_
  rw [Array.getElem?_setIfInBounds_ne (h n (by omega)),Fc (fun i hi=>h i (by omega))]
theorem Gn {i:Nat}:∀{n:Nat},(∀i j,i<n->j<n->D i=D j->i=j)->i<n->D i<a.tmps.size->(Al a D vs n).tmps[D i]? =some (vs i)
 |n+1,hinj,hi,hs=>by
  show ((Al a D vs n).tmps.setIfInBounds _ _)[D i]? =_
  by_cases e:i=n
  ·subst e
   rw [Array.getElem?_setIfInBounds_self_of_lt (by rw [Kf];exact hs)]
  ·rw [Array.getElem?_setIfInBounds_ne (fun h=>e (hinj i n hi (by omega) h.symm)),Gn (fun i j hi hj=>hinj i j (by omega) (by omega)) (by omega) hs]
theorem Ia {n:Nat} (hinj:∀i j,i<n->j<n->D i=D j->i=j) (hs:a'.tmps.size=a.tmps.size) (hd:a'.defers=a.defers) (hD:∀i,i<n->D i<a.tmps.size)
  (h:∀t,(∀i,i<n->D i≠t)->a'.tmps[t]? =a.tmps[t]?):a'=Al a D (fun i=>a'.tmps.getD (D i) undef) n:=by
 have ht:a'.tmps=(Al a D (fun i=>a'.tmps.getD (D i) undef) n).tmps:=by
  apply Array.ext_getElem?
  intro t
  by_cases e:∃i,i<n/\D i=t
  ·obtain ⟨i,hi,rfl⟩:=e
   rw [Gn hinj hi (hD i hi)];have:D i<a'.tmps.size:=by rw [hs];exact hD i hi
   rw [Bm8,Array.getElem?_eq_getElem this];rfl
  ·have hne:∀i,i<n->D i≠t:=fun i hi h'=>e ⟨i,hi,h'⟩
   rw [Fc hne,h t hne]
 have hdd:=Jn (a:=a) (D:=D) (vs:=fun i=>a'.tmps.getD (D i) undef) n;rw [<-hd] at hdd
 cases a' with
 |mk tm df=>
  generalize hp:Al a D (fun i=>(Act.mk tm df).tmps.getD (D i) undef) n=p at*
  cases p with
  |mk tm' df'=>simp only at ht hdd;rw [ht,hdd]
def Hw (vs:Nat->Value) (i:Nat) (v:Value):Nat->Value:=fun j=>if j=i then v else vs j
theorem He {n i:Nat} {v:Value} (hinj:∀i j,i<n->j<n->D i=D j->i=j) (hD:∀i,i<n->D i<a.tmps.size) (hi:i<n):(Al a D vs n).put (some (D i)) v=Al a D (Hw vs i v) n:=by
 have h0:=Ia (a:=a) (a':=(Al a D vs n).put (some (D i)) v) hinj (by show ((Al a D vs n).tmps.setIfInBounds _ _).size=_;rw [Array.size_setIfInBounds,Kf]) (Jn n) hD (fun t ht=>by
  show ((Al a D vs n).tmps.setIfInBounds _ _)[t]? =_
  rw [Array.getElem?_setIfInBounds_ne (ht i hi),Fc ht])
 rw [h0];have:∀m,m<=n->Al a D (fun j=>((Al a D vs n).put (some (D i)) v).tmps.getD (D j) undef) m=Al a D (Hw vs i v) m:=by
  intro m
  induction m with
  |zero=>intro _;rfl
  |succ m ih=>
   intro hm
   show Act.put _ _ _=Act.put _ _ _
   rw [ih (by omega)]
   congr 1
   show ((Al a D vs n).tmps.setIfInBounds (D i) v).getD (D m) undef=if m=i then v else vs m
   rw [Bm8]
   by_cases e:m=i
   ·subst e
    rw [Array.getElem?_setIfInBounds_self_of_lt (by rw [Kf];exact hD m hi),if_pos rfl];rfl
   ·rw [Array.getElem?_setIfInBounds_ne (fun h=>e (hinj i m hi (by omega) h).symm),Gn hinj (by omega) (hD m (by omega)),if_neg e]
    rfl
 exact this n (Bj5 _)
variable {P:Program} {Q:Exit->Act->World->Prop} {w:World}
theorem Qm {id:Nat} {l:List Oper} (D:Nat->Nat) (R:Nat->Value->List Nat->(Nat->Value)->World->Prop) (hm:P.follows .mixedOrders=true)
  (hD:∀i,i<l.length->D i<a.tmps.size) (hdst:∀i o,l[i]? =some o->o.dst=some (D i)/\o.guard=none) (hinj:∀i j,i<l.length->j<l.length->D i=D j->i=j)
  (hord:∀i o,l[i]? =some o->∀e∈o.after,Region.binds .any e=true->e.on<i) (hmono:∀i v g vs w w',Below w.heap.size w w'->R i v g vs w->R i v g vs w')
  (hloc:∀i o,l[i]? =some o->∀v g vs vs' w,(∀e∈o.after,Region.binds .any e=true->vs' e.on=vs e.on)->R i v g vs w->R i v g vs' w)
  (hop:∀i o,l[i]? =some o->∀(vs:Nat->Value) w',Below w.heap.size w w'->(∀e∈o.after,Region.binds .any e=true->∃g,R e.on (vs e.on) g vs w')->
   ∀K:Act->World->Prop,(∀v g w'',Below w'.heap.size w' w''->R i v g vs w''->(∀k∈g,w'.heap.size<=k/\k<w''.heap.size)->K ((Al a D vs l.length).put (some (D i)) v) w'')->o.wp P (Al a D vs l.length) w' K Q)
  (hend:∀(vs:Nat->Value) (gs:Nat->List Nat) w',Below w.heap.size w w'->(∀i,i<l.length->R i (vs i) (gs i) vs w')->(∀i k,i<l.length->k∈gs i->w.heap.size<=k/\k<w'.heap.size)->(∀i j k,i<l.length->j<l.length->i≠j->k∈gs i->k∉gs j)->Q .normal (Al a D vs l.length) w'):(Code.region id l.toArray true).wp P Q a w:=by
 have ha:=Ia (a:=a) (a':=a) hinj rfl rfl hD (fun _ _=>rfl);refine Ey hm (fun listed a' w'=>listed.size=l.length/\(∀i o,l[i]? =some o->listed.getD i false=true->∀e∈o.after,Region.binds .any e=true->listed.getD e.on false=true)/\
  ∃(vs:Nat->Value) (gs:Nat->List Nat),a'=Al a D vs l.length/\Below w.heap.size w w'/\(∀i,i<l.length->listed.getD i false=true->R i (vs i) (gs i) vs w')/\(∀i,i<l.length->listed.getD i false=true->∀k∈gs i,w.heap.size<=k/\k<w'.heap.size)/\
   ∀i j k,i<l.length->j<l.length->listed.getD i false=true->listed.getD j false=true->i≠j->k∈gs i->k∉gs j) ?_ ?_ ?_
 ·have hz:∀i,¬(Array.replicate l.toArray.size false).getD i false=true:=fun i h=>by
   rw [getD_replicate_false] at h
   cases h
  exact ⟨by simp,fun i o _ h=>absurd h (hz i),_,fun _=>[],ha,(Below.refl _ w).drew,fun i _ h=>absurd h (hz i),fun i _ h=>absurd h (hz i),fun i j k _ _ h=>absurd h (hz i)⟩
 ·rintro listed a' w' i ⟨hsz,hcl,vs,gs,rfl,hb,hR,hF,hN⟩ hi
  obtain ⟨h1,o,h2,h3⟩:=mem_ready.1 hi;have h2':l[i]? =some o:=by simpa using h2
  have hlt:i<l.length:=(Bk6.1 h2').1;have hun:∀j,listed.getD j false=true->j≠i:=by
   rintro j hj rfl;have:=getD_both h1;rw [this] at hj
   cases hj
  obtain ⟨hd,hg⟩:=hdst i o h2';unfold wpOp;simp only [h2];rw [if_pos (by simp [Region.wanted,hg])];refine .inl (hop i o h2' vs w' hb (fun e he hb'=>?_) _ (fun v g w'' hb2 hr hf=>?_))
  ·have h4:=h3 e he hb'
   have h5:e.on<l.length:=by have:=hord i o h2' e he hb';omega
   exact ⟨_,hR _ h5 h4⟩
  ·have hset:∀j,(listed.setIfInBounds i true).getD j false=true->j=i\/(j≠i/\listed.getD j false=true):=fun j hl=>by
    by_cases e:j=i
    ·exact .inl e
    ·rw [getD_set_ne false (fun h=>e h.symm)] at hl
     exact .inr ⟨e,hl⟩
   have hkeep:∀j,listed.getD j false=true->(listed.setIfInBounds i true).getD j false=true:=fun j hl=>by
    rw [getD_set_ne false (fun h=>hun j hl h.symm)];exact hl
   obtain ⟨gs2,hgs⟩:∃gs2:Nat->List Nat,gs2=fun j=>if j=i then g else gs j:=⟨_,rfl⟩
   have hgi:gs2 i=g:=by rw [hgs];exact if_pos rfl
   have hgn:∀j,j≠i->gs2 j=gs j:=fun j hj=>by rw [hgs];exact if_neg hj
   have hvi:Hw vs i v i=v:=if_pos rfl;have hvn:∀j,j≠i->Hw vs i v j=vs j:=fun j hj=>if_neg hj;have hsz2:=hb2.size;refine ⟨by simp [hsz],?_,Hw vs i v,gs2,He hinj hD hlt,hb.st hb2,?_,?_,?_⟩
   ·intro j oj hj hl e he hb'
    rcases hset j hl with rfl|⟨hji,hl'⟩
    ·rw [h2'] at hj
     cases hj
     exact hkeep _ (h3 e he hb')
    ·exact hkeep _ (hcl j oj hj hl' e he hb')
   ·intro j hj hl
    rcases hset j hl with rfl|⟨hji,hl'⟩
    ·rw [hvi,hgi]
     exact hloc j o h2' _ _ _ _ _ (fun e he hb'=>hvn _ (by have:=hord j o h2' e he hb';omega)) hr
    ·rw [hvn j hji,hgn j hji]
     exact hloc j l[j] (Bj8 hj) _ _ _ _ _ (fun e he hb'=>hvn _ (hun _ (hcl j l[j] (Bj8 hj) hl' e he hb'))) (hmono _ _ _ _ _ _ hb2 (hR j hj hl'))
   ·intro j hj hl k hk
    rcases hset j hl with rfl|⟨hji,hl'⟩
    ·rw [hgi] at hk
     have:=hf k hk;have:=hb.size;exact ⟨by omega,by omega⟩
    ·rw [hgn j hji] at hk
     have:=hF j hj hl' k hk;exact ⟨this.1,by omega⟩
   ·intro j1 j2 k hj1 hj2 hl1 hl2 hne hk1 hk2
    rcases hset j1 hl1 with rfl|⟨hji1,hl1'⟩<;>rcases hset j2 hl2 with e2|⟨hji2,hl2'⟩
    ·exact absurd e2.symm hne
    ·rw [hgi] at hk1
     rw [hgn j2 hji2] at hk2;have:=hf k hk1;have:=hF j2 hj2 hl2' k hk2;omega
    ·subst e2
     rw [hgi] at hk2;rw [hgn j1 hji1] at hk1;have:=hf k hk2;have:=hF j1 hj1 hl1' k hk1;omega
    ·rw [hgn j1 hji1] at hk1
     rw [hgn j2 hji2] at hk2;exact hN j1 j2 k hj1 hj2 hl1' hl2' hne hk1 hk2
 ·rintro listed a' w' ⟨hsz,hcl,vs,gs,rfl,hb,hR,hF,hN⟩ hr
  have hall:∀d i,i=d->i<l.length->listed.getD i false=true:=by
   intro d
   induction d using Nat.strongRecOn with
   |_ d ih=>
    rintro i rfl hi
    cases hl:listed.getD i false with
    |true=>rfl
    |false=>
     have hin:i∈Region.ready .any l.toArray listed:=by
      refine mem_ready.2 ⟨getD_in (by omega) hl,l[i],by simp [hi],fun e he hb'=>?_⟩;have h6:=hord i l[i] (Bj8 hi) e he hb';exact ih e.on h6 e.on rfl (by omega)
     rw [hr] at hin
     cases hin
  exact hend vs gs w' hb (fun i hi=>hR i hi (hall i i rfl hi)) (fun i k hi hk=>hF i hi (hall i i rfl hi) k hk) (fun i j k hi hj=>hN i j k hi hj (hall i i rfl hi) (hall j j rfl hj))
def Ae (l:List Oper) (i:Nat):Nat:=((l[i]?).bind (·.dst)).getD 0
def Ce (l:List Oper) (i j:Nat):Bool:=match l[i]? with
 |none=>false
 |some o=>o.after.toList.any fun e=>Region.binds .any e&&e.on==j
def Pk (l:List Oper) (sz:Nat):Bool:=(List.range l.length).all fun i=>match l[i]? with
 |none=>false
 |some o=>o.dst.isSome&&o.guard.isNone&&decide (Ae l i<sz)&&(o.after.all fun e=>!Region.binds .any e||decide (e.on<i))&&(List.range i).all fun j=>decide (Ae l j≠Ae l i)
def Bz (p:Nat->Oper->Prop):Nat->List Oper->Prop
 |_,[]=>True
 |k,o::l=>p k o/\Bz p (k+1) l
theorem Et {p:Nat->Oper->Prop} (l:List Oper):∀(k:Nat),Bz p k l->∀i o,l[i]? =some o->p (k+i) o:=by
 induction l with
 |nil=>intro k _ i o e;simp at e
 |cons x l ih=>
  intro k h i o e
  cases i with
  |zero=>
   have e':x=o:=by simpa using e
   subst e';exact h.1
  |succ i=>
   have:=ih (k+1) h.2 i o (by simpa using e)
   rwa [show k+(i+1)=k+1+i by omega]
theorem Bg {l:List Oper} {sz:Nat} (h:Pk l sz=true) {i:Nat} {o:Oper} (hi:l[i]? =some o):
  o.dst.isSome=true/\o.guard.isNone=true/\Ae l i<sz/\(∀e∈o.after,Region.binds .any e=true->e.on<i)/\∀j,j<i->Ae l j≠Ae l i:=by
 have hlt:i<l.length:=(Bk6.1 hi).1;unfold Pk at h;have h1:=List.all_eq_true.1 h i (Bm7.2 hlt);rw [hi] at h1;clear h;simp only [Bool.and_eq_true] at h1;obtain ⟨⟨⟨⟨h2,h3⟩,h4⟩,h5⟩,h6⟩:=h1;refine ⟨h2,h3,of_decide_eq_true h4,fun e he hb=>?_,fun j hj=>?_⟩
 ·have h7:=Array.all_eq_true_iff_forall_mem.1 h5 e he
  rw [hb] at h7
  simpa using h7
 ·have h7:=List.all_eq_true.1 h6 j (Bm7.2 hj)
  exact of_decide_eq_true h7
theorem Fg {id:Nat} {l:List Oper} (R:Nat->Value->List Nat->(Nat->Value)->World->Prop) (hm:P.follows .mixedOrders=true) (hB:Pk l a.tmps.size=true)
  (hmono:∀i v g vs w w',Below w.heap.size w w'->R i v g vs w->R i v g vs w')
  (hloc:∀i v g vs vs' w,(∀j,Ce l i j=true->vs' j=vs j)->R i v g vs w->R i v g vs' w)
  (hop:Bz (fun i o=>∀(vs:Nat->Value) w',Below w.heap.size w w'->(∀j,Ce l i j=true->∃g,R j (vs j) g vs w')->
   ∀K:Act->World->Prop,(∀v g w'',Below w'.heap.size w' w''->R i v g vs w''->(∀k∈g,w'.heap.size<=k/\k<w''.heap.size)->K ((Al a (Ae l) vs l.length).put o.dst v) w'')->o.wp P (Al a (Ae l) vs l.length) w' K Q) 0 l)
  (hend:∀(vs:Nat->Value) (gs:Nat->List Nat) w',Below w.heap.size w w'->(∀i,i<l.length->R i (vs i) (gs i) vs w')->(∀i k,i<l.length->k∈gs i->w.heap.size<=k/\k<w'.heap.size)->(∀i j k,i<l.length->j<l.length->i≠j->k∈gs i->k∉gs j)->Q .normal (Al a (Ae l) vs l.length) w'):(Code.region id l.toArray true).wp P Q a w:=by
 have hg:=fun i (hi:i<l.length)=>Bg hB (Bj8 hi);have hds:∀i o,l[i]? =some o->o.dst=some (Ae l i):=fun i o hi=>by
  have h:=(Bg hB hi).1;obtain ⟨d,hd⟩:=Option.isSome_iff_exists.1 h;unfold Ae;rw [hi];simp [hd]
 have hdep:∀i o,l[i]? =some o->∀j,Ce l i j=true->∃e∈o.after,Region.binds .any e=true/\e.on=j:=fun i o hi j h=>by
  unfold Ce at h;simp only [hi] at h;obtain ⟨e,he,h2⟩:=List.any_eq_true.1 h;simp only [Bool.and_eq_true,beq_iff_eq] at h2;exact ⟨e,Array.mem_toList_iff.1 he,h2⟩
 refine Qm (Ae l) R hm (fun i hi=>(hg i hi).2.2.1) (fun i o hi=>⟨hds i o hi,by have:=(Bg hB hi).2.1;simpa using this⟩) ?_ (fun i o hi=>(Bg hB hi).2.2.2.1) hmono ?_ ?_ hend
 ·intro i j hi hj e
  rcases Nat.lt_trichotomy i j with h|h|h
  ·exact absurd e ((hg j hj).2.2.2.2 i h)
  ·exact h
  ·exact absurd e.symm ((hg i hi).2.2.2.2 j h)
 ·intro i o hi v g vs vs' w1 h hr
  refine hloc i v g vs vs' w1 (fun j hj=>?_) hr;obtain ⟨e,he,hb,rfl⟩:=hdep i o hi j hj;exact h e he hb
 ·intro i o hi vs w' hb hR K hK
  have h:=Et l 0 hop i o hi;rw [Nat.zero_add] at h;refine h vs w' hb (fun j hj=>?_) K (fun v g w'' h1 h2 h3=>?_)
  ·obtain ⟨e,he,hb,rfl⟩:=hdep i o hi j hj
   exact hR e he hb
  ·rw [hds i o hi]
   exact hK v g w'' h1 h2 h3
end
end
end Go.Proofs.YteaaapdjplbljaaGreat
