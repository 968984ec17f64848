/- The shortest way, edge by edge: at each node the first edge that lies on one. In plain Lean. A row that is sorted by insertion, in plain Lean; which places are nearest, in plain Lean. Walks of the library's stable sort, at rows of at most 20 numbers: the sort by insertion. A region whose operations only grow memory, in any order, some of them under a guard, the frame unseen. A region whose operations only grow memory, in any order, some of them under a guard, with a last one that waits for all of them, the frame unseen. -/
import Derived.Test.YteaaapdjplbljaaGreatLw34
import Derived.Test.YteaaapdjplbljaaGreatLw37
import Derived.Test.YteaaapdjplbljaaGreatLw18
import Derived.Test.YteaaapdjplbljaaGreatLw02
import Derived.Test.YteaaapdjplbljaaGreatProg
import Derived.Test.YteaaapdjplbljaaGreatLw08
import Derived.Deep.Cut
import Derived.Deep.RegionLaw
import Derived.Deep.CutRange
import Derived.Test.YteaaapdjplbljaaGreatLw36
set_option linter.unusedVariables false
set_option linter.unusedSimpArgs false
set_option linter.unnecessarySimpa false
section
namespace Go.Proofs.YteaaapdjplbljaaGreat.Ro
open Go.Proofs.YteaaapdjplbljaaGreat Go.Proofs.YteaaapdjplbljaaGreat.Ch
def edZ:EdgeD:=⟨0,0,0⟩
def goodE (D:Int→Int) (e:EdgeD):Prop:=D e.t<4611686018427387904∧D e.t+e.w=D e.f
def FirstE (es:List EdgeD) (D:Int→Int) (v:Int) (i:Nat):Prop:=∃h:i<es.length,es[i].f=v∧goodE D es[i]∧∀j (hj:j<es.length),j<i→es[j].f=v→¬goodE D es[j]
theorem FirstE.uniq {es:List EdgeD} {D:Int→Int} {v:Int} {i j:Nat} (h:FirstE es D v i) (k:FirstE es D v j):i=j:=by
 obtain ⟨h1,h2,h3,h4⟩:=h
 obtain ⟨k1,k2,k3,k4⟩:=k
 rcases Nat.lt_trichotomy i j with e|e|e
 ·exact absurd h3 (k4 i h1 e h2)
 ·exact e
 ·exact absurd k3 (h4 j k1 e k2)
inductive RP (es:List EdgeD) (D:Int→Int):Int→List Int→Prop
 |stop {v:Int} (h:D v=0):RP es D v []
 |go {v:Int} {i:Nat} {l:List Int} (h:FirstE es D v i) (h0:D v≠0) (hr:RP es D (es.getD i edZ).t l):RP es D v ((i:Int)::l)
theorem RP.uniq {es:List EdgeD} {D:Int→Int} {v:Int} {l:List Int} (h:RP es D v l):∀{l'},RP es D v l'→l=l':=by
 induction h with
 |stop h=>
  intro l' k
  cases k with
  |stop _=>rfl
  |go _ h0 _=>exact absurd h h0
 |go h h0 hr ih=>
  intro l' k
  cases k with
  |stop h'=>exact absurd h' h0
  |go h' _ hr'=>
   obtain rfl:=h.uniq h'
   rw [ih hr']
def Seg (es:List EdgeD) (D:Int→Int) (s:Int) (l:List Int) (v:Int):Prop:=∀r,RP es D v r→RP es D s (l++r)
theorem Seg.start {es:List EdgeD} {D:Int→Int} (s:Int):Seg es D s [] s:=fun r h=>h
theorem Seg.step {es:List EdgeD} {D:Int→Int} {s v:Int} {l:List Int} {i:Nat} (h:Seg es D s l v) (hf:FirstE es D v i) (h0:D v≠0):Seg es D s (l++[(i:Int)]) (es.getD i edZ).t:=fun r hr=>by
 have:=h _ (.go hf h0 hr)
 rwa [List.append_assoc]
theorem Seg.stop {es:List EdgeD} {D:Int→Int} {s v:Int} {l:List Int} (h:Seg es D s l v) (h0:D v=0):RP es D s l:=by
 have:=h [] (.stop h0)
 rwa [List.append_nil] at this
theorem FarV.turn {A:Int→Int→Int→Prop} {s v x:Int} (h:FarV (Turn A) s v x):FarV A v s x:=by
 rcases h with ⟨h1,h2⟩|⟨h1,h2⟩
 ·exact .inl ⟨h1.turn,h2⟩
 ·exact .inr ⟨h1,fun e h=>h2 e h.turn⟩
def ToD (es:List EdgeD) (n:Nat) (t:Int) (D:Int→Int):Prop:=∀v,nodeN n v→FarV (arcG es) v t (D v)
theorem next_some {es:List EdgeD} {n:Nat} {t:Int} {D:Int→Int} (hA:∀u v w,arcG es u v w→nodeN n u∧nodeN n v∧1≤w) (hD:ToD es n t D) {v:Int} (hv:nodeN n v) (h0:D v≠0) (hF:D v<4611686018427387904):
  ∃i,FirstE es D v i:=by
 obtain ⟨hd,hn,_⟩:=(hD v hv).lt hF
 have hne:v≠t:=fun e=>by
  subst e
  exact h0 (hd.uniq (Dist.self (fun u v w h=>(hA u v w h).2.2) v))
 obtain ⟨m,w,h1,h2⟩:=Dist.pred hd.turn (fun e=>hne e.symm)
 have h1':arcG es v m w:=h1
 have h2':Dist (arcG es) m t (D v-w):=h2.turn
 obtain ⟨e,he,e1,e2,e3⟩:=h1'
 have hm:=(hA v m w ⟨e,he,e1,e2,e3⟩).2
 have hx:0≤D v-w:=h2'.1.nonneg (fun u v w h=>(hA u v w h).2.2)
 have hDm:D m=D v-w:=by
  rcases hD m hm.1 with ⟨k1,_⟩|⟨_,k2⟩
  ·exact k1.uniq h2'
  ·exact absurd h2'.1 (k2 _)
 have hgood:goodE D e:=by
  unfold goodE
  rw [e1,e2,e3,hDm]
  omega
 obtain ⟨i,hi,ei⟩:=List.getElem_of_mem he
 have key:∀k i (hi:i<es.length),i≤k→es[i].f=v→goodE D es[i]→∃j,FirstE es D v j:=by
  intro k
  induction k with
  |zero=>
   intro i hi hk h3 h4
   have:i=0:=by omega
   subst this
   exact ⟨0,hi,h3,h4,fun j _ hj=>by omega⟩
  |succ k ih=>
   intro i hi hk h3 h4
   by_cases hex:∃j,∃hj:j<es.length,j<i∧es[j].f=v∧goodE D es[j]
   ·obtain ⟨j,hj,h5,h6,h7⟩:=hex
    exact ih j hj (by omega) h6 h7
   ·exact ⟨i,hi,h3,h4,fun j hj h5 h6 h7=>hex ⟨j,hj,h5,h6,h7⟩⟩
 exact key i i hi (Nat.le_refl _) (by rw [ei];exact e1) (by rw [ei];exact hgood)
theorem first_less {es:List EdgeD} {n:Nat} {t:Int} {D:Int→Int} (hA:∀u v w,arcG es u v w→nodeN n u∧nodeN n v∧1≤w) (hD:ToD es n t D) {v:Int} {i:Nat} (h:FirstE es D v i):
  nodeN n (es.getD i edZ).t∧0≤D (es.getD i edZ).t∧D (es.getD i edZ).t<D v∧D (es.getD i edZ).t<4611686018427387904∧D (es.getD i edZ).t+(es.getD i edZ).w=D v:=by
 obtain ⟨hi,h1,h2,_⟩:=h
 have e:es.getD i edZ=es[i]:=by simp [List.getD,hi]
 rw [e]
 have hm:=(hA _ _ _ ⟨es[i],List.getElem_mem hi,rfl,rfl,rfl⟩).2
 have:=(hD _ hm.1).in
 unfold goodE at h2
 rw [h1] at h2
 exact ⟨hm.1,this.1,by omega,h2.1,h2.2⟩
theorem first_of {es:List EdgeD} {D:Int→Int} {v:Nat} {pre:List Int} {i:Nat} {suf:List Int} (hn:∀e∈es,0≤e.f) (h:Ad.idxN (fun i=>(es.getD i edZ).f.toNat) es.length v=pre++(i:Int)::suf) (hg:goodE D (es.getD i edZ)) (hp:∀j:Nat,(j:Int)∈pre→¬goodE D (es.getD j edZ)):FirstE es D (v:Int) i:=by
 have hmem:(i:Int)∈Ad.idxN (fun i=>(es.getD i edZ).f.toNat) es.length v:=by rw [h];simp
 obtain ⟨i',e,hi,hk⟩:=Ad.idxN_mem.1 hmem
 have:i'=i:=by omega
 subst this
 have e1:∀{j} (hj:j<es.length),es.getD j edZ=es[j]:=fun hj=>by simp [List.getD,hj]
 have hf:es[i'].f=(v:Int):=by
  have:=hn _ (List.getElem_mem hi)
  rw [e1 hi] at hk
  omega
 refine ⟨hi,hf,by rw [←e1 hi];exact hg,fun j hj hji hjf hjg=>?_⟩
 have hjm:(j:Int)∈Ad.idxN (fun i=>(es.getD i edZ).f.toNat) es.length v:=Ad.idxN_mem.2 ⟨j,rfl,hj,by rw [e1 hj,hjf];rfl⟩
 have hsort:=Ad.idxN_asc (fun i=>(es.getD i edZ).f.toNat) v es.length
 rw [h] at hjm hsort
 rcases List.mem_append.1 hjm with hm|hm
 ·exact hp j hm (by rw [e1 hj];exact hjg)
 ·rcases List.mem_cons.1 hm with hm|hm
  ·omega
  ·have h1:=(List.pairwise_append.1 hsort).2.1
   have h2:=(List.pairwise_cons.1 h1).1 _ hm
   omega
theorem none_of {es:List EdgeD} {D:Int→Int} {v:Nat} (h:∀j:Nat,(j:Int)∈Ad.idxN (fun i=>(es.getD i edZ).f.toNat) es.length v→¬goodE D (es.getD j edZ)):¬∃i,FirstE es D (v:Int) i:=by
 rintro ⟨i,hi,h1,h2,_⟩
 have e1:es.getD i edZ=es[i]:=by simp [List.getD,hi]
 exact h i (Ad.idxN_mem.2 ⟨i,rfl,hi,by rw [e1,h1];rfl⟩) (by rw [e1];exact h2)
theorem rds_some {L:List Arc} {s:Int} {n:Nat} {W B:Int} (hg:Ch.Good L n W) (hW:0≤W) (hs:node n s) (hB:(L.length:Int)*W≤B) (hm:4097*B+W<FAR):∀k:Nat,k≤4097→∃d c,Rds L s n k B d c
 |0,_=>⟨_,_,Rds.start L B hs⟩
 |k+1,hk=>by
  obtain ⟨d,c,h⟩:=rds_some hg hW hs hB hm k (by omega)
  exact ⟨_,_,h.go hg hW hs hB (by omega) hm⟩
theorem toD_some {es:List EdgeD} {n:Nat} {t:Int} (hA:∀u v w,arcG es u v w→nodeN n u∧nodeN n v∧1≤w∧w≤4294967296) (ht:nodeN n t) (hn:n≤12) (hes:es.length≤40):∃D,ToD es n t D:=by
 have hg:=arcs_good (es:=es) (n:=n) (back:=true) (no:=[]) hA
 have hl:((arcsC es true []).length:Int)≤40:=by have:=arcs_len (es:=es) (back:=true) (no:=[]);omega
 have hB:((arcsC es true []).length:Int)*4294967296≤171798691840:=by omega
 have hF:FAR=4611686018427387904:=rfl
 obtain ⟨d,c,h⟩:=rds_some hg (by omega) (s:=t) ht hB (by omega) (n+1) (by omega)
 have hk:((n+1:Nat):Int)*171798691840≤1152921504606846976:=by omega
 have hal:AllIs es n t true [] d:=Exact.is (h.done hg (.inr (by omega))) h.so hg (by simp) hk
 refine ⟨gD d,fun v hv=>?_⟩
 have:=AllIs.far (back:=true) (fun u v w h=>(hA v u w (show arcG es v u w from h)).2.2.1) hal hv
 exact FarV.turn this
theorem RP.congr {es:List EdgeD} {n:Nat} {D D':Int→Int} (hN:∀e∈es,nodeN n e.f∧nodeN n e.t) (hD:∀v,nodeN n v→D v=D' v) {v:Int} {l:List Int} (h:RP es D v l):nodeN n v→RP es D' v l:=by
 induction h with
 |stop h=>exact fun hv=>.stop (by rw [←hD _ hv];exact h)
 |go h h0 hr ih=>
  intro hv
  obtain ⟨hi,h1,h2,h3⟩:=h
  rename_i v i l
  have e:es.getD i edZ=es[i]:=by simp [List.getD,hi]
  have gd:∀e∈es,goodE D e↔goodE D' e:=fun e he=>by
   have:=hN e he
   unfold goodE
   rw [hD _ this.1,hD _ this.2]
  refine .go ⟨hi,h1,(gd _ (List.getElem_mem hi)).1 h2,fun j hj a b c=>h3 j hj a b ((gd _ (List.getElem_mem hj)).2 c)⟩ (by rw [←hD _ hv];exact h0) (ih ?_)
  rw [e]
  exact (hN _ (List.getElem_mem hi)).2
theorem ToD.uniq {es:List EdgeD} {n:Nat} {t:Int} {D D':Int→Int} (h:ToD es n t D) (h':ToD es n t D'):∀v,nodeN n v→D v=D' v:=fun v hv=>(h v hv).uniq (h' v hv)
end Go.Proofs.YteaaapdjplbljaaGreat.Ro
end
section
namespace Go.Proofs.YteaaapdjplbljaaGreat.Ns
structure Seg (a b:Nat) (l1 l2:List Int):Prop where
 len:l2.length=l1.length
 out:∀k,k<a∨b≤k→l2[k]? =l1[k]?
 perm:l2.Perm l1
 pres:∀P:Int→Prop,(∀k x,a≤k→k<b→l1[k]? =some x→P x)→∀k x,a≤k→k<b→l2[k]? =some x→P x
theorem Seg.refl (a b:Nat) (l:List Int):Seg a b l l:=⟨rfl,fun _ _=>rfl,List.Perm.refl _,fun _ h=>h⟩
theorem Seg.trans {a b:Nat} {l1 l2 l3:List Int} (h:Seg a b l1 l2) (k:Seg a b l2 l3):Seg a b l1 l3:=
 ⟨k.len.trans h.len,fun i hi=>(k.out i hi).trans (h.out i hi),k.perm.trans h.perm,fun P hp=>k.pres P (h.pres P hp)⟩
theorem Seg.mono {a b a' b':Nat} {l1 l2:List Int} (h:Seg a b l1 l2) (h1:a'≤a) (h2:b≤b'):Seg a' b' l1 l2:=
 ⟨h.len,fun k hk=>h.out k (by omega),h.perm,fun P hp k x hk1 hk2 hx=>by
  by_cases hin:a≤k∧k<b
  ·exact h.pres P (fun i y hi1 hi2 hy=>hp i y (by omega) (by omega) hy) k x hin.1 hin.2 hx
  ·rw [h.out k (by omega)] at hx
   exact hp k x hk1 hk2 hx⟩
end Go.Proofs.YteaaapdjplbljaaGreat.Ns
end
section
namespace Go.Proofs.YteaaapdjplbljaaGreat.Ns
open Go Go.Proofs Go.RowKit Go.Shelf Go.Proofs.YteaaapdjplbljaaGreat Go.Proofs.YteaaapdjplbljaaGreat.Hp
def cmpI (a b:Int):Int:=if a<b then -1 else if b<a then 1 else 0
abbrev RowI (w:World) (base g N cp:Nat) (l:List Int):Prop:=w.ownsRow base 3 1 (.slice (some ⟨g,0,none⟩) N cp) N (l.map encI)
theorem RowI.len {w:World} {base g N cp:Nat} {l:List Int} (h:RowI w base g N cp l):l.length=N:=by have:=h.1;simpa using this
theorem RowI.cell {w:World} {base g N cp:Nat} {l:List Int} (h:RowI w base g N cp l) {i:Nat} {x:Int} (hx:l[i]? =some x):w.cell? ⟨g,i,none⟩=some (.int .i64 x):=by
 have hi:=(List.getElem?_eq_some_iff.1 hx).1
 rw [h.cellAt i (by have:=h.len;omega),List.getElem?_map,hx]
 rfl
theorem RowI.put {w:World} {base g N cp:Nat} {l:List Int} (h:RowI w base g N cp l) (i:Nat) (x:Int):RowI (w.setCell ⟨g,i,none⟩ (.int .i64 x)) base g N cp (l.set i x):=by
 have:=(h.stored i (.int .i64 x)).1
 rw [←List.map_set (f:=encI)] at this
 exact this
theorem RowI.base {w:World} {base g N cp:Nat} {l:List Int} (h:RowI w base g N cp l):base≤g∧g<w.heap.size:=h.lt g rfl
end Go.Proofs.YteaaapdjplbljaaGreat.Ns
end
section
namespace Go.Proofs.YteaaapdjplbljaaGreat
open Go Go.Proofs Go.RowKit
section
variable {a:Act} {P:Program} {Q:Exit→Act→World→Prop} {w:World}
def growG (l:List Oper) (sz:Nat):Bool:=(List.range l.length).all fun i=>match l[i]? with
 |none=>false
 |some o=>o.dst.isSome&&decide (dstAt l i<sz)&&(o.after.all fun e=>!Region.binds .any e||decide (e.on<i))&&(List.range i).all fun j=>decide (dstAt l j≠dstAt l i)
theorem growG_at {l:List Oper} {sz:Nat} (h:growG l sz=true) {i:Nat} {o:Oper} (hi:l[i]? =some o):
  o.dst=some (dstAt l i)∧dstAt l i<sz∧(∀e∈o.after,Region.binds .any e=true→e.on<i)∧∀j,j<i→dstAt l j≠dstAt l i:=by
 have hlt:i<l.length:=(List.getElem?_eq_some_iff.1 hi).1
 unfold growG at h
 have h1:=List.all_eq_true.1 h i (List.mem_range.2 hlt)
 rw [hi] at h1
 clear h
 simp only [Bool.and_eq_true] at h1
 obtain ⟨⟨⟨h2,h4⟩,h5⟩,h6⟩:=h1
 refine ⟨?_,of_decide_eq_true h4,fun e he hb=>?_,fun j hj=>?_⟩
 ·obtain ⟨d,hd⟩:=Option.isSome_iff_exists.1 h2
  unfold dstAt
  rw [hi]
  simp [hd]
 ·have h7:=Array.all_eq_true_iff_forall_mem.1 h5 e he
  rw [hb] at h7
  simpa using h7
 ·have h7:=List.all_eq_true.1 h6 j (List.mem_range.2 hj)
  exact of_decide_eq_true h7
abbrev Goes (l:List Oper) (act:Act) (o:Oper) (b:Bool):Prop:=Region.wanted o (yielded l.toArray act.tmps)=b
theorem goes_free {l:List Oper} {act:Act} {o:Oper} (h:o.guard=none):Goes l act o true:=by unfold Goes Region.wanted;rw [h]
theorem yielded_of {l:List Oper} {act:Act} {j t:Nat} {b:Bool} (hd:((l[j]?).bind (·.dst))=some t) (hv:act.tmps.getD t undef=.bool b):yielded l.toArray act.tmps j=some b:=by
 have ht:act.tmps[t]? =some (.bool b):=by
  rw [Array.getD_eq_getD_getElem?] at hv
  cases e:act.tmps[t]? with
  |none=>rw [e] at hv;cases hv
  |some v=>rw [e] at hv;exact congrArg some hv
 unfold yielded
 have:((l.toArray[j]?).bind (·.dst))=some t:=by rw [List.getElem?_toArray];exact hd
 rw [this]
 simp [ht]
theorem goes_yes {l:List Oper} {act:Act} {o:Oper} (j:Nat) (b:Bool) {t:Nat} (h:o.guard=some (j,b)) (hd:((l[j]?).bind (·.dst))=some t) (hv:act.tmps.getD t undef=.bool b):Goes l act o true:=by
 unfold Goes Region.wanted
 rw [h]
 simp only [yielded_of hd hv]
 simp
def growJ (l:List Oper) (a:Act) (w:World) (R:Nat→Value→World→Prop) (listed:Array Bool) (a':Act) (w':World):Prop:=
 listed.size=l.length∧(∀i o,l[i]? =some o→listed.getD i false=true→∀e∈o.after,Region.binds .any e=true→listed.getD e.on false=true)∧
  ∃(vs:Nat→Value),a'=puts a (dstAt l) vs l.length∧Below w.heap.size w w'∧(∀i,i<l.length→listed.getD i false=true→R i (vs i) w')
theorem wp_region_grows_g {id:Nat} {l:List Oper} (n:Nat) (hln:l.length=n) (R:Nat→Value→World→Prop) (hm:P.follows .mixedOrders=true) (hB:growG l a.tmps.size=true)
  (hmono:∀i v w w',Below w.heap.size w w'→R i v w→R i v w')
  (hop:opsAll (fun i o=>∀(act:Act) w',Below w.heap.size w w'→(∀j,depB l i j=true→R j (act.tmps.getD (dstAt l j) undef) w')→(∀t,offB l n t=true→act.tmps.getD t undef=a.tmps.getD t undef)→
   ∀K:Act→World→Prop,(∀v w'',Below w'.heap.size w' w''→R i v w''→K (act.put o.dst v) w'')→(Goes l act o true∧o.wp P act w' K Q)∨(Goes l act o false∧K (act.put o.dst undef) w')) 0 l)
  (hend:∀(vs:Nat→Value) w',Below w.heap.size w w'→(∀i,i<n→R i (vs i) w')→Q .normal (puts a (dstAt l) vs n) w'):(Code.region id l.toArray true).wp P Q a w:=by
 subst hln
 have hg:=fun i (hi:i<l.length)=>growG_at hB (List.getElem?_eq_getElem hi)
 have hD:∀i,i<l.length→dstAt l i<a.tmps.size:=fun i hi=>(hg i hi).2.1
 have hinj:∀i j,i<l.length→j<l.length→dstAt l i=dstAt l j→i=j:=fun i j hi hj e=>by
  rcases Nat.lt_trichotomy i j with k|k|k
  ·exact absurd e ((hg j hj).2.2.2 i k)
  ·exact k
  ·exact absurd e.symm ((hg i hi).2.2.2 j k)
 have hord:∀i o,l[i]? =some o→∀e∈o.after,Region.binds .any e=true→e.on<i:=fun i o hi=>(growG_at hB hi).2.2.1
 have hon:∀vs j,j<l.length→(puts a (dstAt l) vs l.length).tmps.getD (dstAt l j) undef=vs j:=fun vs j hj=>by
  rw [Array.getD_eq_getD_getElem?,puts_on hinj hj (hD j hj)]
  rfl
 have hoff:∀vs t,offB l l.length t=true→(puts a (dstAt l) vs l.length).tmps.getD t undef=a.tmps.getD t undef:=fun vs t ht=>by
  rw [Array.getD_eq_getD_getElem?,Array.getD_eq_getD_getElem?,puts_off (fun i hi e=>by
   have:=List.all_eq_true.1 ht i (List.mem_range.2 hi)
   simp [e] at this)]
 have ha:=puts_of (a:=a) (a':=a) hinj rfl rfl hD (fun _ _=>rfl)
 refine wp_region_inv hm (growJ l a w R) ?_ ?_ ?_
 ·have hz:∀i,¬(Array.replicate l.toArray.size false).getD i false=true:=fun i h=>by
   rw [getD_replicate_false] at h
   cases h
  exact ⟨by simp,fun i o _ h=>absurd h (hz i),_,ha,(Below.refl _ w).drew,fun i _ h=>absurd h (hz i)⟩
 ·rintro listed a' w' i ⟨hsz,hcl,vs,rfl,hb,hR⟩ hi
  obtain ⟨h1,o,h2,h3⟩:=mem_ready.1 hi
  have h2':l[i]? =some o:=by simpa using h2
  have hlt:i<l.length:=(List.getElem?_eq_some_iff.1 h2').1
  have hun:∀j,listed.getD j false=true→j≠i:=by
   rintro j hj rfl
   have:=getD_both h1
   rw [this] at hj
   cases hj
  have hd:=(growG_at hB h2').1
  have hvi:∀v,updV vs i v i=v:=fun v=>if_pos rfl
  have hvn:∀v j,j≠i→updV vs i v j=vs j:=fun v j hj=>if_neg hj
  have hset:∀j,(listed.setIfInBounds i true).getD j false=true→j=i∨(j≠i∧listed.getD j false=true):=fun j hl=>by
   by_cases e:j=i
   ·exact .inl e
   ·rw [getD_set_ne false (fun h=>e h.symm)] at hl
    exact .inr ⟨e,hl⟩
  have hkeep:∀j,listed.getD j false=true→(listed.setIfInBounds i true).getD j false=true:=fun j hl=>by
   rw [getD_set_ne false (fun h=>hun j hl h.symm)]
   exact hl
  have hK:∀(v:Value) (w'':World),Below w'.heap.size w' w''→R i v w''→growJ l a w R (listed.setIfInBounds i true) ((puts a (dstAt l) vs l.length).put o.dst v) w'':=by
   intro v w'' hb2 hr
   refine ⟨by simp [hsz],?_,updV vs i v,by rw [hd];exact puts_put hinj hD hlt,hb.st hb2,?_⟩
   ·intro j oj hj hl e he hb'
    rcases hset j hl with rfl|⟨hji,hl'⟩
    ·rw [h2'] at hj
     cases hj
     exact hkeep _ (h3 e he hb')
    ·exact hkeep _ (hcl j oj hj hl' e he hb')
   ·intro j hj hl
    rcases hset j hl with rfl|⟨hji,hl'⟩
    ·rw [hvi]
     exact hr
    ·rw [hvn v j hji]
     exact hmono _ _ _ _ hb2 (hR j hj hl')
  have hop':=opsAll_get l 0 hop i o h2'
  rw [Nat.zero_add] at hop'
  have hdeps:∀j,depB l i j=true→R j ((puts a (dstAt l) vs l.length).tmps.getD (dstAt l j) undef) w':=by
   intro j hj
   unfold depB at hj
   simp only [h2'] at hj
   obtain ⟨e,he,k2⟩:=List.any_eq_true.1 hj
   simp only [Bool.and_eq_true,beq_iff_eq] at k2
   have h5:=hord i o h2' e (Array.mem_toList_iff.1 he) k2.1
   have h4:=h3 e (Array.mem_toList_iff.1 he) k2.1
   rw [k2.2] at h5 h4
   rw [hon vs j (by omega)]
   exact hR j (by omega) h4
  unfold wpOp
  simp only [h2]
  rcases hop' _ w' hb hdeps (fun t ht=>hoff vs t ht) (growJ l a w R (listed.setIfInBounds i true)) hK with ⟨hw,h⟩|⟨hw,h⟩
  ·rw [if_pos hw]
   exact .inl h
  ·rw [if_neg (by rw [show Region.wanted o (yielded l.toArray (puts a (dstAt l) vs l.length).tmps)=false from hw];simp)]
   exact h
 ·rintro listed a' w' ⟨hsz,hcl,vs,rfl,hb,hR⟩ hr
  have hall:∀d i,i=d→i<l.length→listed.getD i false=true:=by
   intro d
   induction d using Nat.strongRecOn with
   |_ d ih=>
    rintro i rfl hi
    cases hl:listed.getD i false with
    |true=>rfl
    |false=>
     have hin:i∈Region.ready .any l.toArray listed:=by
      refine mem_ready.2 ⟨Go.getD_in (by omega) hl,l[i],by simp [hi],fun e he hb'=>?_⟩
      have h6:=hord i l[i] (List.getElem?_eq_getElem hi) e he hb'
      exact ih e.on h6 e.on rfl (by omega)
     rw [hr] at hin
     cases hin
  exact hend vs w' hb (fun i hi=>hR i hi (hall i i rfl hi))
end
end Go.Proofs.YteaaapdjplbljaaGreat
end
section
namespace Go.Proofs.YteaaapdjplbljaaGreat
open Go Go.Proofs Go.RowKit
section
variable {a:Act} {P:Program} {Q:Exit→Act→World→Prop} {w:World}
def growJs (l:List Oper) (n:Nat) (a:Act) (w:World) (R:Nat→Value→List Nat→World→Prop) (Qn:Act→World→Prop) (listed:Array Bool) (a':Act) (w':World):Prop:=
 listed.size=n+1∧((listed.getD n false=false∧(∀i o,i<n→l[i]? =some o→listed.getD i false=true→∀e∈o.after,Region.binds .any e=true→listed.getD e.on false=true)∧
  ∃(vs:Nat→Value) (gs:Nat→List Nat),a'=puts a (dstAt l) vs n∧Below w.heap.size w w'∧(∀i,i<n→listed.getD i false=true→R i (vs i) (gs i) w')∧(∀i,i<n→listed.getD i false=true→∀k∈gs i,w.heap.size≤k∧k<w'.heap.size)∧
   ∀i j k,i<n→j<n→listed.getD i false=true→listed.getD j false=true→i≠j→k∈gs i→k∉gs j)∨((∀i,i<n+1→listed.getD i false=true)∧Qn a' w'))
theorem wp_region_grows_s {id:Nat} {l:List Oper} (n:Nat) (st:Oper) (hst:l=l.take n++[st]) (hln:(l.take n).length=n) (R:Nat→Value→List Nat→World→Prop) (hm:P.follows .mixedOrders=true) (hB:growG (l.take n) a.tmps.size=true) (hS:lastB l n st=true)
  (hmono:∀i v g w w',Below w.heap.size w w'→R i v g w→R i v g w')
  (hop:opsAll (fun i o=>∀(act:Act) (gs:Nat→List Nat) w',Below w.heap.size w w'→(∀j,depB l i j=true→R j (act.tmps.getD (dstAt l j) undef) (gs j) w')→(∀j j' k,depB l i j=true→depB l i j'=true→j≠j'→k∈gs j→k∉gs j')→(∀t,offB l n t=true→act.tmps.getD t undef=a.tmps.getD t undef)→
   ∀K:Act→World→Prop,(∀v g w'',Below w'.heap.size w' w''→R i v g w''→(∀k∈g,w'.heap.size≤k∧k<w''.heap.size)→K (act.put o.dst v) w'')→(Goes l act o true∧o.wp P act w' K Q)∨(Goes l act o false∧K (act.put o.dst undef) w')) 0 (l.take n))
  (hend:∀(vs:Nat→Value) (gs:Nat→List Nat) act w',Below w.heap.size w w'→(∀i,i<n→R i (vs i) (gs i) w')→(∀i k,i<n→k∈gs i→w.heap.size≤k∧k<w'.heap.size)→(∀i j k,i<n→j<n→i≠j→k∈gs i→k∉gs j)→(∀j,j<n→act.tmps.getD (dstAt l j) undef=vs j)→(∀t,offB l n t=true→act.tmps.getD t undef=a.tmps.getD t undef)→act=puts a (dstAt l) vs n→st.wp P act w' (fun a' w'=>Q .normal a' w') Q):(Code.region id l.toArray true).wp P Q a w:=by
 have hlen:l.length=n+1:=by rw [hst,List.length_append,hln];rfl
 have hat:∀i,i<n→l[i]? =(l.take n)[i]?:=fun i hi=>by rw [List.getElem?_take_of_lt hi]
 have hda:∀i,i<n→dstAt l i=dstAt (l.take n) i:=fun i hi=>by unfold dstAt;rw [hat i hi]
 have hatn:l[n]? =some st:=by rw [hst,List.getElem?_append_right (by omega),hln,Nat.sub_self];rfl
 have hg:=fun i (hi:i<n)=>growG_at hB (List.getElem?_eq_getElem (show i<(l.take n).length by omega))
 have hD:∀i,i<n→dstAt l i<a.tmps.size:=fun i hi=>by rw [hda i hi];exact (hg i hi).2.1
 have hinj:∀i j,i<n→j<n→dstAt l i=dstAt l j→i=j:=fun i j hi hj e=>by
  rw [hda i hi,hda j hj] at e
  rcases Nat.lt_trichotomy i j with k|k|k
  ·exact absurd e ((hg j hj).2.2.2 i k)
  ·exact k
  ·exact absurd e.symm ((hg i hi).2.2.2 j k)
 have hord:∀i o,i<n→l[i]? =some o→∀e∈o.after,Region.binds .any e=true→e.on<i:=fun i o hi ho=>(growG_at hB ((hat i hi).symm.trans ho)).2.2.1
 have hon:∀vs j,j<n→(puts a (dstAt l) vs n).tmps.getD (dstAt l j) undef=vs j:=fun vs j hj=>by
  rw [Array.getD_eq_getD_getElem?,puts_on hinj hj (hD j hj)]
  rfl
 have hoff:∀vs t,offB l n t=true→(puts a (dstAt l) vs n).tmps.getD t undef=a.tmps.getD t undef:=fun vs t ht=>by
  rw [Array.getD_eq_getD_getElem?,Array.getD_eq_getD_getElem?,puts_off (fun i hi e=>by
   have:=List.all_eq_true.1 ht i (List.mem_range.2 hi)
   simp [e] at this)]
 unfold lastB at hS
 simp only [Bool.and_eq_true] at hS
 obtain ⟨⟨s1,s2⟩,s3⟩:=hS
 have hsd:∀e∈st.after,Region.binds .any e=true→e.on<n:=fun e he hb=>by
  rw [Array.all_eq_true_iff_forall_mem] at s2
  have:=s2 e he
  rw [hb] at this
  simpa using this
 have hwait:∀i,i<n→∃j,i<j∧j≤n∧∃o,l[j]? =some o∧∃e∈o.after,Region.binds .any e=true∧e.on=i:=fun i hi=>by
  have k1:=List.all_eq_true.1 s3 i (List.mem_range.2 hi)
  obtain ⟨j,hj,k2⟩:=List.any_eq_true.1 k1
  simp only [Bool.and_eq_true,decide_eq_true_eq] at k2
  obtain ⟨o,ho,k3⟩:=Region.waitsFor_spec k2.2
  exact ⟨j,k2.1,by have:=List.mem_range.1 hj;omega,o,by simpa using ho,k3⟩
 have ha:=puts_of (a:=a) (a':=a) hinj rfl rfl hD (fun _ _=>rfl)
 refine wp_region_inv hm (growJs l n a w R (Q .normal)) ?_ ?_ ?_
 ·have hz:∀i,¬(Array.replicate l.toArray.size false).getD i false=true:=fun i k=>by
   rw [getD_replicate_false] at k
   cases k
  refine ⟨by simp [hlen],.inl ⟨?_,fun i o _ _ k=>absurd k (hz i),_,fun _=>[],ha,(Below.refl _ w).drew,fun i _ k=>absurd k (hz i),fun i _ k=>absurd k (hz i),fun i j k _ _ h=>absurd h (hz i)⟩⟩
  cases k:(Array.replicate l.toArray.size false).getD n false with
  |false=>rfl
  |true=>exact absurd k (hz n)
 ·rintro listed a' w' i ⟨hsz,h1|⟨hall,-⟩⟩ hi
  ·obtain ⟨hn0,hcl,vs,gs,rfl,hb,hR,hF,hN⟩:=h1
   obtain ⟨h1,o,h2,h3⟩:=mem_ready.1 hi
   have h2':l[i]? =some o:=by simpa using h2
   have hlt:i<n+1:=by have:=(List.getElem?_eq_some_iff.1 h2').1;omega
   have hun:∀j,listed.getD j false=true→j≠i:=by
    rintro j hj rfl
    have:=getD_both h1
    rw [this] at hj
    cases hj
   by_cases hin:i<n
   ·have h2h:(l.take n)[i]? =some o:=(hat i hin).symm.trans h2'
    have hdo:o.dst=some (dstAt l i):=by rw [hda i hin];exact (growG_at hB h2h).1
    have hset:∀j,(listed.setIfInBounds i true).getD j false=true→j=i∨(j≠i∧listed.getD j false=true):=fun j hl=>by
     by_cases e:j=i
     ·exact .inl e
     ·rw [getD_set_ne false (fun k=>e k.symm)] at hl
      exact .inr ⟨e,hl⟩
    have hkeep:∀j,listed.getD j false=true→(listed.setIfInBounds i true).getD j false=true:=fun j hl=>by
     rw [getD_set_ne false (fun k=>hun j hl k.symm)]
     exact hl
    have hK:∀(v:Value) (g:List Nat) (w'':World),Below w'.heap.size w' w''→R i v g w''→(∀k∈g,w'.heap.size≤k∧k<w''.heap.size)→growJs l n a w R (Q .normal) (listed.setIfInBounds i true) ((puts a (dstAt l) vs n).put o.dst v) w'':=by
     intro v g w'' hb2 hr hf
     obtain ⟨gs2,hgs⟩:∃gs2:Nat→List Nat,gs2=fun j=>if j=i then g else gs j:=⟨_,rfl⟩
     have hgi:gs2 i=g:=by rw [hgs];exact if_pos rfl
     have hgn:∀j,j≠i→gs2 j=gs j:=fun j hj=>by rw [hgs];exact if_neg hj
     have hsz2:=hb2.size
     refine ⟨by simp [hsz],.inl ⟨by rw [getD_set_ne false (by omega)];exact hn0,?_,updV vs i v,gs2,by rw [hdo];exact puts_put hinj hD hin,hb.st hb2,?_,?_,?_⟩⟩
     ·intro j oj hjn hj hl e he hb'
      rcases hset j hl with rfl|⟨hji,hl'⟩
      ·rw [h2'] at hj
       cases hj
       exact hkeep _ (h3 e he hb')
      ·exact hkeep _ (hcl j oj hjn hj hl' e he hb')
     ·intro j hj hl
      rcases hset j hl with rfl|⟨hji,hl'⟩
      ·rw [show updV vs j v j=v from if_pos rfl,hgi]
       exact hr
      ·rw [show updV vs i v j=vs j from if_neg hji,hgn j hji]
       exact hmono _ _ _ _ _ hb2 (hR j hj hl')
     ·intro j hj hl k hk
      rcases hset j hl with rfl|⟨hji,hl'⟩
      ·rw [hgi] at hk
       have:=hf k hk
       have:=hb.size
       exact ⟨by omega,by omega⟩
      ·rw [hgn j hji] at hk
       have:=hF j hj hl' k hk
       exact ⟨this.1,by omega⟩
     ·intro j1 j2 k hj1 hj2 hl1 hl2 hne hk1 hk2
      rcases hset j1 hl1 with rfl|⟨hji1,hl1'⟩<;>rcases hset j2 hl2 with e2|⟨hji2,hl2'⟩
      ·exact absurd e2.symm hne
      ·rw [hgi] at hk1
       rw [hgn j2 hji2] at hk2
       have:=hf k hk1
       have:=hF j2 hj2 hl2' k hk2
       omega
      ·subst e2
       rw [hgi] at hk2
       rw [hgn j1 hji1] at hk1
       have:=hf k hk2
       have:=hF j1 hj1 hl1' k hk1
       omega
      ·rw [hgn j1 hji1] at hk1
       rw [hgn j2 hji2] at hk2
       exact hN j1 j2 k hj1 hj2 hl1' hl2' hne hk1 hk2
    have hopi:=opsAll_get (l.take n) 0 hop i o h2h
    rw [Nat.zero_add] at hopi
    have hdl:∀j,depB l i j=true→j<i∧listed.getD j false=true:=by
     intro j hj
     unfold depB at hj
     simp only [h2'] at hj
     obtain ⟨e,he,k2⟩:=List.any_eq_true.1 hj
     simp only [Bool.and_eq_true,beq_iff_eq] at k2
     have h5:=hord i o hin h2' e (Array.mem_toList_iff.1 he) k2.1
     have h4:=h3 e (Array.mem_toList_iff.1 he) k2.1
     rw [k2.2] at h5 h4
     exact ⟨h5,h4⟩
    have hdeps:∀j,depB l i j=true→R j ((puts a (dstAt l) vs n).tmps.getD (dstAt l j) undef) (gs j) w':=by
     intro j hj
     obtain ⟨h5,h4⟩:=hdl j hj
     rw [hon vs j (by omega)]
     exact hR j (by omega) h4
    have hdis:∀j j' k,depB l i j=true→depB l i j'=true→j≠j'→k∈gs j→k∉gs j':=fun j j' k hj hj' hne hk=>by
     obtain ⟨h5,h4⟩:=hdl j hj
     obtain ⟨h6,h7⟩:=hdl j' hj'
     exact hN j j' k (by omega) (by omega) h4 h7 hne hk
    unfold wpOp
    simp only [h2]
    rcases hopi _ gs w' hb hdeps hdis (fun t ht=>hoff vs t ht) (growJs l n a w R (Q .normal) (listed.setIfInBounds i true)) hK with ⟨hw,h⟩|⟨hw,h⟩
    ·rw [if_pos hw]
     exact .inl h
    ·rw [if_neg (by rw [show Region.wanted o (yielded l.toArray (puts a (dstAt l) vs n).tmps)=false from hw];simp)]
     exact h
   ·obtain rfl:i=n:=by omega
    have ho:o=st:=Option.some.inj (h2'.symm.trans hatn)
    subst ho
    have hall:∀d j,i-j=d→j<i→listed.getD j false=true:=by
     intro d
     induction d using Nat.strongRecOn with
     |_ d ih=>
      intro j hd hj
      obtain ⟨k,k1,k2,ok,k3,e,he,hb',rfl⟩:=hwait j hj
      by_cases hk:k=i
      ·subst hk
       rw [h2'] at k3
       cases k3
       exact h3 e he hb'
      ·exact hcl k ok (by omega) k3 (ih (i-k) (by omega) k rfl (by omega)) e he hb'
    unfold wpOp
    simp only [h2]
    rw [if_pos (by simp [Region.wanted,Option.isNone_iff_eq_none.1 s1])]
    refine .inl (Oper.wp_mono (fun a1 w1 hq=>?_) (hend vs gs _ w' hb (fun j hj=>hR j hj (hall _ j rfl hj)) (fun j k hj hk=>hF j hj (hall _ j rfl hj) k hk) (fun j1 j2 k h1 h2=>hN j1 j2 k h1 h2 (hall _ j1 rfl h1) (hall _ j2 rfl h2)) (fun j hj=>hon vs j hj) (fun t ht=>hoff vs t ht) rfl))
    refine ⟨by simp [hsz],.inr ⟨fun j hj=>?_,hq⟩⟩
    by_cases e:j=i
    ·subst e
     rw [Array.getD_eq_getD_getElem?,Array.getElem?_setIfInBounds_self_of_lt (by omega)]
     rfl
    ·rw [getD_set_ne false (fun k=>e k.symm)]
     exact hall _ j rfl (by omega)
  ·obtain ⟨h1,o,h2,h3⟩:=mem_ready.1 hi
   have h2':l[i]? =some o:=by simpa using h2
   have hlt:i<n+1:=by have:=(List.getElem?_eq_some_iff.1 h2').1;omega
   have:=hall i hlt
   rw [getD_both h1] at this
   cases this
 ·rintro listed a' w' ⟨hsz,h1|⟨-,hq⟩⟩ hr
  ·obtain ⟨hn0,hcl,vs,gs,rfl,hb,hR,hF,hN⟩:=h1
   exfalso
   have hall:∀d i,i=d→i<n+1→listed.getD i false=true:=by
    intro d
    induction d using Nat.strongRecOn with
    |_ d ih=>
     rintro i rfl hi
     cases hl:listed.getD i false with
     |true=>rfl
     |false=>
      have hin:i∈Region.ready .any l.toArray listed:=by
       refine mem_ready.2 ⟨Go.getD_in (by omega) hl,l[i]'(by omega),by simp [hlen,hi],fun e he hb'=>?_⟩
       have h6:e.on<i:=by
        by_cases k:i<n
        ·exact hord i _ k (List.getElem?_eq_getElem (by omega)) e he hb'
        ·obtain rfl:i=n:=by omega
         have h8:l[i]'(by omega)=st:=Option.some.inj ((List.getElem?_eq_getElem (by omega)).symm.trans hatn)
         rw [h8] at he
         exact hsd e he hb'
       exact ih e.on h6 e.on rfl (by omega)
      rw [hr] at hin
      cases hin
   have:=hall n n rfl (by omega)
   rw [hn0] at this
   cases this
  ·exact hq
def valR (vals:List Value) (i:Nat) (v:Value) (_:List Nat) (_:World):Prop:=v=vals.getD i undef
theorem valR_go {vals:List Value}:∀(i:Nat) (v:Value) (g:List Nat) (w w':World),Below w.heap.size w w'→valR vals i v g w→valR vals i v g w':=fun _ _ _ _ _ _ h=>h
end
end Go.Proofs.YteaaapdjplbljaaGreat
end
