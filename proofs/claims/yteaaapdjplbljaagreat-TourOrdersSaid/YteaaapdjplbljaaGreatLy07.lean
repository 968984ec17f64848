/- The order in which the nearest stop comes next each time, in plain Lean. Orders of stops as tours: what an order weighs, that the nearest one has each stop once, and that none is nearer. In plain Lean. Walk of tour.Near: faults. A region whose operations come in any order, each of which changes memory in its own way, the last of which may assign what earlier ones read, the frame unseen. -/
import Derived.Test.YteaaapdjplbljaaGreatLyS
import Derived.Test.YteaaapdjplbljaaGreatLy01
import Derived.Test.YteaaapdjplbljaaGreatLy06
import Derived.Test.YteaaapdjplbljaaGreatLw34
import Derived.Test.YteaaapdjplbljaaGreatProg
import Derived.Test.YteaaapdjplbljaaGreatLy02
set_option linter.unusedVariables false
set_option linter.unusedSimpArgs false
set_option linter.unnecessarySimpa false
section
namespace Go.Proofs.YteaaapdjplbljaaGreat.To
open Go.Proofs.YteaaapdjplbljaaGreat
def tpickF (d:Nat→Int) (out:List Nat):Nat→Option Nat×Int
 |0=>(none,4611686018427387904)
 |k+1=>if d k<(tpickF d out k).2∧k∉out then (some k,d k) else tpickF d out k
theorem pick_spec (d:Nat→Int) (out:List Nat):∀k,(tpickF d out k).2≤4611686018427387904∧(match (tpickF d out k).1 with
  |none=>(tpickF d out k).2=4611686018427387904
  |some b=>b<k∧b∉out∧(tpickF d out k).2=d b∧d b<4611686018427387904)
 |0=>⟨Int.le_refl _,rfl⟩
 |k+1=>by
  obtain ⟨h1,h2⟩:=pick_spec d out k
  unfold tpickF
  by_cases h:d k<(tpickF d out k).2∧k∉out
  ·rw [if_pos h]
   exact ⟨by show d k≤_;omega,Nat.lt_succ_self _,h.2,rfl,by omega⟩
  ·rw [if_neg h]
   refine ⟨h1,?_⟩
   cases hp:(tpickF d out k).1 with
   |none=>rw [hp] at h2;exact h2
   |some b=>
    rw [hp] at h2
    exact ⟨by have:=h2.1;omega,h2.2⟩
theorem pick_ref (d:Nat→Int) (out:List Nat) (k:Nat):tpickF d out (k+1)=if k∉out∧d k<4611686018427387904∧((tpickF d out k).1=none∨∃b,(tpickF d out k).1=some b∧d k<d b) then (some k,d k) else tpickF d out k:=by
 obtain ⟨h1,h2⟩:=pick_spec d out k
 rw [tpickF]
 congr 1
 cases hp:(tpickF d out k).1 with
 |none=>
  rw [hp] at h2
  simp only at h2
  rw [h2]
  simp [And.comm]
 |some b=>
  rw [hp] at h2
  obtain ⟨_,_,h3,h4⟩:=h2
  rw [h3,eq_iff_iff]
  constructor
  ·rintro ⟨h5,h6⟩
   exact ⟨h6,by omega,.inr ⟨b,rfl,h5⟩⟩
  ·rintro ⟨h5,h6,h7|⟨b',h7,h8⟩⟩
   ·cases h7
   ·cases h7
    exact ⟨h8,h5⟩
def tnearF (c:Nat→Nat→Int) (m:Nat):Nat→Nat→List Nat→Int→Option (List Nat×Int)
 |0,_,out,sum=>some (out,sum)
 |r+1,u,out,sum=>match (tpickF (fun i=>c u (i+2)) out m).1 with
  |some b=>tnearF c m r (b+2) (out++[b]) (sum+c u (b+2))
  |none=>none
end Go.Proofs.YteaaapdjplbljaaGreat.To
end
section
namespace Go.Proofs.YteaaapdjplbljaaGreat
open Go Go.Proofs Go.RowKit Go.Shelf Go.Proofs.YteaaapdjplbljaaGreat.Hp Go.Proofs.YteaaapdjplbljaaGreat.Ch Go.Proofs.YteaaapdjplbljaaGreat.To
theorem legSum_cons {D:Int→Int→Int} {x y:Int} {l:List Int}:∀k,legSum D (x::y::l) (k+1)=D x y+legSum D (y::l) k
 |0=>by simp [legSum]
 |k+1=>by
  have:=legSum_cons (D:=D) (x:=x) (y:=y) (l:=l) k
  show legSum D (x::y::l) (k+1)+D ((x::y::l).getD (k+1) 0) ((x::y::l).getD (k+1+1) 0)=D x y+(legSum D (y::l) k+D ((y::l).getD k 0) ((y::l).getD (k+1) 0))
  rw [this,List.getD_cons_succ,List.getD_cons_succ]
  omega
theorem legsOK_cons {D:Int→Int→Int} {x y:Int} {l:List Int} {k:Nat}:legsOK D (x::y::l) (k+1)↔D x y<4611686018427387904∧legsOK D (y::l) k:=by
 constructor
 ·intro h
  exact ⟨h 0 (by omega),fun j hj=>h (j+1) (by omega)⟩
 ·rintro ⟨h1,h2⟩ j hj
  cases j with
  |zero=>exact h1
  |succ j=>exact h2 j (by omega)
def ordL (all:List Int) (u:Nat) (q:List Nat):List Int:=all.getD u 0::(q.map (fun i=>all.getD (i+2) 0)++[all.getD 1 0])
theorem ordL_length (all:List Int) (u:Nat) (q:List Nat):(ordL all u q).length=q.length+2:=by simp [ordL]
theorem ord_sum {es:List EdgeD} {all:List Int}:∀(q:List Nat) (u:Nat),legSum (distV es) (ordL all u q) (q.length+1)=tailC (cmat es all) u q
 |[],u=>by simp [ordL,legSum,tailC,cmat]
 |i::q,u=>by
  have h:=ord_sum (es:=es) (all:=all) q (i+2)
  show legSum (distV es) (all.getD u 0::all.getD (i+2) 0::(q.map (fun i=>all.getD (i+2) 0)++[all.getD 1 0])) (q.length+1+1)=cmat es all u (i+2)+tailC (cmat es all) (i+2) q
  rw [legSum_cons,←h]
  rfl
theorem ord_ok {es:List EdgeD} {all:List Int}:∀(q:List Nat) (u:Nat),legsOK (distV es) (ordL all u q) (q.length+1)↔tailB (cmat es all) u q=true
 |[],u=>by
  show legsOK (distV es) (all.getD u 0::all.getD 1 0::[]) (0+1)↔_
  rw [legsOK_cons]
  unfold tailB cmat
  rw [decide_eq_true_eq]
  exact ⟨fun h=>h.1,fun h=>⟨h,legsOK.none _ _⟩⟩
 |i::q,u=>by
  have h:=ord_ok (es:=es) (all:=all) q (i+2)
  show legsOK (distV es) (all.getD u 0::all.getD (i+2) 0::(q.map (fun i=>all.getD (i+2) 0)++[all.getD 1 0])) (q.length+1+1)↔(decide (cmat es all u (i+2)<4611686018427387904)&&tailB (cmat es all) (i+2) q)=true
  rw [legsOK_cons,Bool.and_eq_true,decide_eq_true_eq,←h]
  rfl
theorem ord_mem {all:List Int} {u:Nat} {q:List Nat} (hu:u<all.length) (h1:1<all.length) (hq:∀i∈q,i+2<all.length):∀x∈ordL all u q,x∈all:=by
 intro x hx
 have hg:∀i,i<all.length→all.getD i 0∈all:=fun i hi=>by
  rw [List.getD_eq_getElem?_getD,List.getElem?_eq_getElem hi]
  exact List.getElem_mem _
 rcases List.mem_cons.1 hx with rfl|hx
 ·exact hg u hu
 ·rcases List.mem_append.1 hx with hx|hx
  ·obtain ⟨i,hi,rfl⟩:=List.mem_map.1 hx
   exact hg _ (hq i hi)
  ·obtain rfl:=List.mem_singleton.1 hx
   exact hg 1 h1
theorem dist_legs {es:List EdgeD} {all l:List Int} (hD:∀x∈all,∀y∈all,DistT es x y) (hm:∀x∈l,x∈all):∀j,j<l.length-1→DistT es (l.getD j 0) (l.getD (j+1) 0):=by
 intro j hj
 have hg:∀i,i<l.length→l.getD i 0∈l:=fun i hi=>by
  rw [List.getD_eq_getElem?_getD,List.getElem?_eq_getElem hi]
  exact List.getElem_mem _
 exact hD _ (hm _ (hg _ (by omega))) _ (hm _ (hg _ (by omega)))
theorem dist_all {es:List EdgeD} {all:List Int} (h:∀i j,i<all.length→j<all.length→DistT es (all.getD i 0) (all.getD j 0)):∀x∈all,∀y∈all,DistT es x y:=by
 intro x hx y hy
 obtain ⟨i,hi,rfl⟩:=List.getElem_of_mem hx
 obtain ⟨j,hj,rfl⟩:=List.getElem_of_mem hy
 have:=h i j hi hj
 rwa [List.getD_eq_getElem?_getD,List.getElem?_eq_getElem hi,List.getD_eq_getElem?_getD,List.getElem?_eq_getElem hj] at this
theorem cmat_pos {es:List EdgeD} {all:List Int} (hD:∀i j,i<all.length→j<all.length→DistT es (all.getD i 0) (all.getD j 0)):∀i j,i<all.length→j<all.length→0≤cmat es all i j:=fun i j hi hj=>(hD i j hi hj).in.1
def cutC (m:Nat) (c:Nat→Nat→Int) (i j:Nat):Int:=if i<m+2∧j<m+2 then c i j else 0
theorem grow_cut {c:Nat→Nat→Int} {m:Nat}:∀(r u:Nat) (so:List Nat) (sum:Int) (st:List Nat×Int),u<m+2→growF (cutC m c) m r u so sum st=growF c m r u so sum st
 |0,u,so,sum,st,hu=>by
  unfold growF
  rw [show cutC m c u 1=c u 1 from if_pos ⟨hu,by omega⟩]
 |r+1,u,so,sum,st,hu=>by
  unfold growF
  split
  ·rfl
  ·have key:∀(L:List Nat),(∀i∈L,i<m)→∀st:List Nat×Int,L.foldl (fun st i=>if i∈so then st else if cutC m c u (i+2)<4611686018427387904 then growF (cutC m c) m r (i+2) (so++[i]) (sum+cutC m c u (i+2)) st else st) st=L.foldl (fun st i=>if i∈so then st else if c u (i+2)<4611686018427387904 then growF c m r (i+2) (so++[i]) (sum+c u (i+2)) st else st) st:=by
    intro L
    induction L with
    |nil=>intro _ _;rfl
    |cons i L ih=>
     intro hL st
     have hi:=hL i (List.mem_cons_self ..)
     rw [List.foldl_cons,List.foldl_cons,show cutC m c u (i+2)=c u (i+2) from if_pos ⟨hu,by omega⟩,grow_cut r (i+2) _ _ _ (by omega)]
     exact ih (fun j hj=>hL j (List.mem_cons_of_mem _ hj)) _
   exact key _ (fun i hi=>List.mem_range.1 hi) st
theorem tail_cut {c:Nat→Nat→Int} {m:Nat}:∀(q:List Nat) (u:Nat),u<m+2→(∀i∈q,i<m)→tailC (cutC m c) u q=tailC c u q∧tailB (cutC m c) u q=tailB c u q
 |[],u,hu,_=>by
  unfold tailC tailB
  rw [show cutC m c u 1=c u 1 from if_pos ⟨hu,by omega⟩]
  exact ⟨rfl,rfl⟩
 |i::q,u,hu,hq=>by
  have hi:=hq i (List.mem_cons_self ..)
  obtain ⟨h1,h2⟩:=tail_cut (c:=c) (m:=m) q (i+2) (by omega) (fun j hj=>hq j (List.mem_cons_of_mem _ hj))
  have e:cutC m c u (i+2)=c u (i+2):=if_pos ⟨hu,by omega⟩
  constructor
  ·show cutC m c u (i+2)+tailC (cutC m c) (i+2) q=c u (i+2)+tailC c (i+2) q
   rw [e,h1]
  ·show (decide (cutC m c u (i+2)<4611686018427387904)&&tailB (cutC m c) (i+2) q)=(decide (c u (i+2)<4611686018427387904)&&tailB c (i+2) q)
   rw [e,h2]
theorem cutC_pos {c:Nat→Nat→Int} {m:Nat} (h:∀i j,i<m+2→j<m+2→0≤c i j) (i j:Nat):0≤cutC m c i j:=by
 unfold cutC
 split
 ·rename_i h1
  exact h i j h1.1 h1.2
 ·exact Int.le_refl _
theorem grow_best {c:Nat→Nat→Int} {m:Nat} (h:∀i j,i<m+2→j<m+2→0≤c i j):growF c m m 0 [] 0 ([],4611686018427387904)=bestF (cutC m c) m:=by
 rw [←grow_cut m 0 [] 0 _ (by omega),grow_fold (cutC_pos h)]
 rfl
theorem best_spec {c:Nat→Nat→Int} {m:Nat} (h:∀i j,i<m+2→j<m+2→0≤c i j):
  (∀q:List Nat,q.length=m→(∀i∈q,i<m)→q.Nodup→tailB c 0 q=true→(growF c m m 0 [] 0 ([],4611686018427387904)).2≤tailC c 0 q)∧
  ((growF c m m 0 [] 0 ([],4611686018427387904)).2<4611686018427387904→∃q:List Nat,q.length=m∧(∀i∈q,i<m)∧q.Nodup∧tailB c 0 q=true∧growF c m m 0 [] 0 ([],4611686018427387904)=(q,tailC c 0 q)):=by
 rw [grow_best h]
 obtain ⟨-,h2,h3⟩:=fold_least (c:=cutC m c) (u:=0) (tailsF m m []) ([],4611686018427387904)
 have h2:∀q∈tailsF m m [],tailB (cutC m c) 0 q=true→(bestF (cutC m c) m).2≤tailC (cutC m c) 0 q:=h2
 have h3:bestF (cutC m c) m=([],4611686018427387904)∨∃q∈tailsF m m [],tailB (cutC m c) 0 q=true∧bestF (cutC m c) m=(q,tailC (cutC m c) 0 q):=h3
 refine ⟨fun q q1 q2 q3 q4=>?_,fun hlt=>?_⟩
 ·obtain ⟨e1,e2⟩:=tail_cut (c:=c) (m:=m) q 0 (by omega) q2
  have:=h2 q ((mem_tails m [] q).2 ⟨q1,fun i hi=>⟨q2 i hi,by simp⟩,q3⟩) (e2.trans q4)
  rwa [e1] at this
 ·rcases h3 with h3|⟨q,hq,hb,h3⟩
  ·rw [h3] at hlt
   exact absurd hlt (by decide)
  ·obtain ⟨k1,k2,k3⟩:=(mem_tails m [] q).1 hq
   have k4:=fun i hi=>(k2 i hi).1
   obtain ⟨e1,e2⟩:=tail_cut (c:=c) (m:=m) q 0 (by omega) k4
   exact ⟨q,k1,k4,k3,e2.symm.trans hb,by rw [h3,e1]⟩
theorem near_spec {c:Nat→Nat→Int} {m:Nat}:∀(r u:Nat) (out:List Nat) (sum:Int) (q:List Nat×Int),tnearF c m r u out sum=some q→∃p:List Nat,p.length=r∧(∀i∈p,i<m∧i∉out)∧p.Nodup∧q.1=out++p∧
  (∀x:Int,c (p.getLast?.elim u (· +2)) 1=x→x<4611686018427387904→tailB c u p=true∧q.2+x=sum+tailC c u p)
 |0,u,out,sum,q,h=>by
  cases h
  refine ⟨[],rfl,by simp,List.nodup_nil,by simp,fun x hx hlt=>?_⟩
  have hx:c u 1=x:=hx
  exact ⟨by unfold tailB;rw [hx];exact decide_eq_true hlt,by unfold tailC;rw [hx]⟩
 |r+1,u,out,sum,q,h=>by
  unfold tnearF at h
  have hs:=(pick_spec (fun i=>c u (i+2)) out m).2
  cases hp:(tpickF (fun i=>c u (i+2)) out m).1 with
  |none=>rw [hp] at h;cases h
  |some b=>
   rw [hp] at h hs
   obtain ⟨h1,h2,h3,h4⟩:=hs
   obtain ⟨p,p1,p2,p3,p4,p5⟩:=near_spec r (b+2) (out++[b]) (sum+c u (b+2)) q h
   refine ⟨b::p,by rw [List.length_cons,p1],fun i hi=>?_,List.nodup_cons.2 ⟨fun hb=>(p2 b hb).2 (by simp),p3⟩,by rw [p4];simp,fun x hx hlt=>?_⟩
   ·rcases List.mem_cons.1 hi with rfl|hi
    ·exact ⟨h1,h2⟩
    ·exact ⟨(p2 i hi).1,fun k=>(p2 i hi).2 (List.mem_append_left _ k)⟩
   ·have hl:(b::p).getLast?.elim u (· +2)=p.getLast?.elim (b+2) (· +2):=by
     cases p with
     |nil=>rfl
     |cons y p=>rw [List.getLast?_cons_cons];cases hg:(y::p).getLast? with
      |none=>simp at hg
      |some z=>rfl
    obtain ⟨t1,t2⟩:=p5 x (by rw [←hl];exact hx) hlt
    constructor
    ·show (decide (c u (b+2)<4611686018427387904)&&tailB c (b+2) p)=true
     rw [decide_eq_true h4,t1]
     rfl
    ·show q.2+x=sum+(c u (b+2)+tailC c (b+2) p)
     omega
end Go.Proofs.YteaaapdjplbljaaGreat
end
section
namespace Go.Proofs.YteaaapdjplbljaaGreat
open Go Go.Proofs Go.RowKit Go.Shelf Go.Proofs.YteaaapdjplbljaaGreat.Hp Go.Proofs.YteaaapdjplbljaaGreat.Ch Go.Proofs.YteaaapdjplbljaaGreat.To
theorem lit_own1 (w:World) (a:Value) (T:TypeId) (B:Nat) (hB:B≤w.heap.size):(w.alloc (Obj.cells #[a] T)).ownsRow B T 1 (.slice (some ⟨w.heap.size,0,none⟩) 1 1) 1 [a]:=
 ⟨rfl,.inr ⟨w.heap.size,1,#[a],rfl,hB,heap_alloc_new w _,by decide,by decide,rfl,rfl⟩⟩
set_option maxRecDepth 100000 in
set_option maxHeartbeats 2000000 in
theorem trNear_bad (hv:Value) (k:Int) (hk:k≠0) (s:Int) (l:List Int) (ao:Option Addr) (cap:Nat) (w:World) (hc:Cel w ao (l.map encI)) (hl:l.length≤50)
  (hr:∀a c W,Below w.heap.size w W→Cel W a ((s::l).map encI)→Calls Tryz.prog 60 #[hv,.slice a (s::l).length c] W fun e w'=>e=.returned (.int .i64 k)∧Below W.heap.size W w'):
  Calls Tryz.prog 22 #[hv,.int .i64 s,.slice ao l.length cap] w fun e w'=>e=.returned (.tuple #[.slice none 0 0,.int .u64 0,.int .i64 k])∧Below w.heap.size w w':=by
 have hb1:Below w.heap.size w (w.alloc (Obj.cells #[.int .i64 s] 3)):=Below.of_al _ _
 obtain ⟨a2,c2,w2,hr2,ho2,hb2⟩:=run_appAll (P:=Tryz.prog) (w:=w.alloc (Obj.cells #[.int .i64 s] 3)) 25 25 w.heap.size 3 _ 8 elem_int Tryz.underlying25 (some ⟨w.heap.size,0,none⟩) 1 1 [.int .i64 s] (lit_own1 _ _ _ _ (Nat.le_refl _)) ao l.length cap (l.map encI) (hc.go hb1) (fun u hu=>by obtain ⟨x,_,rfl⟩:=List.mem_map.1 hu;rfl) ⟨by simp,by omega,by omega,hb1.size⟩
 have hc2:Cel w2 a2 ((s::l).map encI):=by
  obtain ⟨a',c',e,h⟩:=Cel.of_owns ho2
  cases e
  exact h
 rw [show 1+l.length=(s::l).length by simp;omega] at hr2
 have HR2:=Lib.hid hr2
 have HB2:=Lib.hid (hb1.trans hb2)
 have HR:=Lib.hid (hr a2 c2 w2 (hb1.trans hb2) hc2)
 have hk1:(k != 0)=true:=by simpa using hk
 clear hr2 hr hc hc2 ho2 hb2 hb1 hk
 generalize (s::l).length=n at*
 go_enter Tryz.func22,Tryz.ntmps22
 go_wp2_with (first
  |(at_builtin;refine Lib.wpList_append_run _ rfl _ _ _ _ rfl _ _ rfl rfl _ _ HR2.out ?_)
  |(go_at_call 60;refine HR.out.mono ?_;rintro e w3 ⟨rfl,hb3⟩;(have HB3:=Lib.hid (HB2.out.st hb3));clear hb3))
 refine bodyPost_ret (v:=.tuple #[.slice none 0 0,.int .u64 0,.int .i64 k]) (by simp [results,Tryz.results22,go_sem];try rfl) rfl ?_
 exact ⟨rfl,HB3.out⟩
end Go.Proofs.YteaaapdjplbljaaGreat
end
section
namespace Go.Proofs.YteaaapdjplbljaaGreat
open Go Go.Proofs Go.RowKit
section
variable {a:Act} {P:Program} {Q:Exit→Act→World→Prop} {w:World}
def reachB (l:List Oper) (i:Nat):Nat→Nat→Bool
 |0,j=>j==i
 |f+1,j=>j==i||(match l[j]? with|some o=>o.after.toList.any fun e=>Region.binds .any e&&reachB l i f e.on|none=>false)
def offI (l:List Oper) (n i t:Nat):Bool:=(List.range n).all fun j=>!(dstAt l j==t)||reachB l i n j
theorem reachB_listed {l:List Oper} {i:Nat} {listed:Array Bool} (hcl:∀k o,l[k]? =some o→listed.getD k false=true→∀e∈o.after,Region.binds .any e=true→listed.getD e.on false=true):∀f j,reachB l i f j=true→listed.getD j false=true→listed.getD i false=true
 |0,j,h,hj=>by
  unfold reachB at h
  rw [beq_iff_eq] at h
  exact h▸hj
 |f+1,j,h,hj=>by
  unfold reachB at h
  simp only [Bool.or_eq_true,beq_iff_eq] at h
  rcases h with h|h
  ·exact h▸hj
  ·cases hl:l[j]? with
   |none=>rw [hl] at h;cases h
   |some o=>
    rw [hl] at h
    obtain ⟨e,he,h2⟩:=List.any_eq_true.1 h
    simp only [Bool.and_eq_true] at h2
    exact reachB_listed hcl f e.on h2.2 (hcl j o hl hj e (Array.mem_toList_iff.1 he) h2.1)
def growJu (l:List Oper) (n:Nat) (a:Act) (w:World) (R:Nat→Value→World→Prop) (m:Nat) (T:Bool→World→World→Prop) (listed:Array Bool) (a':Act) (w':World):Prop:=
 listed.size=n∧(∀i o,l[i]? =some o→listed.getD i false=true→∀e∈o.after,Region.binds .any e=true→listed.getD e.on false=true)∧
  ∃vs:Nat→Value,a'=puts a (dstAt l) vs n∧T (listed.getD m false) w w'∧(∀i,i<n→listed.getD i false=true→R i (vs i) w')∧∀i,i<n→listed.getD i false=false→vs i=a.tmps.getD (dstAt l i) undef
theorem wp_region_any {id:Nat} {l:List Oper} (n:Nat) (hln:l.length=n) (R:Nat→Value→World→Prop) (G:Nat→World→World→Prop) (m:Nat) (hmn:m<n) (T:Bool→World→World→Prop)
  (hm:P.follows .mixedOrders=true) (hB:growG l a.tmps.size=true)
  (hT0:T false w w.drew) (hTt:∀i b w' w'',T b w w'→(i=m→b=false)→G i w' w''→T (b||decide (i=m)) w w'') (hmono:∀i j v b w' w'',i≠j→reachB l i n j=false→T b w w'→G i w' w''→R j v w'→R j v w'')
  (hop:opsAll (fun i o=>∀(act:Act) w' b,(i=m→b=false)→T b w w'→(∀j,depB l i j=true→R j (act.tmps.getD (dstAt l j) undef) w')→(∀t,offI l n i t=true→act.tmps.getD t undef=a.tmps.getD t undef)→
   ∀K:Act→World→Prop,(∀v w'',G i w' w''→R i v w''→K (act.put o.dst v) w'')→(Goes l act o true∧o.wp P act w' K Q)∨(Goes l act o false∧K (act.put o.dst undef) w')) 0 l)
  (hend:∀(vs:Nat→Value) act w',T true w w'→(∀i,i<n→R i (vs i) w')→(∀j,j<n→act.tmps.getD (dstAt l j) undef=vs j)→(∀t,offB l n t=true→act.tmps.getD t undef=a.tmps.getD t undef)→act=puts a (dstAt l) vs n→Q .normal act w'):(Code.region id l.toArray true).wp P Q a w:=by
 have hg:=fun i (hi:i<n)=>growG_at hB (List.getElem?_eq_getElem (show i<l.length by omega))
 have hD:∀i,i<n→dstAt l i<a.tmps.size:=fun i hi=>(hg i hi).2.1
 have hinj:∀i j,i<n→j<n→dstAt l i=dstAt l j→i=j:=fun i j hi hj e=>by
  rcases Nat.lt_trichotomy i j with k|k|k
  ·exact absurd e ((hg j hj).2.2.2 i k)
  ·exact k
  ·exact absurd e.symm ((hg i hi).2.2.2 j k)
 have hord:∀i o,l[i]? =some o→∀e∈o.after,Region.binds .any e=true→e.on<i:=fun i o ho=>(growG_at hB ho).2.2.1
 have hon:∀vs j,j<n→(puts a (dstAt l) vs n).tmps.getD (dstAt l j) undef=vs j:=fun vs j hj=>by
  rw [Array.getD_eq_getD_getElem?,puts_on hinj hj (hD j hj)]
  rfl
 have hoff:∀vs t,offB l n t=true→(puts a (dstAt l) vs n).tmps.getD t undef=a.tmps.getD t undef:=fun vs t ht=>by
  rw [Array.getD_eq_getD_getElem?,Array.getD_eq_getD_getElem?,puts_off (fun i hi e=>by
   have:=List.all_eq_true.1 ht i (List.mem_range.2 hi)
   simp [e] at this)]
 have ha:=puts_of (a:=a) (a':=a) hinj rfl rfl hD (fun _ _=>rfl)
 have hsetl:∀(listed:Array Bool) i j,listed.size=n→i<n→(listed.setIfInBounds i true).getD j false=if j=i then true else listed.getD j false:=fun listed i j hsz hi=>by
  by_cases e:j=i
  ·subst e
   rw [if_pos rfl,Array.getD_eq_getD_getElem?,Array.getElem?_setIfInBounds_self_of_lt (by omega)]
   rfl
  ·rw [if_neg e,getD_set_ne false (fun k=>e k.symm)]
 refine wp_region_inv hm (growJu l n a w R m T) ?_ ?_ ?_
 ·have hz:∀i,(Array.replicate l.toArray.size false).getD i false=false:=fun i=>getD_replicate_false ..
  exact ⟨by simp [hln],fun i o _ k=>(by rw [hz i] at k;cases k),_,ha,by rw [hz m];exact hT0,fun i _ k=>(by rw [hz i] at k;cases k),fun i _ _=>by first|rfl|simp [Array.getD_eq_getD_getElem?]⟩
 ·rintro listed a' w' i ⟨hsz,hcl,vs,rfl,hb,hR,hU⟩ hi
  obtain ⟨h1,o,h2,h3⟩:=mem_ready.1 hi
  have h2':l[i]? =some o:=by simpa using h2
  have hin:i<n:=by have:=(List.getElem?_eq_some_iff.1 h2').1;omega
  have hun:listed.getD i false=false:=getD_both h1
  have hdo:o.dst=some (dstAt l i):=(growG_at hB h2').1
  have hK:∀(v:Value) (w'':World),G i w' w''→R i v w''→growJu l n a w R m T (listed.setIfInBounds i true) ((puts a (dstAt l) vs n).put o.dst v) w'':=by
   intro v w'' hb2 hr
   refine ⟨by simp [hsz],?_,updV vs i v,by rw [hdo];exact puts_put hinj hD hin,?_,?_,?_⟩
   ·intro j oj hj hl e he hb'
    rw [hsetl _ _ _ hsz hin] at hl ⊢
    split
    ·rfl
    ·by_cases hji:j=i
     ·subst hji
      rw [h2'] at hj
      cases hj
      exact h3 e he hb'
     ·rw [if_neg hji] at hl
      exact hcl j oj hj hl e he hb'
   ·have h9:=hTt i _ _ _ hb (fun e=>by rw [←e];exact hun) hb2
    rw [hsetl _ _ _ hsz hin]
    by_cases e:m=i
    ·rw [if_pos e]
     rwa [decide_eq_true e.symm,Bool.or_true] at h9
    ·rw [if_neg e]
     rwa [decide_eq_false (fun k=>e k.symm),Bool.or_false] at h9
   ·intro j hj hl
    rw [hsetl _ _ _ hsz hin] at hl
    by_cases hji:j=i
    ·subst hji
     rw [show updV vs j v j=v from if_pos rfl]
     exact hr
    ·rw [if_neg hji] at hl
     rw [show updV vs i v j=vs j from if_neg hji]
     refine hmono i j _ _ _ _ (fun e=>hji e.symm) ?_ hb hb2 (hR j hj hl)
     cases hrb:reachB l i n j with
     |false=>rfl
     |true=>
      have:=reachB_listed hcl n j hrb hl
      rw [hun] at this
      cases this
   ·intro j hj hl
    rw [hsetl _ _ _ hsz hin] at hl
    by_cases hji:j=i
    ·rw [if_pos hji] at hl
     cases hl
    ·rw [if_neg hji] at hl
     rw [show updV vs i v j=vs j from if_neg hji]
     exact hU j hj hl
  have hopi:=opsAll_get l 0 hop i o h2'
  rw [Nat.zero_add] at hopi
  have hdeps:∀j,depB l i j=true→R j ((puts a (dstAt l) vs n).tmps.getD (dstAt l j) undef) w':=by
   intro j hj
   unfold depB at hj
   simp only [h2'] at hj
   obtain ⟨e,he,k2⟩:=List.any_eq_true.1 hj
   simp only [Bool.and_eq_true,beq_iff_eq] at k2
   have h5:=hord i o h2' e (Array.mem_toList_iff.1 he) k2.1
   have h4:=h3 e (Array.mem_toList_iff.1 he) k2.1
   rw [k2.2] at h5 h4
   rw [hon vs j (by omega)]
   exact hR j (by omega) h4
  have hoffi:∀t,offI l n i t=true→(puts a (dstAt l) vs n).tmps.getD t undef=a.tmps.getD t undef:=by
   intro t ht
   by_cases hex:∃j,j<n∧dstAt l j=t
   ·obtain ⟨j,hj,rfl⟩:=hex
    rw [hon vs j hj]
    refine hU j hj ?_
    have:=List.all_eq_true.1 ht j (List.mem_range.2 hj)
    simp only [beq_self_eq_true,Bool.not_true,Bool.false_or] at this
    cases hl:listed.getD j false with
    |false=>rfl
    |true=>
     have:=reachB_listed hcl n j this hl
     rw [hun] at this
     cases this
   ·refine hoff vs t (List.all_eq_true.2 fun j hj=>?_)
    have:dstAt l j≠t:=fun e=>hex ⟨j,List.mem_range.1 hj,e⟩
    simp [this]
  unfold wpOp
  simp only [h2]
  rcases hopi _ w' _ (fun e=>by rw [←e];exact hun) hb hdeps hoffi (growJu l n a w R m T (listed.setIfInBounds i true)) hK with ⟨hw,h⟩|⟨hw,h⟩
  ·rw [if_pos hw]
   exact .inl h
  ·rw [if_neg (by rw [show Region.wanted o (yielded l.toArray (puts a (dstAt l) vs n).tmps)=false from hw];simp)]
   exact h
 ·rintro listed a' w' ⟨hsz,hcl,vs,rfl,hb,hR,hU⟩ hr
  have hall:∀d i,i=d→i<n→listed.getD i false=true:=by
   intro d
   induction d using Nat.strongRecOn with
   |_ d ih=>
    rintro i rfl hi
    cases hl:listed.getD i false with
    |true=>rfl
    |false=>
     have hin:i∈Region.ready .any l.toArray listed:=by
      refine mem_ready.2 ⟨Go.getD_in (by omega) hl,l[i]'(by omega),by simp [hln,hi],fun e he hb'=>?_⟩
      have h6:=hord i _ (List.getElem?_eq_getElem (by omega)) e he hb'
      exact ih e.on h6 e.on rfl (by omega)
     rw [hr] at hin
     cases hin
  rw [hall m m rfl hmn] at hb
  exact hend vs _ w' hb (fun j hj=>hR j hj (hall _ j rfl hj)) (fun j hj=>hon vs j hj) (fun t ht=>hoff vs t ht) rfl
theorem wp_region_anyX {id:Nat} {l:List Oper} (n:Nat) (hln:l.length=n) (R:Nat→Value→World→Prop) (m:Nat) (hmn:m<n) (X:Nat→Prop)
  (hm:P.follows .mixedOrders=true) (hB:growG l a.tmps.size=true)
  (hmono:∀i v w' w'',Below w'.heap.size w' w''→R i v w'→R i v w'') (hoff9:∀i v w' w'',i≠m→reachB l m n i=false→OffX X w' w''→R i v w'→R i v w'')
  (hop:opsAll (fun i o=>∀(act:Act) w',OffX X w w'→(i=m→Below w.heap.size w w')→(∀j,depB l i j=true→R j (act.tmps.getD (dstAt l j) undef) w')→(∀t,offI l n i t=true→act.tmps.getD t undef=a.tmps.getD t undef)→
   ∀K:Act→World→Prop,(∀v w'',stepX X m i w' w''→R i v w''→K (act.put o.dst v) w'')→(Goes l act o true∧o.wp P act w' K Q)∨(Goes l act o false∧K (act.put o.dst undef) w')) 0 l)
  (hend:∀(vs:Nat→Value) act w',OffX X w w'→(∀i,i<n→R i (vs i) w')→(∀j,j<n→act.tmps.getD (dstAt l j) undef=vs j)→(∀t,offB l n t=true→act.tmps.getD t undef=a.tmps.getD t undef)→act=puts a (dstAt l) vs n→Q .normal act w'):(Code.region id l.toArray true).wp P Q a w:=by
 refine wp_region_any n hln R (stepX X m) m hmn (stepY X) hm hB (Below.refl _ w).drew ?_ ?_ ?_ (fun vs act w' h=>hend vs act w' h)
 ·intro i b w' w'' h1 h2 h3
  unfold stepX at h3
  by_cases e:i=m
  ·rw [if_pos e] at h3
   rw [decide_eq_true e,Bool.or_true]
   exact h1.b.trans h3
  ·rw [if_neg e] at h3
   rw [decide_eq_false e,Bool.or_false]
   unfold stepY at h1 ⊢
   cases b with
   |true=>exact OffX.trans h1 (.of_below h3)
   |false=>exact Below.st h1 h3
 ·intro i j v b w' w'' hij hrb h1 h3 hr
  unfold stepX at h3
  by_cases e:i=m
  ·rw [if_pos e] at h3
   exact hoff9 j v _ _ (fun k=>hij (e.trans k.symm)) (e▸hrb) h3 hr
  ·rw [if_neg e] at h3
   exact hmono j v _ _ h3 hr
 ·have key:∀(k:Nat) (ll:List Oper),opsAll (fun i o=>∀(act:Act) w',OffX X w w'→(i=m→Below w.heap.size w w')→(∀j,depB l i j=true→R j (act.tmps.getD (dstAt l j) undef) w')→(∀t,offI l n i t=true→act.tmps.getD t undef=a.tmps.getD t undef)→
   ∀K:Act→World→Prop,(∀v w'',stepX X m i w' w''→R i v w''→K (act.put o.dst v) w'')→(Goes l act o true∧o.wp P act w' K Q)∨(Goes l act o false∧K (act.put o.dst undef) w')) k ll→opsAll (fun i o=>∀(act:Act) w' b,(i=m→b=false)→stepY X b w w'→(∀j,depB l i j=true→R j (act.tmps.getD (dstAt l j) undef) w')→(∀t,offI l n i t=true→act.tmps.getD t undef=a.tmps.getD t undef)→
   ∀K:Act→World→Prop,(∀v w'',stepX X m i w' w''→R i v w''→K (act.put o.dst v) w'')→(Goes l act o true∧o.wp P act w' K Q)∨(Goes l act o false∧K (act.put o.dst undef) w')) k ll:=by
   intro k ll
   induction ll generalizing k with
   |nil=>intro _;trivial
   |cons o ll ih=>
    intro h
    exact ⟨fun act w' b h1 h2=>h.1 act w' h2.b (fun e=>by rw [h1 e] at h2;exact h2),ih (k+1) h.2⟩
  exact key 0 _ hop
end
end Go.Proofs.YteaaapdjplbljaaGreat
end
