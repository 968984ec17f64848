/- Parts; no condition. -/
import Derived.ProofKit
import Derived.OpenShut
import Derived.ShutString
import Derived.SizedLaws
import Derived.SliceStrings
import Derived.Lib.SmallJoins
import Derived.Deep.Slices
import Derived.Test.YteaaapdjplbljaaGreatVc11
import Derived.Deep.SlicePairs
import Derived.Deep.Strs
set_option linter.unusedVariables false
set_option linter.unusedSimpArgs false
set_option linter.unnecessarySimpa false
set_option maxRecDepth 100000
set_option maxHeartbeats 8000000
namespace Go.Proofs.YteaaapdjplbljaaGreat
section
open Go.ChangeShapes Go.WideShapes Go.ChangeAt Go.RowKit
open Go.ChangeMaps (open_string shut_string)
section
variable {H:Type} {enc:TypeId×Value->H} {P:Program} {w:World}
theorem Ba0 {t e:TypeId} {k:IntKind} {fuel:Nat} {v:Value} {x:DataW H×List MemPlace} (ht:P.underlying t=some (.slice e)) (he:P.underlying e=some (.int k)) (hc:P.cellsOf e=1)
  (h:DataW.trod enc P w 0 (fun _=>true) true fuel t [v]=some x):
  ∃(ao:Option Addr) (cap:Nat) (l:List Int),v=.slice ao l.length cap/\Cel w ao (l.map (.int k))/\l.length<=9223372036854775807/\∀n∈l,(Lit.int k n).wf=true:=by
 rcases open_ints ht he hc h with ⟨hcs,_⟩|⟨a,len,cap,zs,hcs,_,hl,hm,hz,_,hcell,hwz⟩
 ·simp at hcs
  subst hcs;exact ⟨none,0,[],rfl,Cel.nil _ _,by simp,by simp⟩
 ·simp at hcs
  subst hcs;have hz':zs.length=cap:=by simpa using hz
  have e:(zs.take len).length=len:=by simp;omega
  refine ⟨some a,cap,zs.take len,by rw [e],?_,by unfold maxLen at hm;omega,fun n hn=>hwz n (List.mem_of_mem_take hn)⟩;intro i u hu;have hi:i<len:=by
   have:=(Bj8.1 hu).1;simp at this;omega
  have hu':u=.int k (zs.getD i 0):=by
   simp [hi] at hu;obtain ⟨y,hy,rfl⟩:=hu;simp [List.getD,hy]
  subst hu';have hcl:=hcell i (by omega);obtain ⟨b,o,s⟩:=a
  cases s with
  |none=>exact ⟨b,o,rfl,by rw [Addr.add_lit] at hcl;exact hcl⟩
  |some sp=>
   have h0:=hcell 0 (by omega);have:w.cell? ((⟨b,o,some sp⟩:Addr).add 0)=none:=by
    unfold World.cell? Addr.add;rw [if_pos rfl]
    split<;>simp
   rw [this] at h0
   cases h0
theorem Px {n:Int} (h:(Lit.int .i64 n).wf=true):-9223372036854775808<=n/\n<=9223372036854775807:=by
 simp [Lit.wf,IntKind.min,IntKind.max,IntKind.signed,IntKind.bits] at h;omega
end
end
section
open Go.ChangeShapes Go.WideShapes Go.ChangeAt Go.RowKit Go.Deep
instance:Inhabited EdgeD:=⟨⟨0,0,0⟩⟩
section
variable {H:Type} {enc:TypeId×Value->H} {P:Program} {w:World}
theorem As0 {t e:TypeId} {f0 f1 f2:Field} {fuel:Nat} {v:Value} {x:DataW H×List MemPlace} (ht:P.underlying t=some (.slice e)) (he:P.underlying e=some (.struct #[f0,f1,f2]))
  (hi:P.underlying f0.type=some (.int .i64)) (hu:P.underlying f2.type=some (.int .u64)) (ce:P.cellsOf e=3) (ho:(f0.offset,f1.offset,f2.offset,f1.type)=(0,1,2,f0.type)) (hcs:(P.cellsOf f0.type,P.cellsOf f2.type)=(1,1))
  (h:DataW.trod enc P w 0 (fun _=>true) true fuel t [v]=some x):
  ∃(ao:Option Addr) (cap:Nat) (es:List EdgeD),v=.slice ao es.length cap/\Cel w ao (Ax es)/\es.length<=9223372036854775807/\∀y∈es,(Lit.int .i64 y.f).wf=true/\(Lit.int .i64 y.t).wf=true/\(Lit.int .u64 y.w).wf=true:=by
 simp only [Prod.mk.injEq] at ho hcs;obtain ⟨o0,o1,o2,t1⟩:=ho;obtain ⟨c0,c2⟩:=hcs
 rcases open_slice ht h with ⟨hcs,_⟩|⟨a,len,cap,m,n,D,Pl,hcs,_,hl,hm,hmm,_,hx⟩
 ·simp at hcs
  subst hcs;exact ⟨none,0,[],rfl,Cel.nil _ _,by simp,by simp⟩
 ·simp at hcs
  subst hcs;have hmc:m=cap:=by rw [hmm];rfl
  have each:∀i,i<len->∃y:EdgeD,w.cell? (a.add (i*3))=some (.int .i64 y.f)/\w.cell? (a.add (i*3+1))=some (.int .i64 y.t)/\w.cell? (a.add (i*3+2))=some (.int .u64 y.w)/\
    (Lit.int .i64 y.f).wf=true/\(Lit.int .i64 y.t).wf=true/\(Lit.int .u64 y.w).wf=true:=by
   intro i hil;obtain ⟨cs',h1,h2⟩:=hx i (by omega);rw [ce] at h1;obtain ⟨_,hlen,hcell⟩:=World.cells?_some h1;obtain ⟨xs,k,hk,hxy,_,hxl,hf⟩:=DataW.trod_struct he h2
   match xs,hxl,cs',hlen,hf,hcell with
   |[y0,y1,y2],_,[v0,v1,v2],_,hf,hcell=>
    have g0:=hf 0 f0 rfl;have g1:=hf 1 f1 rfl;have g2:=hf 2 f2 rfl;simp [o0,o1,o2,c0,c2,t1] at g0 g1 g2;have e0:=hcell 0 (by omega);have e1:=hcell 1 (by omega);have e2:=hcell 2 (by omega);rw [add_add] at e0 e1 e2;simp at e0 e1 e2;obtain ⟨a0,q0,_,w0⟩:=DataW.trod_int hi g0;obtain ⟨a1,q1,_,w1⟩:=DataW.trod_int hi g1;obtain ⟨a2,q2,_,w2⟩:=DataW.trod_int hu g2;simp at q0 q1 q2;subst q0 q1 q2;exact ⟨⟨a0,a1,a2⟩,e0,e1,e2,w0,w1,w2⟩
  obtain ⟨q,hq⟩:=choose_lt each;have hes:((List.range len).map q).length=len:=by simp
  refine ⟨some a,cap,(List.range len).map q,by rw [hes],?_,by rw [hes];unfold maxLen at hm;omega,?_⟩
  ·intro i u hu
   have hlt:i<len*3:=by
    have:=(Bj8.1 hu).1;rw [Ji,hes] at this;exact this
   have hd:i / 3<len:=by omega
   obtain ⟨r0,r1,r2,_,_,_⟩:=hq (i / 3) hd;obtain ⟨s0,s1,s2⟩:=Rg ((List.range len).map q) (i / 3) (by simpa using hd);simp only [List.getElem_map,List.getElem_range] at s0 s1 s2;have hcl:w.cell? (a.add i)=some u:=by
    have hm3:i=i / 3*3\/i=i / 3*3+1\/i=i / 3*3+2:=by omega
    rcases hm3 with e|e|e
    ·rw [e] at hu ⊢
     rw [s0] at hu
     cases hu
     exact r0
    ·rw [e] at hu ⊢
     rw [s1] at hu
     cases hu
     exact r1
    ·rw [e] at hu ⊢
     rw [s2] at hu
     cases hu
     exact r2
   have h0:=(hq 0 (by omega)).1;obtain ⟨b,o,s⟩:=a
   cases s with
   |none=>exact ⟨b,o,rfl,by rw [Addr.add_lit] at hcl;exact hcl⟩
   |some sp=>
    have:w.cell? ((⟨b,o,some sp⟩:Addr).add (0*3))=none:=by
     unfold World.cell? Addr.add;rw [if_pos rfl]
     split<;>simp
    rw [this] at h0
    cases h0
  ·intro y hy
   obtain ⟨i,hi,rfl⟩:=List.mem_map.1 hy;exact (hq i (by simpa using hi)).2.2.2
end
end
end Go.Proofs.YteaaapdjplbljaaGreat
