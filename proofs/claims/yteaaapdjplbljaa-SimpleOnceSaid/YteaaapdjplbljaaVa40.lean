/- How the arguments of a statement are opened: rows of numbers, of texts, routes. How the arguments of a statement are opened: rows of edges, rows of texts. Proved here: for every input, the law SimpleOnce answers true, and the arguments read afterwards as they read before (no condition). -/
import Derived.Test.YteaaapdjplbljaaVa01
import Derived.ProofKit
import Derived.OpenShut
import Derived.ShutString
import Derived.SizedLaws
import Derived.SliceStrings
import Derived.Lib.SmallJoins
import Derived.Deep.Slices
import Derived.Test.YteaaapdjplbljaaVa05
import Derived.Deep.SlicePairs
import Derived.Deep.Strs
import Derived.Test.YteaaapdjplbljaaRows
import Derived.Test.YteaaapdjplbljaaVa39
set_option linter.unusedVariables false
set_option linter.unusedSimpArgs false
set_option linter.unnecessarySimpa false
section
namespace Go.Proofs.Yteaaapdjplbljaa
open Go.ChangeShapes Go.WideShapes Go.ChangeAt Go.RowKit
open Go.ChangeMaps (open_string shut_string)
section
variable {H:Type} {enc:TypeId×Value→H} {P:Program} {w:World}
theorem wf_i64 {n:Int} (h:(Lit.int .i64 n).wf=true):-9223372036854775808≤n∧n≤9223372036854775807:=by
 simp [Lit.wf,IntKind.min,IntKind.max,IntKind.signed,IntKind.bits] at h;omega
end
end Go.Proofs.Yteaaapdjplbljaa
end
section
namespace Go.Proofs.Yteaaapdjplbljaa
open Go.ChangeShapes Go.WideShapes Go.ChangeAt Go.RowKit Go.Deep
instance:Inhabited EdgeD:=⟨⟨0,0,0⟩⟩
section
variable {H:Type} {enc:TypeId×Value→H} {P:Program} {w:World}
theorem rd_edges {t e:TypeId} {f0 f1 f2:Field} {fuel:Nat} {v:Value} {x:DataW H×List MemPlace} (ht:P.underlying t=some (.slice e)) (he:P.underlying e=some (.struct #[f0,f1,f2]))
  (hi:P.underlying f0.type=some (.int .i64)) (hu:P.underlying f2.type=some (.int .u64)) (ce:P.cellsOf e=3) (ho:(f0.offset,f1.offset,f2.offset,f1.type)=(0,1,2,f0.type)) (hcs:(P.cellsOf f0.type,P.cellsOf f2.type)=(1,1))
  (h:DataW.trod enc P w 0 (fun _=>true) true fuel t [v]=some x):
  ∃(ao:Option Addr) (cap:Nat) (es:List EdgeD),v=.slice ao es.length cap∧Cel w ao (flat es)∧es.length≤9223372036854775807∧∀y∈es,(Lit.int .i64 y.f).wf=true∧(Lit.int .i64 y.t).wf=true∧(Lit.int .u64 y.w).wf=true:=by
 simp only [Prod.mk.injEq] at ho hcs
 obtain ⟨o0,o1,o2,t1⟩:=ho
 obtain ⟨c0,c2⟩:=hcs
 rcases open_slice ht h with ⟨hcs,_⟩|⟨a,len,cap,m,n,D,Pl,hcs,_,hl,hm,hmm,_,hx⟩
 ·simp at hcs
  subst hcs
  exact ⟨none,0,[],rfl,Cel.nil _ _,by simp,by simp⟩
 ·simp at hcs
  subst hcs
  have hmc:m=cap:=by rw [hmm];rfl
  have each:∀i,i<len→∃y:EdgeD,w.cell? (a.add (i*3))=some (.int .i64 y.f)∧w.cell? (a.add (i*3+1))=some (.int .i64 y.t)∧w.cell? (a.add (i*3+2))=some (.int .u64 y.w)∧
    (Lit.int .i64 y.f).wf=true∧(Lit.int .i64 y.t).wf=true∧(Lit.int .u64 y.w).wf=true:=by
   intro i hil
   obtain ⟨cs',h1,h2⟩:=hx i (by omega)
   rw [ce] at h1
   obtain ⟨_,hlen,hcell⟩:=World.cells?_some h1
   obtain ⟨xs,k,hk,hxy,_,hxl,hf⟩:=DataW.trod_struct he h2
   match xs,hxl,cs',hlen,hf,hcell with
   |[y0,y1,y2],_,[v0,v1,v2],_,hf,hcell=>
    have g0:=hf 0 f0 rfl
    have g1:=hf 1 f1 rfl
    have g2:=hf 2 f2 rfl
    simp [o0,o1,o2,c0,c2,t1] at g0 g1 g2
    have e0:=hcell 0 (by omega)
    have e1:=hcell 1 (by omega)
    have e2:=hcell 2 (by omega)
    rw [add_add] at e0 e1 e2
    simp at e0 e1 e2
    obtain ⟨a0,q0,_,w0⟩:=DataW.trod_int hi g0
    obtain ⟨a1,q1,_,w1⟩:=DataW.trod_int hi g1
    obtain ⟨a2,q2,_,w2⟩:=DataW.trod_int hu g2
    simp at q0 q1 q2
    subst q0 q1 q2
    exact ⟨⟨a0,a1,a2⟩,e0,e1,e2,w0,w1,w2⟩
  obtain ⟨q,hq⟩:=choose_lt each
  have hes:((List.range len).map q).length=len:=by simp
  refine ⟨some a,cap,(List.range len).map q,by rw [hes],?_,by rw [hes];unfold maxLen at hm;omega,?_⟩
  ·intro i u hu
   have hlt:i<len*3:=by
    have:=(List.getElem?_eq_some_iff.1 hu).1
    rw [flat_length,hes] at this
    exact this
   have hd:i / 3<len:=by omega
   obtain ⟨r0,r1,r2,_,_,_⟩:=hq (i / 3) hd
   obtain ⟨s0,s1,s2⟩:=flat_get ((List.range len).map q) (i / 3) (by simpa using hd)
   simp only [List.getElem_map,List.getElem_range] at s0 s1 s2
   have hcl:w.cell? (a.add i)=some u:=by
    have hm3:i=i / 3*3∨i=i / 3*3+1∨i=i / 3*3+2:=by omega
    rcases hm3 with e|e|e
    ·rw [e] at hu ⊢
     rw [s0] at hu
     cases hu
     exact r0
    ·rw [e] at hu ⊢
     rw [s1] at hu
     cases hu
     exact r1
    ·rw [e] at hu ⊢
     rw [s2] at hu
     cases hu
     exact r2
   have h0:=(hq 0 (by omega)).1
   obtain ⟨b,o,s⟩:=a
   cases s with
   |none=>exact ⟨b,o,rfl,by rw [Addr.add_lit] at hcl;exact hcl⟩
   |some sp=>
    have:w.cell? ((⟨b,o,some sp⟩:Addr).add (0*3))=none:=by
     unfold World.cell? Addr.add
     rw [if_pos rfl]
     split<;>simp
    rw [this] at h0
    cases h0
  ·intro y hy
   obtain ⟨i,hi,rfl⟩:=List.mem_map.1 hy
   exact (hq i (by simpa using hi)).2.2.2
end
end Go.Proofs.Yteaaapdjplbljaa
end
section
namespace Go.Proofs.Yteaaapdjplbljaa.simpleOnce
open Go.ChangeShapes Go.WideShapes Go.ChangeAt Go.RowKit Go.Joins
open Go.ChangeMaps (open_string shut_string)
set_option linter.unusedVariables false
theorem own:ownKnob Try.prog.godebug=none:=by kernel_rfl
theorem laidOut:laidOutB Try.prog=true:=by kernel_rfl
set_option maxRecDepth 100000 in
theorem lifted (os:Os) (started:os.Started) (H:Type) (enc:TypeId×Value→H):
  ReturnsInHanded {} Try.checked os 4 .any (Rows.simpleOnceSpec.pre6 enc Try.prog Try.f4 Rows.simpleOnceRow.domain false) (Rows.simpleOnceSpec.post enc Try.prog Try.f4 false true false false):=by
 refine returnsInHanded_of_change_sized (C:=Try.checked) own started (by kernel_rfl) Try.func4
  (ChangeSpec.witness6 (enc:=enc) (C:=Try.checked) false ⟨#[],#[.agg #[.int .i64 0,.slice none 0 0],.int .i64 0,.int .i64 0],[]⟩ 8 (by kernel_rfl) (by kernel_rfl) (by kernel_rfl) (by kernel_rfl)) ?_
 intro W base args ds gs before hval0 hW _ hsz0 _
 have hsz:(DataW.weightsEach Try.prog (Try.f4.params.toList++Rows.simpleOnceSpec.plain.varTypes Try.prog) (ds++gs)).all (· ≤reachBytes)=true:=hsz0
 clear hsz0
 have hval:∀(j:Nat) t v,Try.f4.params[j]? =some t→args[j]? =some v→Value.okWide Try.prog W .any base t v:=hval0
 have hW':=hW
 obtain ⟨p,q,hA0,hV,rfl,hfz,hnd⟩:=hW
 have hA:DataW.TrodAll enc Try.prog W 0 (fun _=>true) true Try.f4.params.toList args.toList ds p:=hA0
 rw [Try.params4] at hA hval hsz
 obtain ⟨v0,vs0,d0,ds0,p0,q0,hargs,rfl,rfl,h0,r0⟩:=trodAll_cons hA
 obtain ⟨v1,vs1,d1,ds1,p1,q1,rfl,rfl,rfl,h1,r1⟩:=trodAll_cons r0
 obtain ⟨v2,vs2,d2,ds2,p2,q2,rfl,rfl,rfl,h2,r2⟩:=trodAll_cons r1
 obtain ⟨rfl,rfl,rfl⟩:=trodAll_nil r2
 obtain rfl:args=#[v0,v1,v2]:=by cases args;simp_all
 obtain ⟨rfl,rfl⟩:=trodVars_none hV
 have k0:=h0
 have lt0:∀x∈p0,x.block<W.heap.size:=by obtain ⟨m,hm⟩:=k0;exact DataW.trod_lt m _ _ _ hm
 have k1:=h1
 have lt1:∀x∈p1,x.block<W.heap.size:=by obtain ⟨m,hm⟩:=k1;exact DataW.trod_lt m _ _ _ hm
 have k2:=h2
 have lt2:∀x∈p2,x.block<W.heap.size:=by obtain ⟨m,hm⟩:=k2;exact DataW.trod_lt m _ _ _ hm
 obtain ⟨x0,y0,rx0,ry0,fu0,rfl,rfl,rfl,hx0,hy0⟩:=open_agg2 Try.underlying24 (by kernel_rfl) (by kernel_rfl) (hval 0 24 v0 rfl rfl) h0
 obtain ⟨ng,he0,_,gg⟩:=DataW.trod_int Try.underlying3 hx0
 simp only [List.cons.injEq,and_true] at he0
 subst he0
 have bg:=wf_i64 gg
 obtain ⟨aog,capg,g,rfl,cg,lg,fg⟩:=rd_edges Try.underlying22 Try.underlying45 Try.underlying3 Try.underlying35 (by kernel_rfl) (by kernel_rfl) (by kernel_rfl) hy0
 obtain ⟨s,rfl,rfl,rfl,y1⟩:=open_int Try.underlying3 (hval 1 3 v1 rfl rfl) h1
 have bs:=wf_i64 y1
 obtain ⟨t,rfl,rfl,rfl,y2⟩:=open_int Try.underlying3 (hval 2 3 v2 rfl rfl) h2
 have bt:=wf_i64 y2
 clear hA0 hval0
 refine (Sm.once_any ⟨ng,g⟩ aog capg s t W cg).mono fun e W' ⟨he,bel⟩=>?_
 subst he
 exact ⟨_,rfl,_,_,_,[],_,[],hW',trodAll_mk1 (shut_bool Try.underlying4 _),(trodAll_cons_mk (Below.trod laidOut (by kernel_rfl) (of_decide_eq_true (by kernel_rfl)) k0 bel lt0) (trodAll_cons_mk (Below.trod laidOut (by kernel_rfl) (of_decide_eq_true (by kernel_rfl)) k1 bel lt1) (trodAll_cons_mk (Below.trod laidOut (by kernel_rfl) (of_decide_eq_true (by kernel_rfl)) k2 bel lt2) trodAll_mk0))),rfl,bel.frame _,fun h=>by cases h⟩
theorem over1:Try.pinned.checked.prog.funcNamed Rows.simpleOnceRow.func=some 4:=by kernel_rfl
theorem over2:joinedFacts Try.pinned.checked.prog 4 Try.f4 Rows.simpleOnceSpec Rows.simpleOnceRow=true:=by kernel_rfl
theorem over3:Try.f4.isInstance Try.pinned.checked.prog Rows.simpleOnceRow.origin Rows.simpleOnceRow.targs:=of_decide_eq_true (by kernel_rfl)
theorem over4:Try.f4.isWrapper Try.pinned.checked.prog Rows.simpleOnceRow.wrapper Rows.simpleOnceRow.mainSum:=by unfold Func.isWrapper;first|(rw [if_pos (by decide+kernel)];kernel_rfl)|(rw [if_neg (by decide+kernel)];exact ⟨rfl,rfl⟩)
theorem over:Rows.simpleOnceRow.holds Try.pinned (OpenSpec.ofChange Rows.simpleOnceSpec):=
 OpenClaim.holds_of_wide 4 Try.f4 rfl rfl rfl rfl rfl rfl rfl ⟨rfl,rfl,rfl,rfl,rfl⟩ rfl rfl rfl rfl rfl over1 Try.func4 over2 over3 over4
  (fun os started H enc _=>lifted os started H enc)
end Go.Proofs.Yteaaapdjplbljaa.simpleOnce
namespace Go.Proofs.Yteaaapdjplbljaa
theorem simpleOnce_holds:Rows.SimpleOnceSaid:=simpleOnce.over
#print axioms simpleOnce_holds
end Go.Proofs.Yteaaapdjplbljaa
end
