/- How the arguments of a statement are opened: rows of numbers, of texts, routes. How the arguments of a statement are opened: rows of edges, rows of texts. How the arguments of a statement are opened: rows of shortcuts. Proved here: for every input, the law UnpackEdges answers true, and the arguments read afterwards as they read before (no condition). -/
import Derived.Test.YtkdomobedfhhgaaGreatQm01
import Derived.ProofKit
import Derived.OpenShut
import Derived.ShutString
import Derived.SizedLaws
import Derived.SliceStrings
import Derived.Lib.SmallJoins
import Derived.Deep.Slices
import Derived.Test.YtkdomobedfhhgaaGreatQm17
import Derived.Deep.SlicePairs
import Derived.Deep.Strs
import Derived.Test.YtkdomobedfhhgaaGreatQm15
import Derived.Test.YtkdomobedfhhgaaGreatRows
import Derived.Test.YtkdomobedfhhgaaGreatSm15
set_option linter.unusedVariables false
set_option linter.unusedSimpArgs false
set_option linter.unnecessarySimpa false
section
namespace Go.Proofs.YtkdomobedfhhgaaGreat
open Go.ChangeShapes Go.WideShapes Go.ChangeAt Go.RowKit
open Go.ChangeMaps (open_string shut_string)
section
variable {H:Type} {enc:TypeId×Value→H} {P:Program} {w:World}
theorem rd_ints {t e:TypeId} {k:IntKind} {fuel:Nat} {v:Value} {x:DataW H×List MemPlace} (ht:P.underlying t=some (.slice e)) (he:P.underlying e=some (.int k)) (hc:P.cellsOf e=1)
  (h:DataW.trod enc P w 0 (fun _=>true) true fuel t [v]=some x):
  ∃(ao:Option Addr) (cap:Nat) (l:List Int),v=.slice ao l.length cap∧Cel w ao (l.map (.int k))∧l.length≤9223372036854775807∧∀n∈l,(Lit.int k n).wf=true:=by
 rcases open_ints ht he hc h with ⟨hcs,_⟩|⟨a,len,cap,zs,hcs,_,hl,hm,hz,_,hcell,hwz⟩
 ·simp at hcs
  subst hcs
  exact ⟨none,0,[],rfl,Cel.nil _ _,by simp,by simp⟩
 ·simp at hcs
  subst hcs
  have hz':zs.length=cap:=by simpa using hz
  have e:(zs.take len).length=len:=by simp;omega
  refine ⟨some a,cap,zs.take len,by rw [e],?_,by unfold maxLen at hm;omega,fun n hn=>hwz n (List.mem_of_mem_take hn)⟩
  intro i u hu
  have hi:i<len:=by
   have:=(List.getElem?_eq_some_iff.1 hu).1
   simp at this;omega
  have hu':u=.int k (zs.getD i 0):=by
   simp [hi] at hu
   obtain ⟨y,hy,rfl⟩:=hu
   simp [List.getD,hy]
  subst hu'
  have hcl:=hcell i (by omega)
  obtain ⟨b,o,s⟩:=a
  cases s with
  |none=>exact ⟨b,o,rfl,by rw [Addr.add_lit] at hcl;exact hcl⟩
  |some sp=>
   have h0:=hcell 0 (by omega)
   have:w.cell? ((⟨b,o,some sp⟩:Addr).add 0)=none:=by
    unfold World.cell? Addr.add
    rw [if_pos rfl]
    split<;>simp
   rw [this] at h0
   cases h0
theorem wf_i64 {n:Int} (h:(Lit.int .i64 n).wf=true):-9223372036854775808≤n∧n≤9223372036854775807:=by
 simp [Lit.wf,IntKind.min,IntKind.max,IntKind.signed,IntKind.bits] at h;omega
end
end Go.Proofs.YtkdomobedfhhgaaGreat
end
section
namespace Go.Proofs.YtkdomobedfhhgaaGreat
open Go.ChangeShapes Go.WideShapes Go.ChangeAt Go.RowKit Go.Deep
instance:Inhabited EdgeD:=⟨⟨0,0,0⟩⟩
section
variable {H:Type} {enc:TypeId×Value→H} {P:Program} {w:World}
theorem rd_edges {t e:TypeId} {f0 f1 f2:Field} {fuel:Nat} {v:Value} {x:DataW H×List MemPlace} (ht:P.underlying t=some (.slice e)) (he:P.underlying e=some (.struct #[f0,f1,f2]))
  (hi:P.underlying f0.type=some (.int .i64)) (hu:P.underlying f2.type=some (.int .u64)) (ce:P.cellsOf e=3) (ho:(f0.offset,f1.offset,f2.offset,f1.type)=(0,1,2,f0.type)) (hcs:(P.cellsOf f0.type,P.cellsOf f2.type)=(1,1))
  (h:DataW.trod enc P w 0 (fun _=>true) true fuel t [v]=some x):
  ∃(ao:Option Addr) (cap:Nat) (es:List EdgeD),v=.slice ao es.length cap∧Cel w ao (flat es)∧es.length≤9223372036854775807∧∀y∈es,(Lit.int .i64 y.f).wf=true∧(Lit.int .i64 y.t).wf=true∧(Lit.int .u64 y.w).wf=true:=by
 simp only [Prod.mk.injEq] at ho hcs
 obtain ⟨o0,o1,o2,t1⟩:=ho
 obtain ⟨c0,c2⟩:=hcs
 rcases open_slice ht h with ⟨hcs,_⟩|⟨a,len,cap,m,n,D,Pl,hcs,_,hl,hm,hmm,_,hx⟩
 ·simp at hcs
  subst hcs
  exact ⟨none,0,[],rfl,Cel.nil _ _,by simp,by simp⟩
 ·simp at hcs
  subst hcs
  have hmc:m=cap:=by rw [hmm];rfl
  have each:∀i,i<len→∃y:EdgeD,w.cell? (a.add (i*3))=some (.int .i64 y.f)∧w.cell? (a.add (i*3+1))=some (.int .i64 y.t)∧w.cell? (a.add (i*3+2))=some (.int .u64 y.w)∧
    (Lit.int .i64 y.f).wf=true∧(Lit.int .i64 y.t).wf=true∧(Lit.int .u64 y.w).wf=true:=by
   intro i hil
   obtain ⟨cs',h1,h2⟩:=hx i (by omega)
   rw [ce] at h1
   obtain ⟨_,hlen,hcell⟩:=World.cells?_some h1
   obtain ⟨xs,k,hk,hxy,_,hxl,hf⟩:=DataW.trod_struct he h2
   match xs,hxl,cs',hlen,hf,hcell with
   |[y0,y1,y2],_,[v0,v1,v2],_,hf,hcell=>
    have g0:=hf 0 f0 rfl
    have g1:=hf 1 f1 rfl
    have g2:=hf 2 f2 rfl
    simp [o0,o1,o2,c0,c2,t1] at g0 g1 g2
    have e0:=hcell 0 (by omega)
    have e1:=hcell 1 (by omega)
    have e2:=hcell 2 (by omega)
    rw [add_add] at e0 e1 e2
    simp at e0 e1 e2
    obtain ⟨a0,q0,_,w0⟩:=DataW.trod_int hi g0
    obtain ⟨a1,q1,_,w1⟩:=DataW.trod_int hi g1
    obtain ⟨a2,q2,_,w2⟩:=DataW.trod_int hu g2
    simp at q0 q1 q2
    subst q0 q1 q2
    exact ⟨⟨a0,a1,a2⟩,e0,e1,e2,w0,w1,w2⟩
  obtain ⟨q,hq⟩:=choose_lt each
  have hes:((List.range len).map q).length=len:=by simp
  refine ⟨some a,cap,(List.range len).map q,by rw [hes],?_,by rw [hes];unfold maxLen at hm;omega,?_⟩
  ·intro i u hu
   have hlt:i<len*3:=by
    have:=(List.getElem?_eq_some_iff.1 hu).1
    rw [flat_length,hes] at this
    exact this
   have hd:i / 3<len:=by omega
   obtain ⟨r0,r1,r2,_,_,_⟩:=hq (i / 3) hd
   obtain ⟨s0,s1,s2⟩:=flat_get ((List.range len).map q) (i / 3) (by simpa using hd)
   simp only [List.getElem_map,List.getElem_range] at s0 s1 s2
   have hcl:w.cell? (a.add i)=some u:=by
    have hm3:i=i / 3*3∨i=i / 3*3+1∨i=i / 3*3+2:=by omega
    rcases hm3 with e|e|e
    ·rw [e] at hu ⊢
     rw [s0] at hu
     cases hu
     exact r0
    ·rw [e] at hu ⊢
     rw [s1] at hu
     cases hu
     exact r1
    ·rw [e] at hu ⊢
     rw [s2] at hu
     cases hu
     exact r2
   have h0:=(hq 0 (by omega)).1
   obtain ⟨b,o,s⟩:=a
   cases s with
   |none=>exact ⟨b,o,rfl,by rw [Addr.add_lit] at hcl;exact hcl⟩
   |some sp=>
    have:w.cell? ((⟨b,o,some sp⟩:Addr).add (0*3))=none:=by
     unfold World.cell? Addr.add
     rw [if_pos rfl]
     split<;>simp
    rw [this] at h0
    cases h0
  ·intro y hy
   obtain ⟨i,hi,rfl⟩:=List.mem_map.1 hy
   exact (hq i (by simpa using hi)).2.2.2
theorem cap_ints {t e:TypeId} {fuel:Nat} {ao:Option Addr} {len cap:Nat} {x:DataW H×List MemPlace} (ht:P.underlying t=some (.slice e))
  (h:DataW.trod enc P w 0 (fun _=>true) true fuel t [.slice ao len cap]=some x):len≤cap:=by
 rcases open_slice ht h with ⟨hcs,_⟩|⟨a,len',cap',m,n,D,Pl,hcs,_,hl,_⟩
 ·simp at hcs
  omega
 ·simp at hcs
  omega
theorem nil_ints {t e:TypeId} {fuel:Nat} {ao:Option Addr} {len cap:Nat} {x:DataW H×List MemPlace} (ht:P.underlying t=some (.slice e))
  (h:DataW.trod enc P w 0 (fun _=>true) true fuel t [.slice ao len cap]=some x):ao=none→cap=0:=by
 rcases open_slice ht h with ⟨hcs,_⟩|⟨a,len',cap',m,n,D,Pl,hcs,_,hl,_⟩
 ·simp at hcs
  intro _;omega
 ·simp at hcs
  rintro rfl
  exact absurd hcs.1 (by simp)
end
end Go.Proofs.YtkdomobedfhhgaaGreat
end
section
namespace Go.Proofs.YtkdomobedfhhgaaGreat
open Go.ChangeShapes Go.WideShapes Go.ChangeAt Go.RowKit Go.Deep Go.Proofs.YtkdomobedfhhgaaGreat.Ch
instance:Inhabited SC:=⟨⟨0,0,0,0,0,0⟩⟩
section
variable {H:Type} {enc:TypeId×Value→H} {P:Program} {w:World}
theorem rd_scs {t e:TypeId} {f0 f1 f2 f3 f4 f5:Field} {fuel:Nat} {v:Value} {x:DataW H×List MemPlace} (ht:P.underlying t=some (.slice e)) (he:P.underlying e=some (.struct #[f0,f1,f2,f3,f4,f5]))
  (hi:P.underlying f0.type=some (.int .i64)) (hu:P.underlying f2.type=some (.int .u64)) (ce:P.cellsOf e=6) (ho:(f0.offset,f1.offset,f2.offset,f3.offset,f4.offset,f5.offset)=(0,1,2,3,4,5)) (hty:(f1.type,f3.type,f4.type,f5.type)=(f0.type,f0.type,f0.type,f0.type)) (hcs:(P.cellsOf f0.type,P.cellsOf f2.type)=(1,1))
  (h:DataW.trod enc P w 0 (fun _=>true) true fuel t [v]=some x):
  ∃(ao:Option Addr) (cap:Nat) (es:List SC),v=.slice ao es.length cap∧Cel w ao (flatS es)∧es.length≤cap:=by
 simp only [Prod.mk.injEq] at ho hcs hty
 obtain ⟨o0,o1,o2,o3,o4,o5⟩:=ho
 obtain ⟨t1,t3,t4,t5⟩:=hty
 obtain ⟨c0,c2⟩:=hcs
 rcases open_slice ht h with ⟨hcs,_⟩|⟨a,len,cap,m,n,D,Pl,hcs,_,hl,hm,hmm,_,hx⟩
 ·simp at hcs
  subst hcs
  exact ⟨none,0,[],rfl,Cel.nil _ _,Nat.le_refl _⟩
 ·simp at hcs
  subst hcs
  have hmc:m=cap:=by rw [hmm];rfl
  have each:∀i,i<len→∃y:SC,w.cell? (a.add (i*6))=some (.int .i64 y.f)∧w.cell? (a.add (i*6+1))=some (.int .i64 y.t)∧w.cell? (a.add (i*6+2))=some (.int .u64 y.w)∧w.cell? (a.add (i*6+3))=some (.int .i64 y.e)∧w.cell? (a.add (i*6+4))=some (.int .i64 y.a)∧w.cell? (a.add (i*6+5))=some (.int .i64 y.b):=by
   intro i hil
   obtain ⟨cs',h1,h2⟩:=hx i (by omega)
   rw [ce] at h1
   obtain ⟨_,hlen,hcell⟩:=World.cells?_some h1
   obtain ⟨xs,k,hk,hxy,_,hxl,hf⟩:=DataW.trod_struct he h2
   match xs,hxl,cs',hlen,hf,hcell with
   |[y0,y1,y2,y3,y4,y5],_,[v0,v1,v2,v3,v4,v5],_,hf,hcell=>
    have g0:=hf 0 f0 rfl
    have g1:=hf 1 f1 rfl
    have g2:=hf 2 f2 rfl
    have g3:=hf 3 f3 rfl
    have g4:=hf 4 f4 rfl
    have g5:=hf 5 f5 rfl
    simp [o0,o1,o2,o3,o4,o5,c0,c2,t1,t3,t4,t5] at g0 g1 g2 g3 g4 g5
    have e0:=hcell 0 (by omega)
    have e1:=hcell 1 (by omega)
    have e2:=hcell 2 (by omega)
    have e3:=hcell 3 (by omega)
    have e4:=hcell 4 (by omega)
    have e5:=hcell 5 (by omega)
    rw [add_add] at e0 e1 e2 e3 e4 e5
    simp at e0 e1 e2 e3 e4 e5
    obtain ⟨a0,q0,_,_⟩:=DataW.trod_int hi g0
    obtain ⟨a1,q1,_,_⟩:=DataW.trod_int hi g1
    obtain ⟨a2,q2,_,_⟩:=DataW.trod_int hu g2
    obtain ⟨a3,q3,_,_⟩:=DataW.trod_int hi g3
    obtain ⟨a4,q4,_,_⟩:=DataW.trod_int hi g4
    obtain ⟨a5,q5,_,_⟩:=DataW.trod_int hi g5
    simp at q0 q1 q2 q3 q4 q5
    subst q0 q1 q2 q3 q4 q5
    exact ⟨⟨a0,a1,a2,a3,a4,a5⟩,e0,e1,e2,e3,e4,e5⟩
  obtain ⟨q,hq⟩:=choose_lt each
  have hes:((List.range len).map q).length=len:=by simp
  refine ⟨some a,cap,(List.range len).map q,by rw [hes],?_,by rw [hes];exact hl⟩
  intro i u hu
  have hlt:i<len*6:=by
   have:=(List.getElem?_eq_some_iff.1 hu).1
   rw [flatS_len,hes] at this
   exact this
  have hd:i / 6<len:=by omega
  obtain ⟨r0,r1,r2,r3,r4,r5⟩:=hq (i / 6) hd
  have hs:=flatS_get ((List.range len).map q) (i / 6) (by simpa using hd) (i % 6) (Nat.mod_lt _ (by decide))
  simp only [List.getElem_map,List.getElem_range] at hs
  have hcl:w.cell? (a.add i)=some u:=by
   have hm6:i=i / 6*6+i % 6:=by omega
   rw [←hm6,hu] at hs
   have hlt6:i % 6<6:=Nat.mod_lt _ (by decide)
   rw [hm6]
   generalize i % 6=j at*
   match j,hlt6,hs with
   |0,_,hs=>cases hs;exact r0
   |1,_,hs=>cases hs;exact r1
   |2,_,hs=>cases hs;exact r2
   |3,_,hs=>cases hs;exact r3
   |4,_,hs=>cases hs;exact r4
   |5,_,hs=>cases hs;exact r5
  have h0:=(hq 0 (by omega)).1
  obtain ⟨b,o,s⟩:=a
  cases s with
  |none=>exact ⟨b,o,rfl,by rw [Addr.add_lit] at hcl;exact hcl⟩
  |some sp=>
   have:w.cell? ((⟨b,o,some sp⟩:Addr).add (0*6))=none:=by
    unfold World.cell? Addr.add
    rw [if_pos rfl]
    split<;>simp
   rw [this] at h0
   cases h0
end
end Go.Proofs.YtkdomobedfhhgaaGreat
end
section
namespace Go.Proofs.YtkdomobedfhhgaaGreat.unpackEdges
open Go.ChangeShapes Go.WideShapes Go.ChangeAt Go.RowKit Go.Joins
open Go.ChangeMaps (open_string shut_string)
set_option linter.unusedVariables false
theorem own:ownKnob Tryz.prog.godebug=none:=by kernel_rfl
theorem laidOut:laidOutB Tryz.prog=true:=by kernel_rfl
set_option maxRecDepth 100000 in
theorem lifted (os:Os) (started:os.Started) (H:Type) (enc:TypeId×Value→H):
  ReturnsInHanded {} Tryz.checked os 11 .any (Rows.unpackEdgesSpec.pre6 enc Tryz.prog Tryz.f11 Rows.unpackEdgesRow.domain false) (Rows.unpackEdgesSpec.post enc Tryz.prog Tryz.f11 false true false false):=by
 refine returnsInHanded_of_change_sized (C:=Tryz.checked) own started (by kernel_rfl) Tryz.func11
  (ChangeSpec.witness6 (enc:=enc) (C:=Tryz.checked) false ⟨#[],#[.agg #[.int .i64 0,.slice none 0 0],.agg #[.slice none 0 0,.slice none 0 0],.slice none 0 0,.int .i64 0],[]⟩ 8 (by kernel_rfl) (by kernel_rfl) (by kernel_rfl) (by kernel_rfl)) ?_
 intro W base args ds gs before hval0 hW _ hsz0 _
 have hsz:(DataW.weightsEach Tryz.prog (Tryz.f11.params.toList++Rows.unpackEdgesSpec.plain.varTypes Tryz.prog) (ds++gs)).all (· ≤reachBytes)=true:=hsz0
 clear hsz0
 have hval:∀(j:Nat) t v,Tryz.f11.params[j]? =some t→args[j]? =some v→Value.okWide Tryz.prog W .any base t v:=hval0
 have hW':=hW
 obtain ⟨p,q,hA0,hV,rfl,hfz,hnd⟩:=hW
 have hA:DataW.TrodAll enc Tryz.prog W 0 (fun _=>true) true Tryz.f11.params.toList args.toList ds p:=hA0
 rw [Tryz.params11] at hA hval hsz
 obtain ⟨v0,vs0,d0,ds0,p0,q0,hargs,rfl,rfl,h0,r0⟩:=trodAll_cons hA
 obtain ⟨v1,vs1,d1,ds1,p1,q1,rfl,rfl,rfl,h1,r1⟩:=trodAll_cons r0
 obtain ⟨v2,vs2,d2,ds2,p2,q2,rfl,rfl,rfl,h2,r2⟩:=trodAll_cons r1
 obtain ⟨v3,vs3,d3,ds3,p3,q3,rfl,rfl,rfl,h3,r3⟩:=trodAll_cons r2
 obtain ⟨rfl,rfl,rfl⟩:=trodAll_nil r3
 obtain rfl:args=#[v0,v1,v2,v3]:=by cases args;simp_all
 obtain ⟨rfl,rfl⟩:=trodVars_none hV
 have k0:=h0
 have lt0:∀x∈p0,x.block<W.heap.size:=by obtain ⟨m,hm⟩:=k0;exact DataW.trod_lt m _ _ _ hm
 have k1:=h1
 have lt1:∀x∈p1,x.block<W.heap.size:=by obtain ⟨m,hm⟩:=k1;exact DataW.trod_lt m _ _ _ hm
 have k2:=h2
 have lt2:∀x∈p2,x.block<W.heap.size:=by obtain ⟨m,hm⟩:=k2;exact DataW.trod_lt m _ _ _ hm
 have k3:=h3
 have lt3:∀x∈p3,x.block<W.heap.size:=by obtain ⟨m,hm⟩:=k3;exact DataW.trod_lt m _ _ _ hm
 obtain ⟨x0,y0,rx0,ry0,fu0,rfl,rfl,rfl,hx0,hy0⟩:=open_agg2 Tryz.underlying24 (by kernel_rfl) (by kernel_rfl) (hval 0 24 v0 rfl rfl) h0
 obtain ⟨ng,he0,_,gg⟩:=DataW.trod_int Tryz.underlying3 hx0
 simp only [List.cons.injEq,and_true] at he0
 subst he0
 have bg:=wf_i64 gg
 obtain ⟨aog,capg,g,rfl,cg,lg,fg⟩:=rd_edges Tryz.underlying22 Tryz.underlying119 Tryz.underlying3 Tryz.underlying34 (by kernel_rfl) (by kernel_rfl) (by kernel_rfl) hy0
 obtain ⟨x1,y1,rx1,ry1,fu1,rfl,rfl,rfl,hx1,hy1⟩:=open_agg2 Tryz.underlying45 (by kernel_rfl) (by kernel_rfl) (hval 1 45 v1 rfl rfl) h1
 obtain ⟨aoh,caph,h,rfl,ch,nh,fh⟩:=rd_ints Tryz.underlying25 Tryz.underlying3 (by kernel_rfl) hx1
 obtain ⟨soh,sch,Sh,rfl,dh,kh⟩:=rd_scs Tryz.underlying43 Tryz.underlying79 Tryz.underlying3 Tryz.underlying34 (by kernel_rfl) (by kernel_rfl) (by kernel_rfl) (by kernel_rfl) hy1
 obtain ⟨al,ll,ml,hv2⟩:=okWide_slice Tryz.underlying25 (hval 2 25 v2 rfl rfl)
 subst hv2
 obtain ⟨fu2,hf2⟩:=h2
 obtain ⟨aol,capl,l,hv2,cl,nl,fl⟩:=rd_ints Tryz.underlying25 Tryz.underlying3 (by kernel_rfl) (show DataW.trod enc Tryz.prog W 0 (fun _=>true) true fu2 25 [_]=_ from hf2)
 have ul:=cap_ints Tryz.underlying25 (show DataW.trod enc Tryz.prog W 0 (fun _=>true) true fu2 25 [_]=_ from hf2)
 have xl:=nil_ints Tryz.underlying25 (show DataW.trod enc Tryz.prog W 0 (fun _=>true) true fu2 25 [_]=_ from hf2)
 cases hv2
 obtain ⟨i,rfl,rfl,rfl,y3⟩:=open_int Tryz.underlying3 (hval 3 3 v3 rfl rfl) h3
 have bi:=wf_i64 y3
 clear hA0 hval0
 refine (UnpackEdges_any ⟨ng,g⟩ aog capg aoh h caph soh Sh sch al l ml i W cg ch dh cl kh).mono fun e W' ⟨he,bel⟩=>?_
 subst he
 exact ⟨_,rfl,_,_,_,[],_,[],hW',trodAll_mk1 (shut_bool Tryz.underlying4 _),(trodAll_cons_mk (Below.trod laidOut (by kernel_rfl) (of_decide_eq_true (by kernel_rfl)) k0 bel lt0) (trodAll_cons_mk (Below.trod laidOut (by kernel_rfl) (of_decide_eq_true (by kernel_rfl)) k1 bel lt1) (trodAll_cons_mk (Below.trod laidOut (by kernel_rfl) (of_decide_eq_true (by kernel_rfl)) k2 bel lt2) (trodAll_cons_mk (Below.trod laidOut (by kernel_rfl) (of_decide_eq_true (by kernel_rfl)) k3 bel lt3) trodAll_mk0)))),rfl,bel.frame _,fun h=>by cases h⟩
theorem over:Rows.unpackEdgesRow.holds Tryz.pinned (OpenSpec.ofChange Rows.unpackEdgesSpec):=
 OpenClaim.holds_of_wide 11 Tryz.f11 rfl rfl rfl rfl rfl rfl rfl ⟨rfl,rfl,rfl,rfl,rfl⟩ rfl rfl rfl rfl rfl (by kernel_rfl) Tryz.func11 (by kernel_rfl)
  (of_decide_eq_true (by kernel_rfl)) (by unfold Func.isWrapper;first|(rw [if_pos (by decide+kernel)];kernel_rfl)|(rw [if_neg (by decide+kernel)];exact ⟨rfl,rfl⟩))
  (fun os started H enc _=>lifted os started H enc)
end Go.Proofs.YtkdomobedfhhgaaGreat.unpackEdges
namespace Go.Proofs.YtkdomobedfhhgaaGreat
theorem unpackEdges_holds:Rows.UnpackEdgesSaid:=unpackEdges.over
#print axioms unpackEdges_holds
end Go.Proofs.YtkdomobedfhhgaaGreat
end
