/- Proved here: for every input, the law ViaLeast answers true, and the arguments read afterwards as they read before (no condition). -/
import Derived.Test.YteaaapdjplbljaaGreatRows
import Derived.Test.YteaaapdjplbljaaGreatVc48
import Derived.Test.YteaaapdjplbljaaGreatVc49
set_option linter.unusedVariables false
set_option linter.unusedSimpArgs false
set_option linter.unnecessarySimpa false
set_option maxRecDepth 100000
set_option maxHeartbeats 8000000
namespace Go.Proofs.YteaaapdjplbljaaGreat.viaLeast
open Go.ChangeShapes Go.WideShapes Go.ChangeAt Go.RowKit Go.Joins
open Go.ChangeMaps (open_string shut_string)
theorem own:ownKnob Tryz.prog.godebug=none:=by kernel_rfl
theorem Pn:laidOutB Tryz.prog=true:=by kernel_rfl
theorem Bf4 (os:Os) (started:os.Started) (H:Type) (enc:TypeId×Value->H):
  ReturnsInHanded {} Tryz.checked os 8 .any (Rows.viaLeastSpec.pre6 enc Tryz.prog Tryz.f8 Rows.viaLeastRow.domain false) (Rows.viaLeastSpec.post enc Tryz.prog Tryz.f8 false true false false):=by
 refine returnsInHanded_of_change_sized (C:=Tryz.checked) own started (by kernel_rfl) Tryz.func8
  (ChangeSpec.witness6 (enc:=enc) (C:=Tryz.checked) false ⟨#[],#[.agg #[.int .i64 0,.slice none 0 0],.agg #[.int .i64 0,.int .i64 0,.slice none 0 0],.int .i64 0,.int .i64 0],[]⟩ 8 (by kernel_rfl) (by kernel_rfl) (by kernel_rfl) (by kernel_rfl)) ?_
 intro W base args ds gs before hval0 hW _ hsz0 _;have hsz:(DataW.weightsEach Tryz.prog (Tryz.f8.params.toList++Rows.viaLeastSpec.plain.varTypes Tryz.prog) (ds++gs)).all (· <=reachBytes)=true:=hsz0;clear hsz0;have hval:∀(j:Nat) t v,Tryz.f8.params[j]? =some t->args[j]? =some v->Value.okWide Tryz.prog W .any base t v:=hval0;have hW':=hW;obtain ⟨p,q,hA0,hV,rfl,hfz,hnd⟩:=hW;have hA:DataW.TrodAll enc Tryz.prog W 0 (fun _=>true) true Tryz.f8.params.toList args.toList ds p:=hA0;rw [Tryz.params8] at hA hval hsz;obtain ⟨v0,vs0,d0,ds0,p0,q0,hargs,rfl,rfl,h0,r0⟩:=trodAll_cons hA;obtain ⟨v1,vs1,d1,ds1,p1,q1,rfl,rfl,rfl,h1,r1⟩:=trodAll_cons r0;obtain ⟨v2,vs2,d2,ds2,p2,q2,rfl,rfl,rfl,h2,r2⟩:=trodAll_cons r1;obtain ⟨v3,vs3,d3,ds3,p3,q3,rfl,rfl,rfl,h3,r3⟩:=trodAll_cons r2;obtain ⟨rfl,rfl,rfl⟩:=trodAll_nil r3;obtain rfl:args=#[v0,v1,v2,v3]:=by cases args;simp_all
 obtain ⟨rfl,rfl⟩:=trodVars_none hV;have k0:=h0;have lt0:∀x∈p0,x.block<W.heap.size:=by obtain ⟨m,hm⟩:=k0;exact DataW.trod_lt m _ _ _ hm
 have k1:=h1;have lt1:∀x∈p1,x.block<W.heap.size:=by obtain ⟨m,hm⟩:=k1;exact DataW.trod_lt m _ _ _ hm
 have k2:=h2;have lt2:∀x∈p2,x.block<W.heap.size:=by obtain ⟨m,hm⟩:=k2;exact DataW.trod_lt m _ _ _ hm
 have k3:=h3;have lt3:∀x∈p3,x.block<W.heap.size:=by obtain ⟨m,hm⟩:=k3;exact DataW.trod_lt m _ _ _ hm
 obtain ⟨x0,y0,rx0,ry0,fu0,rfl,rfl,rfl,hx0,hy0⟩:=open_agg2 Tryz.underlying24 (by kernel_rfl) (by kernel_rfl) (hval 0 24 v0 rfl rfl) h0;obtain ⟨ng,he0,_,gg⟩:=DataW.trod_int Tryz.underlying3 hx0;simp only [List.cons.injEq,and_true] at he0;subst he0;have bg:=Px gg;obtain ⟨aog,capg,g,rfl,cg,lg,fg⟩:=As0 Tryz.underlying22 Tryz.underlying109 Tryz.underlying3 Tryz.underlying37 (by kernel_rfl) (by kernel_rfl) (by kernel_rfl) hy0;obtain ⟨x1,y1,z1,rx1,ry1,rz1,fu1,rfl,rfl,rfl,hx1,hy1,hz1⟩:=open_agg3 Tryz.underlying27 (by kernel_rfl) (by kernel_rfl) (hval 1 27 v1 rfl rfl) h1;obtain ⟨ha,hex1,_,gha⟩:=DataW.trod_int Tryz.underlying3 hx1;simp only [List.cons.injEq,and_true] at hex1;subst hex1;have bha:=Px gha;obtain ⟨sa,hey1,_,gsa⟩:=DataW.trod_int Tryz.underlying3 hy1;simp only [List.cons.injEq,and_true] at hey1;subst hey1;have bsa:=Px gsa;obtain ⟨aoa,capa,a,rfl,ca,na,fa⟩:=Ba0 Tryz.underlying25 Tryz.underlying3 (by kernel_rfl) hz1;obtain ⟨s,rfl,rfl,rfl,y2⟩:=open_int Tryz.underlying3 (hval 2 3 v2 rfl rfl) h2;have bs:=Px y2;obtain ⟨t,rfl,rfl,rfl,y3⟩:=open_int Tryz.underlying3 (hval 3 3 v3 rfl rfl) h3;have bt:=Px y3;clear hA0 hval0;refine (Vi.Vw ⟨ng,g⟩ aog capg ha sa aoa a capa s t W cg ca).mono fun e W' ⟨he,bel⟩=>?_;subst he;exact ⟨_,rfl,_,_,_,[],_,[],hW',trodAll_mk1 (shut_bool Tryz.underlying4 _),(trodAll_cons_mk (Below.trod Pn (by kernel_rfl) (of_decide_eq_true (by kernel_rfl)) k0 bel lt0) (trodAll_cons_mk (Below.trod Pn (by kernel_rfl) (of_decide_eq_true (by kernel_rfl)) k1 bel lt1) (trodAll_cons_mk (Below.trod Pn (by kernel_rfl) (of_decide_eq_true (by kernel_rfl)) k2 bel lt2) (trodAll_cons_mk (Below.trod Pn (by kernel_rfl) (of_decide_eq_true (by kernel_rfl)) k3 bel lt3) trodAll_mk0)))),rfl,bel.frame _,fun h=>by cases h⟩
theorem Bh4:Tryz.pinned.checked.prog.funcNamed Rows.viaLeastRow.func=some 8:=by kernel_rfl
theorem Bh3:joinedFacts Tryz.pinned.checked.prog 8 Tryz.f8 Rows.viaLeastSpec Rows.viaLeastRow=true:=by kernel_rfl
theorem Bh2:Tryz.f8.isInstance Tryz.pinned.checked.prog Rows.viaLeastRow.origin Rows.viaLeastRow.targs:=of_decide_eq_true (by kernel_rfl)
theorem Bh1:Tryz.f8.isWrapper Tryz.pinned.checked.prog Rows.viaLeastRow.wrapper Rows.viaLeastRow.mainSum:=by unfold Func.isWrapper;first|(rw [if_pos (by decide+kernel)];kernel_rfl)|(rw [if_neg (by decide+kernel)];exact ⟨rfl,rfl⟩)
theorem over:Rows.viaLeastRow.holds Tryz.pinned (OpenSpec.ofChange Rows.viaLeastSpec):=
 OpenClaim.holds_of_wide 8 Tryz.f8 rfl rfl rfl rfl rfl rfl rfl ⟨rfl,rfl,rfl,rfl,rfl⟩ rfl rfl rfl rfl rfl Bh4 Tryz.func8 Bh3 Bh2 Bh1
  (fun os started H enc _=>Bf4 os started H enc)
end Go.Proofs.YteaaapdjplbljaaGreat.viaLeast
namespace Go.Proofs.YteaaapdjplbljaaGreat
theorem viaLeast_holds:Rows.ViaLeastSaid:=viaLeast.over
#print axioms viaLeast_holds
end Go.Proofs.YteaaapdjplbljaaGreat
