/- The law UnpackShortcuts. -/
import Derived.Test.YtkdomobedfhhgaaGreatProg
import Derived.Test.YtkdomobedfhhgaaGreatRm08
import Derived.Test.YtkdomobedfhhgaaGreatRm05
set_option linter.unusedVariables false
set_option linter.unusedSimpArgs false
set_option linter.unnecessarySimpa false
namespace Go.Proofs.YtkdomobedfhhgaaGreat
open Go Go.Proofs Go.RowKit Go.Shelf Go.Proofs.YtkdomobedfhhgaaGreat.Hp Go.Proofs.YtkdomobedfhhgaaGreat.Ch
theorem rAt_in {R:List Int} {n:Nat} (hr:rankB R=true) (hl:R.length=n) (h0:0<n) (v:Int):0≤rAt R v∧rAt R v<(n:Int):=by
 unfold rAt
 by_cases hv:v.toNat<R.length
 ·rw [List.getD_eq_getElem?_getD,List.getElem?_eq_getElem hv]
  have:=rankB_in hr _ (List.getElem_mem hv)
  rw [hl] at this
  exact this
 ·rw [List.getD_eq_getElem?_getD,List.getElem?_eq_none (by omega)]
  show (0:Int)≤0∧(0:Int)<n
  omega
theorem PE.inner {es:List EdgeD} {n:Nat} (hE:EdgesOK n es) {u v d:Int} {l I:List Int} (h:PE es u l v d I):nodeN n u∧nodeN n v∧∀m∈I,nodeN n m:=by
 induction h with
 |one h0 h=>
  have:=hE.ok _ (List.mem_of_getElem? h)
  exact ⟨this.1,this.2.1,by simp⟩
 |two h h' ih ih'=>
  refine ⟨ih.1,ih'.2.1,fun m hm=>?_⟩
  rcases List.mem_append.1 hm with hm|hm
  ·exact ih.2.2 m hm
  ·rcases List.mem_cons.1 hm with rfl|hm
   ·exact ih.2.1
   ·exact ih'.2.2 m hm
def ShOK (n:Nat) (es:List EdgeD) (R:List Int) (x:SC) (L:List Int):Prop:=
 L.length≤4096∧nodeN n x.f∧nodeN n x.t∧weightG ⟨n,es⟩ L=some x.w∧isB ⟨n,es⟩ x.f x.t L=true∧∃N,nodesG ⟨n,es⟩ x.f L=some N∧N.length≤1000000∧∀q (h:q<N.length),1≤q→q+1<N.length→nodeN n N[q]∧rAt R N[q]<rAt R x.f∧rAt R N[q]<rAt R x.t
theorem built_sh {n:Nat} {es:List EdgeD} {R:List Int} {S:List SC} {ro:List Int} (hg:rightG ⟨n,es⟩=0) (hn:n≤12) (ho:HierOK es n R S ro):
  FedS S∧∀i (h:i<S.length),ShOK n es R S[i] (unL S i):=by
 obtain ⟨_,_,_,hm⟩:=made_parts (madeR_built (g:=⟨n,es⟩) (n:=n) hg rfl ho (by omega))
 have hE:=edges_ok hg (n:=n) rfl
 have hn0:0<n:=by have:=(right_n hg).1;simp only at this;omega
 have hr:=rAt_in ho.rank ho.len hn0
 refine ⟨made_fed hm,fun i hi=>?_⟩
 have hx:S.getD i scZ=S[i]:=by rw [List.getD_eq_getElem?_getD,List.getElem?_eq_getElem hi];rfl
 obtain ⟨I,h1,h2⟩:=made_way hm (fun x hx=>by
  have k1:=ho.ends x hx
  have k2:=ho.big x hx
  have k3:=big12 hn
  omega) i hi
 rw [hx] at h1 h2
 have hl:=made_len hm (fun v=>(hr v).1) i hi 12 (.inl (by have:=(hr (S.getD i scZ).f).2;omega))
 obtain ⟨e1,e2,e3⟩:=h1.inner hE
 have hu:nodeB (⟨n,es⟩:GD).n S[i].f=true:=by
  unfold nodeB
  simp only [Bool.and_eq_true,decide_eq_true_eq]
  exact e1
 have hl2:(unL S i).length≤4096:=by simpa using hl
 have hN:=h1.nodes (g:=⟨n,es⟩) hg hu
 refine ⟨hl2,e1,e2,h1.weight (g:=⟨n,es⟩) hg,h1.is (g:=⟨n,es⟩) hg hu,_,hN,?_,fun q hq h3 h4=>?_⟩
 ·rw [nodesG_length hN]
  omega
 ·obtain ⟨q',rfl⟩:∃q',q=q'+1:=⟨q-1,by omega⟩
  have hq':q'<I.length:=by simp at h4;omega
  have e:([S[i].f]++I++[S[i].t])[q'+1]=I[q']:=by simp [List.getElem_append,hq']
  rw [e]
  have:=h2 _ (List.getElem_mem hq')
  exact ⟨e3 _ (List.getElem_mem hq'),this.1,this.2⟩
end Go.Proofs.YtkdomobedfhhgaaGreat
