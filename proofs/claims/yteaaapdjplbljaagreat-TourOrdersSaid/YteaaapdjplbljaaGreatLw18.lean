/- The core with which a contraction begins, in plain Lean: the edges of a graph, each added. -/
import Derived.Test.YteaaapdjplbljaaGreatLw14
import Derived.Test.YteaaapdjplbljaaGreatLw09
set_option linter.unusedVariables false
set_option linter.unusedSimpArgs false
set_option linter.unnecessarySimpa false
namespace Go.Proofs.YteaaapdjplbljaaGreat
open Go.Proofs.YteaaapdjplbljaaGreat.Ch
def arcG (es:List EdgeD):Int→Int→Int→Prop:=fun u v w=>∃x∈es,x.f=u∧x.t=v∧x.w=w
def edgG (es:List EdgeD):Int→Int→Int→Int→Prop:=fun e u v w=>es[e.toNat]? =some ⟨u,v,w⟩∧e<es.length
def scE (k:Nat) (x:EdgeD):SC:=⟨x.f,x.t,x.w,(k:Int),-1,-1⟩
def core0 (n:Nat):CoreD:=⟨List.replicate n [],fun _ _=>none,[]⟩
def begK (n:Nat) (es:List EdgeD):Nat→CoreD
 |0=>core0 n
 |k+1=>match es[k]? with
  |some x=>addF (begK n es k) (scE k x)
  |none=>begK n es k
structure EdgesOK (n:Nat) (es:List EdgeD):Prop where
 ok:∀x∈es,nodeN n x.f∧nodeN n x.t∧x.f≠x.t∧1≤x.w∧x.w≤4294967296
theorem core0_inv (n:Nat):InvN n (core0 n):=by
 refine ⟨by simp [core0],?_,by simp [core0],by simp [core0],by simp [core0],by simp [core0]⟩
 intro u v w hu
 constructor
 ·intro h
  exfalso
  have:rowO (core0 n).O u=[]:=by
   unfold rowO core0
   rw [List.getD_eq_getElem?_getD,List.getElem?_replicate]
   split<;>rfl
  rw [this] at h
  cases h
 ·rintro ⟨i,x,h,_⟩
  cases h
structure BegI (n:Nat) (es:List EdgeD) (k:Nat):Prop where
 inv:InvN n (begK n es k)
 frm:∀(j:Nat) (x:SC),(begK n es k).S[j]? =some x→∃i y,es[i]? =some y∧x=scE i y
 low:∀i y,i<k→es[i]? =some y→∃x∈(begK n es k).S,x.f=y.f∧x.t=y.t∧x.w≤y.w
 len:(begK n es k).S.length≤k
theorem begI {n:Nat} {es:List EdgeD} (h:EdgesOK n es):∀k,BegI n es k
 |0=>⟨core0_inv n,by intro j x hx;simp [begK,core0] at hx,by intro i y hi;omega,by simp [begK,core0]⟩
 |k+1=>by
  have ih:=begI h k
  cases e:es[k]? with
  |none=>
   have hb:begK n es (k+1)=begK n es k:=by show (match es[k]? with|some x=>_|none=>_)=_;rw [e]
   refine ⟨by rw [hb];exact ih.inv,by rw [hb];exact ih.frm,?_,by rw [hb];exact Nat.le_succ_of_le ih.len⟩
   intro i y hi hy
   rw [hb]
   refine ih.low i y ?_ hy
   have:=(List.getElem?_eq_some_iff.1 hy).1
   have:=List.getElem?_eq_none_iff.1 e
   omega
  |some z=>
   have hb:begK n es (k+1)=addF (begK n es k) (scE k z):=by show (match es[k]? with|some x=>_|none=>_)=_;rw [e]
   have hz:=h.ok z (List.mem_of_getElem? e)
   have hx:nodeN n (scE k z).f∧nodeN n (scE k z).t∧(scE k z).f≠(scE k z).t∧1≤(scE k z).w:=⟨hz.1,hz.2.1,hz.2.2.1,hz.2.2.2.1⟩
   refine ⟨by rw [hb];exact ih.inv.add hx,?_,?_,?_⟩
   ·intro j x hj
    rw [hb] at hj
    rcases addF_S ih.inv (scE k z) with e2|e2
    ·rw [e2] at hj
     exact ih.frm j x hj
    ·rw [e2] at hj
     by_cases hl:j<(begK n es k).S.length
     ·rw [List.getElem?_append_left hl] at hj
      exact ih.frm j x hj
     ·rw [List.getElem?_append_right (by omega)] at hj
      have h0:j-(begK n es k).S.length=0:=by
       have:=(List.getElem?_eq_some_iff.1 hj).1
       simpa using this
      rw [h0] at hj
      simp at hj
      exact ⟨k,z,e,hj.symm⟩
   ·intro i y hi hy
    rw [hb]
    by_cases hik:i=k
    ·subst hik
     rw [e] at hy
     cases hy
     exact addF_low ih.inv (scE i z)
    ·obtain ⟨x,x1,x2⟩:=ih.low i y (by omega) hy
     obtain ⟨j,hj,ej⟩:=List.mem_iff_getElem.1 x1
     have:=addF_old ih.inv (scE k z) (i:=j) (y:=x) (by rw [List.getElem?_eq_getElem hj,ej])
     exact ⟨x,List.mem_of_getElem? this,x2⟩
   ·rw [hb]
    rcases addF_S ih.inv (scE k z) with e2|e2
    ·rw [e2];exact Nat.le_succ_of_le ih.len
    ·rw [e2,List.length_append]
     have:=ih.len
     simp
     omega
theorem begun_core {n:Nat} {es:List EdgeD} (h:EdgesOK n es):Core (arcG es) (edgG es) n [] (begK n es es.length):=by
 have hb:=begI h es.length
 have hA:∀u v w,arcG es u v w→1≤w:=by
  rintro u v w ⟨x,hx,_,_,rfl⟩
  exact (h.ok x hx).2.2.2.1
 refine ⟨hb.inv,Part.start ?_ ?_,?_,?_⟩
 ·rintro u v w ⟨x,hx,rfl,rfl,rfl⟩
  obtain ⟨j,hj,ej⟩:=List.mem_iff_getElem.1 hx
  obtain ⟨i,y,hy,rfl⟩:=hb.frm j x (by rw [List.getElem?_eq_getElem hj,ej])
  have hm:=List.mem_of_getElem? hy
  exact ⟨(h.ok y hm).2.2.1,y,hm,rfl,rfl,rfl⟩
 ·rintro u v w hne ⟨y,hy,rfl,rfl,rfl⟩ hd
  obtain ⟨i,hi,ei⟩:=List.mem_iff_getElem.1 hy
  obtain ⟨x,x1,x2,x3,x4⟩:=hb.low i y hi (by rw [List.getElem?_eq_getElem hi,ei])
  obtain ⟨j,hj,ej⟩:=List.mem_iff_getElem.1 x1
  obtain ⟨i2,z,hz,e⟩:=hb.frm j x (by rw [List.getElem?_eq_getElem hj,ej])
  have hmz:=List.mem_of_getElem? hz
  subst e
  have:=hd.2 z.w (.inr (.one ⟨z,hmz,x2,x3,rfl⟩))
  have hw:z.w≤y.w:=x4
  exact ⟨_,x1,x2,x3,by show z.w=y.w;omega⟩
 ·intro j x hj
  obtain ⟨i,y,hy,rfl⟩:=hb.frm j x hj
  have hl:=(List.getElem?_eq_some_iff.1 hy).1
  exact .inl ⟨⟨by show es[((i:Nat):Int).toNat]? =_;rw [Int.toNat_natCast];exact hy,by show (i:Int)<_;omega⟩,by show (0:Int)≤(i:Int);omega,rfl,rfl⟩
 ·intro x hx
  obtain ⟨j,hj,ej⟩:=List.mem_iff_getElem.1 hx
  obtain ⟨i,y,hy,rfl⟩:=hb.frm j x (by rw [List.getElem?_eq_getElem hj,ej])
  have:=(h.ok y (List.mem_of_getElem? hy)).2.2.2.2
  show y.w≤_
  simpa using this
end Go.Proofs.YteaaapdjplbljaaGreat
