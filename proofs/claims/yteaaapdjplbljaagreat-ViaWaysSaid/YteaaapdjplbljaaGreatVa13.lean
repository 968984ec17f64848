/- Parts; no condition. -/
import Derived.Test.YteaaapdjplbljaaGreatVa11
set_option linter.unusedVariables false
set_option linter.unusedSimpArgs false
set_option linter.unnecessarySimpa false
set_option maxRecDepth 100000
set_option maxHeartbeats 8000000
namespace Go.Proofs.YteaaapdjplbljaaGreat
open Ch
def Am (es:List EdgeD):Int->Int->Int->Prop:=fun u v w=>∃x∈es,x.f=u/\x.t=v/\x.w=w
def Zm (es:List EdgeD):Int->Int->Int->Int->Prop:=fun e u v w=>es[e.toNat]? =some ⟨u,v,w⟩/\e<es.length
def scE (k:Nat) (x:EdgeD):SC:=⟨x.f,x.t,x.w,(k:Int),-1,-1⟩
def Iv (n:Nat):CoreD:=⟨List.replicate n [],fun _ _=>none,[]⟩
def Ld (n:Nat) (es:List EdgeD):Nat->CoreD
 |0=>Iv n
 |k+1=>match es[k]? with
  |some x=>En (Ld n es k) (scE k x)
  |none=>Ld n es k
structure EdgesOK (n:Nat) (es:List EdgeD):Prop where
 ok:∀x∈es,Ac n x.f/\Ac n x.t/\x.f≠x.t/\1<=x.w/\x.w<=4294967296
theorem Ap9 (n:Nat):InvN n (Iv n):=by
 refine ⟨by simp [Iv],?_,by simp [Iv],by simp [Iv],by simp [Iv],by simp [Iv]⟩;intro u v w hu;constructor
 ·intro h
  exfalso
  have:Co (Iv n).O u=[]:=by
   unfold Co Iv;rw [Bj9,Bn3]
   split<;>rfl
  rw [this] at h
  cases h
 ·rintro ⟨i,x,h,_⟩
  cases h
structure BegI (n:Nat) (es:List EdgeD) (k:Nat):Prop where
 inv:InvN n (Ld n es k)
 frm:∀(j:Nat) (x:SC),(Ld n es k).S[j]? =some x->∃i y,es[i]? =some y/\x=scE i y
 low:∀i y,i<k->es[i]? =some y->∃x∈(Ld n es k).S,x.f=y.f/\x.t=y.t/\x.w<=y.w
 len:(Ld n es k).S.length<=k
theorem Bd5 {n:Nat} {es:List EdgeD} (h:EdgesOK n es):∀k,BegI n es k
 |0=>⟨Ap9 n,by intro j x hx;simp [Ld,Iv] at hx,by intro i y hi;omega,by simp [Ld,Iv]⟩
 |k+1=>by
  have ih:=Bd5 h k
  cases e:es[k]? with
  |none=>
   have hb:Ld n es (k+1)=Ld n es k:=by show (match es[k]? with|some x=>_|none=>_)=_;rw [e]
   refine ⟨by rw [hb];exact ih.inv,by rw [hb];exact ih.frm,?_,by rw [hb];exact Nat.le_succ_of_le ih.len⟩;intro i y hi hy;rw [hb];refine ih.low i y ?_ hy;have:=(Bk6.1 hy).1;have:=List.getElem?_eq_none_iff.1 e;omega
  |some z=>
   have hb:Ld n es (k+1)=En (Ld n es k) (scE k z):=by show (match es[k]? with|some x=>_|none=>_)=_;rw [e]
   have hz:=h.ok z (Bm1 e);have hx:Ac n (scE k z).f/\Ac n (scE k z).t/\(scE k z).f≠(scE k z).t/\1<=(scE k z).w:=⟨hz.1,hz.2.1,hz.2.2.1,hz.2.2.2.1⟩;refine ⟨by rw [hb];exact ih.inv.add hx,?_,?_,?_⟩
   ·intro j x hj
    rw [hb] at hj
    rcases Oy ih.inv (scE k z) with e2|e2
    ·rw [e2] at hj
     exact ih.frm j x hj
    ·rw [e2] at hj
     by_cases hl:j<(Ld n es k).S.length
     ·rw [Bn2 hl] at hj
      exact ih.frm j x hj
     ·rw [Bn1 (by omega)] at hj
      have h0:j-(Ld n es k).S.length=0:=by
       have:=(Bk6.1 hj).1
       simpa using this
      rw [h0] at hj;simp at hj;exact ⟨k,z,e,hj.symm⟩
   ·intro i y hi hy
    rw [hb]
    by_cases hik:i=k
    ·subst hik
     rw [e] at hy
     cases hy
     exact Zu ih.inv (scE i z)
    ·obtain ⟨x,x1,x2⟩:=ih.low i y (by omega) hy
     obtain ⟨j,hj,ej⟩:=Bn7.1 x1;have:=Sz ih.inv (scE k z) (i:=j) (y:=x) (by rw [Bj8 hj,ej]);exact ⟨x,Bm1 this,x2⟩
   ·rw [hb]
    rcases Oy ih.inv (scE k z) with e2|e2
    ·rw [e2];exact Nat.le_succ_of_le ih.len
    ·rw [e2,Bm3]
     have:=ih.len;simp;omega
theorem Af7 {n:Nat} {es:List EdgeD} (h:EdgesOK n es):Core (Am es) (Zm es) n [] (Ld n es es.length):=by
 have hb:=Bd5 h es.length;have hA:∀u v w,Am es u v w->1<=w:=by
  rintro u v w ⟨x,hx,_,_,rfl⟩;exact (h.ok x hx).2.2.2.1
 refine ⟨hb.inv,Part.start ?_ ?_,?_,?_⟩
 ·rintro u v w ⟨x,hx,rfl,rfl,rfl⟩
  obtain ⟨j,hj,ej⟩:=Bn7.1 hx;obtain ⟨i,y,hy,rfl⟩:=hb.frm j x (by rw [Bj8 hj,ej]);have hm:=Bm1 hy;exact ⟨(h.ok y hm).2.2.1,y,hm,rfl,rfl,rfl⟩
 ·rintro u v w hne ⟨y,hy,rfl,rfl,rfl⟩ hd
  obtain ⟨i,hi,ei⟩:=Bn7.1 hy;obtain ⟨x,x1,x2,x3,x4⟩:=hb.low i y hi (by rw [Bj8 hi,ei]);obtain ⟨j,hj,ej⟩:=Bn7.1 x1;obtain ⟨i2,z,hz,e⟩:=hb.frm j x (by rw [Bj8 hj,ej]);have hmz:=Bm1 hz;subst e;have:=hd.2 z.w (.inr (.one ⟨z,hmz,x2,x3,rfl⟩));have hw:z.w<=y.w:=x4;exact ⟨_,x1,x2,x3,by show z.w=y.w;omega⟩
 ·intro j x hj
  obtain ⟨i,y,hy,rfl⟩:=hb.frm j x hj;have hl:=(Bk6.1 hy).1;exact .inl ⟨⟨by show es[((i:Nat):Int).toNat]? =_;rw [Bk7];exact hy,by show (i:Int)<_;omega⟩,by show (0:Int)<=(i:Int);omega,rfl,rfl⟩
 ·intro x hx
  obtain ⟨j,hj,ej⟩:=Bn7.1 hx;obtain ⟨i,y,hy,rfl⟩:=hb.frm j x (by rw [Bj8 hj,ej]);have:=(h.ok y (Bm1 hy)).2.2.2.2
  show y.w<=_
  simpa using this
end Go.Proofs.YteaaapdjplbljaaGreat
