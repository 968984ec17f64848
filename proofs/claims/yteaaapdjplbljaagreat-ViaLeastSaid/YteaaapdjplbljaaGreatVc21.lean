/- Parts; no condition. -/
import Derived.Test.YteaaapdjplbljaaGreatVc19
set_option linter.unusedVariables false
set_option linter.unusedSimpArgs false
set_option linter.unnecessarySimpa false
set_option maxRecDepth 100000
set_option maxHeartbeats 8000000
namespace Go.Proofs.YteaaapdjplbljaaGreat
section
open Go Go.Proofs Go.RowKit Go.Shelf Hp Ch
abbrev Ay4:=List (List Int)×List (List Int)
def Fz (O:List (List Int)) (v:Int) (i:Nat):List (List Int):=O.set v.toNat (O.getD v.toNat []++[(i:Int)])
def Pa (R:List Int) (x:SC):Bool:=decide (rAt R x.t<rAt R x.f)
def Ck (R:List Int) (p:Ay4) (x:SC) (i:Nat):Ay4:=if Pa R x then (p.1,Fz p.2 x.t i) else (Fz p.1 x.f i,p.2)
def An (R:List Int) (S:List SC) (n:Nat):Nat->Ay4
 |0=>(List.replicate n [],List.replicate n [])
 |k+1=>Ck R (An R S n k) (S.getD k scZ) k
theorem Qh (O:List (List Int)) (v:Int) (i:Nat):(Fz O v i).length=O.length:=Bj6
theorem Nf (R:List Int) (S:List SC) (n:Nat):∀k,(An R S n k).1.length=n/\(An R S n k).2.length=n
 |0=>⟨by simp [An],by simp [An]⟩
 |k+1=>by
  obtain ⟨h1,h2⟩:=Nf R S n k
  show (Ck _ _ _ _).1.length=n/\(Ck _ _ _ _).2.length=n
  unfold Ck
  split
  ·exact ⟨h1,by rw [Qh];exact h2⟩
  ·exact ⟨by rw [Qh];exact h1,h2⟩
theorem Lc {O:List (List Int)} {v:Int} {i:Nat} {u:Nat} (hv:v.toNat<O.length):(Fz O v i).getD u []=if u=v.toNat then O.getD u []++[(i:Int)] else O.getD u []:=by
 unfold Fz;rw [Bj1,List.getElem?_set]
 by_cases e:v.toNat=u
 ·subst e
  rw [if_pos rfl,if_pos rfl,if_pos hv];rfl
 ·rw [if_neg e,if_neg (fun h=>e h.symm),Bj1]
theorem Pp {j:Int} {k:Nat} {Q:Nat->Prop}:(∃i:Nat,j=(i:Int)/\i<k+1/\Q i)↔(∃i:Nat,j=(i:Int)/\i<k/\Q i)\/(j=(k:Int)/\Q k):=by
 constructor
 ·rintro ⟨i,h1,h2,h3⟩
  by_cases e:i=k
  ·subst e;exact .inr ⟨h1,h3⟩
  ·exact .inl ⟨i,h1,by omega,h3⟩
 ·rintro (⟨i,h1,h2,h3⟩|⟨h1,h2⟩)
  ·exact ⟨i,h1,by omega,h3⟩
  ·exact ⟨k,h1,by omega,h2⟩
theorem Tg (R:List Int) (S:List SC) (n:Nat) (hends:∀x∈S,Aa n x.f/\Aa n x.t):∀k,k<=S.length->∀(u:Nat),u<n->
  (∀j:Int,j∈(An R S n k).1.getD u []↔∃i:Nat,j=(i:Int)/\i<k/\(S.getD i scZ).f=(u:Int)/\Pa R (S.getD i scZ)=false)/\
  (∀j:Int,j∈(An R S n k).2.getD u []↔∃i:Nat,j=(i:Int)/\i<k/\(S.getD i scZ).t=(u:Int)/\Pa R (S.getD i scZ)=true)
 |0,_,u,hu=>by
  have hz:(List.replicate n ([]:List Int)).getD u []=[]:=by
   rw [Bj1,Bm5]
   split<;>rfl
  constructor<;>(intro j;show j∈(List.replicate n ([]:List Int)).getD u []↔_;rw [hz];constructor)
  ·intro h;cases h
  ·rintro ⟨i,_,hi,_⟩;omega
  ·intro h;cases h
  ·rintro ⟨i,_,hi,_⟩;omega
 |k+1,hk,u,hu=>by
  obtain ⟨ih1,ih2⟩:=Tg R S n hends k (by omega) u hu;obtain ⟨l1,l2⟩:=Nf R S n k;have hx:S.getD k scZ∈S:=by
   rw [Bj1,Bj0 (by omega)];exact Bj7 _
  obtain ⟨e1,e2⟩:=hends _ hx;have hstep:An R S n (k+1)=Ck R (An R S n k) (S.getD k scZ) k:=rfl;rw [hstep];unfold Ck
  cases hd:Pa R (S.getD k scZ) with
  |true=>
   rw [if_pos rfl];refine ⟨fun j=>?_,fun j=>?_⟩
   ·rw [Pp,<-ih1 j]
    constructor
    ·exact .inl
    ·rintro (h|⟨_,_,h⟩)
     ·exact h
     ·rw [hd] at h;cases h
   ·rw [Pp,<-ih2 j,Lc (by rw [l2];have:=e2.1;have:=e2.2;omega)]
    by_cases e:u=(S.getD k scZ).t.toNat
    ·rw [if_pos e,Bl8,Bk2]
     have e3:(S.getD k scZ).t=(u:Int):=by rw [e];have:=e2.1;omega
     constructor
     ·rintro (h|h)
      ·exact .inl h
      ·exact .inr ⟨h,e3,hd⟩
     ·rintro (h|⟨h,_⟩)
      ·exact .inl h
      ·exact .inr h
    ·rw [if_neg e]
     constructor
     ·exact .inl
     ·rintro (h|⟨_,h,_⟩)
      ·exact h
      ·exact absurd (by rw [h];rfl) e
  |false=>
   rw [if_neg (by simp)];refine ⟨fun j=>?_,fun j=>?_⟩
   ·rw [Pp,<-ih1 j,Lc (by rw [l1];have:=e1.1;have:=e1.2;omega)]
    by_cases e:u=(S.getD k scZ).f.toNat
    ·rw [if_pos e,Bl8,Bk2]
     have e3:(S.getD k scZ).f=(u:Int):=by rw [e];have:=e1.1;omega
     constructor
     ·rintro (h|h)
      ·exact .inl h
      ·exact .inr ⟨h,e3,hd⟩
     ·rintro (h|⟨h,_⟩)
      ·exact .inl h
      ·exact .inr h
    ·rw [if_neg e]
     constructor
     ·exact .inl
     ·rintro (h|⟨_,h,_⟩)
      ·exact h
      ·exact absurd (by rw [h];rfl) e
   ·rw [Pp,<-ih2 j]
    constructor
    ·exact .inl
    ·rintro (h|⟨_,_,h⟩)
     ·exact h
     ·rw [hd] at h;cases h
end
section
open Go Go.Proofs Go.RowKit Go.Shelf Hp Ch
def Em (far:List (Option Int)) (u:Int):Option Int:=if 0<=u then far.getD u.toNat none else none
def Ru (bys:List Int) (u:Int):Int:=if 0<=u then bys.getD u.toNat 0 else 0
theorem Co (far:List (Option Int)) (v:Nat):Em far (v:Int)=far.getD v none:=by unfold Em;rw [if_pos (by omega),Bj9]
theorem Ax4 (bys:List Int) (v:Nat):Ru bys (v:Int)=bys.getD v 0:=by unfold Ru;rw [if_pos (by omega),Bj9]
theorem Mm {far:List (Option Int)} {v:Nat} (hv:v<far.length) (d:Int):Em (far.set v (some d))=upd (Em far) (v:Int) (some d):=by
 funext u
 unfold Em upd
 by_cases e:u=(v:Int)
 ·subst e
  rw [if_pos (by omega),if_pos rfl,Bj9,Bj1,Bn4 hv];rfl
 ·rw [if_neg e]
  show _=if 0<=u then far.getD u.toNat none else none
  by_cases h0:0<=u
  ·rw [if_pos h0,if_pos h0,Bj1,Bn3 (by omega),Bj1]
  ·rw [if_neg h0,if_neg h0]
theorem Yo {bys:List Int} {v:Nat} (hv:v<bys.length) (d:Int):Ru (bys.set v d)=upd (Ru bys) (v:Int) d:=by
 funext u
 unfold Ru upd
 by_cases e:u=(v:Int)
 ·subst e
  rw [if_pos (by omega),if_pos rfl,Bj9,Bj1,Bn4 hv];rfl
 ·rw [if_neg e]
  show _=if 0<=u then bys.getD u.toNat 0 else 0
  by_cases h0:0<=u
  ·rw [if_pos h0,if_pos h0,Bj1,Bn3 (by omega),Bj1]
  ·rw [if_neg h0,if_neg h0]
def XN (S:List SC) (back:Bool):Nums:=fun i u v w=>∃x,0<=i/\S[i.toNat]? =some x/\x.w=w/\(if back then x.t=u/\x.f=v else x.f=u/\x.t=v)
def Bw (back:Bool) (A:Int->Int->Int->Prop):Int->Int->Int->Prop:=if back then Pk A else A
theorem Ae1 {S:List SC} {back:Bool} {u v w:Int}:(XN S back).rel u v w↔Bw back (Ls S) u v w:=by
 constructor
 ·rintro ⟨i,x,_,hx,hw,he⟩
  have hm:=Bl3 hx
  cases back with
  |true=>exact ⟨x,hm,he.2,he.1,hw⟩
  |false=>exact ⟨x,hm,he.1,he.2,hw⟩
 ·intro h
  have:∃x∈S,x.w=w/\(if back then x.t=u/\x.f=v else x.f=u/\x.t=v):=by
   cases back with
   |true=>obtain ⟨x,hx,h1,h2,h3⟩:=h;exact ⟨x,hx,h3,h2,h1⟩
   |false=>obtain ⟨x,hx,h1,h2,h3⟩:=h;exact ⟨x,hx,h3,h1,h2⟩
  obtain ⟨x,hx,hw,he⟩:=this;obtain ⟨i,hi,e⟩:=Bm9.1 hx;exact ⟨(i:Int),x,by omega,by rw [Bj9,Bj0 hi,e],hw,he⟩
theorem Bc8 {S:List SC} {back:Bool} {i u v w v' w':Int} (h:XN S back i u v w) (h':XN S back i u v' w'):v'=v/\w'=w:=by
 obtain ⟨x,_,hx,hw,he⟩:=h;obtain ⟨y,_,hy,hw',he'⟩:=h';rw [hx] at hy
 cases hy
 cases back with
 |true=>exact ⟨he'.2.symm.trans he.2,hw'.symm.trans hw⟩
 |false=>exact ⟨he'.2.symm.trans he.2,hw'.symm.trans hw⟩
section
variable {es:List EdgeD} {n:Nat} {R:List Int} {S:List SC} {out:List Int}
theorem HierOK.hierB (h:HierOK es n R S out) (back:Bool):Hier (Bw back (Am es)) (XN S back).rel (rk out) (Aa n):=by
 have e:(XN S back).rel=Bw back (Ls S):=by funext u v w;exact propext Ae1
 rw [e]
 cases back with
 |true=>exact h.h.turn
 |false=>exact h.h
theorem Mn (h:HierOK es n R S out) {x:SC} (hx:x∈S):Pa R x=decide (rk out x.t<rk out x.f):=by
 obtain ⟨h1,h2,_,_⟩:=h.ends x hx;unfold Pa;rw [Qg h h1,Qg h h2]
theorem Bg9 (h:HierOK es n R S out) {x:SC} (hx:x∈S):rk out x.f≠rk out x.t:=by
 obtain ⟨h1,h2,h3,_⟩:=h.ends x hx;exact fun e=>h3 (h.h.inj _ _ h1 h2 e)
theorem Oq {j:Nat} (hj:j<S.length):S.getD j scZ=S[j]:=by rw [Bj1,Bj0 hj];rfl
theorem Ux (h:HierOK es n R S out) (b:Bool) {u:Nat} (hu:u<n) (j:Int):
  j∈(if b then (An R S n S.length).2 else (An R S n S.length).1).getD u []↔∃i:Nat,j=(i:Int)/\∃hi:i<S.length,(if b then S[i].t=(u:Int)/\rk out S[i].t<rk out S[i].f else S[i].f=(u:Int)/\rk out S[i].f<rk out S[i].t):=by
 obtain ⟨m1,m2⟩:=Tg R S n (fun x hx=>⟨(h.ends x hx).1,(h.ends x hx).2.1⟩) S.length (Bi7 _) u hu
 cases b with
 |true=>
  simp only [if_true];rw [m2 j];constructor
  ·rintro ⟨i,e,hi,h1,h2⟩
   rw [Oq hi] at h1 h2;rw [Mn h (Bj7 hi)] at h2;exact ⟨i,e,hi,h1,of_decide_eq_true h2⟩
  ·rintro ⟨i,e,hi,h1,h2⟩
   refine ⟨i,e,hi,by rw [Oq hi];exact h1,?_⟩;rw [Oq hi,Mn h (Bj7 hi)];exact decide_eq_true h2
 |false=>
  simp only [Bool.false_eq_true,if_false];rw [m1 j];constructor
  ·rintro ⟨i,e,hi,h1,h2⟩
   rw [Oq hi] at h1 h2;rw [Mn h (Bj7 hi)] at h2;have h3:=of_decide_eq_false h2;have h4:=Bg9 h (Bj7 hi);exact ⟨i,e,hi,h1,by omega⟩
  ·rintro ⟨i,e,hi,h1,h2⟩
   refine ⟨i,e,hi,by rw [Oq hi];exact h1,?_⟩;rw [Oq hi,Mn h (Bj7 hi)];exact decide_eq_false (by omega)
theorem Zq (h:HierOK es n R S out) (b:Bool) {u:Nat} (hu:u<n):∀i∈(if b then (An R S n S.length).2 else (An R S n S.length).1).getD u [],0<=i/\i<(S.length:Int):=by
 intro j hj;obtain ⟨i,e,hi,_⟩:=(Ux h b hu j).1 hj;omega
abbrev Cf (R:List Int) (S:List SC) (n:Nat) (u:Nat) (b:Bool):List Bt:=Kz S (An R S n S.length).1 (An R S n S.length).2 u b
theorem Jn (h:HierOK es n R S out) (b:Bool) {u:Nat} (hu:u<n) (x:Bt):
  x∈Cf R S n u b↔∃i:Nat,∃hi:i<S.length,x=((i:Int),(if b then S[i].f else S[i].t),S[i].w)/\(if b then S[i].t=(u:Int)/\rk out S[i].t<rk out S[i].f else S[i].f=(u:Int)/\rk out S[i].f<rk out S[i].t):=by
 unfold Cf Kz;rw [List.mem_map];constructor
 ·rintro ⟨j,hj,rfl⟩
  obtain ⟨i,rfl,hi,he⟩:=(Ux h b hu _).1 hj;refine ⟨i,hi,?_,he⟩;unfold Gr;rw [Bj9,Oq hi]
  cases b with
  |true=>simp only [if_true] at he ⊢;rw [he.1];simp
  |false=>simp only [Bool.false_eq_true,if_false] at he ⊢;rw [he.1];simp;omega
 ·rintro ⟨i,hi,rfl,he⟩
  refine ⟨(i:Int),(Ux h b hu _).2 ⟨i,rfl,hi,he⟩,?_⟩;unfold Gr;rw [Bj9,Oq hi]
  cases b with
  |true=>simp only [if_true] at he ⊢;rw [he.1];simp
  |false=>simp only [Bool.false_eq_true,if_false] at he ⊢;rw [he.1];simp;omega
theorem Ae8 (h:HierOK es n R S out) (back:Bool) {u:Nat} (hu:u<n) {x:Bt} (hx:x∈Cf R S n u back):
  XN S back x.1 (u:Int) x.2.1 x.2.2/\rk out (u:Int)<rk out x.2.1/\Aa n x.2.1/\1<=x.2.2/\x.2.2<=4294967296*2 ^ n:=by
 obtain ⟨i,hi,rfl,he⟩:=(Jn h back hu _).1 hx;have h1:=h.ends _ (Bj7 hi);have h2:=h.big _ (Bj7 hi)
 cases back with
 |true=>
  simp only [if_true] at he ⊢;exact ⟨⟨S[i],by omega,by rw [Bj9,Bj0 hi],rfl,he.1,rfl⟩,by rw [<-he.1];exact he.2,h1.1,h1.2.2.2,h2⟩
 |false=>
  simp only [Bool.false_eq_true,if_false] at he ⊢;exact ⟨⟨S[i],by omega,by rw [Bj9,Bj0 hi],rfl,he.1,rfl⟩,by rw [<-he.1];exact he.2,h1.2.1,h1.2.2.2,h2⟩
theorem Az1 (h:HierOK es n R S out) (back:Bool) {u:Nat} (hu:u<n) {i v w:Int} (hx:XN S back i (u:Int) v w) (hr:rk out (u:Int)<rk out v):(i,v,w)∈Cf R S n u back:=by
 obtain ⟨x,h0,hx,rfl,he⟩:=hx;obtain ⟨hi,e⟩:=Bj8.1 hx;refine (Jn h back hu _).2 ⟨i.toNat,hi,?_,?_⟩
 ·rw [e]
  cases back with
  |true=>simp only [if_true] at he ⊢;rw [he.2];congr 1;omega
  |false=>simp only [Bool.false_eq_true,if_false] at he ⊢;rw [he.2];congr 1;omega
 ·rw [e]
  cases back with
  |true=>simp only [if_true] at he ⊢;exact ⟨he.1,by rw [he.1,he.2];exact hr⟩
  |false=>simp only [Bool.false_eq_true,if_false] at he ⊢;exact ⟨he.1,by rw [he.1,he.2];exact hr⟩
theorem Nb (h:HierOK es n R S out) (back:Bool) {u:Nat} (hu:u<n) {x:Bt} (hx:x∈Cf R S n u (back != true)):
  Bw back (Ls S) x.2.1 (u:Int) x.2.2/\Aa n x.2.1/\1<=x.2.2/\x.2.2<=4294967296*2 ^ n:=by
 obtain ⟨i,hi,rfl,he⟩:=(Jn h _ hu _).1 hx;have h1:=h.ends _ (Bj7 hi);have h2:=h.big _ (Bj7 hi)
 cases back with
 |true=>
  simp only [bne_self_eq_false,Bool.false_eq_true,if_false] at he ⊢;exact ⟨⟨S[i],Bj7 hi,he.1,rfl,rfl⟩,h1.2.1,h1.2.2.2,h2⟩
 |false=>
  simp only [Bool.false_bne,if_true] at he ⊢;exact ⟨⟨S[i],Bj7 hi,rfl,he.1,rfl⟩,h1.1,h1.2.2.2,h2⟩
end
def Wh (far:List (Option Int)) (l:List IK) (u:Nat):Bool:=(far.getD u none).isNone||l.any (fun y=>decide (y.1=(u:Int)))
def Cz (n:Nat) (far:List (Option Int)) (l:List IK):Nat:=(List.range n).countP (Wh far l)
theorem Cq {far:List (Option Int)} {l:List IK} {u:Nat}:Wh far l u=true↔far.getD u none=none\/∃k,((u:Int),k)∈l:=by
 unfold Wh;rw [Bool.or_eq_true,List.any_eq_true,Option.isNone_iff_eq_none];constructor
 ·rintro (h|⟨y,hy,e⟩)
  ·exact .inl h
  ·refine .inr ⟨y.2,?_⟩
   rw [<-of_decide_eq_true e];exact hy
 ·rintro (h|⟨k,hk⟩)
  ·exact .inl h
  ·exact .inr ⟨_,hk,decide_eq_true rfl⟩
theorem Hh {α:Type} {p q:α->Bool}:∀{l:List α} (_:∀x∈l,q x=true->p x=true) {y:α} (_:y∈l) (_:p y=true) (_:q y=false),l.countP q<l.countP p
 |x::l,h,y,hy,h1,h2=>by
  have hle:l.countP q<=l.countP p:=List.countP_mono_left (fun z hz hq=>h z (List.mem_cons_of_mem _ hz) hq);rw [List.countP_cons,List.countP_cons]
  rcases Bl7.1 hy with rfl|hy
  ·rw [h1,h2]
   simp;omega
  ·have ih:=Hh (fun z hz hq=>h z (List.mem_cons_of_mem _ hz) hq) hy h1 h2
   have hx:=h x (List.mem_cons_self ..)
   cases hq:q x with
   |true=>rw [hx hq];simp;omega
   |false=>cases hp:p x<;>simp<;>omega
theorem Mv {n:Nat} {far:List (Option Int)} {l l':List IK} {v:Nat} {d:Int} (hv:v<n) (hin:((v:Int),d)∈l) (hf:far.getD v none=some d) (hl:∀y,y∈l'↔y∈l/\y.1≠(v:Int)):Cz n far l'<Cz n far l:=by
 refine Hh (fun u _ hu=>?_) (Bl9.2 hv) (Cq.2 (.inr ⟨d,hin⟩)) ?_
 ·rcases Cq.1 hu with h|⟨k,hk⟩
  ·exact Cq.2 (.inl h)
  ·exact Cq.2 (.inr ⟨k,((hl _).1 hk).1⟩)
 ·cases hb:Wh far l' v with
  |false=>rfl
  |true=>
   rcases Cq.1 hb with h|⟨k,hk⟩
   ·rw [hf] at h;cases h
   ·exact absurd rfl ((hl _).1 hk).2
theorem On {n:Nat} {far:List (Option Int)} {l l':List IK} {v:Nat} {d:Int} (hv:v<far.length) (hw:Wh far l v=true) (hl:∀y,y∈l'↔y=((v:Int),d)\/(y∈l/\y.1≠(v:Int))):Cz n (far.set v (some d)) l'<=Cz n far l:=by
 refine List.countP_mono_left (fun u _ hu=>?_)
 by_cases e:u=v
 ·subst e
  exact hw
 ·rcases Cq.1 hu with h|⟨k,hk⟩
  ·rw [Bj1,Bn3 (fun h=>e h.symm),<-Bj1] at h
   exact Cq.2 (.inl h)
  ·rcases (hl _).1 hk with h|⟨h,_⟩
   ·cases h
    exact absurd rfl e
   ·exact Cq.2 (.inr ⟨k,h⟩)
theorem Run.full {A:Int->Int->Int->Prop} {X:Nums} {r:Int->Int} {s:Int} {far:Int->Option Int} {by':Int->Int} {l:List (Int×Int)} {cur:Int} {out:List Lab} {done done':Int->Int->Prop} (h:Run A X r s far by' l cur out done)
  (hc:∀a∈out,∀i v w,done' a.v i->X i a.v v w->r a.v<r v->done a.v i):Run A X r s far by' l cur out done':=
 ⟨h.sound,h.start,h.heap,h.lab,h.rest,h.way,fun a ha i v w hd hx hr=>h.gone a ha i v w (hc a ha i v w hd hx hr) hx hr,h.once,h.low⟩
theorem Ti {es:List EdgeD} {n:Nat} {R:List Int} {S:List SC} {ro:List Int} (hok:HierOK es n R S ro) (back:Bool) {vn:Nat} (hvn:vn<n) {x:Bt} (hx:x∈Cf R S n vn back) {st:US} (hho:HeapOK st.l st.p) (h1:st.far.length=n) (h2:st.bys.length=n) (h3:st.p.length=n)
  {s cur:Int} {out:List Lab} {done:Int->Int->Prop} {a:Lab} (ha:a∈out) (hav:a.v=(vn:Int)) (had:a.d=cur) (h:Run (Bw back (Am es)) (XN S back) (rk ro) s (Em st.far) (Ru st.bys) st.l cur out done):
  Run (Bw back (Am es)) (XN S back) (rk ro) s (Em (Ct st x.2.1.toNat (cur+x.2.2) x.1).far) (Ru (Ct st x.2.1.toNat (cur+x.2.2) x.1).bys) (Ct st x.2.1.toNat (cur+x.2.2) x.1).l cur out (fun u j=>done u j\/(u=(vn:Int)/\j=x.1))/\
   Cz n (Ct st x.2.1.toNat (cur+x.2.2) x.1).far (Ct st x.2.1.toNat (cur+x.2.2) x.1).l<=Cz n st.far st.l:=by
 obtain ⟨k1,k2,k3,k4,k5⟩:=Ae8 hok back hvn hx;obtain ⟨xi,xt,xw⟩:=x;simp only at k1 k2 k3 k4 k5 ⊢;obtain ⟨t,rfl⟩:∃t:Nat,xt=t:=⟨xt.toNat,by have:=k3.1;omega⟩;rw [Bj9];have ht:t<n:=by have:=k3.2;omega
 have huniq:∀v' w',XN S back xi a.v v' w'->v'=(t:Int)/\w'=xw:=fun v' w' k=>Bc8 (by rw [hav];exact k1) k;rw [<-hav] at k1 k2;rw [<-hav,<-had];rw [<-had] at h
 cases hl:(As st.far t (a.d+xw)).1 with
 |false=>
  obtain ⟨_,e,he,hle⟩:=Fi hl;have hr:Ct st t (a.d+xw) xi=st:=by unfold Ct;rw [hl];rfl
  rw [hr];exact ⟨Run.skip h ha huniq (by rw [Co];exact he) hle,Bi7 _⟩
 |true=>
  obtain ⟨hf,hlt⟩:=Gj hl;have hr:Ct st t (a.d+xw) xi=⟨st.far.set t (some (a.d+xw)),st.bys.set t xi,(Bf st.l st.p t (a.d+xw)).2.1,(Bf st.l st.p t (a.d+xw)).2.2⟩:=by unfold Ct;rw [hl,hf];rfl
  rw [hr];simp only;have hfar:∀e,Em st.far (t:Int)=some e->a.d+xw<e:=fun e he=>hlt e (by rw [<-Co];exact he);obtain ⟨l1,l2,l3,l4,l5⟩:=Dt hho (v:=t) (by rw [h3];exact ht) (a.d+xw);have hput:∀y,y∈(Bf st.l st.p t (a.d+xw)).2.1↔(y=((t:Int),a.d+xw)\/(y∈st.l/\y.1≠(t:Int))):=by
   cases hb:(Bf st.l st.p t (a.d+xw)).1 with
   |true=>exact l3 hb
   |false=>
    obtain ⟨_,k,hk,hle⟩:=l4 hb;have:=hfar k (h.heap _ _ hk).1;omega
  refine ⟨?_,On (by rw [h1];exact ht) ?_ hput⟩
  ·rw [Mm (by rw [h1];exact ht),Yo (by rw [h2];exact ht)]
   exact Run.reach (fun i u v w k=>⟨((hok.hierB back).sound _ _ _ ⟨i,k⟩).2.imp (fun _ _=>trivial),by
    obtain ⟨y,_,hy,hw,_⟩:=k;rw [<-hw];exact (hok.ends y (Bl3 hy)).2.2.2⟩) h ha rfl k1 k2 huniq hfar hput
  ·refine Cq.2 ?_
   cases hfx:st.far.getD t none with
   |none=>exact .inl rfl
   |some e=>
    rcases h.rest (t:Int) e (by rw [Co];exact hfx) with h9|⟨_,h9⟩
    ·exact .inr ⟨e,h9⟩
    ·have:=hlt e hfx
     omega
end
section
open Go Go.Proofs Go.RowKit Go.Shelf Hp Ch
structure LB where
 v:Int
 d:Int
 b:Int
def Ao:List LB->List Value
 |[]=>[]
 |x::l=>.int .i64 x.v::.int .u64 x.d::.int .i64 x.b::Ao l
theorem Fs:∀(l:List LB) (k:Nat) (h:k<l.length),(Ao l)[k*3]? =some (.int .i64 l[k].v)/\(Ao l)[k*3+1]? =some (.int .u64 l[k].d)/\(Ao l)[k*3+2]? =some (.int .i64 l[k].b)
 |x::l,0,_=>⟨rfl,rfl,rfl⟩
 |x::l,k+1,h=>by
  have ih:=Fs l k (by simpa using h);have e1:(k+1)*3=k*3+1+1+1:=by omega
  simp only [e1,Ao,Bk6,List.getElem_cons_succ];exact ih
theorem Cel.lab {w:World} {ao:Option Addr} {l:List LB} (h:Cel w ao (Ao l)) {i:Nat} (hi:i<l.length):
  ∃b o,ao=some ⟨b,o,none⟩/\w.cell? ⟨b,o+i*3,none⟩=some (.int .i64 l[i].v)/\w.cell? ⟨b,o+i*3+1,none⟩=some (.int .u64 l[i].d)/\w.cell? ⟨b,o+i*3+2,none⟩=some (.int .i64 l[i].b):=by
 obtain ⟨h1,h2,h3⟩:=Fs l i hi;obtain ⟨b,o,e,c1⟩:=h _ _ h1;obtain ⟨b',o',e',c2⟩:=h _ _ h2;obtain ⟨b'',o'',e'',c3⟩:=h _ _ h3;rw [e] at e' e''
 cases e'
 cases e''
 exact ⟨b,o,e,c1,by rw [Nat.add_assoc];exact c2,by rw [Nat.add_assoc];exact c3⟩
def byF (l:List LB):Int->Option Int:=l.foldl (fun f x=>Zh f x.v x.d) (fun _=>none)
theorem Rv {l:List LB} {k:Nat} (h:k<l.length):byF (l.take (k+1))=Zh (byF (l.take k)) l[k].v l[k].d:=by
 unfold byF;rw [Bk3 h,List.foldl_append];rfl
def Ln (l:List LB) (w:World) (e:Ending) (w':World):Prop:=∃b,e=.returned (.map (some b))/\MapW w' b l.length (byF l)/\w.heap.size<=b/\Below w.heap.size w w'
theorem Ad5 (l:List LB) (ao:Option Addr) (cap:Nat) (w:World) (hc:Cel w ao (Ao l)) (hl:l.length<=1000000) (hin:∀x∈l,In6 x.v/\0<=x.d/\x.d<=18446744073709551615):
  Calls Tryz.prog 143 #[.slice ao l.length cap] w (Ln l w):=by
 have hmm:=@run_makeMap Tryz.prog;have HC:=Bi5 hc;have HIN:=Bi5 hin;have hl2:(l.length:Int)<=1000000:=by omega
 have HM0:=Bi5 (MapW.new w);have HL:=Bi5 hl;unfold Ln;clear hc hin
 go_enter Tryz.func143,Tryz.ntmps143
 go_wp2
 go_loopg [9] l.length (fun gm v9 wr=>∃k:Nat,k<=l.length/\l.length-k<=gm/\v9=.int .i64 k/\Aside (MapW wr w.heap.size k (byF (l.take k)))/\Aside (Below w.heap.size w wr))
 case atStart=>exact ⟨0,Bi8 _,by omega,rfl,by rw [List.take_zero];exact HM0.out,Below.of_al _ _⟩
 case round=>
  obtain ⟨k,hk,hg,rfl,HM,HB⟩:=hrel
  by_cases hlt:k<l.length
  ·have hlt2:(k:Int)<(l.length:Int):=by omega
   have hk0:(0:Int)<=(k:Int):=by omega
   obtain ⟨lb,lo,rfl,y0,y1,y2⟩:=(HC.out.go HB.out).lab hlt;obtain ⟨i1,i2⟩:=HIN.out l[k] (Bj7 hlt);have HTK:=Bi5 (Rv hlt);generalize l[k]=x at*;obtain ⟨w2,hup,hm2,ho2⟩:=(HM.out.go (Below.of_al wr (Obj.cells #[.int .i64 x.v,.int .u64 x.d,.int .i64 x.b] 150))).put (by omega) i1 i2;have HM2:=Bi5 (show MapW w2 w.heap.size (k+1) (byF (l.take (k+1))) by rw [HTK.out];exact hm2);have HB2:=Bi5 (show Below w.heap.size w w2 from (HB.out.st (Below.of_al wr _)).trans (ho2.below ((HB.out.st (Below.of_al wr (Obj.cells #[.int .i64 x.v,.int .u64 x.d,.int .i64 x.b] 150))).size) (fun j hj=>by have e:j=w.heap.size:=hj;omega)));clear hm2 ho2 i1 i2
   go_wp2
   go_roundg (l.length-(k+1))
   case measure=>omega
   case rel=>exact ⟨k+1,by omega,Bi7 _,by go_num,HM2.out,HB2.out⟩
  ·obtain rfl:k=l.length:=by omega
   go_wp2
   go_ret
   have:=HM.out;rw [Bn1] at this;exact ⟨_,rfl,this,Bi7 _,HB.out⟩
def Xi (f:Int->Option Int) (best:Int) (x:LB):Int:=match f x.v with
 |some y=>min best (x.d+y)
 |none=>best
def Bh (f:Int->Option Int) (l:List LB):Int:=l.foldl (Xi f) 4611686018427387904
theorem Qq {f:Int->Option Int} {l:List LB} {k:Nat} (h:k<l.length):Bh f (l.take (k+1))=Xi f (Bh f (l.take k)) l[k]:=by
 unfold Bh;rw [Bk3 h,List.foldl_append];rfl
theorem Al2 (l:List LB) (f:Int->Option Int) (ao:Option Addr) (cap b n:Nat) (w:World) (hc:Cel w ao (Ao l)) (hm:MapW w b n f) (hl:l.length<=1000000) (hin:∀x∈l,In6 x.v/\0<=x.d/\x.d<=1152921504606846976) (hf:∀u x,f u=some x->0<=x/\x<=1152921504606846976):
  Calls Tryz.prog 142 #[.slice ao l.length cap,.map (some b)] w fun e w'=>e=.returned (.int .u64 (Bh f l))/\Below w.heap.size w w':=by
 have HC:=Bi5 hc;have HIN:=Bi5 hin;have HF:=Bi5 hf;have HM:=Bi5 hm;have hl2:(l.length:Int)<=1000000:=by omega
 clear hc hin hf hm
 go_enter Tryz.func142,Tryz.ntmps142
 go_wp2
 go_loopg [5,12] l.length (fun gm v5 v12 wr=>∃k:Nat,k<=l.length/\l.length-k<=gm/\v12=.int .i64 k/\v5=.int .u64 (Bh f (l.take k))/\Aside (Below w.heap.size w wr))
 case atStart=>exact ⟨0,Bi8 _,by omega,rfl,rfl,Below.refl _ _⟩
 case round=>
  obtain ⟨k,hk,hg,rfl,rfl,HB⟩:=hrel
  by_cases hlt:k<l.length
  ·have hlt2:(k:Int)<(l.length:Int):=by omega
   have hk0:(0:Int)<=(k:Int):=by omega
   obtain ⟨lb,lo,rfl,y0,y1,y2⟩:=(HC.out.go HB.out).lab hlt;obtain ⟨i1,d0,d1⟩:=HIN.out l[k] (Bj7 hlt);have HTK:=Bi5 (Qq (f:=f) hlt);generalize l[k]=x at*;generalize Bh f (l.take k)=best at*;have lk:=((HM.out.go HB.out).go (Below.of_al wr (Obj.cells #[.int .i64 x.v,.int .u64 x.d,.int .i64 x.b] 150))).look i1;have HB2:=Bi5 (HB.out.st (Below.of_al wr (Obj.cells #[.int .i64 x.v,.int .u64 x.d,.int .i64 x.b] 150)))
   cases hy:f x.v with
   |none=>
    rw [hy] at lk;have HN:=Bi5 (show Bh f (l.take (k+1))=best by have:=HTK.out;unfold Xi at this;rw [hy] at this;exact this);simp only [Option.isSome,Option.getD] at lk;clear hy i1
    go_wp2
    go_roundg (l.length-(k+1))
    case measure=>omega
    case rel=>exact ⟨k+1,by omega,Bi7 _,by go_num,by rw [HN.out],HB2.out⟩
   |some y=>
    rw [hy] at lk;obtain ⟨e0,e1⟩:=HF.out _ _ hy;have HN:=Bi5 (show Bh f (l.take (k+1))=if x.d+y<best then x.d+y else best by
     have:=HTK.out;unfold Xi at this;rw [hy] at this;rw [this]
     show min best (x.d+y)=_
     rw [Int.min_def]
     split<;>split<;>omega)
    simp only [Option.isSome,Option.getD] at lk;clear hy i1
    by_cases hmn:x.d+y<best
    ·have HN2:=Bi5 (show Bh f (l.take (k+1))=x.d+y by rw [HN.out,if_pos hmn])
     go_wp2
     go_roundg (l.length-(k+1))
     case measure=>omega
     case rel=>exact ⟨k+1,by omega,Bi7 _,by go_num,by rw [HN2.out],HB2.out⟩
    ·have HN2:=Bi5 (show Bh f (l.take (k+1))=best by rw [HN.out,if_neg hmn])
     go_wp2
     go_roundg (l.length-(k+1))
     case measure=>omega
     case rel=>exact ⟨k+1,by omega,Bi7 _,by go_num,by rw [HN2.out],HB2.out⟩
  ·obtain rfl:k=l.length:=by omega
   rw [Bn1]
   go_wp2
   go_ret
   exact ⟨rfl,HB.out⟩
end
section
open Go Go.Proofs Go.RowKit
section
variable {P:Program} {ops:Array Oper} {md:Region.Mode} {C:World->Prop}
def Gs (md:Region.Mode) (ops:Array Oper) (m n:Nat):Bool:=
 (List.range n).all fun i=>decide (i<m)||(List.range (n+1)).any fun j=>decide (i<j)&&Region.waitsFor md ops j i
def Ahead (m:Nat) (listed:Array Bool):Prop:=∀i,i<m->listed.getD i true=true
theorem Ahead.set {m j:Nat} {listed:Array Bool} (h:Ahead m listed):Ahead m (listed.setIfInBounds j true):=by
 intro i hi
 by_cases e:j=i
 ·subst e
  rcases Nat.lt_or_ge j listed.size with h'|h'<;>simp [h']
 ·rw [getD_set_ne true e];exact h i hi
theorem Ib {m n:Nat} {listed:Array Bool} (hs:Gs md ops m n=true) (hc:Region.chainB md ops n=true) (hn:n<ops.size) (inv:HeadInv md ops n listed) (hp:Ahead m listed):
  ∀(d i:Nat),n-i=d->i<n->listed.getD i true=false->∀t,n<=t->t∉Region.ready md ops listed:=by
 intro d
 induction d using Nat.strongRecOn with
 |_ d ih=>
  intro i hd hi hun t ht hr;obtain ⟨_,ot,hot,hall⟩:=mem_ready.1 hr;have htlt:t<ops.size:=(Bj2.1 hot).1
  by_cases htn:t=n
  ·subst htn
   have h1:=List.all_eq_true.1 hs i (Bl9.2 hi);have him:¬i<m:=fun h=>by rw [hp i h] at hun;cases hun
   simp only [him,decide_false,Bool.false_or] at h1;obtain ⟨j,hj,hj2⟩:=List.any_eq_true.1 h1;simp only [Bool.and_eq_true,decide_eq_true_eq] at hj2;obtain ⟨oj,hoj,e,he,hb,hon⟩:=Region.waitsFor_spec hj2.2;have hjle:j<=t:=by have:=Bl9.1 hj;omega
   by_cases hjt:j=t
   ·subst hjt
    have:oj=ot:=Bl4 (hoj.symm.trans hot);subst this;have h2:=hall e he hb;rw [hon,getD_both hun] at h2
    cases h2
   ·cases hl:listed.getD j false with
    |true=>
     have h2:=inv.closed j oj hoj hl e he hb;rw [hon,getD_both hun] at h2
     cases h2
    |false=>
     have hjs:j<listed.size:=by rw [inv.size];omega
     exact ih (t-j) (by omega) j rfl (by omega) (Go.getD_in hjs hl) t (Bi7 _) hr
  ·have h1:=List.all_eq_true.1 hc t (Bl9.2 htlt)
   simp only [Bool.or_eq_true,decide_eq_true_eq] at h1
   rcases h1 with h1|h1
   ·omega
   ·obtain ⟨o',ho',e,he,hb,hon⟩:=Region.waitsFor_spec h1
    have:o'=ot:=Bl4 (ho'.symm.trans hot);subst this;have h2:=hall e he hb;rw [hon,getD_both (inv.tail (t-1) (by omega) (by omega))] at h2
    cases h2
def Yd (P:Program) (md:Region.Mode) (ops:Array Oper) (C:World->Prop) (n:Nat) (L:Array Bool->Act->Prop):Nat->Array Bool->Act->Prop
 |0,listed,a=>L listed a
 |f+1,listed,a=>
  Region.ready md ops listed≠[]/\∀i∈Region.ready md ops listed,i<n/\qOp P ops C i (Yd P md ops C n L f (listed.setIfInBounds i true)) a
theorem Hy {n g:Nat} {L:Array Bool->Act->Prop} {Q':Exit->Act->World->Prop} (hL:∀listed a w,C w->L listed a->wpAny P md ops Q' g listed a w):
  ∀(f:Nat) (listed:Array Bool) (a:Act) (w:World),C w->Yd P md ops C n L f listed a->wpAny P md ops Q' (f+g) listed a w
 |0,listed,a,w,hw,h=>by rw [Nat.zero_add];exact hL _ _ _ hw h
 |f+1,listed,a,w,hw,h=>by
  rw [show f+1+g=(f+g)+1 by omega];exact ⟨fun h0=>absurd h0 h.1,fun i hi=>wpOp_of_qOp hw (fun a' w' hw' h'=>Hy hL f _ a' w' hw' h') (h.2 i hi).2⟩
theorem Yc {m n i:Nat} {oi:Oper} {v:Value} {L:Array Bool->Act->Prop} (hi:ops[i]? =some oi) (hsel:∀(j:Nat) (o:Oper) cs b,ops[j]? =some o->o.op≠.select cs b)
  (hs:Gs md ops m n=true) (hc:Region.chainB md ops n=true) (hn:n<ops.size) (hin:i<n)
  (hdone:∀listed a,L listed a->∀j∈Region.ready md ops listed,n<=j):
  ∀(f:Nat) (listed:Array Bool) (a:Act),HeadInv md ops n listed->Ahead m listed->
   (∀j oj,ops[j]? =some oj->j≠i->listed.getD j true=false->(∀e∈oj.after,Region.binds md e=true->e.on≠i)->oi.apart ops oj=true)->
   i∈Region.ready md ops listed->YieldsIn P ops C oi v a->
   Yd P md ops C n L f (listed.setIfInBounds i true) (a.put oi.dst v)->Yd P md ops C n L (f+1) listed a:=by
 intro f
 induction f with
 |zero=>
  intro listed a inv hp _ hr hy H;have hun:=(mem_ready.1 hr).1;refine ⟨fun h=>(by rw [h] at hr;cases hr),fun j hj=>?_⟩;have hjn:j<n:=by
   rcases Nat.lt_or_ge j n with h|h
   ·exact h
   ·exact absurd hj (Ib hs hc hn inv hp _ i rfl hin hun j h)
  refine ⟨hjn,?_⟩
  by_cases hji:j=i
  ·subst hji;exact hy.qOp hi H
  ·have:=hdone _ _ H j (ready_mono hj hji)
   omega
 |succ f ih=>
  intro listed a inv hp hfree hr hy H;have hun:=(mem_ready.1 hr).1;refine ⟨fun h=>(by rw [h] at hr;cases hr),fun j hj=>?_⟩;have hjn:j<n:=by
   rcases Nat.lt_or_ge j n with h|h
   ·exact h
   ·exact absurd hj (Ib hs hc hn inv hp _ i rfl hin hun j h)
  refine ⟨hjn,?_⟩
  by_cases hji:j=i
  ·subst hji;exact hy.qOp hi H
  ·have h1:=(H.2 j (ready_mono hj hji)).2
   obtain ⟨hjun,oj,hoj,hall⟩:=mem_ready.1 hj;have hnot:∀e∈oj.after,Region.binds md e=true->e.on≠i:=fun e he hb heq=>by
    have h1:=hall e he hb;rw [heq,getD_both hun] at h1
    cases h1
   have h2:=qOp_put hoj (hfree j oj hoj hji hjun hnot) (fun cs b=>hsel i oi cs b hi) (fun cs b=>hsel j oj cs b hoj) hy h1;have hfree':∀k ok,ops[k]? =some ok->k≠i->(listed.setIfInBounds j true).getD k true=false->
     (∀e∈ok.after,Region.binds md e=true->e.on≠i)->oi.apart ops ok=true:=fun k ok hk hki hun hno=>by
    refine hfree k ok hk hki ?_ hno
    by_cases hjk:j=k
    ·subst hjk;exact hjun
    ·rw [getD_set_ne true hjk] at hun;exact hun
   refine qOp_mono (fun a' h3=>ih (listed.setIfInBounds j true) a' (inv.set hj hjn) hp.set hfree' (ready_mono hr (Ne.symm hji)) h3.1 ?_) h2;rw [Array.setIfInBounds_comm _ _ hji];exact h3.2
theorem Np {m n g:Nat} {Lq:Act->Prop} (hsel:Region.noSelect ops=true) (hs:Gs md ops m n=true) (hc:Region.chainB md ops n=true) (hn:n<ops.size):
  ∀(l:List Oper) (k:Nat) (listed:Array Bool) (a:Act),(∀j,j<l.length->l[j]? =ops[k+j]?)->k+l.length=n->HeadInv md ops n listed->Ahead m listed->
  Region.lexHead md ops g l.length k listed=true->wpQuiet P ops C Lq l a->
  Yd P md ops C n (fun listed' a'=>Region.seqB md ops g n listed'=true/\Lq a') l.length listed a
 |[],k,listed,a,_,hk,_,_,hB,h=>by
  have:k=n:=by simpa using hk
  subst this;exact ⟨by simpa [Region.lexHead] using hB,h⟩
 |o::l,k,listed,a,hl,hk,inv,hp,hB,h=>by
  have h0:ops[k]? =some o:=by simpa using (hl 0 (by simp)).symm
  simp only [Bk0,Region.lexHead,Bool.and_eq_true] at hB;obtain ⟨⟨hr,hf⟩,hB'⟩:=hB;have hkn:k<n:=by simp only [Bk0] at hk;omega
  have hr':k∈Region.ready md ops listed:=by simpa using hr
  have hst:qOp P ops C k (wpQuiet P ops C Lq l) a:=by unfold qOp;simp only [h0];exact h
  obtain ⟨v,hy,hK⟩:=yieldsIn_of_qOp h0 hst;exact Yc h0 (Region.noSelect_spec hsel) hs hc hn hkn (fun listed' a' hL=>seqB_ready hL.1) l.length listed a inv hp (Region.free_spec h0 hf) hr' hy
   (Np hsel hs hc hn l (k+1) _ _ (fun j hj=>by have:=hl (j+1) (by simp;omega);simpa [Nat.add_assoc,Nat.add_comm 1 j] using this) (by simp only [Bk0] at hk;omega) (inv.set hr' hkn) hp.set hB' hK)
theorem Pg {id:Nat} {Q:Exit->Act->World->Prop} {a:Act} {w:World} {l:List Oper} (n:Nat) (hm:P.follows .mixedOrders=true) (hB:Region.lexTailB .any l.toArray n=true) (hC:C { w with drawn:=w.drawn+1 })
  (h:wpQuiet P l.toArray C (fun a'=>∀w',C w'->wpList P l.toArray Q (l.drop n) a' w') (l.take n) a):(Code.region id l.toArray true).wp P Q a w:=by
 simp only [Region.lexTailB,Bool.and_eq_true,decide_eq_true_eq] at hB;obtain ⟨⟨⟨⟨hsel,hn⟩,hs⟩,hc⟩,hlex⟩:=hB;have hn':n<l.length:=by simpa using hn
 have htl:(l.take n).length=n:=by simp;omega
 have hdl:(l.drop n).length=l.toArray.size-n:=by simp
 have inv0:HeadInv .any l.toArray n (Array.replicate l.toArray.size false):=
  ⟨by simp,fun j oj _ hl=>(by rw [getD_replicate_false] at hl;cases hl),fun t _ ht=>Go.getD_in (by simpa using ht) (getD_replicate_false _ _)⟩
 have hs0:Gs .any l.toArray 0 n=true:=by
  unfold Gs
  simpa [Region.sinkB] using hs
 have H:=Np (md:=.any) (C:=C) (m:=0) (g:=l.toArray.size-n) hsel hs0 hc hn (l.take n) 0 _ a (fun j hj=>by
  have hj':j<n:=by rw [htl] at hj;exact hj
  simp [hj']) (by simpa using htl) inv0 (fun i hi=>absurd hi (Nat.not_lt_zero _)) (by rw [htl];exact hlex) h
 refine wp_region_any hm ?_;have:=Hy (Q':=Q) (g:=l.toArray.size-n) (fun listed a' w' hw hL=>by
  have:=wpAny_of_seq (md:=.any) (Q':=Q) (l.drop n) n listed a' w' (fun j=>by simp [List.getElem?_drop]) (by rw [hdl];exact hL.1) (hL.2 _ hw)
  rwa [hdl] at this) _ _ _ _ hC H
 rw [htl,show n+(l.toArray.size-n)=l.toArray.size by omega] at this;exact this
def Nl (md:Region.Mode) (ops:Array Oper) (n:Nat):Bool:=
 Region.noSelect ops&&decide (n<ops.size)&&Gs md ops 1 n&&Region.chainB md ops n&&(decide (0<n)&&(Region.ready md ops (Array.replicate ops.size false)).contains 0&&Region.free md ops (Array.replicate ops.size false) 0)&&
  Region.lexHead md ops (ops.size-n) (n-1) 1 ((Array.replicate ops.size false).setIfInBounds 0 true)
theorem Ms {id:Nat} {Q:Exit->Act->World->Prop} {a:Act} {w:World} {d:Option Tmp} {x:Operand} {ty:TypeId} {pos:String} {aft:Array Edge} {l:List Oper} (n:Nat) (hm:P.follows .mixedOrders=true)
  (hB:Nl .any (⟨d,.move x,ty,pos,aft,none⟩::l).toArray (n+1)=true) (hC:C { w with drawn:=w.drawn+1 })
  (hQ:∀c a' w',Q (.panic c) (a'.put d (a.eval x)) w'->Q (.panic c) a' w')
  (h:wpQuiet P (⟨d,.move x,ty,pos,aft,none⟩::l).toArray C (fun a'=>∀w',C w'->wpList P (⟨d,.move x,ty,pos,aft,none⟩::l).toArray Q (l.drop n) a' w') (l.take n) (a.put d (a.eval x))):
  (Code.region id (⟨d,.move x,ty,pos,aft,none⟩::l).toArray true).wp P Q a w:=by
 simp only [Nl,Bool.and_eq_true,decide_eq_true_eq] at hB;obtain ⟨⟨⟨⟨⟨hsel,hn⟩,hs⟩,hc⟩,⟨_,hr0⟩,hf0⟩,hlex⟩:=hB;have hn':n<l.length:=by simpa using hn
 have htl:(l.take n).length=n:=by simp;omega
 generalize hops:(⟨d,.move x,ty,pos,aft,none⟩::l).toArray=ops at*;have hsz:ops.size=l.length+1:=by rw [<-hops];simp
 have h0:ops[0]? =some ⟨d,.move x,ty,pos,aft,none⟩:=by rw [<-hops];simp
 have hdl:(l.drop n).length=ops.size-(n+1):=by rw [hsz];simp
 have inv0:HeadInv .any ops (n+1) (Array.replicate ops.size false):=
  ⟨by simp,fun j oj _ hl=>(by rw [getD_replicate_false] at hl;cases hl),fun t _ ht=>Go.getD_in (by simpa using ht) (getD_replicate_false _ _)⟩
 have hr0':0∈Region.ready .any ops (Array.replicate ops.size false):=by simpa using hr0
 have hp:Ahead 1 ((Array.replicate ops.size false).setIfInBounds 0 true):=by
  intro i hi;obtain rfl:i=0:=by omega
  simp [hsz]
 have H:=Np (md:=.any) (C:=C) (m:=1) (g:=ops.size-(n+1)) hsel hs hc hn (l.take n) 1 _ (a.put d (a.eval x)) (fun j hj=>by
  have hj':j<n:=by rw [htl] at hj;exact hj
  rw [<-hops,Nat.add_comm 1 j];simp [hj']) (by rw [htl];omega) (inv0.set hr0' (by omega)) hp (by rw [htl];exact hlex) h
 refine wp_region_any hm ?_;have H2:=Hy (Q':=Q) (g:=ops.size-(n+1)) (fun listed a' w' hw hL=>by
  have:=wpAny_of_seq (md:=.any) (Q':=Q) (l.drop n) (n+1) listed a' w' (fun j=>by rw [<-hops,show n+1+j=(n+j)+1 by omega];simp [List.getElem?_drop]) (by rw [hdl];exact hL.1) (hL.2 _ hw)
  rwa [hdl] at this) _ _ _ _ hC H
 rw [htl] at H2;have hy:Yields P ops ⟨d,.move x,ty,pos,aft,none⟩ (a.eval x) a:=.inl ⟨rfl,fun w'=>BigFrame.run_move (o:=⟨d,.move x,ty,pos,aft,none⟩) x rfl w'⟩;have H3:=wpAny_take (fuel:=n+(ops.size-(n+1))) (Q:=Q) h0 hsel hf0 hr0 hQ hy H2;rw [show n+(ops.size-(n+1))+1=ops.size by omega] at H3;exact H3
end
theorem Fw {P:Program} {id:Nat} {Q:Exit->Act->World->Prop} {a:Act} {w:World} {l:List Oper} (n:Nat) (hm:P.follows .mixedOrders=true) (hB:Region.lexTailB .any l.toArray n=true)
  (h:wpQuiet P l.toArray (fun w'=>∃p:EP,w'=ext w p) (fun a'=>∀w',(∃p:EP,w'=ext w p)->wpList P l.toArray Q (l.drop n) a' w') (l.take n) a):(Code.region id l.toArray true).wp P Q a w:=
 Pg (C:=fun w'=>∃p:EP,w'=ext w p) n hm hB (Fl (below_drewN (Below.refl _ w) 1)) h
theorem Fd {P:Program} {id:Nat} {Q:Exit->Act->World->Prop} {a:Act} {w:World} {d:Option Tmp} {x:Operand} {ty:TypeId} {pos:String} {aft:Array Edge} {l:List Oper} (n:Nat) (hm:P.follows .mixedOrders=true)
  (hB:Nl .any (⟨d,.move x,ty,pos,aft,none⟩::l).toArray (n+1)=true)
  (hQ:∀c a' w',Q (.panic c) (a'.put d (a.eval x)) w'->Q (.panic c) a' w')
  (h:wpQuiet P (⟨d,.move x,ty,pos,aft,none⟩::l).toArray (fun w'=>∃p:EP,w'=ext w p) (fun a'=>∀w',(∃p:EP,w'=ext w p)->wpList P (⟨d,.move x,ty,pos,aft,none⟩::l).toArray Q (l.drop n) a' w') (l.take n) (a.put d (a.eval x))):
  (Code.region id (⟨d,.move x,ty,pos,aft,none⟩::l).toArray true).wp P Q a w:=
 Ms (C:=fun w'=>∃p:EP,w'=ext w p) n hm hB (Fl (below_drewN (Below.refl _ w) 1)) hQ h
end
end Go.Proofs.YteaaapdjplbljaaGreat
