/- The rows of a hierarchy that is looked up, in plain Lean. The search on the way up, in plain Lean: the rows of a hierarchy that was built are its shortcuts upward; what waits. Walk of package query: labels by their nodes. -/
import Derived.Test.YteaaapdjplbljaaGreatLw26
import Derived.Test.YteaaapdjplbljaaGreatLw27
import Derived.Test.YteaaapdjplbljaaGreatLw04
import Derived.Test.YteaaapdjplbljaaGreatProg
set_option linter.unusedVariables false
set_option linter.unusedSimpArgs false
set_option linter.unnecessarySimpa false
section
namespace Go.Proofs.YteaaapdjplbljaaGreat
open Go Go.Proofs Go.RowKit Go.Shelf Go.Proofs.YteaaapdjplbljaaGreat.Hp Go.Proofs.YteaaapdjplbljaaGreat.Ch
abbrev Rows2:=List (List Int)×List (List Int)
def pushAt (O:List (List Int)) (v:Int) (i:Nat):List (List Int):=O.set v.toNat (O.getD v.toNat []++[(i:Int)])
def downB (R:List Int) (x:SC):Bool:=decide (rAt R x.t<rAt R x.f)
def rowsStep (R:List Int) (p:Rows2) (x:SC) (i:Nat):Rows2:=if downB R x then (p.1,pushAt p.2 x.t i) else (pushAt p.1 x.f i,p.2)
def rowsK (R:List Int) (S:List SC) (n:Nat):Nat→Rows2
 |0=>(List.replicate n [],List.replicate n [])
 |k+1=>rowsStep R (rowsK R S n k) (S.getD k scZ) k
theorem pushAt_len (O:List (List Int)) (v:Int) (i:Nat):(pushAt O v i).length=O.length:=List.length_set
theorem rowsK_len (R:List Int) (S:List SC) (n:Nat):∀k,(rowsK R S n k).1.length=n∧(rowsK R S n k).2.length=n
 |0=>⟨by simp [rowsK],by simp [rowsK]⟩
 |k+1=>by
  obtain ⟨h1,h2⟩:=rowsK_len R S n k
  show (rowsStep _ _ _ _).1.length=n∧(rowsStep _ _ _ _).2.length=n
  unfold rowsStep
  split
  ·exact ⟨h1,by rw [pushAt_len];exact h2⟩
  ·exact ⟨by rw [pushAt_len];exact h1,h2⟩
theorem pushAt_get {O:List (List Int)} {v:Int} {i:Nat} {u:Nat} (hv:v.toNat<O.length):(pushAt O v i).getD u []=if u=v.toNat then O.getD u []++[(i:Int)] else O.getD u []:=by
 unfold pushAt
 rw [List.getD_eq_getElem?_getD,List.getElem?_set]
 by_cases e:v.toNat=u
 ·subst e
  rw [if_pos rfl,if_pos rfl,if_pos hv]
  rfl
 ·rw [if_neg e,if_neg (fun h=>e h.symm),List.getD_eq_getElem?_getD]
theorem ex_succ {j:Int} {k:Nat} {Q:Nat→Prop}:(∃i:Nat,j=(i:Int)∧i<k+1∧Q i)↔(∃i:Nat,j=(i:Int)∧i<k∧Q i)∨(j=(k:Int)∧Q k):=by
 constructor
 ·rintro ⟨i,h1,h2,h3⟩
  by_cases e:i=k
  ·subst e;exact .inr ⟨h1,h3⟩
  ·exact .inl ⟨i,h1,by omega,h3⟩
 ·rintro (⟨i,h1,h2,h3⟩|⟨h1,h2⟩)
  ·exact ⟨i,h1,by omega,h3⟩
  ·exact ⟨k,h1,by omega,h2⟩
theorem rowsK_mem (R:List Int) (S:List SC) (n:Nat) (hends:∀x∈S,nodeN n x.f∧nodeN n x.t):∀k,k≤S.length→∀(u:Nat),u<n→
  (∀j:Int,j∈(rowsK R S n k).1.getD u []↔∃i:Nat,j=(i:Int)∧i<k∧(S.getD i scZ).f=(u:Int)∧downB R (S.getD i scZ)=false)∧
  (∀j:Int,j∈(rowsK R S n k).2.getD u []↔∃i:Nat,j=(i:Int)∧i<k∧(S.getD i scZ).t=(u:Int)∧downB R (S.getD i scZ)=true)
 |0,_,u,hu=>by
  have hz:(List.replicate n ([]:List Int)).getD u []=[]:=by
   rw [List.getD_eq_getElem?_getD,List.getElem?_replicate]
   split<;>rfl
  constructor<;>(intro j;show j∈(List.replicate n ([]:List Int)).getD u []↔_;rw [hz];constructor)
  ·intro h;cases h
  ·rintro ⟨i,_,hi,_⟩;omega
  ·intro h;cases h
  ·rintro ⟨i,_,hi,_⟩;omega
 |k+1,hk,u,hu=>by
  obtain ⟨ih1,ih2⟩:=rowsK_mem R S n hends k (by omega) u hu
  obtain ⟨l1,l2⟩:=rowsK_len R S n k
  have hx:S.getD k scZ∈S:=by
   rw [List.getD_eq_getElem?_getD,List.getElem?_eq_getElem (by omega)]
   exact List.getElem_mem _
  obtain ⟨e1,e2⟩:=hends _ hx
  have hstep:rowsK R S n (k+1)=rowsStep R (rowsK R S n k) (S.getD k scZ) k:=rfl
  rw [hstep]
  unfold rowsStep
  cases hd:downB R (S.getD k scZ) with
  |true=>
   rw [if_pos rfl]
   refine ⟨fun j=>?_,fun j=>?_⟩
   ·rw [ex_succ,←ih1 j]
    constructor
    ·exact .inl
    ·rintro (h|⟨_,_,h⟩)
     ·exact h
     ·rw [hd] at h;cases h
   ·rw [ex_succ,←ih2 j,pushAt_get (by rw [l2];have:=e2.1;have:=e2.2;omega)]
    by_cases e:u=(S.getD k scZ).t.toNat
    ·rw [if_pos e,List.mem_append,List.mem_singleton]
     have e3:(S.getD k scZ).t=(u:Int):=by rw [e];have:=e2.1;omega
     constructor
     ·rintro (h|h)
      ·exact .inl h
      ·exact .inr ⟨h,e3,hd⟩
     ·rintro (h|⟨h,_⟩)
      ·exact .inl h
      ·exact .inr h
    ·rw [if_neg e]
     constructor
     ·exact .inl
     ·rintro (h|⟨_,h,_⟩)
      ·exact h
      ·exact absurd (by rw [h];rfl) e
  |false=>
   rw [if_neg (by simp)]
   refine ⟨fun j=>?_,fun j=>?_⟩
   ·rw [ex_succ,←ih1 j,pushAt_get (by rw [l1];have:=e1.1;have:=e1.2;omega)]
    by_cases e:u=(S.getD k scZ).f.toNat
    ·rw [if_pos e,List.mem_append,List.mem_singleton]
     have e3:(S.getD k scZ).f=(u:Int):=by rw [e];have:=e1.1;omega
     constructor
     ·rintro (h|h)
      ·exact .inl h
      ·exact .inr ⟨h,e3,hd⟩
     ·rintro (h|⟨h,_⟩)
      ·exact .inl h
      ·exact .inr h
    ·rw [if_neg e]
     constructor
     ·exact .inl
     ·rintro (h|⟨_,h,_⟩)
      ·exact h
      ·exact absurd (by rw [h];rfl) e
   ·rw [ex_succ,←ih2 j]
    constructor
    ·exact .inl
    ·rintro (h|⟨_,_,h⟩)
     ·exact h
     ·rw [hd] at h;cases h
end Go.Proofs.YteaaapdjplbljaaGreat
end
section
namespace Go.Proofs.YteaaapdjplbljaaGreat
open Go Go.Proofs Go.RowKit Go.Shelf Go.Proofs.YteaaapdjplbljaaGreat.Hp Go.Proofs.YteaaapdjplbljaaGreat.Ch
def farF (far:List (Option Int)) (u:Int):Option Int:=if 0≤u then far.getD u.toNat none else none
def bysF (bys:List Int) (u:Int):Int:=if 0≤u then bys.getD u.toNat 0 else 0
theorem farF_nat (far:List (Option Int)) (v:Nat):farF far (v:Int)=far.getD v none:=by unfold farF;rw [if_pos (by omega),Int.toNat_natCast]
theorem bysF_nat (bys:List Int) (v:Nat):bysF bys (v:Int)=bys.getD v 0:=by unfold bysF;rw [if_pos (by omega),Int.toNat_natCast]
theorem farF_set {far:List (Option Int)} {v:Nat} (hv:v<far.length) (d:Int):farF (far.set v (some d))=upd (farF far) (v:Int) (some d):=by
 funext u
 unfold farF upd
 by_cases e:u=(v:Int)
 ·subst e
  rw [if_pos (by omega),if_pos rfl,Int.toNat_natCast,List.getD_eq_getElem?_getD,List.getElem?_set_self hv]
  rfl
 ·rw [if_neg e]
  show _=if 0≤u then far.getD u.toNat none else none
  by_cases h0:0≤u
  ·rw [if_pos h0,if_pos h0,List.getD_eq_getElem?_getD,List.getElem?_set_ne (by omega),List.getD_eq_getElem?_getD]
  ·rw [if_neg h0,if_neg h0]
theorem bysF_set {bys:List Int} {v:Nat} (hv:v<bys.length) (d:Int):bysF (bys.set v d)=upd (bysF bys) (v:Int) d:=by
 funext u
 unfold bysF upd
 by_cases e:u=(v:Int)
 ·subst e
  rw [if_pos (by omega),if_pos rfl,Int.toNat_natCast,List.getD_eq_getElem?_getD,List.getElem?_set_self hv]
  rfl
 ·rw [if_neg e]
  show _=if 0≤u then bys.getD u.toNat 0 else 0
  by_cases h0:0≤u
  ·rw [if_pos h0,if_pos h0,List.getD_eq_getElem?_getD,List.getElem?_set_ne (by omega),List.getD_eq_getElem?_getD]
  ·rw [if_neg h0,if_neg h0]
def XN (S:List SC) (back:Bool):Nums:=fun i u v w=>∃x,0≤i∧S[i.toNat]? =some x∧x.w=w∧(if back then x.t=u∧x.f=v else x.f=u∧x.t=v)
def relB (back:Bool) (A:Int→Int→Int→Prop):Int→Int→Int→Prop:=if back then Turn A else A
theorem XN_rel {S:List SC} {back:Bool} {u v w:Int}:(XN S back).rel u v w↔relB back (srel S) u v w:=by
 constructor
 ·rintro ⟨i,x,_,hx,hw,he⟩
  have hm:=List.mem_of_getElem? hx
  cases back with
  |true=>exact ⟨x,hm,he.2,he.1,hw⟩
  |false=>exact ⟨x,hm,he.1,he.2,hw⟩
 ·intro h
  have:∃x∈S,x.w=w∧(if back then x.t=u∧x.f=v else x.f=u∧x.t=v):=by
   cases back with
   |true=>obtain ⟨x,hx,h1,h2,h3⟩:=h;exact ⟨x,hx,h3,h2,h1⟩
   |false=>obtain ⟨x,hx,h1,h2,h3⟩:=h;exact ⟨x,hx,h3,h1,h2⟩
  obtain ⟨x,hx,hw,he⟩:=this
  obtain ⟨i,hi,e⟩:=List.mem_iff_getElem.1 hx
  exact ⟨(i:Int),x,by omega,by rw [Int.toNat_natCast,List.getElem?_eq_getElem hi,e],hw,he⟩
theorem XN_uniq {S:List SC} {back:Bool} {i u v w v' w':Int} (h:XN S back i u v w) (h':XN S back i u v' w'):v'=v∧w'=w:=by
 obtain ⟨x,_,hx,hw,he⟩:=h
 obtain ⟨y,_,hy,hw',he'⟩:=h'
 rw [hx] at hy
 cases hy
 cases back with
 |true=>exact ⟨he'.2.symm.trans he.2,hw'.symm.trans hw⟩
 |false=>exact ⟨he'.2.symm.trans he.2,hw'.symm.trans hw⟩
section
variable {es:List EdgeD} {n:Nat} {R:List Int} {S:List SC} {out:List Int}
theorem HierOK.hierB (h:HierOK es n R S out) (back:Bool):Hier (relB back (arcG es)) (XN S back).rel (rk out) (nodeN n):=by
 have e:(XN S back).rel=relB back (srel S):=by funext u v w;exact propext XN_rel
 rw [e]
 cases back with
 |true=>exact h.h.turn
 |false=>exact h.h
theorem downB_rk (h:HierOK es n R S out) {x:SC} (hx:x∈S):downB R x=decide (rk out x.t<rk out x.f):=by
 obtain ⟨h1,h2,_,_⟩:=h.ends x hx
 unfold downB
 rw [rAt_rk h h1,rAt_rk h h2]
theorem rk_ne (h:HierOK es n R S out) {x:SC} (hx:x∈S):rk out x.f≠rk out x.t:=by
 obtain ⟨h1,h2,h3,_⟩:=h.ends x hx
 exact fun e=>h3 (h.h.inj _ _ h1 h2 e)
theorem sc_at {j:Nat} (hj:j<S.length):S.getD j scZ=S[j]:=by rw [List.getD_eq_getElem?_getD,List.getElem?_eq_getElem hj];rfl
theorem row_mem (h:HierOK es n R S out) (b:Bool) {u:Nat} (hu:u<n) (j:Int):
  j∈(if b then (rowsK R S n S.length).2 else (rowsK R S n S.length).1).getD u []↔∃i:Nat,j=(i:Int)∧∃hi:i<S.length,(if b then S[i].t=(u:Int)∧rk out S[i].t<rk out S[i].f else S[i].f=(u:Int)∧rk out S[i].f<rk out S[i].t):=by
 obtain ⟨m1,m2⟩:=rowsK_mem R S n (fun x hx=>⟨(h.ends x hx).1,(h.ends x hx).2.1⟩) S.length (Nat.le_refl _) u hu
 cases b with
 |true=>
  simp only [if_true]
  rw [m2 j]
  constructor
  ·rintro ⟨i,e,hi,h1,h2⟩
   rw [sc_at hi] at h1 h2
   rw [downB_rk h (List.getElem_mem hi)] at h2
   exact ⟨i,e,hi,h1,of_decide_eq_true h2⟩
  ·rintro ⟨i,e,hi,h1,h2⟩
   refine ⟨i,e,hi,by rw [sc_at hi];exact h1,?_⟩
   rw [sc_at hi,downB_rk h (List.getElem_mem hi)]
   exact decide_eq_true h2
 |false=>
  simp only [Bool.false_eq_true,if_false]
  rw [m1 j]
  constructor
  ·rintro ⟨i,e,hi,h1,h2⟩
   rw [sc_at hi] at h1 h2
   rw [downB_rk h (List.getElem_mem hi)] at h2
   have h3:=of_decide_eq_false h2
   have h4:=rk_ne h (List.getElem_mem hi)
   exact ⟨i,e,hi,h1,by omega⟩
  ·rintro ⟨i,e,hi,h1,h2⟩
   refine ⟨i,e,hi,by rw [sc_at hi];exact h1,?_⟩
   rw [sc_at hi,downB_rk h (List.getElem_mem hi)]
   exact decide_eq_false (by omega)
theorem row_in (h:HierOK es n R S out) (b:Bool) {u:Nat} (hu:u<n):∀i∈(if b then (rowsK R S n S.length).2 else (rowsK R S n S.length).1).getD u [],0≤i∧i<(S.length:Int):=by
 intro j hj
 obtain ⟨i,e,hi,_⟩:=(row_mem h b hu j).1 hj
 omega
abbrev stepsB (R:List Int) (S:List SC) (n:Nat) (u:Nat) (b:Bool):List Step3:=stepsH S (rowsK R S n S.length).1 (rowsK R S n S.length).2 u b
theorem steps_mem (h:HierOK es n R S out) (b:Bool) {u:Nat} (hu:u<n) (x:Step3):
  x∈stepsB R S n u b↔∃i:Nat,∃hi:i<S.length,x=((i:Int),(if b then S[i].f else S[i].t),S[i].w)∧(if b then S[i].t=(u:Int)∧rk out S[i].t<rk out S[i].f else S[i].f=(u:Int)∧rk out S[i].f<rk out S[i].t):=by
 unfold stepsB stepsH
 rw [List.mem_map]
 constructor
 ·rintro ⟨j,hj,rfl⟩
  obtain ⟨i,rfl,hi,he⟩:=(row_mem h b hu _).1 hj
  refine ⟨i,hi,?_,he⟩
  unfold stepS
  rw [Int.toNat_natCast,sc_at hi]
  cases b with
  |true=>simp only [if_true] at he ⊢;rw [he.1];simp
  |false=>simp only [Bool.false_eq_true,if_false] at he ⊢;rw [he.1];simp;omega
 ·rintro ⟨i,hi,rfl,he⟩
  refine ⟨(i:Int),(row_mem h b hu _).2 ⟨i,rfl,hi,he⟩,?_⟩
  unfold stepS
  rw [Int.toNat_natCast,sc_at hi]
  cases b with
  |true=>simp only [if_true] at he ⊢;rw [he.1];simp
  |false=>simp only [Bool.false_eq_true,if_false] at he ⊢;rw [he.1];simp;omega
theorem step_up (h:HierOK es n R S out) (back:Bool) {u:Nat} (hu:u<n) {x:Step3} (hx:x∈stepsB R S n u back):
  XN S back x.1 (u:Int) x.2.1 x.2.2∧rk out (u:Int)<rk out x.2.1∧nodeN n x.2.1∧1≤x.2.2∧x.2.2≤4294967296*2 ^ n:=by
 obtain ⟨i,hi,rfl,he⟩:=(steps_mem h back hu _).1 hx
 have h1:=h.ends _ (List.getElem_mem hi)
 have h2:=h.big _ (List.getElem_mem hi)
 cases back with
 |true=>
  simp only [if_true] at he ⊢
  exact ⟨⟨S[i],by omega,by rw [Int.toNat_natCast,List.getElem?_eq_getElem hi],rfl,he.1,rfl⟩,by rw [←he.1];exact he.2,h1.1,h1.2.2.2,h2⟩
 |false=>
  simp only [Bool.false_eq_true,if_false] at he ⊢
  exact ⟨⟨S[i],by omega,by rw [Int.toNat_natCast,List.getElem?_eq_getElem hi],rfl,he.1,rfl⟩,by rw [←he.1];exact he.2,h1.2.1,h1.2.2.2,h2⟩
theorem up_step (h:HierOK es n R S out) (back:Bool) {u:Nat} (hu:u<n) {i v w:Int} (hx:XN S back i (u:Int) v w) (hr:rk out (u:Int)<rk out v):(i,v,w)∈stepsB R S n u back:=by
 obtain ⟨x,h0,hx,rfl,he⟩:=hx
 obtain ⟨hi,e⟩:=List.getElem?_eq_some_iff.1 hx
 refine (steps_mem h back hu _).2 ⟨i.toNat,hi,?_,?_⟩
 ·rw [e]
  cases back with
  |true=>simp only [if_true] at he ⊢;rw [he.2];congr 1;omega
  |false=>simp only [Bool.false_eq_true,if_false] at he ⊢;rw [he.2];congr 1;omega
 ·rw [e]
  cases back with
  |true=>simp only [if_true] at he ⊢;exact ⟨he.1,by rw [he.1,he.2];exact hr⟩
  |false=>simp only [Bool.false_eq_true,if_false] at he ⊢;exact ⟨he.1,by rw [he.1,he.2];exact hr⟩
theorem step_down (h:HierOK es n R S out) (back:Bool) {u:Nat} (hu:u<n) {x:Step3} (hx:x∈stepsB R S n u (back != true)):
  relB back (srel S) x.2.1 (u:Int) x.2.2∧nodeN n x.2.1∧1≤x.2.2∧x.2.2≤4294967296*2 ^ n:=by
 obtain ⟨i,hi,rfl,he⟩:=(steps_mem h _ hu _).1 hx
 have h1:=h.ends _ (List.getElem_mem hi)
 have h2:=h.big _ (List.getElem_mem hi)
 cases back with
 |true=>
  simp only [bne_self_eq_false,Bool.false_eq_true,if_false] at he ⊢
  exact ⟨⟨S[i],List.getElem_mem hi,he.1,rfl,rfl⟩,h1.2.1,h1.2.2.2,h2⟩
 |false=>
  simp only [Bool.false_bne,if_true] at he ⊢
  exact ⟨⟨S[i],List.getElem_mem hi,rfl,he.1,rfl⟩,h1.1,h1.2.2.2,h2⟩
end
def waitB (far:List (Option Int)) (l:List IK) (u:Nat):Bool:=(far.getD u none).isNone||l.any (fun y=>decide (y.1=(u:Int)))
def waitN (n:Nat) (far:List (Option Int)) (l:List IK):Nat:=(List.range n).countP (waitB far l)
theorem waitB_iff {far:List (Option Int)} {l:List IK} {u:Nat}:waitB far l u=true↔far.getD u none=none∨∃k,((u:Int),k)∈l:=by
 unfold waitB
 rw [Bool.or_eq_true,List.any_eq_true,Option.isNone_iff_eq_none]
 constructor
 ·rintro (h|⟨y,hy,e⟩)
  ·exact .inl h
  ·refine .inr ⟨y.2,?_⟩
   rw [←of_decide_eq_true e]
   exact hy
 ·rintro (h|⟨k,hk⟩)
  ·exact .inl h
  ·exact .inr ⟨_,hk,decide_eq_true rfl⟩
theorem countP_lt {α:Type} {p q:α→Bool}:∀{l:List α} (_:∀x∈l,q x=true→p x=true) {y:α} (_:y∈l) (_:p y=true) (_:q y=false),l.countP q<l.countP p
 |x::l,h,y,hy,h1,h2=>by
  have hle:l.countP q≤l.countP p:=List.countP_mono_left (fun z hz hq=>h z (List.mem_cons_of_mem _ hz) hq)
  rw [List.countP_cons,List.countP_cons]
  rcases List.mem_cons.1 hy with rfl|hy
  ·rw [h1,h2]
   simp
   omega
  ·have ih:=countP_lt (fun z hz hq=>h z (List.mem_cons_of_mem _ hz) hq) hy h1 h2
   have hx:=h x (List.mem_cons_self ..)
   cases hq:q x with
   |true=>rw [hx hq];simp;omega
   |false=>cases hp:p x<;>simp<;>omega
theorem waitN_pop {n:Nat} {far:List (Option Int)} {l l':List IK} {v:Nat} {d:Int} (hv:v<n) (hin:((v:Int),d)∈l) (hf:far.getD v none=some d) (hl:∀y,y∈l'↔y∈l∧y.1≠(v:Int)):waitN n far l'<waitN n far l:=by
 refine countP_lt (fun u _ hu=>?_) (List.mem_range.2 hv) (waitB_iff.2 (.inr ⟨d,hin⟩)) ?_
 ·rcases waitB_iff.1 hu with h|⟨k,hk⟩
  ·exact waitB_iff.2 (.inl h)
  ·exact waitB_iff.2 (.inr ⟨k,((hl _).1 hk).1⟩)
 ·cases hb:waitB far l' v with
  |false=>rfl
  |true=>
   rcases waitB_iff.1 hb with h|⟨k,hk⟩
   ·rw [hf] at h;cases h
   ·exact absurd rfl ((hl _).1 hk).2
theorem waitN_reach {n:Nat} {far:List (Option Int)} {l l':List IK} {v:Nat} {d:Int} (hv:v<far.length) (hw:waitB far l v=true) (hl:∀y,y∈l'↔y=((v:Int),d)∨(y∈l∧y.1≠(v:Int))):waitN n (far.set v (some d)) l'≤waitN n far l:=by
 refine List.countP_mono_left (fun u _ hu=>?_)
 by_cases e:u=v
 ·subst e
  exact hw
 ·rcases waitB_iff.1 hu with h|⟨k,hk⟩
  ·rw [List.getD_eq_getElem?_getD,List.getElem?_set_ne (fun h=>e h.symm),←List.getD_eq_getElem?_getD] at h
   exact waitB_iff.2 (.inl h)
  ·rcases (hl _).1 hk with h|⟨h,_⟩
   ·cases h
    exact absurd rfl e
   ·exact waitB_iff.2 (.inr ⟨k,h⟩)
theorem Run.full {A:Int→Int→Int→Prop} {X:Nums} {r:Int→Int} {s:Int} {far:Int→Option Int} {by':Int→Int} {l:List (Int×Int)} {cur:Int} {out:List Lab} {done done':Int→Int→Prop} (h:Run A X r s far by' l cur out done)
  (hc:∀a∈out,∀i v w,done' a.v i→X i a.v v w→r a.v<r v→done a.v i):Run A X r s far by' l cur out done':=
 ⟨h.sound,h.start,h.heap,h.lab,h.rest,h.way,fun a ha i v w hd hx hr=>h.gone a ha i v w (hc a ha i v w hd hx hr) hx hr,h.once,h.low⟩
theorem reachStep {es:List EdgeD} {n:Nat} {R:List Int} {S:List SC} {ro:List Int} (hok:HierOK es n R S ro) (back:Bool) {vn:Nat} (hvn:vn<n) {x:Step3} (hx:x∈stepsB R S n vn back) {st:US} (hho:HeapOK st.l st.p) (h1:st.far.length=n) (h2:st.bys.length=n) (h3:st.p.length=n)
  {s cur:Int} {out:List Lab} {done:Int→Int→Prop} {a:Lab} (ha:a∈out) (hav:a.v=(vn:Int)) (had:a.d=cur) (h:Run (relB back (arcG es)) (XN S back) (rk ro) s (farF st.far) (bysF st.bys) st.l cur out done):
  Run (relB back (arcG es)) (XN S back) (rk ro) s (farF (reachU st x.2.1.toNat (cur+x.2.2) x.1).far) (bysF (reachU st x.2.1.toNat (cur+x.2.2) x.1).bys) (reachU st x.2.1.toNat (cur+x.2.2) x.1).l cur out (fun u j=>done u j∨(u=(vn:Int)∧j=x.1))∧
   waitN n (reachU st x.2.1.toNat (cur+x.2.2) x.1).far (reachU st x.2.1.toNat (cur+x.2.2) x.1).l≤waitN n st.far st.l:=by
 obtain ⟨k1,k2,k3,k4,k5⟩:=step_up hok back hvn hx
 obtain ⟨xi,xt,xw⟩:=x
 simp only at k1 k2 k3 k4 k5 ⊢
 obtain ⟨t,rfl⟩:∃t:Nat,xt=t:=⟨xt.toNat,by have:=k3.1;omega⟩
 rw [Int.toNat_natCast]
 have ht:t<n:=by have:=k3.2;omega
 have huniq:∀v' w',XN S back xi a.v v' w'→v'=(t:Int)∧w'=xw:=fun v' w' k=>XN_uniq (by rw [hav];exact k1) k
 rw [←hav] at k1 k2
 rw [←hav,←had]
 rw [←had] at h
 cases hl:(leastF st.far t (a.d+xw)).1 with
 |false=>
  obtain ⟨_,e,he,hle⟩:=leastF_false hl
  have hr:reachU st t (a.d+xw) xi=st:=by unfold reachU;rw [hl];rfl
  rw [hr]
  exact ⟨Run.skip h ha huniq (by rw [farF_nat];exact he) hle,Nat.le_refl _⟩
 |true=>
  obtain ⟨hf,hlt⟩:=leastF_true hl
  have hr:reachU st t (a.d+xw) xi=⟨st.far.set t (some (a.d+xw)),st.bys.set t xi,(putF st.l st.p t (a.d+xw)).2.1,(putF st.l st.p t (a.d+xw)).2.2⟩:=by unfold reachU;rw [hl,hf];rfl
  rw [hr]
  simp only
  have hfar:∀e,farF st.far (t:Int)=some e→a.d+xw<e:=fun e he=>hlt e (by rw [←farF_nat];exact he)
  obtain ⟨l1,l2,l3,l4,l5⟩:=putF_law hho (v:=t) (by rw [h3];exact ht) (a.d+xw)
  have hput:∀y,y∈(putF st.l st.p t (a.d+xw)).2.1↔(y=((t:Int),a.d+xw)∨(y∈st.l∧y.1≠(t:Int))):=by
   cases hb:(putF st.l st.p t (a.d+xw)).1 with
   |true=>exact l3 hb
   |false=>
    obtain ⟨_,k,hk,hle⟩:=l4 hb
    have:=hfar k (h.heap _ _ hk).1
    omega
  refine ⟨?_,waitN_reach (by rw [h1];exact ht) ?_ hput⟩
  ·rw [farF_set (by rw [h1];exact ht),bysF_set (by rw [h2];exact ht)]
   exact Run.reach (fun i u v w k=>⟨((hok.hierB back).sound _ _ _ ⟨i,k⟩).2.imp (fun _ _=>trivial),by
    obtain ⟨y,_,hy,hw,_⟩:=k
    rw [←hw]
    exact (hok.ends y (List.mem_of_getElem? hy)).2.2.2⟩) h ha rfl k1 k2 huniq hfar hput
  ·refine waitB_iff.2 ?_
   cases hfx:st.far.getD t none with
   |none=>exact .inl rfl
   |some e=>
    rcases h.rest (t:Int) e (by rw [farF_nat];exact hfx) with h9|⟨_,h9⟩
    ·exact .inr ⟨e,h9⟩
    ·have:=hlt e hfx
     omega
end Go.Proofs.YteaaapdjplbljaaGreat
end
section
namespace Go.Proofs.YteaaapdjplbljaaGreat
open Go Go.Proofs Go.RowKit Go.Shelf Go.Proofs.YteaaapdjplbljaaGreat.Hp Go.Proofs.YteaaapdjplbljaaGreat.Ch
structure LB where
 v:Int
 d:Int
 b:Int
def flatB:List LB→List Value
 |[]=>[]
 |x::l=>.int .i64 x.v::.int .u64 x.d::.int .i64 x.b::flatB l
theorem flatB_get:∀(l:List LB) (k:Nat) (h:k<l.length),(flatB l)[k*3]? =some (.int .i64 l[k].v)∧(flatB l)[k*3+1]? =some (.int .u64 l[k].d)∧(flatB l)[k*3+2]? =some (.int .i64 l[k].b)
 |x::l,0,_=>⟨rfl,rfl,rfl⟩
 |x::l,k+1,h=>by
  have ih:=flatB_get l k (by simpa using h)
  have e1:(k+1)*3=k*3+1+1+1:=by omega
  simp only [e1,flatB,List.getElem?_cons_succ,List.getElem_cons_succ]
  exact ih
theorem Cel.lab {w:World} {ao:Option Addr} {l:List LB} (h:Cel w ao (flatB l)) {i:Nat} (hi:i<l.length):
  ∃b o,ao=some ⟨b,o,none⟩∧w.cell? ⟨b,o+i*3,none⟩=some (.int .i64 l[i].v)∧w.cell? ⟨b,o+i*3+1,none⟩=some (.int .u64 l[i].d)∧w.cell? ⟨b,o+i*3+2,none⟩=some (.int .i64 l[i].b):=by
 obtain ⟨h1,h2,h3⟩:=flatB_get l i hi
 obtain ⟨b,o,e,c1⟩:=h _ _ h1
 obtain ⟨b',o',e',c2⟩:=h _ _ h2
 obtain ⟨b'',o'',e'',c3⟩:=h _ _ h3
 rw [e] at e' e''
 cases e'
 cases e''
 exact ⟨b,o,e,c1,by rw [Nat.add_assoc];exact c2,by rw [Nat.add_assoc];exact c3⟩
def byF (l:List LB):Int→Option Int:=l.foldl (fun f x=>updM f x.v x.d) (fun _=>none)
theorem byF_take {l:List LB} {k:Nat} (h:k<l.length):byF (l.take (k+1))=updM (byF (l.take k)) l[k].v l[k].d:=by
 unfold byF
 rw [List.take_succ_eq_append_getElem h,List.foldl_append]
 rfl
def ByPost (l:List LB) (w:World) (e:Ending) (w':World):Prop:=∃b,e=.returned (.map (some b))∧MapW w' b l.length (byF l)∧w.heap.size≤b∧Below w.heap.size w w'
set_option maxRecDepth 100000 in
set_option maxHeartbeats 2000000 in
theorem byNode_any (l:List LB) (ao:Option Addr) (cap:Nat) (w:World) (hc:Cel w ao (flatB l)) (hl:l.length≤1000000) (hin:∀x∈l,In6 x.v∧0≤x.d∧x.d≤18446744073709551615):
  Calls Tryz.prog 143 #[.slice ao l.length cap] w (ByPost l w):=by
 have hmm:=@run_makeMap Tryz.prog
 have HC:=Lib.hid hc
 have HIN:=Lib.hid hin
 have hl2:(l.length:Int)≤1000000:=by omega
 have HM0:=Lib.hid (MapW.new w)
 have HL:=Lib.hid hl
 unfold ByPost
 clear hc hin
 go_enter Tryz.func143,Tryz.ntmps143
 go_wp2
 go_loopg [9] l.length (fun gm v9 wr=>∃k:Nat,k≤l.length∧l.length-k≤gm∧v9=.int .i64 k∧Aside (MapW wr w.heap.size k (byF (l.take k)))∧Aside (Below w.heap.size w wr))
 case atStart=>exact ⟨0,Nat.zero_le _,by omega,rfl,by rw [List.take_zero];exact HM0.out,Below.of_al _ _⟩
 case round=>
  obtain ⟨k,hk,hg,rfl,HM,HB⟩:=hrel
  by_cases hlt:k<l.length
  ·have hlt2:(k:Int)<(l.length:Int):=by omega
   have hk0:(0:Int)≤(k:Int):=by omega
   obtain ⟨lb,lo,rfl,y0,y1,y2⟩:=(HC.out.go HB.out).lab hlt
   obtain ⟨i1,i2⟩:=HIN.out l[k] (List.getElem_mem hlt)
   have HTK:=Lib.hid (byF_take hlt)
   generalize l[k]=x at*
   obtain ⟨w2,hup,hm2,ho2⟩:=(HM.out.go (Below.of_al wr (Obj.cells #[.int .i64 x.v,.int .u64 x.d,.int .i64 x.b] 150))).put (by omega) i1 i2
   have HM2:=Lib.hid (show MapW w2 w.heap.size (k+1) (byF (l.take (k+1))) by rw [HTK.out];exact hm2)
   have HB2:=Lib.hid (show Below w.heap.size w w2 from (HB.out.st (Below.of_al wr _)).trans (ho2.below ((HB.out.st (Below.of_al wr (Obj.cells #[.int .i64 x.v,.int .u64 x.d,.int .i64 x.b] 150))).size) (fun j hj=>by have e:j=w.heap.size:=hj;omega)))
   clear hm2 ho2 i1 i2
   go_wp2
   go_roundg (l.length-(k+1))
   case measure=>omega
   case rel=>exact ⟨k+1,by omega,Nat.le_refl _,by go_num,HM2.out,HB2.out⟩
  ·obtain rfl:k=l.length:=by omega
   go_wp2
   go_ret
   have:=HM.out
   rw [List.take_length] at this
   exact ⟨_,rfl,this,Nat.le_refl _,HB.out⟩
def nearS (f:Int→Option Int) (best:Int) (x:LB):Int:=match f x.v with
 |some y=>min best (x.d+y)
 |none=>best
def nearF (f:Int→Option Int) (l:List LB):Int:=l.foldl (nearS f) 4611686018427387904
theorem nearF_take {f:Int→Option Int} {l:List LB} {k:Nat} (h:k<l.length):nearF f (l.take (k+1))=nearS f (nearF f (l.take k)) l[k]:=by
 unfold nearF
 rw [List.take_succ_eq_append_getElem h,List.foldl_append]
 rfl
set_option maxRecDepth 100000 in
set_option maxHeartbeats 2000000 in
theorem least_any (l:List LB) (f:Int→Option Int) (ao:Option Addr) (cap b n:Nat) (w:World) (hc:Cel w ao (flatB l)) (hm:MapW w b n f) (hl:l.length≤1000000) (hin:∀x∈l,In6 x.v∧0≤x.d∧x.d≤1152921504606846976) (hf:∀u x,f u=some x→0≤x∧x≤1152921504606846976):
  Calls Tryz.prog 142 #[.slice ao l.length cap,.map (some b)] w fun e w'=>e=.returned (.int .u64 (nearF f l))∧Below w.heap.size w w':=by
 have HC:=Lib.hid hc
 have HIN:=Lib.hid hin
 have HF:=Lib.hid hf
 have HM:=Lib.hid hm
 have hl2:(l.length:Int)≤1000000:=by omega
 clear hc hin hf hm
 go_enter Tryz.func142,Tryz.ntmps142
 go_wp2
 go_loopg [5,12] l.length (fun gm v5 v12 wr=>∃k:Nat,k≤l.length∧l.length-k≤gm∧v12=.int .i64 k∧v5=.int .u64 (nearF f (l.take k))∧Aside (Below w.heap.size w wr))
 case atStart=>exact ⟨0,Nat.zero_le _,by omega,rfl,rfl,Below.refl _ _⟩
 case round=>
  obtain ⟨k,hk,hg,rfl,rfl,HB⟩:=hrel
  by_cases hlt:k<l.length
  ·have hlt2:(k:Int)<(l.length:Int):=by omega
   have hk0:(0:Int)≤(k:Int):=by omega
   obtain ⟨lb,lo,rfl,y0,y1,y2⟩:=(HC.out.go HB.out).lab hlt
   obtain ⟨i1,d0,d1⟩:=HIN.out l[k] (List.getElem_mem hlt)
   have HTK:=Lib.hid (nearF_take (f:=f) hlt)
   generalize l[k]=x at*
   generalize nearF f (l.take k)=best at*
   have lk:=((HM.out.go HB.out).go (Below.of_al wr (Obj.cells #[.int .i64 x.v,.int .u64 x.d,.int .i64 x.b] 150))).look i1
   have HB2:=Lib.hid (HB.out.st (Below.of_al wr (Obj.cells #[.int .i64 x.v,.int .u64 x.d,.int .i64 x.b] 150)))
   cases hy:f x.v with
   |none=>
    rw [hy] at lk
    have HN:=Lib.hid (show nearF f (l.take (k+1))=best by have:=HTK.out;unfold nearS at this;rw [hy] at this;exact this)
    simp only [Option.isSome,Option.getD] at lk
    clear hy i1
    go_wp2
    go_roundg (l.length-(k+1))
    case measure=>omega
    case rel=>exact ⟨k+1,by omega,Nat.le_refl _,by go_num,by rw [HN.out],HB2.out⟩
   |some y=>
    rw [hy] at lk
    obtain ⟨e0,e1⟩:=HF.out _ _ hy
    have HN:=Lib.hid (show nearF f (l.take (k+1))=if x.d+y<best then x.d+y else best by
     have:=HTK.out
     unfold nearS at this
     rw [hy] at this
     rw [this]
     show min best (x.d+y)=_
     rw [Int.min_def]
     split<;>split<;>omega)
    simp only [Option.isSome,Option.getD] at lk
    clear hy i1
    by_cases hmn:x.d+y<best
    ·have HN2:=Lib.hid (show nearF f (l.take (k+1))=x.d+y by rw [HN.out,if_pos hmn])
     go_wp2
     go_roundg (l.length-(k+1))
     case measure=>omega
     case rel=>exact ⟨k+1,by omega,Nat.le_refl _,by go_num,by rw [HN2.out],HB2.out⟩
    ·have HN2:=Lib.hid (show nearF f (l.take (k+1))=best by rw [HN.out,if_neg hmn])
     go_wp2
     go_roundg (l.length-(k+1))
     case measure=>omega
     case rel=>exact ⟨k+1,by omega,Nat.le_refl _,by go_num,by rw [HN2.out],HB2.out⟩
  ·obtain rfl:k=l.length:=by omega
   rw [List.take_length]
   go_wp2
   go_ret
   exact ⟨rfl,HB.out⟩
end Go.Proofs.YteaaapdjplbljaaGreat
end
