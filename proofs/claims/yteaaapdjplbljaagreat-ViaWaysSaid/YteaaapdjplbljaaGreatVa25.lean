/- Parts; no condition. -/
import Derived.Test.YteaaapdjplbljaaGreatVa24
import Derived.Test.YteaaapdjplbljaaGreatVa23
set_option linter.unusedVariables false
set_option linter.unusedSimpArgs false
set_option linter.unnecessarySimpa false
set_option maxRecDepth 100000
set_option maxHeartbeats 8000000
namespace Go.Proofs.YteaaapdjplbljaaGreat
section
open Go Go.Proofs Go.RowKit Go.Shelf Hp Ch
def Ev (far:List (Option Int)) (u:Int):Option Int:=if 0<=u then far.getD u.toNat none else none
def Sq (bys:List Int) (u:Int):Int:=if 0<=u then bys.getD u.toNat 0 else 0
theorem Cs (far:List (Option Int)) (v:Nat):Ev far (v:Int)=far.getD v none:=by unfold Ev;rw [if_pos (by omega),Bk7]
theorem Ay5 (bys:List Int) (v:Nat):Sq bys (v:Int)=bys.getD v 0:=by unfold Sq;rw [if_pos (by omega),Bk7]
theorem Nc {far:List (Option Int)} {v:Nat} (hv:v<far.length) (d:Int):Ev (far.set v (some d))=upd (Ev far) (v:Int) (some d):=by
 funext u
 unfold Ev upd
 by_cases e:u=(v:Int)
 ·subst e
  rw [if_pos (by omega),if_pos rfl,Bk7,Bj9,Bo2 hv];rfl
 ·rw [if_neg e]
  show _=if 0<=u then far.getD u.toNat none else none
  by_cases h0:0<=u
  ·rw [if_pos h0,if_pos h0,Bj9,Bo1 (by omega),Bj9]
  ·rw [if_neg h0,if_neg h0]
theorem Zo {bys:List Int} {v:Nat} (hv:v<bys.length) (d:Int):Sq (bys.set v d)=upd (Sq bys) (v:Int) d:=by
 funext u
 unfold Sq upd
 by_cases e:u=(v:Int)
 ·subst e
  rw [if_pos (by omega),if_pos rfl,Bk7,Bj9,Bo2 hv];rfl
 ·rw [if_neg e]
  show _=if 0<=u then bys.getD u.toNat 0 else 0
  by_cases h0:0<=u
  ·rw [if_pos h0,if_pos h0,Bj9,Bo1 (by omega),Bj9]
  ·rw [if_neg h0,if_neg h0]
def XN (S:List SC) (back:Bool):Nums:=fun i u v w=>∃x,0<=i/\S[i.toNat]? =some x/\x.w=w/\(if back then x.t=u/\x.f=v else x.f=u/\x.t=v)
def Ca (back:Bool) (A:Int->Int->Int->Prop):Int->Int->Int->Prop:=if back then Pv A else A
theorem Ag0 {S:List SC} {back:Bool} {u v w:Int}:(XN S back).rel u v w↔Ca back (Mg S) u v w:=by
 constructor
 ·rintro ⟨i,x,_,hx,hw,he⟩
  have hm:=Bm1 hx
  cases back with
  |true=>exact ⟨x,hm,he.2,he.1,hw⟩
  |false=>exact ⟨x,hm,he.1,he.2,hw⟩
 ·intro h
  have:∃x∈S,x.w=w/\(if back then x.t=u/\x.f=v else x.f=u/\x.t=v):=by
   cases back with
   |true=>obtain ⟨x,hx,h1,h2,h3⟩:=h;exact ⟨x,hx,h3,h2,h1⟩
   |false=>obtain ⟨x,hx,h1,h2,h3⟩:=h;exact ⟨x,hx,h3,h1,h2⟩
  obtain ⟨x,hx,hw,he⟩:=this;obtain ⟨i,hi,e⟩:=Bn7.1 hx;exact ⟨(i:Int),x,by omega,by rw [Bk7,Bj8 hi,e],hw,he⟩
theorem Bd8 {S:List SC} {back:Bool} {i u v w v' w':Int} (h:XN S back i u v w) (h':XN S back i u v' w'):v'=v/\w'=w:=by
 obtain ⟨x,_,hx,hw,he⟩:=h;obtain ⟨y,_,hy,hw',he'⟩:=h';rw [hx] at hy
 cases hy
 cases back with
 |true=>exact ⟨he'.2.symm.trans he.2,hw'.symm.trans hw⟩
 |false=>exact ⟨he'.2.symm.trans he.2,hw'.symm.trans hw⟩
section
variable {es:List EdgeD} {n:Nat} {R:List Int} {S:List SC} {out:List Int}
theorem HierOK.hierB (h:HierOK es n R S out) (back:Bool):Hier (Ca back (Am es)) (XN S back).rel (rk out) (Ac n):=by
 have e:(XN S back).rel=Ca back (Mg S):=by funext u v w;exact propext Ag0
 rw [e]
 cases back with
 |true=>exact h.h.turn
 |false=>exact h.h
theorem Nd (h:HierOK es n R S out) {x:SC} (hx:x∈S):Pm R x=decide (rk out x.t<rk out x.f):=by
 obtain ⟨h1,h2,_,_⟩:=h.ends x hx;unfold Pm;rw [Rb h h1,Rb h h2]
theorem Bh9 (h:HierOK es n R S out) {x:SC} (hx:x∈S):rk out x.f≠rk out x.t:=by
 obtain ⟨h1,h2,h3,_⟩:=h.ends x hx;exact fun e=>h3 (h.h.inj _ _ h1 h2 e)
theorem Pf {j:Nat} (hj:j<S.length):S.getD j scZ=S[j]:=by rw [Bj9,Bj8 hj];rfl
theorem Vr (h:HierOK es n R S out) (b:Bool) {u:Nat} (hu:u<n) (j:Int):
  j∈(if b then (An R S n S.length).2 else (An R S n S.length).1).getD u []↔∃i:Nat,j=(i:Int)/\∃hi:i<S.length,(if b then S[i].t=(u:Int)/\rk out S[i].t<rk out S[i].f else S[i].f=(u:Int)/\rk out S[i].f<rk out S[i].t):=by
 obtain ⟨m1,m2⟩:=Ud R S n (fun x hx=>⟨(h.ends x hx).1,(h.ends x hx).2.1⟩) S.length (Bj5 _) u hu
 cases b with
 |true=>
  simp only [if_true];rw [m2 j];constructor
  ·rintro ⟨i,e,hi,h1,h2⟩
   rw [Pf hi] at h1 h2;rw [Nd h (Bk5 hi)] at h2;exact ⟨i,e,hi,h1,of_decide_eq_true h2⟩
  ·rintro ⟨i,e,hi,h1,h2⟩
   refine ⟨i,e,hi,by rw [Pf hi];exact h1,?_⟩;rw [Pf hi,Nd h (Bk5 hi)];exact decide_eq_true h2
 |false=>
  simp only [Bool.false_eq_true,if_false];rw [m1 j];constructor
  ·rintro ⟨i,e,hi,h1,h2⟩
   rw [Pf hi] at h1 h2;rw [Nd h (Bk5 hi)] at h2;have h3:=of_decide_eq_false h2;have h4:=Bh9 h (Bk5 hi);exact ⟨i,e,hi,h1,by omega⟩
  ·rintro ⟨i,e,hi,h1,h2⟩
   refine ⟨i,e,hi,by rw [Pf hi];exact h1,?_⟩;rw [Pf hi,Nd h (Bk5 hi)];exact decide_eq_false (by omega)
theorem Ab5 (h:HierOK es n R S out) (b:Bool) {u:Nat} (hu:u<n):∀i∈(if b then (An R S n S.length).2 else (An R S n S.length).1).getD u [],0<=i/\i<(S.length:Int):=by
 intro j hj;obtain ⟨i,e,hi,_⟩:=(Vr h b hu j).1 hj;omega
abbrev Ci (R:List Int) (S:List SC) (n:Nat) (u:Nat) (b:Bool):List Bx:=Ll S (An R S n S.length).1 (An R S n S.length).2 u b
theorem Kc (h:HierOK es n R S out) (b:Bool) {u:Nat} (hu:u<n) (x:Bx):
  x∈Ci R S n u b↔∃i:Nat,∃hi:i<S.length,x=((i:Int),(if b then S[i].f else S[i].t),S[i].w)/\(if b then S[i].t=(u:Int)/\rk out S[i].t<rk out S[i].f else S[i].f=(u:Int)/\rk out S[i].f<rk out S[i].t):=by
 unfold Ci Ll;rw [List.mem_map];constructor
 ·rintro ⟨j,hj,rfl⟩
  obtain ⟨i,rfl,hi,he⟩:=(Vr h b hu _).1 hj;refine ⟨i,hi,?_,he⟩;unfold Gz;rw [Bk7,Pf hi]
  cases b with
  |true=>simp only [if_true] at he ⊢;rw [he.1];simp
  |false=>simp only [Bool.false_eq_true,if_false] at he ⊢;rw [he.1];simp;omega
 ·rintro ⟨i,hi,rfl,he⟩
  refine ⟨(i:Int),(Vr h b hu _).2 ⟨i,rfl,hi,he⟩,?_⟩;unfold Gz;rw [Bk7,Pf hi]
  cases b with
  |true=>simp only [if_true] at he ⊢;rw [he.1];simp
  |false=>simp only [Bool.false_eq_true,if_false] at he ⊢;rw [he.1];simp;omega
theorem Ag9 (h:HierOK es n R S out) (back:Bool) {u:Nat} (hu:u<n) {x:Bx} (hx:x∈Ci R S n u back):
  XN S back x.1 (u:Int) x.2.1 x.2.2/\rk out (u:Int)<rk out x.2.1/\Ac n x.2.1/\1<=x.2.2/\x.2.2<=4294967296*2 ^ n:=by
 obtain ⟨i,hi,rfl,he⟩:=(Kc h back hu _).1 hx;have h1:=h.ends _ (Bk5 hi);have h2:=h.big _ (Bk5 hi)
 cases back with
 |true=>
  simp only [if_true] at he ⊢;exact ⟨⟨S[i],by omega,by rw [Bk7,Bj8 hi],rfl,he.1,rfl⟩,by rw [<-he.1];exact he.2,h1.1,h1.2.2.2,h2⟩
 |false=>
  simp only [Bool.false_eq_true,if_false] at he ⊢;exact ⟨⟨S[i],by omega,by rw [Bk7,Bj8 hi],rfl,he.1,rfl⟩,by rw [<-he.1];exact he.2,h1.2.1,h1.2.2.2,h2⟩
theorem Ba4 (h:HierOK es n R S out) (back:Bool) {u:Nat} (hu:u<n) {i v w:Int} (hx:XN S back i (u:Int) v w) (hr:rk out (u:Int)<rk out v):(i,v,w)∈Ci R S n u back:=by
 obtain ⟨x,h0,hx,rfl,he⟩:=hx;obtain ⟨hi,e⟩:=Bk6.1 hx;refine (Kc h back hu _).2 ⟨i.toNat,hi,?_,?_⟩
 ·rw [e]
  cases back with
  |true=>simp only [if_true] at he ⊢;rw [he.2];congr 1;omega
  |false=>simp only [Bool.false_eq_true,if_false] at he ⊢;rw [he.2];congr 1;omega
 ·rw [e]
  cases back with
  |true=>simp only [if_true] at he ⊢;exact ⟨he.1,by rw [he.1,he.2];exact hr⟩
  |false=>simp only [Bool.false_eq_true,if_false] at he ⊢;exact ⟨he.1,by rw [he.1,he.2];exact hr⟩
theorem Nr (h:HierOK es n R S out) (back:Bool) {u:Nat} (hu:u<n) {x:Bx} (hx:x∈Ci R S n u (back != true)):
  Ca back (Mg S) x.2.1 (u:Int) x.2.2/\Ac n x.2.1/\1<=x.2.2/\x.2.2<=4294967296*2 ^ n:=by
 obtain ⟨i,hi,rfl,he⟩:=(Kc h _ hu _).1 hx;have h1:=h.ends _ (Bk5 hi);have h2:=h.big _ (Bk5 hi)
 cases back with
 |true=>
  simp only [bne_self_eq_false,Bool.false_eq_true,if_false] at he ⊢;exact ⟨⟨S[i],Bk5 hi,he.1,rfl,rfl⟩,h1.2.1,h1.2.2.2,h2⟩
 |false=>
  simp only [Bool.false_bne,if_true] at he ⊢;exact ⟨⟨S[i],Bk5 hi,rfl,he.1,rfl⟩,h1.1,h1.2.2.2,h2⟩
end
def Xj (far:List (Option Int)) (l:List IK) (u:Nat):Bool:=(far.getD u none).isNone||l.any (fun y=>decide (y.1=(u:Int)))
def Dd (n:Nat) (far:List (Option Int)) (l:List IK):Nat:=(List.range n).countP (Xj far l)
theorem Cu {far:List (Option Int)} {l:List IK} {u:Nat}:Xj far l u=true↔far.getD u none=none\/∃k,((u:Int),k)∈l:=by
 unfold Xj;rw [Bool.or_eq_true,List.any_eq_true,Option.isNone_iff_eq_none];constructor
 ·rintro (h|⟨y,hy,e⟩)
  ·exact .inl h
  ·refine .inr ⟨y.2,?_⟩
   rw [<-of_decide_eq_true e];exact hy
 ·rintro (h|⟨k,hk⟩)
  ·exact .inl h
  ·exact .inr ⟨_,hk,decide_eq_true rfl⟩
theorem Hs {α:Type} {p q:α->Bool}:∀{l:List α} (_:∀x∈l,q x=true->p x=true) {y:α} (_:y∈l) (_:p y=true) (_:q y=false),l.countP q<l.countP p
 |x::l,h,y,hy,h1,h2=>by
  have hle:l.countP q<=l.countP p:=List.countP_mono_left (fun z hz hq=>h z (List.mem_cons_of_mem _ hz) hq);rw [List.countP_cons,List.countP_cons]
  rcases Bm5.1 hy with rfl|hy
  ·rw [h1,h2]
   simp;omega
  ·have ih:=Hs (fun z hz hq=>h z (List.mem_cons_of_mem _ hz) hq) hy h1 h2
   have hx:=h x (List.mem_cons_self ..)
   cases hq:q x with
   |true=>rw [hx hq];simp;omega
   |false=>cases hp:p x<;>simp<;>omega
theorem Nn {n:Nat} {far:List (Option Int)} {l l':List IK} {v:Nat} {d:Int} (hv:v<n) (hin:((v:Int),d)∈l) (hf:far.getD v none=some d) (hl:∀y,y∈l'↔y∈l/\y.1≠(v:Int)):Dd n far l'<Dd n far l:=by
 refine Hs (fun u _ hu=>?_) (Bm7.2 hv) (Cu.2 (.inr ⟨d,hin⟩)) ?_
 ·rcases Cu.1 hu with h|⟨k,hk⟩
  ·exact Cu.2 (.inl h)
  ·exact Cu.2 (.inr ⟨k,((hl _).1 hk).1⟩)
 ·cases hb:Xj far l' v with
  |false=>rfl
  |true=>
   rcases Cu.1 hb with h|⟨k,hk⟩
   ·rw [hf] at h;cases h
   ·exact absurd rfl ((hl _).1 hk).2
theorem Pd {n:Nat} {far:List (Option Int)} {l l':List IK} {v:Nat} {d:Int} (hv:v<far.length) (hw:Xj far l v=true) (hl:∀y,y∈l'↔y=((v:Int),d)\/(y∈l/\y.1≠(v:Int))):Dd n (far.set v (some d)) l'<=Dd n far l:=by
 refine List.countP_mono_left (fun u _ hu=>?_)
 by_cases e:u=v
 ·subst e
  exact hw
 ·rcases Cu.1 hu with h|⟨k,hk⟩
  ·rw [Bj9,Bo1 (fun h=>e h.symm),<-Bj9] at h
   exact Cu.2 (.inl h)
  ·rcases (hl _).1 hk with h|⟨h,_⟩
   ·cases h
    exact absurd rfl e
   ·exact Cu.2 (.inr ⟨k,h⟩)
theorem Run.full {A:Int->Int->Int->Prop} {X:Nums} {r:Int->Int} {s:Int} {far:Int->Option Int} {by':Int->Int} {l:List (Int×Int)} {cur:Int} {out:List Lab} {done done':Int->Int->Prop} (h:Run A X r s far by' l cur out done)
  (hc:∀a∈out,∀i v w,done' a.v i->X i a.v v w->r a.v<r v->done a.v i):Run A X r s far by' l cur out done':=
 ⟨h.sound,h.start,h.heap,h.lab,h.rest,h.way,fun a ha i v w hd hx hr=>h.gone a ha i v w (hc a ha i v w hd hx hr) hx hr,h.once,h.low⟩
theorem Uf {es:List EdgeD} {n:Nat} {R:List Int} {S:List SC} {ro:List Int} (hok:HierOK es n R S ro) (back:Bool) {vn:Nat} (hvn:vn<n) {x:Bx} (hx:x∈Ci R S n vn back) {st:US} (hho:HeapOK st.l st.p) (h1:st.far.length=n) (h2:st.bys.length=n) (h3:st.p.length=n)
  {s cur:Int} {out:List Lab} {done:Int->Int->Prop} {a:Lab} (ha:a∈out) (hav:a.v=(vn:Int)) (had:a.d=cur) (h:Run (Ca back (Am es)) (XN S back) (rk ro) s (Ev st.far) (Sq st.bys) st.l cur out done):
  Run (Ca back (Am es)) (XN S back) (rk ro) s (Ev (Cy st x.2.1.toNat (cur+x.2.2) x.1).far) (Sq (Cy st x.2.1.toNat (cur+x.2.2) x.1).bys) (Cy st x.2.1.toNat (cur+x.2.2) x.1).l cur out (fun u j=>done u j\/(u=(vn:Int)/\j=x.1))/\
   Dd n (Cy st x.2.1.toNat (cur+x.2.2) x.1).far (Cy st x.2.1.toNat (cur+x.2.2) x.1).l<=Dd n st.far st.l:=by
 obtain ⟨k1,k2,k3,k4,k5⟩:=Ag9 hok back hvn hx;obtain ⟨xi,xt,xw⟩:=x;simp only at k1 k2 k3 k4 k5 ⊢;obtain ⟨t,rfl⟩:∃t:Nat,xt=t:=⟨xt.toNat,by have:=k3.1;omega⟩;rw [Bk7];have ht:t<n:=by have:=k3.2;omega
 have huniq:∀v' w',XN S back xi a.v v' w'->v'=(t:Int)/\w'=xw:=fun v' w' k=>Bd8 (by rw [hav];exact k1) k;rw [<-hav] at k1 k2;rw [<-hav,<-had];rw [<-had] at h
 cases hl:(Au st.far t (a.d+xw)).1 with
 |false=>
  obtain ⟨_,e,he,hle⟩:=Fp hl;have hr:Cy st t (a.d+xw) xi=st:=by unfold Cy;rw [hl];rfl
  rw [hr];exact ⟨Run.skip h ha huniq (by rw [Cs];exact he) hle,Bj5 _⟩
 |true=>
  obtain ⟨hf,hlt⟩:=Gr hl;have hr:Cy st t (a.d+xw) xi=⟨st.far.set t (some (a.d+xw)),st.bys.set t xi,(Bl st.l st.p t (a.d+xw)).2.1,(Bl st.l st.p t (a.d+xw)).2.2⟩:=by unfold Cy;rw [hl,hf];rfl
  rw [hr];simp only;have hfar:∀e,Ev st.far (t:Int)=some e->a.d+xw<e:=fun e he=>hlt e (by rw [<-Cs];exact he);obtain ⟨l1,l2,l3,l4,l5⟩:=Eb hho (v:=t) (by rw [h3];exact ht) (a.d+xw);have hput:∀y,y∈(Bl st.l st.p t (a.d+xw)).2.1↔(y=((t:Int),a.d+xw)\/(y∈st.l/\y.1≠(t:Int))):=by
   cases hb:(Bl st.l st.p t (a.d+xw)).1 with
   |true=>exact l3 hb
   |false=>
    obtain ⟨_,k,hk,hle⟩:=l4 hb;have:=hfar k (h.heap _ _ hk).1;omega
  refine ⟨?_,Pd (by rw [h1];exact ht) ?_ hput⟩
  ·rw [Nc (by rw [h1];exact ht),Zo (by rw [h2];exact ht)]
   exact Run.reach (fun i u v w k=>⟨((hok.hierB back).sound _ _ _ ⟨i,k⟩).2.imp (fun _ _=>trivial),by
    obtain ⟨y,_,hy,hw,_⟩:=k;rw [<-hw];exact (hok.ends y (Bm1 hy)).2.2.2⟩) h ha rfl k1 k2 huniq hfar hput
  ·refine Cu.2 ?_
   cases hfx:st.far.getD t none with
   |none=>exact .inl rfl
   |some e=>
    rcases h.rest (t:Int) e (by rw [Cs];exact hfx) with h9|⟨_,h9⟩
    ·exact .inr ⟨e,h9⟩
    ·have:=hlt e hfx
     omega
end
section
open Ch
def Ak4 (back:Bool) (e:EdgeD):Arc:=⟨(Fj back e).1,(Fj back e).2,e.w⟩
def Bs (es:List EdgeD) (back:Bool) (no:List Int):List Arc:=(es.filter (Ek no)).map (Ak4 back)
def Df (back:Bool) (no:List Int) (p:List Int×Bool) (e:EdgeD):List Int×Bool:=if Ek no e then Dn p (Ak4 back e) else p
theorem Jw (back:Bool) (no:List Int):∀(es:List EdgeD) (p:List Int×Bool),es.foldl (Df back no) p=(Bs es back no).foldl Dn p
 |[],_=>rfl
 |e::es,p=>by
  rw [List.foldl_cons,Jw back no es];unfold Df Bs
  cases h:Ek no e<;>simp [List.filter_cons,h]
theorem Vt (es:List EdgeD) (back:Bool) (no d:List Int):es.foldl (Df back no) (d,false)=Cx d (Bs es back no):=Jw back no es _
theorem Yc {es:List EdgeD} {back:Bool} {no d:List Int} {k:Nat} (h:k<es.length):(es.take (k+1)).foldl (Df back no) (d,false)=Df back no ((es.take k).foldl (Df back no) (d,false)) es[k]:=by
 rw [Bl1 h,List.foldl_append];rfl
theorem Ae8 {no:List Int} {e:EdgeD}:Ek no e=true↔e.f∉no/\e.t∉no:=by
 unfold Ek;simp
theorem rel_arcs {es:List EdgeD} {back:Bool} {no:List Int} {u v w:Int}:rel (Bs es back no) u v w↔Ca back (Am es) u v w/\u∉no/\v∉no:=by
 unfold rel Bs Ca Am;simp only [List.mem_map,List.mem_filter,Ae8]
 cases back
 ·simp only [Bool.false_eq_true,if_false]
  constructor
  ·rintro ⟨e,⟨h1,h2,h3⟩,h4⟩
   cases h4
   exact ⟨⟨e,h1,rfl,rfl,rfl⟩,h2,h3⟩
  ·rintro ⟨⟨e,h1,rfl,rfl,rfl⟩,h2,h3⟩
   exact ⟨e,⟨h1,h2,h3⟩,rfl⟩
 ·simp only [if_true,Pv]
  constructor
  ·rintro ⟨e,⟨h1,h2,h3⟩,h4⟩
   cases h4
   exact ⟨⟨e,h1,rfl,rfl,rfl⟩,h3,h2⟩
  ·rintro ⟨⟨e,h1,rfl,rfl,rfl⟩,h2,h3⟩
   exact ⟨e,⟨h1,h3,h2⟩,rfl⟩
def AllIs (es:List EdgeD) (n:Nat) (s:Int) (back:Bool) (no d:List Int):Prop:=
 d.length=n/\(∀v,node n v->gD d v=FAR\/(0<=gD d v/\gD d v<=1152921504606846976))/\(s∈no->∀v,node n v->gD d v=FAR)/\(s∉no->Exact (Bs es back no) s n d)
structure Rds (L:List Arc) (s:Int) (n k:Nat) (B:Int) (d:List Int) (c:Bool):Prop where
 so:Sofar L s n (k*B) d
 left:left L s n d+k<=n\/left L s n d=0
 ex:c=false->Exact L s n d
theorem Rds.start (L:List Arc) {s:Int} {n:Nat} (B:Int) (hs:node n s):Rds L s n 0 B ((List.replicate n FAR).set s.toNat 0) true:=
 ⟨by rw [show ((0:Nat):Int)*B=0 by simp];exact Sofar.begin L hs,.inl (by have:=Bc5 L s n ((List.replicate n FAR).set s.toNat 0);omega),fun h=>by cases h⟩
theorem Rds.go {L:List Arc} {s:Int} {n k:Nat} {W B:Int} {d:List Int} {c:Bool} (hg:Ch.Good L n W) (hW:0<=W) (hs:node n s) (hB:(L.length:Int)*W<=B) (hk:k<=4096) (hm:4097*B+W<FAR) (h:Rds L s n k B d c):Rds L s n (k+1) B (Cx d L).1 (Cx d L).2:=by
 have h0:(0:Int)<=(L.length:Int)*W:=Int.mul_nonneg (by omega) hW;have h1:(k:Int)*B<=4096*B:=Int.mul_le_mul_of_nonneg_right (by omega) (by omega);obtain ⟨a1,a2,a3⟩:=Sofar.round hg hW hs h.so (by omega);have e:((k+1:Nat):Int)*B=k*B+B:=by push_cast;rw [Int.add_mul];omega
 refine ⟨a1.mono (by rw [e];omega),?_,a3⟩
 rcases a2 with a2|a2
 ·rcases h.left with h2|h2<;>omega
 ·exact .inr a2
theorem Rds.done {L:List Arc} {s:Int} {n k:Nat} {W B:Int} {d:List Int} {c:Bool} (hg:Ch.Good L n W) (h:Rds L s n k B d c) (he:c=false\/n<k):Exact L s n d:=by
 rcases he with he|he
 ·exact h.ex he
 ·exact h.so.zero hg (by rcases h.left with h2|h2<;>omega)
theorem Exact.is {es:List EdgeD} {n:Nat} {s:Int} {back:Bool} {no d:List Int} {k:Nat} {B:Int} (h:Exact (Bs es back no) s n d) (hso:Sofar (Bs es back no) s n (k*B) d) {W:Int} (hg:Ch.Good (Bs es back no) n W) (hs:s∉no) (hb:(k:Int)*B<=1152921504606846976):AllIs es n s back no d:=
 ⟨h.len,fun v hv=>(hso.way v hv).imp id fun k=>⟨k.1.nonneg hg.hA,by have:=k.2;omega⟩,fun k=>absurd k hs,fun _=>h⟩
theorem AllIs.out {es:List EdgeD} {n:Nat} {s:Int} {back:Bool} {no:List Int} (hs:s∈no):AllIs es n s back no (List.replicate n FAR):=by
 have h:∀v,node n v->gD (List.replicate n FAR) v=FAR:=by
  intro v hv;unfold gD;rw [Bj9,Bn3]
  split<;>rfl
 exact ⟨by simp,fun v hv=>.inl (h v hv),fun _=>h,fun k=>absurd hs k⟩
theorem Ar2 {es:List EdgeD} {n:Nat} {back:Bool} {no:List Int} (hA:∀u v w,Am es u v w->Ac n u/\Ac n v/\1<=w/\w<=4294967296):Ch.Good (Bs es back no) n 4294967296:=by
 have key:∀e∈Bs es back no,node n e.u/\node n e.v/\1<=e.w/\e.w<=4294967296:=by
  intro e he;have h:=(rel_arcs.1 (show rel (Bs es back no) e.u e.v e.w from he)).1;unfold Ca at h
  cases back
  ·exact hA _ _ _ h
  ·have:=hA _ _ _ (show Am es e.v e.u e.w from h)
   exact ⟨this.2.1,this.1,this.2.2⟩
 exact ⟨fun e he=>⟨(key e he).1,(key e he).2.1⟩,fun e he=>⟨(key e he).2.2.1,(key e he).2.2.2⟩⟩
theorem Zs {es:List EdgeD} {back:Bool} {no:List Int}:(Bs es back no).length<=es.length:=by
 unfold Bs;rw [Bn5];exact List.length_filter_le _ _
theorem Bb6 {es:List EdgeD} {n:Nat} {s:Int} {back:Bool} {no d:List Int} {m W:Int} (hg:Ch.Good (Bs es back no) n W) (hs:node n s) (hW:0<=W) (h:Sofar (Bs es back no) s n m d) (hm0:0<=m) (hm:m+es.length*W<FAR) (j:Nat):
  ((es.take j).foldl (Df back no) (d,false)).1.length=n/\∀v,node n v->0<=gD ((es.take j).foldl (Df back no) (d,false)).1 v/\gD ((es.take j).foldl (Df back no) (d,false)).1 v<=4611686018427387904:=by
 rw [Jw];have hsub:∀e∈Bs (es.take j) back no,e∈Bs es back no:=by
  intro e he;unfold Bs at he ⊢;obtain ⟨x,hx,rfl⟩:=List.mem_map.1 he;obtain ⟨h1,h2⟩:=List.mem_filter.1 hx;exact List.mem_map.2 ⟨x,List.mem_filter.2 ⟨List.mem_of_mem_take h1,h2⟩,rfl⟩
 obtain ⟨a,-,-,-⟩:=Sofar.part hg hs hW (Bs (es.take j) back no) d m false hsub h;have hl:(Bs (es.take j) back no).length<=es.length:=Bj7 Zs (by rw [List.length_take];omega);have h2:((Bs (es.take j) back no).length:Int)*W<=(es.length:Int)*W:=Int.mul_le_mul_of_nonneg_right (by omega) hW;have hF:FAR=4611686018427387904:=rfl;refine ⟨a.len,fun v hv=>?_⟩
 rcases a.way v hv with k|⟨k,k2⟩
 ·rw [k,hF];omega
 ·exact ⟨k.nonneg hg.hA,by omega⟩
def FarV (A:Int->Int->Int->Prop) (s v x:Int):Prop:=(Dist A s v x/\0<=x/\x<=1152921504606846976)\/(x=FAR/\∀e,¬Way0 A Any s v e)
theorem FarV.uniq {A:Int->Int->Int->Prop} {s v x y:Int} (h:FarV A s v x) (k:FarV A s v y):x=y:=by
 rcases h with ⟨h,_⟩|⟨rfl,h⟩<;>rcases k with ⟨k,_⟩|⟨rfl,k⟩
 ·exact h.uniq k
 ·exact absurd h.1 (k _)
 ·exact absurd k.1 (h _)
 ·rfl
theorem FarV.lt {A:Int->Int->Int->Prop} {s v x:Int} (h:FarV A s v x) (hx:x<FAR):Dist A s v x/\0<=x/\x<=1152921504606846976:=by
 rcases h with h|⟨rfl,_⟩
 ·exact h
 ·exact absurd hx (by decide)
theorem FarV.ge {A:Int->Int->Int->Prop} {s v x:Int} (h:FarV A s v x) (hx:¬x<FAR):x=FAR/\∀e,¬Way0 A Any s v e:=by
 rcases h with ⟨_,_,h⟩|h
 ·unfold FAR at hx;omega
 ·exact h
theorem FarV.in {A:Int->Int->Int->Prop} {s v x:Int} (h:FarV A s v x):0<=x/\x<=4611686018427387904:=by
 rcases h with ⟨_,h⟩|⟨rfl,_⟩
 ·omega
 ·unfold FAR;omega
theorem At5 (es:List EdgeD) (back:Bool):rel (Bs es back [])=Ca back (Am es):=by
 funext u v w
 exact propext (rel_arcs.trans ⟨fun h=>h.1,fun h=>⟨h,by simp,by simp⟩⟩)
theorem AllIs.farX {es:List EdgeD} {n:Nat} {s:Int} {back:Bool} {no d:List Int} (hA:∀u v w,rel (Bs es back no) u v w->1<=w) (h:AllIs es n s back no d) (hs:s∉no) {v:Int} (hv:node n v):FarV (rel (Bs es back no)) s v (gD d v):=by
 obtain ⟨h1,h2,h3,h4⟩:=h;have hE:=h4 hs
 by_cases hd:∃e,Dist (rel (Bs es back no)) s v e
 ·obtain ⟨e,he⟩:=hd
  refine .inl ⟨by rw [hE.dist v e hv he];exact he,?_⟩
  rcases h2 v hv with k|k
  ·exact absurd k (hE.fin v e hv he)
  ·exact k
 ·exact .inr ⟨hE.none v hv fun e he=>hd ⟨e,he⟩,fun e he=>hd (Fz hA he)⟩
theorem AllIs.far {es:List EdgeD} {n:Nat} {s:Int} {back:Bool} {d:List Int} (hA:∀u v w,Ca back (Am es) u v w->1<=w) (h:AllIs es n s back [] d) {v:Int} (hv:node n v):FarV (Ca back (Am es)) s v (gD d v):=by
 have:=h.farX (fun u v w k=>hA u v w (rel_arcs.1 k).1) (by simp) hv
 rwa [At5] at this
end
section
namespace Dj
open Go Go.Proofs Go.RowKit Ch Ad
theorem Wt {A:Int->Int->Int->Prop} {n:Nat} {M s:Int} (hM:0<=M) (hA:∀u v w,A u v w->Ac n u/\Ac n v/\1<=w/\w<=M):∀(k:Nat) (t d:Int) (L:List Int),Ac n t->Dist A s t d->(∀v∈L,Ac n v/\∃e,Dist A s v e/\d<e)->L.Nodup->n<=L.length+k->d<=M*(k:Int)
 |k,t,d,L,ht,hd,hL,hN,hk=>by
  have hin:t∉L:=fun h=>by
   obtain ⟨-,e,h1,h2⟩:=hL t h;have:=h1.2 _ hd.1;omega
  have hlen:(t::L).length<=n:=by
   have h9:=De (t::L) (La n) (List.nodup_cons.2 ⟨hin,hN⟩) (fun u hu=>Cp.2 (by
    rcases Bm5.1 hu with rfl|hu
    ·exact ht
    ·exact (hL u hu).1))
   rw [Dy] at h9;exact h9
  rw [Bk8] at hlen
  cases k with
  |zero=>omega
  |succ k=>
   by_cases hst:s=t
   ·have:=hd.2 0 (.inl ⟨hst,rfl⟩)
    have:=Int.mul_nonneg hM (show (0:Int)<=((k+1:Nat):Int) by omega);omega
   ·obtain ⟨m,w,h1,h2⟩:=hd.pred hst
    have h3:=hA _ _ _ h1;have h4:=Wt hM hA k m (d-w) (t::L) h3.1 h2 (fun v hv=>by
     rcases Bm5.1 hv with rfl|hv
     ·exact ⟨ht,d,hd,by omega⟩
     ·obtain ⟨h5,e,h6,h7⟩:=hL v hv
      exact ⟨h5,e,h6,by omega⟩) (List.nodup_cons.2 ⟨hin,hN⟩) (by rw [Bk8];omega)
    have e:((k+1:Nat):Int)=(k:Int)+1:=by omega
    rw [e,Int.mul_add,Int.mul_one];omega
def Wf (b:Bool) (e:EdgeD):Int:=if b then e.f else e.t
def XD (es:List EdgeD) (bk:Bool):Nums:=fun i u v w=>∃j:Nat,i=(j:Int)/\∃h:j<es.length,Wk bk es[j]=u/\Wf bk es[j]=v/\es[j].w=w
def EOK (n:Nat) (es:List EdgeD):Prop:=∀e∈es,Ac n e.f/\Ac n e.t/\1<=e.w/\e.w<=4294967296
theorem EOK.key {n:Nat} {es:List EdgeD} (h:EOK n es) (bk:Bool):∀e∈es,Ac n (Wk bk e):=fun e he=>by
 unfold Wk
 cases bk
 ·exact (h e he).1
 ·exact (h e he).2.1
theorem EOK.oth {n:Nat} {es:List EdgeD} (h:EOK n es) (bk:Bool):∀e∈es,Ac n (Wf bk e):=fun e he=>by
 unfold Wf
 cases bk
 ·exact (h e he).2.1
 ·exact (h e he).1
theorem XD.ok {n:Nat} {es:List EdgeD} {bk:Bool} (h:EOK n es):∀u v w,(XD es bk).rel u v w->Ac n u/\Ac n v/\1<=w/\w<=4294967296:=by
 rintro u v w ⟨i,j,rfl,hj,rfl,rfl,rfl⟩;have he:=Bk5 hj;exact ⟨h.key bk _ he,h.oth bk _ he,(h _ he).2.2.1,(h _ he).2.2.2⟩
theorem XD.uniq {es:List EdgeD} {bk:Bool} {i u v w v' w':Int} (h:XD es bk i u v w) (h':XD es bk i u v' w'):v'=v/\w'=w:=by
 obtain ⟨j,e1,hj,h1,h2,h3⟩:=h;obtain ⟨j',e2,hj',h1',h2',h3'⟩:=h';have:j=j':=by omega
 subst this;exact ⟨h2'.symm.trans h2,h3'.symm.trans h3⟩
theorem Xo {n:Nat} {es:List EdgeD} {bk:Bool} {v:Nat} {x:Pp} (h:EOK n es) (hx:x∈Jg es bk v):∃j:Nat,x.1=(j:Int)/\j<es.length/\x.2∈es/\es[j]? =some x.2/\XD es bk x.1 (v:Int) (Wf bk x.2) x.2.w:=by
 obtain ⟨i,hi,rfl⟩:=List.mem_map.1 hx;obtain ⟨j,rfl,hj,hk⟩:=Dt.1 hi;have e:(Fa es (j:Int)).2=es[j]:=by
  unfold Fa;rw [Bk7,Bj9,Bj8 hj];rfl
 refine ⟨j,rfl,hj,by rw [e];exact Bk5 hj,by rw [e,Bj8 hj],⟨j,rfl,hj,?_,by rw [e],by rw [e]⟩⟩;unfold kfE at hk;rw [Bj9,Bj8 hj,Bl8] at hk;have:=(h.key bk _ (Bk5 hj)).1;omega
theorem Az2 {es:List EdgeD} {bk:Bool} {v:Nat} {i y w:Int} (h:XD es bk i (v:Int) y w):∃x∈Jg es bk v,x.1=i:=by
 obtain ⟨j,rfl,hj,h1,-,-⟩:=h;refine ⟨Fa es (j:Int),List.mem_map.2 ⟨(j:Int),Dt.2 ⟨j,rfl,hj,?_⟩,rfl⟩,rfl⟩;unfold kfE;rw [Bj9,Bj8 hj,Bl8,h1,Bk7]
end Dj
end
section
open Go Go.Proofs Go.RowKit Go.Shelf
theorem Mj {P:Program} {w:World} (t ty:TypeId) (base:Nat) (E:TypeId) (z:Value) (bytes:Nat) (hE:Gl P E z 1 bytes) (ht:P.underlying t=some (.slice E))
  (v:Value) (n:Nat) (xs:List Value) (hown:w.ownsRow base E 1 v n xs) (ad:Addr) (c:Nat) (x:Value) (hx:∀j u,[x][j]? =some u->w.cell? (ad.add j)=some u) (h1:x.oneCell'=true)
  (hl:n+1<=9223372036854775807/\(n+1)*bytes<=140737488355328/\base<=w.heap.size):
  ∃g cap w',(Builtin.append_ #[t,t] ty #[v,.slice (some ad) 1 c]).run P w=.ok (.slice (some ⟨g,0,none⟩) (n+1) cap) w'/\w'.ownsRow base E 1 (.slice (some ⟨g,0,none⟩) (n+1) cap) (n+1) (xs++[x])/\w'.ownsRow base E 1 v n xs/\
   w.grownBy w' v.ownBlock/\(v.ownBlock=some g\/g=w.heap.size)/\g<w'.heap.size:=by
 obtain ⟨hE,hz1,hz2⟩:=hE;obtain ⟨i,hi,hz,hsz,hby⟩:=info_parts hE;obtain ⟨l2,l3,l5⟩:=hl;have h1':∀u∈[x],u.oneCell'=true:=fun u hu=>by obtain rfl:=Bl0.1 hu;exact h1
 obtain ⟨g,cap,w',hr,ho,hg,hat,hlt⟩:=run_append_lies w t ty base E i z 1 bytes ht hi hz hsz hby hz1 hz2 v n xs hown ad 1 c [x] rfl hx h1' (by omega) (by unfold maxLen;omega) l3 l5 _ rfl;refine ⟨g,cap,w',hr,ho,?_,hg,hat,hlt⟩
 rcases hown.2 with ⟨rfl,rfl⟩|⟨g0,cap0,cur,rfl,hbg,hg0,hnc,hcm,hcs,htake⟩
 ·have:xs=[]:=List.eq_nil_of_length_eq_zero (by simpa using hown.1)
  subst this;exact World.ownsRow_nil _ _ _ _
 ·by_cases hroom:n+1<=cap0
  ·have hr2:=run_append_room (P:=P) w t ty E i ht hi g0 n cap0 cur hg0 ad 1 c [x] (by rw [hsz];rfl) hx h1' hroom (by rw [hsz,hcs];simp;omega)
   rw [hr] at hr2
   injection hr2 with h2 h3
   subst h3;refine ⟨hown.1,.inr ⟨g0,cap0,_,rfl,hbg,setRow_heap w g0 cur _ E _ hg0,hnc,hcm,?_,?_⟩⟩
   ·rw [hsz]
    have hcs':cur.toList.length=cap0:=by rw [Array.length_toList,hcs,Nat.mul_one]
    simp only [List.size_toArray,Bm3,List.length_take,List.length_drop,List.length_singleton,hcs'];omega
   ·rw [hsz] at*
    have hxl:xs.length=n*1:=hown.1;rw [htake,Bn6]
    show List.take (n*1) (xs++_)=xs
    rw [<-hxl,List.take_left'];rfl
  ·have holds:∀j u,xs[j]? =some u->w.cell? ((⟨g0,0,none⟩:Addr).add j)=some u:=hown.cells (g:=g0) rfl
   have hr2:=run_append_grow (P:=P) w t ty E i z ht hi hz ⟨g0,0,none⟩ n cap0 xs (by rw [hsz];exact hown.1) holds ad 1 c [x] (by rw [hsz];rfl) hx (by omega) (by omega) (growslice_fits (by omega) (by rw [hby];exact l3));rw [hr] at hr2
   injection hr2 with h2 h3
   subst h3;exact ⟨hown.1,.inr ⟨g0,cap0,cur,rfl,hbg,(show (w.drew.alloc _).heap[g0]? =w.heap[g0]? by first|exact heap_alloc_old w.drew _ _ (Bk0.1 hg0).1|exact heap_alloc_old w.drew _ (Bk0.1 hg0).1).trans hg0,hnc,hcm,hcs,htake⟩⟩
end
section
open Go Go.Proofs Go.RowKit
theorem Vf:Gl Tryz.prog 37 (.int .u64 0) 1 8:=⟨by kernel_rfl,rfl,by decide⟩
theorem Bg7 {w:World} {b:Nat} {x:Value} (h:w.cell? ⟨b,0,none⟩=some x):∀j u,[x][j]? =some u->w.cell? ((⟨b,0,none⟩:Addr).add j)=some u:=by
 intro j u hj
 cases j with
 |zero=>
  obtain rfl:x=u:=by simpa using hj
  exact h
 |succ j=>simp at hj
theorem Ax1 {w w':World} {v:Value} (h:w.grownBy w' v.ownBlock):OffX (fun k=>v.ownBlock=some k) w w':=⟨h.os,h.tape,h.output,h.size,fun k hk hn=>h.block k hk (fun e=>hn e.symm)⟩
theorem Uz {w:World} {base n:Nat} {e:TypeId} {v:Value} {xs:List Value} (h:w.ownsRow base e 1 v n xs):∀k,v.ownBlock=some k->base<=k/\k<w.heap.size:=by
 intro k hk
 rcases h.2 with ⟨rfl,_⟩|⟨g,cap,cur,rfl,hb,hg,_⟩
 ·cases hk
 ·obtain rfl:g=k:=Bm2 hk
  exact ⟨hb,(Bk0.1 hg).1⟩
end
section
open Go Go.Proofs Go.RowKit Go.Shelf Ch
theorem Sj:Gl Tryz.prog 37 (.int .u64 0) 1 8:=⟨by kernel_rfl,rfl,by decide⟩
def Th (es:List EdgeD):List Value:=es.map fun x=>.int .u64 x.w
theorem Al0 {es:List EdgeD} {k:Nat} (h:k<es.length):Th (es.take (k+1))=Th (es.take k)++[.int .u64 es[k].w]:=by
 unfold Th;rw [Bl1 h,Bn4];rfl
def Xa (n:Nat) (xs:List Value) (w:World) (e:Ending) (w':World):Prop:=
 ∃ao cap,e=.returned (.slice ao n cap)/\Cel w' ao xs/\Below w.heap.size w w'/\∀k,(Value.slice ao n cap).ownBlock=some k->w.heap.size<=k
theorem Jl (n:Int) (es:List EdgeD) (ao no:Option Addr) (cap nn nc:Nat) (back:Bool) (w:World) (hg:Aj ⟨n,es⟩=0) (hel:es.length<=1000000) (hc:Cel w ao (Ar es)):
  Calls Tryz.prog 120 #[.agg #[.int .i64 n,.slice ao es.length cap],Wg back no nn nc] w (Xa es.length (Th es) w):=by
 obtain ⟨W,hW⟩:∃W,W=(w.alloc (Obj.cells #[.int .i64 n,.slice ao es.length cap] 24)).alloc (Obj.cells #[.bool back,.slice no nn nc,.slice none 0 0,.slice none 0 0,.int .u64 0] 119):=⟨_,rfl⟩;have hbw:Below w.heap.size w W:=by rw [hW];exact (Below.of_al _ _).al _
 have c0:W.cell? ⟨w.heap.size,0,none⟩=some (.int .i64 n):=by rw [hW];go_simp
 have c1:W.cell? ⟨w.heap.size,1,none⟩=some (.slice ao es.length cap):=by rw [hW];go_simp
 have c2:W.cell? ⟨w.heap.size+1,3,none⟩=some (.slice none 0 0):=by rw [hW];go_simp
 have HW:=Bj3 hW;have HR:=Bj3 (Dr ⟨n,es⟩ ao cap W (show es.length<=9223372036854775807 by omega) (hc.go hbw));have HC:=Bj3 (hc.go hbw);have HB:=Bj3 hbw;have HSZ:=Bj3 (show w.heap.size<W.heap.size by rw [hW];simp;omega);rw [hg] at HR;simp only at HR;unfold Xa;clear hW hc hbw hg
 go_enter Tryz.func120,Tryz.ntmps120
 go_upto_region 1 with (fail)
 rw [<-HW.out]
 go_upto_region 5 with (go_at_call 78;refine HR.out.mono ?_;rintro e w1 ⟨rfl,hb1⟩;(have d1:=Bj4 hb1 c1);(have d2:=Bj4 hb1 c2);(have HC1:=Bj3 (HC.out.go hb1));(have HB1:=Bj3 hb1);clear hb1)
 clear c0 c1 c2
 go_loopg [5,6] es.length (fun gm v5 v6 wr=>∃k:Nat,k<=es.length/\es.length-k<=gm/\v6=.int .i64 k/\Aside (wr.ownsRow w1.heap.size 37 1 v5 k (Th (es.take k)))/\Aside (Below w1.heap.size w1 wr))
 case atStart=>exact ⟨0,Bj6 _,by omega,rfl,by rw [List.take_zero];exact World.ownsRow_nil _ _ _ _,Below.refl _ _⟩
 case round=>
  obtain ⟨k,hk,hg,rfl,HO,HBr⟩:=hrel;have e1:=Bj4 HBr.out d1;have e2:=Bj4 HBr.out d2
  by_cases hlt:k<es.length
  ·have hlt3:(k:Int)<(es.length:Int):=by omega
   have hk0:(0:Int)<=(k:Int):=by omega
   obtain ⟨qb,qo,rfl,y0,y1,y2⟩:=(HC1.out.go HBr.out).edge hlt;have HST:=Bj3 (Al0 hlt);generalize es[k]=x at*;generalize Th (es.take k)=row at*;clear y0 y1
   go_wp2_with (at_builtin;go_must (refine Du w1.heap.size 37 _ 1 8 Sj Tryz.underlying60 _ k row ⟨wr.heap.size,0,none⟩ 1 1 [.int .u64 x.w] rfl rfl (World.ownsRow.alloc HO.out _) (cell_one_new _ _ _) (Cv rfl) ⟨rfl,by decide,by omega,by omega,(by have:=HBr.out.size;simp;omega)⟩ ?_);intro g6 cap6 w6 hown6 hgrow6 hbl6 hat6 hlt6;(have HO6:=Bj3 hown6);(have HB6:=Bj3 ((HBr.out.al _).trans hbl6));clear hown6 hgrow6 hbl6 hat6 hlt6)
   go_roundg (es.length-(k+1))
   case measure=>omega
   case rel=>exact ⟨k+1,by omega,Bj5 _,by go_num,by rw [HST.out];exact HO6.out,HB6.out⟩
  ·obtain rfl:k=es.length:=by omega
   go_wp2
   obtain ⟨ao9,cap9,rfl,hce9⟩:=Cel.of_owns HO.out
   go_ret
   rw [Bn9] at hce9;exact ⟨ao9,cap9,rfl,hce9,HB.out.st (HB1.out.st HBr.out),fun j hj=>by have:=(HO.out.lt j hj).1;have:=HB1.out.size;have:=HSZ.out;omega⟩
end
end Go.Proofs.YteaaapdjplbljaaGreat
