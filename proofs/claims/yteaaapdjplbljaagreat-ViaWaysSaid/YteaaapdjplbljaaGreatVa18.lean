/- Parts; no condition. -/
import Derived.Test.YteaaapdjplbljaaGreatVa17
set_option linter.unusedVariables false
set_option linter.unusedSimpArgs false
set_option linter.unnecessarySimpa false
set_option maxRecDepth 100000
set_option maxHeartbeats 8000000
namespace Go.Proofs.YteaaapdjplbljaaGreat
section
open Ch
theorem Yz {l:List Int} (hn:Pj l l.length):∀(k p:Nat) (_hk:k<=l.length) (hp:p<k),(Oh l k)[(l.getD p 0).toNat]? =some (p:Int)
 |k+1,p,hk,hp=>by
  have hlt:∀i,i<l.length->l.getD i 0=l[i]!:=fun i hi=>by simp [List.getD,hi]
  have hin:=fun i (hi:i<l.length)=>hn i hi hi;have hkl:k<l.length:=by omega
  have hpl:p<l.length:=by omega
  have ek:l.getD k 0=l[k]:=by simp [List.getD,hkl]
  have ep:l.getD p 0=l[p]:=by simp [List.getD,hpl]
  show ((Oh l k).set (l.getD k 0).toNat k)[(l.getD p 0).toNat]? =_
  rw [List.getElem?_set]
  by_cases e:p=k
  ·subst e
   rw [if_pos rfl,Gs,if_pos (by rw [ep];have:=hin p hpl;omega)]
  ·rw [if_neg (by
    rw [ek,ep];intro h;have h1:=hin k hkl;have h2:=hin p hpl;exact h1.2.2 p (by omega) (by omega))]
   exact Yz hn k p (by omega) (by omega)
theorem Dz {l:List Int} (h:Be l=true):(Fq l).length=l.length:=by unfold Fq;rw [if_pos h,Gs]
theorem getD_in {l:List Int} {p:Nat} (hp:p<l.length):l.getD p 0=l[p]:=by simp [List.getD,hp]
theorem Mt {l:List Int} (h:Be l=true) {p:Nat} (hp:p<l.length):(Fq l)[(l[p]).toNat]? =some (p:Int):=by
 have:=Yz (Jm h) l.length p (Bj5 _) hp;rw [getD_in hp] at this;unfold Fq;rw [if_pos h];exact this
theorem Ra {l:List Int} (h:Be l=true) {i:Nat} (hi:i<l.length):∃p,∃hp:p<l.length,l[p]=(i:Int):=by
 have:=Ke h (i:Int) (Cp.2 ⟨by omega,by omega⟩);obtain ⟨p,hp,e⟩:=Bn7.1 this;exact ⟨p,hp,e⟩
theorem Og {l:List Int} (h:Be l=true):Be (Fq l)=true:=by
 refine Lo fun x hx=>?_;rw [Dz h] at hx;obtain ⟨h0,h1⟩:=Cp.1 hx;have hp:x.toNat<l.length:=by omega
 have:=Bm1 (Mt h hp)
 rwa [Bo0 h0] at this
theorem An3 {l:List Int} (h:Be l=true):Fq (Fq l)=l:=by
 have h2:=Og h;have hl:=Dz h
 apply List.ext_getElem?
 intro p
 by_cases hp:p<l.length
 ·have hin:=Fb h l[p] (Bk5 hp)
  have h3:=Mt h hp;have hv:(l[p]).toNat<(Fq l).length:=by omega
  have h4:=Mt h2 hv;have e:(Fq l)[(l[p]).toNat]=(p:Int):=Bm2 ((Bj8 hv).symm.trans h3);rw [e,Bk7] at h4;rw [h4,Bj8 hp,Bo0 hin.1]
 ·rw [Bn0 (by rw [Dz h2];omega),Bn0 (by omega)]
def BuiltOK (es:List EdgeD) (n:Nat) (R:List Int) (S:List SC):Prop:=
 ∃out c,Core (Am es) (Zm es) n out c/\c.S=S/\Be out=true/\out.length=n/\R=Fq out
theorem Bb3 {n:Nat} {out:List Int} (h1:∀u∈out,Ac n u) (h2:out.Nodup) (h3:∀u,Ac n u->u∈out):Be out=true/\out.length=n:=by
 have hl:out.length=n:=by
  have a1:=De out (La n) h2 (fun x hx=>Cp.2 (h1 x hx));have a2:=De (La n) out (Lv n) (fun x hx=>h3 x (Cp.1 hx));rw [Dy] at a1 a2;omega
 exact ⟨Lo (fun x hx=>h3 x (by rw [hl] at hx;exact Cp.1 hx)),hl⟩
theorem Bb4 {out:List Int} (h:Be out=true) {v:Int} (hv:Ac out.length v):(Fq out)[v.toNat]? =some (rk out v):=by
 obtain ⟨p,hp,e⟩:=Ra h (i:=v.toNat) (by have:=hv.1;have:=hv.2;omega);have e2:out[p]=v:=by rw [e];have:=hv.1;omega
 have h1:=Mt h hp;rw [e2] at h1;rw [h1];have hn:=Jq (Jm h);have:out.idxOf v=p:=by
  rw [<-e2];exact hn.idxOf_getElem p hp
 unfold rk;rw [this]
structure HierOK (es:List EdgeD) (n:Nat) (R:List Int) (S:List SC) (out:List Int):Prop where
 h:Hier (Am es) (Mg S) (rk out) (Ac n)
 len:R.length=n
 rank:Be R=true
 at1:∀v,Ac n v->R[v.toNat]? =some (rk out v)
 made:Made (Zm es) (rk out) S
 ends:∀x∈S,Ac n x.f/\Ac n x.t/\x.f≠x.t/\1<=x.w
 big:∀x∈S,x.w<=4294967296*2 ^ n
 ltr:∀(i j:Nat) (x y:SC),i<j->S[i]? =some x->S[j]? =some y->x.f=y.f->x.t=y.t->y.w<x.w
theorem BuiltOK.hier {es:List EdgeD} {n:Nat} {R:List Int} {S:List SC} (hE:EdgesOK n es) (h:BuiltOK es n R S):∃out,HierOK es n R S out:=by
 obtain ⟨out,c,hc,rfl,hr,hl,rfl⟩:=h;have hall:∀v,Ac n v->v∈out:=fun v hv=>Ke hr v (by rw [hl];exact Cp.2 hv);refine ⟨out,hc.part.hier ?_ ?_ hall,by rw [Dz hr,hl],Og hr,?_,hc.made,hc.inv.ends,?_,hc.inv.ltr⟩
 ·rintro u v w ⟨x,hx,_,_,rfl⟩
  exact (hE.ok x hx).2.2.2.1
 ·rintro u v w ⟨x,hx,rfl,rfl,rfl⟩
  exact ⟨(hE.ok x hx).1,(hE.ok x hx).2.1⟩
 ·intro v hv
  exact Bb4 hr (by rw [hl];exact hv)
 ·intro x hx
  have:=hc.big x hx
  rwa [hl] at this
end
section
open Go Go.Proofs Go.RowKit Go.Shelf Hp Ch
def inB (x:Int):Bool:=decide (1<=x)&&decide (x<=1000)
def Am3 (hops settles:Int) (r:List Int):Bool:=inB hops&&inB settles&&Be r
theorem Qt (x:Int) (w:World):Calls Tryz.prog 159 (#[.int .i64 x]++#[]) w fun e w'=>e=.returned (.bool (inB x))/\w=w':=by
 unfold inB
 go_enter Tryz.func159,Tryz.ntmps159
 go_wp2
 all_goals
  go_ret
  exact ⟨by simp [*]<;>omega,rfl⟩
theorem Po (hops settles:Int) (r:List Int) (ao:Option Addr) (cap:Nat) (w:World) (hl:r.length<=1000000) (hc:Cel w ao (r.map Ai)):
  Calls Tryz.prog 106 #[.agg #[.int .i64 hops,.int .i64 settles,.slice ao r.length cap]] w fun e w'=>e=.returned (.bool (Am3 hops settles r))/\Below w.heap.size w w':=by
 have HR:=Bj3 (fun W h=>Jk r ao cap W hl h);have HC:=Bj3 hc;have H1:=Bj3 (fun W=>Qt hops W);have H2:=Bj3 (fun W=>Qt settles W);have HO:=Bj3 (show Am3 hops settles r=(inB hops&&inB settles&&Be r) from rfl);generalize Am3 hops settles r=ob at*;generalize inB hops=b1 at*;generalize inB settles=b2 at*;generalize Be r=b3 at*;clear hc
 cases b1<;>cases b2
 all_goals
  go_enter Tryz.func106,Tryz.ntmps106
  go_wp2_with (first
   |(go_at_call 160;refine (HR.out _ (HC.out.go (Below.of_al _ _))).mono ?_;rintro e w1 ⟨rfl,hb1⟩)
   |(go_at_call_of 159 (Value.int .i64 hops);refine (H1.out _).mono ?_;rintro e w1 ⟨rfl,rfl⟩)
   |(go_at_call_of 159 (Value.int .i64 settles);refine (H2.out _).mono ?_;rintro e w1 ⟨rfl,rfl⟩))
  go_ret
  first
   |exact ⟨by rw [HO.out];rfl,(Below.of_al _ _).st hb1⟩
   |exact ⟨by rw [HO.out];rfl,Below.of_al _ _⟩
end
section
open Go Go.Proofs Go.RowKit Go.Shelf Hp Ch
def Fu (n:Nat) (xs:List Value) (w:World) (e:Ending) (w':World):Prop:=
 ∃ao cap,e=.returned (.slice ao n cap)/\Cel w' ao xs/\Below w.heap.size w w'/\∀k,(Value.slice ao n cap).ownBlock=some k->w.heap.size<=k
theorem Sm (n:Nat) (xs:List Value) (ao:Option Addr) (cap:Nat) (w:World) (hx:xs.length=n*1) (h:Cel w ao xs) (h1:∀u∈xs,u.oneCell'=true) (hl:n<=1000000):
  Calls Tryz.prog 67 #[.slice ao n cap] w (Fu n xs w):=by
 have heq:=Lib.run_eql_slice_nil (P:=Tryz.prog) w 25 3 ao n cap 0 0 Tryz.underlying25;unfold Fu
 cases ao with
 |none=>
  have hn:n=0:=by
   rcases xs with _|⟨x,r⟩
   ·have:n*1=0:=hx.symm
    omega
   ·obtain ⟨b,o,e,_⟩:=h 0 x rfl
    cases e
  subst hn;have hn2:xs=[]:=List.length_eq_zero_iff.1 (by simpa using hx);subst hn2;simp only [Option.isNone] at heq;clear h h1 hx
  go_enter Tryz.func67,Tryz.ntmps67
  go_wp2
  go_ret
  exact ⟨none,_,rfl,Cel.nil _ _,Below.refl _ _,fun k hk=>by cases hk⟩
 |some a=>
  simp only [Option.isNone] at heq
  by_cases hn:n=0
  ·subst hn
   have hn2:xs=[]:=List.length_eq_zero_iff.1 (by simpa using hx);subst hn2;clear h h1 hx
   go_enter Tryz.func67,Tryz.ntmps67
   go_wp2
   go_ret
   exact ⟨_,_,rfl,Cel.nil _ _,Below.of_al _ _,fun k hk=>by cases hk;exact Bj5 _⟩
  ·have hpos:0<n:=Nat.pos_of_ne_zero hn
   obtain ⟨gb,gof,e,-⟩:=h 0 _ (Bj8 (by omega))
   cases e
   have hlit:(w.alloc (.cells #[] 3)).ownsRow w.heap.size 3 1 (.slice (some ⟨w.heap.size,0,none⟩) 0 0) 0 []:=World.ownsRow_lit (base:=w.heap.size) (e:=3) (size:=1) w #[] 0 (Bj5 _) (by unfold maxLen;omega) rfl;obtain ⟨i0,hi,hz0,hsz,hby⟩:=info_parts Cr.1;have HL:=Bj3 hlit;have HC:=Bj3 (h.go (Below.of_al w (.cells #[] 3)));have HX:=Bj3 hx;have H1:=Bj3 h1;clear hlit h hx h1
   go_enter Tryz.func67,Tryz.ntmps67
   go_wp2_with (at_builtin;refine wpList_append_own _ rfl _ _ _ rfl w.heap.size 3 i0 (.int .i64 0) 1 8 Tryz.underlying25 hi hz0 hsz hby rfl (by decide) (.slice (some ⟨w.heap.size,0,none⟩) 0 0) 0 [] rfl HL.out ⟨gb,gof,none⟩ n cap xs rfl HX.out (fun j u hj=>by rw [Addr.add_lit];obtain ⟨b',o',e,h⟩:=HC.out j u hj;cases e;exact h) H1.out (by unfold maxLen;omega) (by omega) (by simp) ?_;intro v1 w1 ho1 hg1 hn1)
   have hbl:=(Below.of_al w (.cells #[] 3)).grown hg1 (by simp) (fun k hk=>(HL.out.lt k hk).1);rw [Nat.zero_add,List.nil_append] at ho1;obtain ⟨g,cap,rfl⟩:=Ap ho1 hpos
   go_ret
   obtain ⟨a2,c2,e,hc⟩:=Cel.of_owns ho1
   cases e
   exact ⟨_,_,rfl,hc,hbl,fun k hk=>(ho1.lt k hk).1⟩
theorem Ap6:Gl Tryz.prog 109 (.agg #[.int .i64 0,.int .i64 0,.int .u64 0]) 3 24:=⟨by kernel_rfl,rfl,by decide⟩
theorem Af2 (n:Nat) (xs:List Value) (ao:Option Addr) (cap:Nat) (w:World) (hx:xs.length=n*3) (h:Cel w ao xs) (h1:∀u∈xs,u.oneCell'=true) (hl:n<=1000000):
  Calls Tryz.prog 171 #[.slice ao n cap] w (Fu n xs w):=by
 have heq:=Lib.run_eql_slice_nil (P:=Tryz.prog) w 22 109 ao n cap 0 0 Tryz.underlying22;unfold Fu
 cases ao with
 |none=>
  have hn:n=0:=by
   rcases xs with _|⟨x,r⟩
   ·have:n*3=0:=hx.symm
    omega
   ·obtain ⟨b,o,e,_⟩:=h 0 x rfl
    cases e
  subst hn;have hn2:xs=[]:=List.length_eq_zero_iff.1 (by simpa using hx);subst hn2;simp only [Option.isNone] at heq;clear h h1 hx
  go_enter Tryz.func171,Tryz.ntmps171
  go_wp2
  go_ret
  exact ⟨none,_,rfl,Cel.nil _ _,Below.refl _ _,fun k hk=>by cases hk⟩
 |some a=>
  simp only [Option.isNone] at heq
  by_cases hn:n=0
  ·subst hn
   have hn2:xs=[]:=List.length_eq_zero_iff.1 (by simpa using hx);subst hn2;clear h h1 hx
   go_enter Tryz.func171,Tryz.ntmps171
   go_wp2
   go_ret
   exact ⟨_,_,rfl,Cel.nil _ _,Below.of_al _ _,fun k hk=>by cases hk;exact Bj5 _⟩
  ·have hpos:0<n:=Nat.pos_of_ne_zero hn
   obtain ⟨gb,gof,e,-⟩:=h 0 _ (Bj8 (by omega))
   cases e
   have hlit:(w.alloc (.cells #[] 109)).ownsRow w.heap.size 109 3 (.slice (some ⟨w.heap.size,0,none⟩) 0 0) 0 []:=World.ownsRow_lit (base:=w.heap.size) (e:=109) (size:=3) w #[] 0 (Bj5 _) (by unfold maxLen;omega) rfl;obtain ⟨i0,hi,hz0,hsz,hby⟩:=info_parts Ap6.1;have HL:=Bj3 hlit;have HC:=Bj3 (h.go (Below.of_al w (.cells #[] 109)));have HX:=Bj3 hx;have H1:=Bj3 h1;clear hlit h hx h1
   go_enter Tryz.func171,Tryz.ntmps171
   go_wp2_with (at_builtin;refine wpList_append_own _ rfl _ _ _ rfl w.heap.size 109 i0 (.agg #[.int .i64 0,.int .i64 0,.int .u64 0]) 3 24 Tryz.underlying22 hi hz0 hsz hby rfl (by decide) (.slice (some ⟨w.heap.size,0,none⟩) 0 0) 0 [] rfl HL.out ⟨gb,gof,none⟩ n cap xs rfl HX.out (fun j u hj=>by rw [Addr.add_lit];obtain ⟨b',o',e,h⟩:=HC.out j u hj;cases e;exact h) H1.out (by unfold maxLen;omega) (by omega) (by simp) ?_;intro v1 w1 ho1 hg1 hn1)
   have hbl:=(Below.of_al w (.cells #[] 109)).grown hg1 (by simp) (fun k hk=>(HL.out.lt k hk).1);rw [Nat.zero_add,List.nil_append] at ho1;obtain ⟨g,cap,rfl⟩:=Ap ho1 hpos
   go_ret
   obtain ⟨a2,c2,e,hc⟩:=Cel.of_owns ho1
   cases e
   exact ⟨_,_,rfl,hc,hbl,fun k hk=>(ho1.lt k hk).1⟩
theorem Af0 (n:Nat) (xs:List Value) (ao:Option Addr) (cap:Nat) (w:World) (hx:xs.length=n*6) (h:Cel w ao xs) (h1:∀u∈xs,u.oneCell'=true) (hl:n<=1000000):
  Calls Tryz.prog 150 #[.slice ao n cap] w (Fu n xs w):=by
 have heq:=Lib.run_eql_slice_nil (P:=Tryz.prog) w 79 187 ao n cap 0 0 Tryz.underlying79;unfold Fu
 cases ao with
 |none=>
  have hn:n=0:=by
   rcases xs with _|⟨x,r⟩
   ·have:n*6=0:=hx.symm
    omega
   ·obtain ⟨b,o,e,_⟩:=h 0 x rfl
    cases e
  subst hn;have hn2:xs=[]:=List.length_eq_zero_iff.1 (by simpa using hx);subst hn2;simp only [Option.isNone] at heq;clear h h1 hx
  go_enter Tryz.func150,Tryz.ntmps150
  go_wp2
  go_ret
  exact ⟨none,_,rfl,Cel.nil _ _,Below.refl _ _,fun k hk=>by cases hk⟩
 |some a=>
  simp only [Option.isNone] at heq
  by_cases hn:n=0
  ·subst hn
   have hn2:xs=[]:=List.length_eq_zero_iff.1 (by simpa using hx);subst hn2;clear h h1 hx
   go_enter Tryz.func150,Tryz.ntmps150
   go_wp2
   go_ret
   exact ⟨_,_,rfl,Cel.nil _ _,Below.of_al _ _,fun k hk=>by cases hk;exact Bj5 _⟩
  ·have hpos:0<n:=Nat.pos_of_ne_zero hn
   obtain ⟨gb,gof,e,-⟩:=h 0 _ (Bj8 (by omega))
   cases e
   have hlit:(w.alloc (.cells #[] 187)).ownsRow w.heap.size 187 6 (.slice (some ⟨w.heap.size,0,none⟩) 0 0) 0 []:=World.ownsRow_lit (base:=w.heap.size) (e:=187) (size:=6) w #[] 0 (Bj5 _) (by unfold maxLen;omega) rfl;obtain ⟨i0,hi,hz0,hsz,hby⟩:=info_parts Aj8.1;have HL:=Bj3 hlit;have HC:=Bj3 (h.go (Below.of_al w (.cells #[] 187)));have HX:=Bj3 hx;have H1:=Bj3 h1;clear hlit h hx h1
   go_enter Tryz.func150,Tryz.ntmps150
   go_wp2_with (at_builtin;refine wpList_append_own _ rfl _ _ _ rfl w.heap.size 187 i0 (.agg #[.int .i64 0,.int .i64 0,.int .u64 0,.int .i64 0,.int .i64 0,.int .i64 0]) 6 48 Tryz.underlying79 hi hz0 hsz hby rfl (by decide) (.slice (some ⟨w.heap.size,0,none⟩) 0 0) 0 [] rfl HL.out ⟨gb,gof,none⟩ n cap xs rfl HX.out (fun j u hj=>by rw [Addr.add_lit];obtain ⟨b',o',e,h⟩:=HC.out j u hj;cases e;exact h) H1.out (by unfold maxLen;omega) (by omega) (by simp) ?_;intro v1 w1 ho1 hg1 hn1)
   have hbl:=(Below.of_al w (.cells #[] 187)).grown hg1 (by simp) (fun k hk=>(HL.out.lt k hk).1);rw [Nat.zero_add,List.nil_append] at ho1;obtain ⟨g,cap,rfl⟩:=Ap ho1 hpos
   go_ret
   obtain ⟨a2,c2,e,hc⟩:=Cel.of_owns ho1
   cases e
   exact ⟨_,_,rfl,hc,hbl,fun k hk=>(ho1.lt k hk).1⟩
end
end Go.Proofs.YteaaapdjplbljaaGreat
