/- Walks: cmp.Compare, slices.Compare, cmp.Or; path.Less, Cmp, Same. Walks: the reference's Less and Cmp. The shortest ways that are told are the same, in plain Lean. -/
import Derived.Test.YtkdomobedfhhgaaGreatProg
import Derived.Test.YtkdomobedfhhgaaGreatQm01
import Derived.Deep.RegionWith
import Derived.Deep.RegionHeld3
import Derived.StillTailTactics
import Derived.Test.YtkdomobedfhhgaaGreatRm13
set_option linter.unusedVariables false
set_option linter.unusedSimpArgs false
set_option linter.unnecessarySimpa false
section
namespace Go.Proofs.YtkdomobedfhhgaaGreat
open Go.Proofs Go.RowKit Go.Shelf
def cmpI (a b:Int):Int:=if a<b then -1 else if b<a then 1 else 0
def lexI:List Int→List Int→Int
 |[],[]=>0
 |[],_::_=>-1
 |_::_,[]=>1
 |x::xs,y::ys=>if cmpI x y=0 then lexI xs ys else cmpI x y
theorem cmpI_lt {a b:Int} (h:a<b):cmpI a b= -1:=by unfold cmpI;rw [if_pos h]
theorem cmpI_gt {a b:Int} (h:b<a):cmpI a b=1:=by unfold cmpI;rw [if_neg (by omega),if_pos h]
theorem cmpI_eq {a b:Int} (h:a=b):cmpI a b=0:=by unfold cmpI;rw [if_neg (by omega),if_neg (by omega)]
theorem lex_step {la lb:List Int} {k:Nat} (h1:k<la.length) (h2:k<lb.length):lexI (la.drop k) (lb.drop k)=if cmpI la[k] lb[k]=0 then lexI (la.drop (k+1)) (lb.drop (k+1)) else cmpI la[k] lb[k]:=by
 rw [List.drop_eq_getElem_cons h1,List.drop_eq_getElem_cons h2,lexI]
theorem lex_long {la lb:List Int} {k:Nat} (h1:k<la.length) (h2:lb.length≤k):lexI (la.drop k) (lb.drop k)=1:=by
 rw [List.drop_eq_getElem_cons h1,List.drop_eq_nil_of_le h2,lexI]
theorem lex_end {la lb:List Int} {k:Nat} (h1:la.length≤k) (h2:k≤lb.length) (h3:k=la.length):lexI (la.drop k) (lb.drop k)=if la.length<lb.length then -1 else 0:=by
 rw [List.drop_eq_nil_of_le h1]
 by_cases h:k<lb.length
 ·rw [List.drop_eq_getElem_cons h,lexI,if_pos (by omega)]
 ·rw [List.drop_eq_nil_of_le (by omega),lexI,if_neg (by omega)]
def cmpR (wa:Int) (la:List Int) (wb:Int) (lb:List Int):Int:=if cmpI wa wb=0 then lexI la lb else cmpI wa wb
end Go.Proofs.YtkdomobedfhhgaaGreat
end
section
namespace Go.Proofs.YtkdomobedfhhgaaGreat
open Go.Proofs Go.RowKit Go.Shelf
set_option maxRecDepth 100000 in
set_option maxHeartbeats 1000000 in
theorem refLess_any (ao bo:Option Addr) (ca cb:Nat) (la lb:List Int) (w:World) (hla:la.length≤1048576) (hlb:lb.length≤1048576)
  (ha:Cel w ao (la.map encI)) (hb:Cel w bo (lb.map encI)):
  Calls Tryz.prog 112 #[.slice ao la.length ca,.slice bo lb.length cb] w fun e w'=>e=.returned (.int .i64 (lexI la lb))∧Below w.heap.size w w':=by
 have HA:=Lib.hid ha
 have HB:=Lib.hid hb
 have H0:=Lib.hid (show lexI (la.drop 0) (lb.drop 0)=lexI la lb from rfl)
 clear ha hb
 generalize lexI la lb=r at*
 go_enter Tryz.func112,Tryz.ntmps112
 go_wp2
 go_loopg [5] la.length (fun g i wr=>∃k q:Nat,k≤la.length∧k≤lb.length∧la.length-k≤g∧i=.int .i64 k∧wr=w.drewN q∧Aside (lexI (la.drop k) (lb.drop k)=r))
 case atStart=>exact ⟨0,0,by omega,by omega,by omega,rfl,rfl,H0.out⟩
 case round=>
  clear H0
  obtain ⟨k,q,hk,hkb,hg,rfl,rfl,HR⟩:=hrel
  have k0:(0:Int)≤(k:Int):=by omega
  by_cases hlt:k<la.length
  ·have d1:decide ((k:Int)<(la.length:Int))=true:=by simp;omega
   have i1:(k:Int)<(la.length:Int):=by omega
   by_cases hlb2:k<lb.length
   ·obtain ⟨b1,o1,hao,hc1⟩:=HA.out.at hlt
    obtain ⟨b2,o2,hbo,hc2⟩:=HB.out.at hlb2
    subst hao hbo
    have i2:(k:Int)<(lb.length:Int):=by omega
    have HS:=Lib.hid (lex_step hlt hlb2)
    rw [HR.out] at HS
    generalize la[k]=x at*
    generalize lb[k]=y at*
    by_cases h1:x<y
    ·have HQ:=Lib.hid (by have:=HS.out;rw [cmpI_lt h1] at this;simpa using this:r= -1)
     have t1:decide (x<y)=true:=by simpa using h1
     clear HS HR
     go_wp2
     go_quiet (fail)
     go_wp2
     go_ret
     exact ⟨by rw [HQ.out];rfl,by repeat (first|exact Below.refl _ _|refine Below.al ?_ _|refine Below.dr ?_ _|refine Below.drew ?_|assumption|(refine Below.st ?_ (by assumption)))⟩
    ·have t1:decide (x<y)=false:=by simpa using h1
     by_cases h2:y<x
     ·have HQ:=Lib.hid (by have:=HS.out;rw [cmpI_gt h2] at this;simpa using this:r=1)
      have t2:decide (y<x)=true:=by simpa using h2
      clear HS HR
      go_wp2
      go_quiet (fail)
      go_wp2
      go_quiet (fail)
      go_wp2
      go_ret
      exact ⟨by rw [HQ.out];rfl,by repeat (first|exact Below.refl _ _|refine Below.al ?_ _|refine Below.dr ?_ _|refine Below.drew ?_|assumption|(refine Below.st ?_ (by assumption)))⟩
     ·have t2:decide (y<x)=false:=by simpa using h2
      have HQ:=Lib.hid (by have:=HS.out;rw [cmpI_eq (by omega)] at this;simpa using this:r=lexI (la.drop (k+1)) (lb.drop (k+1)))
      clear HS HR
      go_wp2
      go_quiet (fail)
      go_wp2
      go_quiet (fail)
      go_wp2
      go_roundg (la.length-(k+1))
      case measure=>omega
      case rel=>exact ⟨k+1,_,by omega,by omega,by omega,by go_num,rfl,HQ.out.symm⟩
   ·have HQ:=Lib.hid (lex_long (la:=la) (lb:=lb) hlt (by omega))
    rw [HR.out] at HQ
    have d2:decide ((k:Int)<(lb.length:Int))=false:=by simp;omega
    have i2:¬(k:Int)<(lb.length:Int):=by omega
    have i3:¬(la.length:Int)<(lb.length:Int):=by omega
    have i4:(lb.length:Int)<(la.length:Int):=by omega
    go_wp2
    go_ret
    exact ⟨by rw [HQ.out];rfl,by repeat (first|exact Below.refl _ _|refine Below.al ?_ _|refine Below.dr ?_ _|refine Below.drew ?_|assumption|(refine Below.st ?_ (by assumption)))⟩
  ·obtain rfl:k=la.length:=by omega
   have HQ:=Lib.hid (lex_end (la:=la) (lb:=lb) (Nat.le_refl _) hkb rfl)
   rw [HR.out] at HQ
   have d1:decide ((la.length:Int)<(la.length:Int))=false:=by simp
   have i4:¬(lb.length:Int)<(la.length:Int):=by omega
   by_cases h:la.length<lb.length
   ·have HQ2:=Lib.hid (by have:=HQ.out;rw [if_pos h] at this;exact this:r= -1)
    have i3:(la.length:Int)<(lb.length:Int):=by omega
    go_wp2
    go_ret
    exact ⟨by rw [HQ2.out];rfl,by repeat (first|exact Below.refl _ _|refine Below.al ?_ _|refine Below.dr ?_ _|refine Below.drew ?_|assumption|(refine Below.st ?_ (by assumption)))⟩
   ·have HQ2:=Lib.hid (by have:=HQ.out;rw [if_neg h] at this;exact this:r=0)
    have i3:¬(la.length:Int)<(lb.length:Int):=by omega
    go_wp2
    go_ret
    exact ⟨by rw [HQ2.out];rfl,by repeat (first|exact Below.refl _ _|refine Below.al ?_ _|refine Below.dr ?_ _|refine Below.drew ?_|assumption|(refine Below.st ?_ (by assumption)))⟩
set_option maxRecDepth 100000 in
set_option maxHeartbeats 1000000 in
theorem refCmp_any (ao bo:Option Addr) (ca cb:Nat) (la lb:List Int) (wa wb:Int) (w:World) (hla:la.length≤1048576) (hlb:lb.length≤1048576)
  (ha:Cel w ao (la.map encI)) (hb:Cel w bo (lb.map encI)):
  Calls Tryz.prog 68 #[.agg #[.slice ao la.length ca,.int .u64 wa],.agg #[.slice bo lb.length cb,.int .u64 wb]] w fun e w'=>e=.returned (.int .i64 (cmpR wa la wb lb))∧Below w.heap.size w w':=by
 have HA:=Lib.hid ha
 have HB:=Lib.hid hb
 clear ha hb
 have HC:=Lib.hid (fun W h1 h2=>refLess_any ao bo ca cb la lb W hla hlb h1 h2)
 by_cases h1:wa<wb
 ·have HR:=Lib.hid (by unfold cmpR;rw [cmpI_lt h1];simp:cmpR wa la wb lb= -1)
  generalize cmpR wa la wb lb=r at*
  go_enter Tryz.func68,Tryz.ntmps68
  go_wp2
  go_ret
  exact ⟨by rw [HR.out];rfl,by repeat (first|exact Below.refl _ _|refine Below.al ?_ _|refine Below.dr ?_ _|refine Below.drew ?_|assumption|(refine Below.st ?_ (by assumption)))⟩
 ·by_cases h2:wb<wa
  ·have HR:=Lib.hid (by unfold cmpR;rw [cmpI_gt h2];simp:cmpR wa la wb lb=1)
   generalize cmpR wa la wb lb=r at*
   go_enter Tryz.func68,Tryz.ntmps68
   go_wp2
   go_ret
   exact ⟨by rw [HR.out];rfl,by repeat (first|exact Below.refl _ _|refine Below.al ?_ _|refine Below.dr ?_ _|refine Below.drew ?_|assumption|(refine Below.st ?_ (by assumption)))⟩
  ·have HR:=Lib.hid (by unfold cmpR;rw [cmpI_eq (by omega)];simp:cmpR wa la wb lb=lexI la lb)
   generalize cmpR wa la wb lb=r at*
   generalize lexI la lb=r2 at*
   go_enter Tryz.func68,Tryz.ntmps68
   go_wp2_with (go_at_call 112;refine (HC.out _ (HA.out.go (by repeat (first|exact Below.refl _ _|refine Below.al ?_ _|refine Below.dr ?_ _|refine Below.drew ?_|assumption|(refine Below.st ?_ (by assumption))))) (HB.out.go (by repeat (first|exact Below.refl _ _|refine Below.al ?_ _|refine Below.dr ?_ _|refine Below.drew ?_|assumption|(refine Below.st ?_ (by assumption)))))).mono ?_;rintro e w1 ⟨rfl,hb1⟩)
   go_ret
   exact ⟨by rw [HR.out];rfl,by repeat (first|exact Below.refl _ _|refine Below.al ?_ _|refine Below.dr ?_ _|refine Below.drew ?_|assumption|(refine Below.st ?_ (by assumption)))⟩
theorem lexI_self:∀l:List Int,lexI l l=0
 |[]=>rfl
 |x::l=>by
  have:=lexI_self l
  simp [lexI,cmpI,this]
theorem cmpR_self (a:Int) (l:List Int):cmpR a l a l=0:=by
 unfold cmpR
 rw [lexI_self,cmpI_eq rfl]
 rfl
end Go.Proofs.YtkdomobedfhhgaaGreat
end
section
namespace Go.Proofs.YtkdomobedfhhgaaGreat
open Go Go.Proofs Go.RowKit Go.Shelf Go.Proofs.YtkdomobedfhhgaaGreat.Hp Go.Proofs.YtkdomobedfhhgaaGreat.Ch Go.Proofs.YtkdomobedfhhgaaGreat.Ro
theorem Ro.RP.vis {es:List EdgeD} {n:Nat} {t:Int} {D:Int→Int} (hA:∀u v w,arcG es u v w→nodeN n u∧nodeN n v∧1≤w) (hD:ToD es n t D) {v:Int} {l:List Int} (h:RP es D v l):nodeN n v→∃vs:List Int,vs.length=l.length+1∧vs.Nodup∧∀u∈vs,nodeN n u∧D u≤D v:=by
 induction h with
 |@stop v h=>exact fun hv=>⟨[v],rfl,by simp,fun u hu=>by rw [List.mem_singleton] at hu;subst hu;exact ⟨hv,Int.le_refl _⟩⟩
 |@go v i l h h0 hr ih=>
  intro hv
  obtain ⟨h1,_,h2,_,_⟩:=first_less hA hD h
  obtain ⟨vs,k1,k2,k3⟩:=ih h1
  refine ⟨v::vs,by simp [k1],List.nodup_cons.2 ⟨fun hm=>?_,k2⟩,fun u hu=>?_⟩
  ·have:=(k3 v hm).2
   omega
  ·rcases List.mem_cons.1 hu with rfl|hm
   ·exact ⟨hv,Int.le_refl _⟩
   ·have:=k3 u hm
    exact ⟨this.1,by omega⟩
theorem routes_same {n:Nat} {es:List EdgeD} (hA:∀u v w,arcG es u v w→nodeN n u∧nodeN n v∧1≤w) {s t:Int} {l l2 l3:List Int} {x k y m z f:Int} (h1:RouteIs n es s t l x k) (h2:UyIs n es s t l2 y m) (h3:RouteIs n es s t l3 z f):
  k=f∧m=f∧l=l3∧x=z∧y=z∧l3.length≤n∧l2.length≤98304∧((f=0∧isB ⟨n,es⟩ s t l2=true)∨(f≠0∧l2=[])):=by
 have d1:DistIs n (arcG es) s t x k:=by
  rcases h1 with ⟨rfl,a,b,c,d,_⟩|⟨_,_,rfl,h⟩
  ·exact .inl ⟨rfl,a,b,c,d⟩
  ·exact h
 have d2:DistIs n (arcG es) s t y m:=by
  rcases h2 with ⟨rfl,h,_⟩|⟨_,_,rfl,h⟩
  ·exact h
  ·exact h
 have d3:DistIs n (arcG es) s t z f:=by
  rcases h3 with ⟨rfl,a,b,c,d,_⟩|⟨_,_,rfl,h⟩
  ·exact .inl ⟨rfl,a,b,c,d⟩
  ·exact h
 obtain ⟨rfl,rfl⟩:=d1.uniq d3
 obtain ⟨rfl,rfl⟩:=d2.uniq d3
 refine ⟨rfl,rfl,?_,rfl,rfl,?_,?_,?_⟩
 ·rcases h1 with ⟨rfl,a,b,c,d,D,hD,hR⟩|⟨hk,rfl,_⟩
  ·rcases h3 with ⟨_,a',b',c',d',D',hD',hR'⟩|⟨hk,_⟩
   ·have hN:∀e∈es,nodeN n e.f∧nodeN n e.t:=fun e he=>by
     have:=hA e.f e.t e.w ⟨e,he,rfl,rfl,rfl⟩
     exact ⟨this.1,this.2.1⟩
    exact (hR.congr hN (hD.uniq hD') a).uniq hR'
   ·exact absurd rfl hk
  ·rcases h3 with ⟨h,_⟩|⟨_,rfl,_⟩
   ·exact absurd h hk
   ·rfl
 ·rcases h3 with ⟨_,a',b',c',d',D',hD',hR'⟩|⟨hk,rfl,_⟩
  ·obtain ⟨vs,k1,k2,k3⟩:=hR'.vis hA hD' a'
   have:=nodes_le (fun u hu=>(k3 u hu).1) k2
   omega
  ·exact Nat.zero_le _
 ·rcases h2 with ⟨_,_,h,_⟩|⟨_,rfl,_⟩
  ·exact h
  ·exact Nat.zero_le _
 ·rcases h2 with ⟨h,_,_,h'⟩|⟨h,h',_⟩
  ·exact .inl ⟨h,h'⟩
  ·exact .inr ⟨h,h'⟩
end Go.Proofs.YtkdomobedfhhgaaGreat
end
