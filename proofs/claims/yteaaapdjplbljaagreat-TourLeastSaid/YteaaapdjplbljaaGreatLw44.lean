/- Walks: cmp.Compare, slices.Compare, cmp.Or; path.Less, Cmp, Same. Walks: the reference's Less and Cmp. Rows of routes as they lie in memory, and the reference's Routes. The legs of a tour, in plain Lean. Walk of package tour: right, Legs. Walk of package tour: Legs. The nearest order of some stops: all orders gone through, and those alone that may be nearer. In plain Lean. append of one element onto a row of one's own, which stays what it was. -/
import Derived.Test.YteaaapdjplbljaaGreatProg
import Derived.Test.YteaaapdjplbljaaGreatLw02
import Derived.Deep.RegionWith
import Derived.Deep.RegionHeld3
import Derived.StillTailTactics
import Derived.Test.YteaaapdjplbljaaGreatLw43
import Derived.Test.YteaaapdjplbljaaGreatLw36
import Derived.Deep.Cut
import Derived.Laws.OwnMore
import Derived.Below
set_option linter.unusedVariables false
set_option linter.unusedSimpArgs false
set_option linter.unnecessarySimpa false
section
namespace Go.Proofs.YteaaapdjplbljaaGreat
open Go.Proofs Go.RowKit Go.Shelf
def cmpI (a b:Int):Int:=if a<b then -1 else if b<a then 1 else 0
def lexI:List Int→List Int→Int
 |[],[]=>0
 |[],_::_=>-1
 |_::_,[]=>1
 |x::xs,y::ys=>if cmpI x y=0 then lexI xs ys else cmpI x y
theorem cmpI_lt {a b:Int} (h:a<b):cmpI a b= -1:=by unfold cmpI;rw [if_pos h]
theorem cmpI_gt {a b:Int} (h:b<a):cmpI a b=1:=by unfold cmpI;rw [if_neg (by omega),if_pos h]
theorem cmpI_eq {a b:Int} (h:a=b):cmpI a b=0:=by unfold cmpI;rw [if_neg (by omega),if_neg (by omega)]
theorem lex_step {la lb:List Int} {k:Nat} (h1:k<la.length) (h2:k<lb.length):lexI (la.drop k) (lb.drop k)=if cmpI la[k] lb[k]=0 then lexI (la.drop (k+1)) (lb.drop (k+1)) else cmpI la[k] lb[k]:=by
 rw [List.drop_eq_getElem_cons h1,List.drop_eq_getElem_cons h2,lexI]
theorem lex_long {la lb:List Int} {k:Nat} (h1:k<la.length) (h2:lb.length≤k):lexI (la.drop k) (lb.drop k)=1:=by
 rw [List.drop_eq_getElem_cons h1,List.drop_eq_nil_of_le h2,lexI]
theorem lex_end {la lb:List Int} {k:Nat} (h1:la.length≤k) (h2:k≤lb.length) (h3:k=la.length):lexI (la.drop k) (lb.drop k)=if la.length<lb.length then -1 else 0:=by
 rw [List.drop_eq_nil_of_le h1]
 by_cases h:k<lb.length
 ·rw [List.drop_eq_getElem_cons h,lexI,if_pos (by omega)]
 ·rw [List.drop_eq_nil_of_le (by omega),lexI,if_neg (by omega)]
def cmpR (wa:Int) (la:List Int) (wb:Int) (lb:List Int):Int:=if cmpI wa wb=0 then lexI la lb else cmpI wa wb
end Go.Proofs.YteaaapdjplbljaaGreat
end
section
namespace Go.Proofs.YteaaapdjplbljaaGreat
open Go.Proofs Go.RowKit Go.Shelf
set_option maxRecDepth 100000 in
set_option maxHeartbeats 1000000 in
theorem refLess_any (ao bo:Option Addr) (ca cb:Nat) (la lb:List Int) (w:World) (hla:la.length≤1048576) (hlb:lb.length≤1048576)
  (ha:Cel w ao (la.map encI)) (hb:Cel w bo (lb.map encI)):
  Calls Tryz.prog 64 #[.slice ao la.length ca,.slice bo lb.length cb] w fun e w'=>e=.returned (.int .i64 (lexI la lb))∧Below w.heap.size w w':=by
 have HA:=Lib.hid ha
 have HB:=Lib.hid hb
 have H0:=Lib.hid (show lexI (la.drop 0) (lb.drop 0)=lexI la lb from rfl)
 clear ha hb
 generalize lexI la lb=r at*
 go_enter Tryz.func64,Tryz.ntmps64
 go_wp2
 go_loopg [5] la.length (fun g i wr=>∃k q:Nat,k≤la.length∧k≤lb.length∧la.length-k≤g∧i=.int .i64 k∧wr=w.drewN q∧Aside (lexI (la.drop k) (lb.drop k)=r))
 case atStart=>exact ⟨0,0,by omega,by omega,by omega,rfl,rfl,H0.out⟩
 case round=>
  clear H0
  obtain ⟨k,q,hk,hkb,hg,rfl,rfl,HR⟩:=hrel
  have k0:(0:Int)≤(k:Int):=by omega
  by_cases hlt:k<la.length
  ·have d1:decide ((k:Int)<(la.length:Int))=true:=by simp;omega
   have i1:(k:Int)<(la.length:Int):=by omega
   by_cases hlb2:k<lb.length
   ·obtain ⟨b1,o1,hao,hc1⟩:=HA.out.at hlt
    obtain ⟨b2,o2,hbo,hc2⟩:=HB.out.at hlb2
    subst hao hbo
    have i2:(k:Int)<(lb.length:Int):=by omega
    have HS:=Lib.hid (lex_step hlt hlb2)
    rw [HR.out] at HS
    generalize la[k]=x at*
    generalize lb[k]=y at*
    by_cases h1:x<y
    ·have HQ:=Lib.hid (by have:=HS.out;rw [cmpI_lt h1] at this;simpa using this:r= -1)
     have t1:decide (x<y)=true:=by simpa using h1
     clear HS HR
     go_wp2
     go_quiet (fail)
     go_wp2
     go_ret
     exact ⟨by rw [HQ.out];rfl,by repeat (first|exact Below.refl _ _|refine Below.al ?_ _|refine Below.dr ?_ _|refine Below.drew ?_|assumption|(refine Below.st ?_ (by assumption)))⟩
    ·have t1:decide (x<y)=false:=by simpa using h1
     by_cases h2:y<x
     ·have HQ:=Lib.hid (by have:=HS.out;rw [cmpI_gt h2] at this;simpa using this:r=1)
      have t2:decide (y<x)=true:=by simpa using h2
      clear HS HR
      go_wp2
      go_quiet (fail)
      go_wp2
      go_quiet (fail)
      go_wp2
      go_ret
      exact ⟨by rw [HQ.out];rfl,by repeat (first|exact Below.refl _ _|refine Below.al ?_ _|refine Below.dr ?_ _|refine Below.drew ?_|assumption|(refine Below.st ?_ (by assumption)))⟩
     ·have t2:decide (y<x)=false:=by simpa using h2
      have HQ:=Lib.hid (by have:=HS.out;rw [cmpI_eq (by omega)] at this;simpa using this:r=lexI (la.drop (k+1)) (lb.drop (k+1)))
      clear HS HR
      go_wp2
      go_quiet (fail)
      go_wp2
      go_quiet (fail)
      go_wp2
      go_roundg (la.length-(k+1))
      case measure=>omega
      case rel=>exact ⟨k+1,_,by omega,by omega,by omega,by go_num,rfl,HQ.out.symm⟩
   ·have HQ:=Lib.hid (lex_long (la:=la) (lb:=lb) hlt (by omega))
    rw [HR.out] at HQ
    have d2:decide ((k:Int)<(lb.length:Int))=false:=by simp;omega
    have i2:¬(k:Int)<(lb.length:Int):=by omega
    have i3:¬(la.length:Int)<(lb.length:Int):=by omega
    have i4:(lb.length:Int)<(la.length:Int):=by omega
    go_wp2
    go_ret
    exact ⟨by rw [HQ.out];rfl,by repeat (first|exact Below.refl _ _|refine Below.al ?_ _|refine Below.dr ?_ _|refine Below.drew ?_|assumption|(refine Below.st ?_ (by assumption)))⟩
  ·obtain rfl:k=la.length:=by omega
   have HQ:=Lib.hid (lex_end (la:=la) (lb:=lb) (Nat.le_refl _) hkb rfl)
   rw [HR.out] at HQ
   have d1:decide ((la.length:Int)<(la.length:Int))=false:=by simp
   have i4:¬(lb.length:Int)<(la.length:Int):=by omega
   by_cases h:la.length<lb.length
   ·have HQ2:=Lib.hid (by have:=HQ.out;rw [if_pos h] at this;exact this:r= -1)
    have i3:(la.length:Int)<(lb.length:Int):=by omega
    go_wp2
    go_ret
    exact ⟨by rw [HQ2.out];rfl,by repeat (first|exact Below.refl _ _|refine Below.al ?_ _|refine Below.dr ?_ _|refine Below.drew ?_|assumption|(refine Below.st ?_ (by assumption)))⟩
   ·have HQ2:=Lib.hid (by have:=HQ.out;rw [if_neg h] at this;exact this:r=0)
    have i3:¬(la.length:Int)<(lb.length:Int):=by omega
    go_wp2
    go_ret
    exact ⟨by rw [HQ2.out];rfl,by repeat (first|exact Below.refl _ _|refine Below.al ?_ _|refine Below.dr ?_ _|refine Below.drew ?_|assumption|(refine Below.st ?_ (by assumption)))⟩
set_option maxRecDepth 100000 in
set_option maxHeartbeats 1000000 in
theorem refCmp_any (ao bo:Option Addr) (ca cb:Nat) (la lb:List Int) (wa wb:Int) (w:World) (hla:la.length≤1048576) (hlb:lb.length≤1048576)
  (ha:Cel w ao (la.map encI)) (hb:Cel w bo (lb.map encI)):
  Calls Tryz.prog 19 #[.agg #[.slice ao la.length ca,.int .u64 wa],.agg #[.slice bo lb.length cb,.int .u64 wb]] w fun e w'=>e=.returned (.int .i64 (cmpR wa la wb lb))∧Below w.heap.size w w':=by
 have HA:=Lib.hid ha
 have HB:=Lib.hid hb
 clear ha hb
 have HC:=Lib.hid (fun W h1 h2=>refLess_any ao bo ca cb la lb W hla hlb h1 h2)
 by_cases h1:wa<wb
 ·have HR:=Lib.hid (by unfold cmpR;rw [cmpI_lt h1];simp:cmpR wa la wb lb= -1)
  generalize cmpR wa la wb lb=r at*
  go_enter Tryz.func19,Tryz.ntmps19
  go_wp2
  go_ret
  exact ⟨by rw [HR.out];rfl,by repeat (first|exact Below.refl _ _|refine Below.al ?_ _|refine Below.dr ?_ _|refine Below.drew ?_|assumption|(refine Below.st ?_ (by assumption)))⟩
 ·by_cases h2:wb<wa
  ·have HR:=Lib.hid (by unfold cmpR;rw [cmpI_gt h2];simp:cmpR wa la wb lb=1)
   generalize cmpR wa la wb lb=r at*
   go_enter Tryz.func19,Tryz.ntmps19
   go_wp2
   go_ret
   exact ⟨by rw [HR.out];rfl,by repeat (first|exact Below.refl _ _|refine Below.al ?_ _|refine Below.dr ?_ _|refine Below.drew ?_|assumption|(refine Below.st ?_ (by assumption)))⟩
  ·have HR:=Lib.hid (by unfold cmpR;rw [cmpI_eq (by omega)];simp:cmpR wa la wb lb=lexI la lb)
   generalize cmpR wa la wb lb=r at*
   generalize lexI la lb=r2 at*
   go_enter Tryz.func19,Tryz.ntmps19
   go_wp2_with (go_at_call 64;refine (HC.out _ (HA.out.go (by repeat (first|exact Below.refl _ _|refine Below.al ?_ _|refine Below.dr ?_ _|refine Below.drew ?_|assumption|(refine Below.st ?_ (by assumption))))) (HB.out.go (by repeat (first|exact Below.refl _ _|refine Below.al ?_ _|refine Below.dr ?_ _|refine Below.drew ?_|assumption|(refine Below.st ?_ (by assumption)))))).mono ?_;rintro e w1 ⟨rfl,hb1⟩)
   go_ret
   exact ⟨by rw [HR.out];rfl,by repeat (first|exact Below.refl _ _|refine Below.al ?_ _|refine Below.dr ?_ _|refine Below.drew ?_|assumption|(refine Below.st ?_ (by assumption)))⟩
theorem lexI_self:∀l:List Int,lexI l l=0
 |[]=>rfl
 |x::l=>by
  have:=lexI_self l
  simp [lexI,cmpI,this]
theorem cmpR_self (a:Int) (l:List Int):cmpR a l a l=0:=by
 unfold cmpR
 rw [lexI_self,cmpI_eq rfl]
 rfl
end Go.Proofs.YteaaapdjplbljaaGreat
end
section
namespace Go.Proofs.YteaaapdjplbljaaGreat
open Go Go.Proofs Go.RowKit Go.Shelf
structure RtD where
 es:List Int
 w:Int
deriving DecidableEq
structure RtC where
 ao:Option Addr
 cap:Nat
 r:RtD
def encC (t:RtC):List Value:=[.slice t.ao t.r.es.length t.cap,.int .u64 t.r.w]
def flatR:List RtC→List Value
 |[]=>[]
 |t::l=>encC t++flatR l
theorem flatR_append:∀(a b:List RtC),flatR (a++b)=flatR a++flatR b
 |[],b=>rfl
 |t::a,b=>by rw [List.cons_append,flatR,flatR,flatR_append a b,List.append_assoc]
theorem flatR_snoc (ts:List RtC) (t:RtC):flatR (ts++[t])=flatR ts++encC t:=by rw [flatR_append];simp [flatR]
theorem flatR_at:∀(ts:List RtC) (i:Nat) (h:i<ts.length),(flatR ts)[2*i]? =some (.slice ts[i].ao ts[i].r.es.length ts[i].cap)∧(flatR ts)[2*i+1]? =some (.int .u64 ts[i].r.w)
 |t::l,0,_=>⟨rfl,rfl⟩
 |t::l,i+1,h=>by
  have:=flatR_at l i (by simpa using h)
  have e1:2*(i+1)=2*i+2:=by omega
  rw [e1]
  exact this
theorem Cel.rt {w:World} {ao:Option Addr} {ts:List RtC} (h:Cel w ao (flatR ts)) {i:Nat} (hi:i<ts.length):
  ∃b o,ao=some ⟨b,o,none⟩∧w.cell? ⟨b,o+i*2,none⟩=some (.slice ts[i].ao ts[i].r.es.length ts[i].cap)∧w.cell? ⟨b,o+i*2+1,none⟩=some (.int .u64 ts[i].r.w):=by
 obtain ⟨h1,h2⟩:=flatR_at ts i hi
 obtain ⟨b,o,e,c1⟩:=h _ _ h1
 obtain ⟨b',o',e',c2⟩:=h _ _ h2
 rw [e] at e'
 cases e'
 exact ⟨b,o,e,by rw [Nat.mul_comm];exact c1,by rw [Nat.mul_comm,Nat.add_assoc];exact c2⟩
theorem lexI_zero:∀{a b:List Int},lexI a b=0→a=b
 |[],[],_=>rfl
 |[],y::b,h=>by simp [lexI] at h
 |x::a,[],h=>by simp [lexI] at h
 |x::a,y::b,h=>by
  by_cases e:cmpI x y=0
  ·have hx:x=y:=by
    unfold cmpI at e
    split at e
    ·cases e
    ·split at e
     ·cases e
     ·omega
   have h2:lexI a b=0:=by simpa [lexI,e] using h
   rw [hx,lexI_zero h2]
  ·simp [lexI,e] at h
theorem cmpR_zero (x y:RtD):(cmpR x.w x.es y.w y.es==0)=decide (x=y):=by
 by_cases h:x=y
 ·subst h
  rw [cmpR_self]
  simp
 ·rw [decide_eq_false h,beq_eq_false_iff_ne]
  intro e
  apply h
  obtain ⟨xe,xw⟩:=x
  obtain ⟨ye,yw⟩:=y
  simp only at e
  unfold cmpR at e
  by_cases e1:cmpI xw yw=0
  ·rw [if_pos e1] at e
   have hx:xw=yw:=by
    unfold cmpI at e1
    split at e1
    ·cases e1
    ·split at e1
     ·cases e1
     ·omega
   rw [hx,lexI_zero e]
  ·rw [if_neg e1] at e
   exact absurd e e1
def Lie (w:World) (ts:List RtC):Prop:=∀t∈ts,Cel w t.ao (t.r.es.map encI)∧t.r.es.length≤1000000
theorem Lie.go {w w':World} {ts:List RtC} (h:Lie w ts) (hb:Below w.heap.size w w'):Lie w' ts:=fun t ht=>⟨(h t ht).1.go hb,(h t ht).2⟩
theorem mapR_get {ta:List RtC} {i:Nat} (h:i<ta.length) (h2:i<(ta.map (·.r)).length):(ta.map (·.r))[i]=ta[i].r:=by simp
set_option maxRecDepth 100000 in
set_option maxHeartbeats 2000000 in
theorem refRoutes_any (ta tb:List RtC) (ao bo:Option Addr) (ca cb:Nat) (w:World) (hla:ta.length≤1000000) (hlb:tb.length≤1000000) (ha:Cel w ao (flatR ta)) (hb:Cel w bo (flatR tb)) (hta:Lie w ta) (htb:Lie w tb):
  Calls Tryz.prog 18 #[.slice ao ta.length ca,.slice bo tb.length cb] w fun e w'=>e=.returned (.bool (decide (ta.map (·.r)=tb.map (·.r))))∧Below w.heap.size w w':=by
 have HA:=Lib.hid ha
 have HB:=Lib.hid hb
 have HTA:=Lib.hid hta
 have HTB:=Lib.hid htb
 clear ha hb hta htb
 by_cases hl:ta.length=tb.length
 ·have hn2:((ta.length:Int) != (tb.length:Int))=false:=by simp;omega
  have HN:=Lib.hid hl
  clear hl
  have HD:=Lib.hid (fun k (h1:k<ta.length) (h2:ta[k].r≠(tb[k]'(by have:=HN.out;omega)).r)=>(decide_eq_false (fun e=>h2 (by
   have h3:(ta.map (·.r))[k]? =(tb.map (·.r))[k]?:=by rw [e]
   rw [List.getElem?_map,List.getElem?_map,List.getElem?_eq_getElem h1,List.getElem?_eq_getElem (show k<tb.length by have:=HN.out;omega)] at h3
   simpa using h3)):decide (ta.map (·.r)=tb.map (·.r))=false))
  have HE:=Lib.hid (fun h:(∀j (h:j<ta.length),ta[j].r=(tb[j]'(by have:=HN.out;omega)).r)=>(decide_eq_true (List.ext_getElem (by simpa using HN.out) (fun i h1 h2=>by
   rw [mapR_get (by simpa using h1) h1,mapR_get (by simpa using h2) h2]
   exact h i (by simpa using h1))):decide (ta.map (·.r)=tb.map (·.r))=true))
  generalize decide (ta.map (·.r)=tb.map (·.r))=r at*
  go_enter Tryz.func18,Tryz.ntmps18
  go_wp2
  go_loopg [5] ta.length (fun g i wr=>∃k:Nat,k≤ta.length∧ta.length-k≤g∧i=.int .i64 k∧Aside (Below w.heap.size w wr)∧Aside (∀j (h:j<ta.length),j<k→ta[j].r=(tb[j]'(by have:=HN.out;omega)).r))
  case atStart=>exact ⟨0,Nat.zero_le _,by omega,rfl,Below.refl _ _,fun j _ h=>absurd h (Nat.not_lt_zero _)⟩
  case round=>
   obtain ⟨k,hk,hg,rfl,HW,HF⟩:=hrel
   by_cases hlt:k<ta.length
   ·have hlt2:k<tb.length:=by have:=HN.out;omega
    have hlt3:(k:Int)<(ta.length:Int):=by omega
    have hlt4:(k:Int)<(tb.length:Int):=by omega
    have hk0:(0:Int)≤(k:Int):=by omega
    obtain ⟨b1,o1,hao,x0,x1⟩:=(HA.out.go HW.out).rt hlt
    obtain ⟨b2,o2,hbo,y0,y1⟩:=(HB.out.go HW.out).rt hlt2
    subst hao hbo
    have HD2:=Lib.hid (HD.out k hlt)
    have HM:=Lib.hid (fun h:ta[k].r=tb[k].r=>(fun j (h1:j<ta.length) (h2:j<k+1)=>(by
     by_cases e:j=k
     ·subst e;exact h
     ·exact HF.out j h1 (by omega):ta[j].r=(tb[j]'(by have:=HN.out;omega)).r)))
    have H1:=Lib.hid ((HTA.out.go HW.out) ta[k] (List.getElem_mem hlt))
    have H2:=Lib.hid ((HTB.out.go HW.out) tb[k] (List.getElem_mem hlt2))
    generalize ta[k]=x at*
    generalize tb[k]=y at*
    obtain ⟨xa,xc,xr⟩:=x
    obtain ⟨ya,yc,yr⟩:=y
    simp only at x0 x1 y0 y1 HD2 HM H1 H2
    have X0:=fun p=>cell_ext p x0
    have X1:=fun p=>cell_ext p x1
    have Y0:=fun p=>cell_ext p y0
    have Y1:=fun p=>cell_ext p y1
    have XC:=Lib.hid (fun p=>H1.out.1.go (below_ext wr p))
    have XD:=Lib.hid (fun p=>H2.out.1.go (below_ext wr p))
    have HS:=Lib.hid (fun W h1 h2=>refCmp_any xa ya xc yc xr.es yr.es xr.w yr.w W (by have:=H1.out.2;omega) (by have:=H2.out.2;omega) h1 h2)
    have hz:=cmpR_zero xr yr
    generalize cmpR xr.w xr.es yr.w yr.es=cz at*
    by_cases hq:xr=yr
    ·rw [decide_eq_true hq] at hz
     have HM2:=Lib.hid (HM.out hq)
     have hz2:(cz != 0)=false:=by simpa using hz
     clear hq HD2 HM hz
     go_wp2
     refine wp_region_ext (by kernel_rfl) (by kernel_rfl) ?_
     repeat (go_big_quiet_step ((go_at_call 19;exact Calls.ext_of (HS.out _ (XC.out _) (XD.out _)))))
     refine wpQuiet_nil ?_
     rintro _ ⟨p5,rfl⟩
     have HB5:=Lib.hid (below_ext wr p5)
     generalize ext wr p5=w5 at HB5 ⊢
     go_wp2
     go_roundg (ta.length-(k+1))
     case measure=>omega
     case rel=>exact ⟨k+1,by omega,by omega,by go_num,HW.out.st HB5.out,HM2.out⟩
    ·rw [decide_eq_false hq] at hz
     have HD3:=Lib.hid (HD2.out hq)
     have hz2:(cz != 0)=true:=by simpa using hz
     clear hq HD2 HM hz
     go_wp2
     refine wp_region_ext (by kernel_rfl) (by kernel_rfl) ?_
     repeat (go_big_quiet_step ((go_at_call 19;exact Calls.ext_of (HS.out _ (XC.out _) (XD.out _)))))
     refine wpQuiet_nil ?_
     rintro _ ⟨p5,rfl⟩
     have HB5:=Lib.hid (below_ext wr p5)
     generalize ext wr p5=w5 at HB5 ⊢
     go_wp2
     go_ret
     exact ⟨by rw [HD3.out];rfl,HW.out.st HB5.out⟩
   ·obtain rfl:k=ta.length:=by omega
    go_wp2
    go_ret
    exact ⟨by rw [HE.out (fun j h=>HF.out j h h)];rfl,HW.out⟩
 ·have hn2:((ta.length:Int) != (tb.length:Int))=true:=by simp;omega
  have HN:=Lib.hid (decide_eq_false (fun e=>hl (by have:=congrArg List.length e;simpa using this)):decide (ta.map (·.r)=tb.map (·.r))=false)
  clear hl
  go_enter Tryz.func18,Tryz.ntmps18
  go_wp2
  go_ret
  exact ⟨by rw [HN.out];rfl,Below.refl _ _⟩
end Go.Proofs.YteaaapdjplbljaaGreat
end
section
namespace Go.Proofs.YteaaapdjplbljaaGreat
open Go Go.Proofs Go.RowKit Go.Shelf Go.Proofs.YteaaapdjplbljaaGreat.Hp Go.Proofs.YteaaapdjplbljaaGreat.Ch Go.Proofs.YteaaapdjplbljaaGreat.Ro
theorem Ro.RP.visT {es:List EdgeD} {n:Nat} {t:Int} {D:Int→Int} (hA:∀u v w,arcG es u v w→nodeN n u∧nodeN n v∧1≤w) (hD:ToD es n t D) {v:Int} {l:List Int} (h:RP es D v l):nodeN n v→∃vs:List Int,vs.length=l.length+1∧vs.Nodup∧∀u∈vs,nodeN n u∧D u≤D v:=by
 induction h with
 |@stop v h=>exact fun hv=>⟨[v],rfl,by simp,fun u hu=>by rw [List.mem_singleton] at hu;subst hu;exact ⟨hv,Int.le_refl _⟩⟩
 |@go v i l h h0 hr ih=>
  intro hv
  obtain ⟨h1,_,h2,_,_⟩:=first_less hA hD h
  obtain ⟨vs,k1,k2,k3⟩:=ih h1
  refine ⟨v::vs,by simp [k1],List.nodup_cons.2 ⟨fun hm=>?_,k2⟩,fun u hu=>?_⟩
  ·have:=(k3 v hm).2
   omega
  ·rcases List.mem_cons.1 hu with rfl|hm
   ·exact ⟨hv,Int.le_refl _⟩
   ·have:=k3 u hm
    exact ⟨this.1,by omega⟩
theorem routeIs_dist {n:Nat} {es:List EdgeD} {s t:Int} {l:List Int} {x k:Int} (h1:RouteIs n es s t l x k):DistIs n (arcG es) s t x k:=by
 rcases h1 with ⟨rfl,a,b,c,d,_⟩|⟨_,_,rfl,h⟩
 ·exact .inl ⟨rfl,a,b,c,d⟩
 ·exact h
theorem routeIs_uniq {n:Nat} {es:List EdgeD} (hA:∀u v w,arcG es u v w→nodeN n u∧nodeN n v∧1≤w) {s t:Int} {l l3:List Int} {x k z f:Int} (h1:RouteIs n es s t l x k) (h3:RouteIs n es s t l3 z f):l=l3∧x=z∧k=f:=by
 obtain ⟨rfl,rfl⟩:=(routeIs_dist h1).uniq (routeIs_dist h3)
 refine ⟨?_,rfl,rfl⟩
 rcases h1 with ⟨rfl,a,b,c,d,D,hD,hR⟩|⟨hk,rfl,_⟩
 ·rcases h3 with ⟨_,a',b',c',d',D',hD',hR'⟩|⟨hk,_⟩
  ·have hN:∀e∈es,nodeN n e.f∧nodeN n e.t:=fun e he=>by
    have:=hA e.f e.t e.w ⟨e,he,rfl,rfl,rfl⟩
    exact ⟨this.1,this.2.1⟩
   exact (hR.congr hN (hD.uniq hD') a).uniq hR'
  ·exact absurd rfl hk
 ·rcases h3 with ⟨h,_⟩|⟨_,rfl,_⟩
  ·exact absurd h hk
  ·rfl
theorem routeIs_bnd {n:Nat} {es:List EdgeD} (hA:∀u v w,arcG es u v w→nodeN n u∧nodeN n v∧1≤w) {s t:Int} {l:List Int} {x k:Int} (h1:RouteIs n es s t l x k):l.length≤n∧0≤x∧x≤1152921504606846976:=by
 rcases h1 with ⟨rfl,a,b,c,d,D,hD,hR⟩|⟨hk,rfl,rfl,_⟩
 ·obtain ⟨vs,k1,k2,k3⟩:=hR.visT hA hD a
  have:=nodes_le (fun u hu=>(k3 u hu).1) k2
  exact ⟨by omega,c.1.nonneg (fun u v w h=>(hA u v w h).2.2),d⟩
 ·exact ⟨Nat.zero_le _,Int.le_refl _,by decide⟩
def rtZ:RtD:=⟨[],0⟩
def LegsOK (n:Nat) (es:List EdgeD) (stops:List Int) (k:Nat) (out:List RtD):Prop:=out.length=k∧∀i,i<k→RouteIs n es (stops.getD i 0) (stops.getD (i+1) 0) (out.getD i rtZ).es (out.getD i rtZ).w 0
theorem LegsOK.start {n:Nat} {es:List EdgeD} {stops:List Int}:LegsOK n es stops 0 []:=⟨rfl,fun i h=>absurd h (Nat.not_lt_zero _)⟩
theorem LegsOK.step {n:Nat} {es:List EdgeD} {stops:List Int} {k:Nat} {out:List RtD} (h:LegsOK n es stops k out) {l:List Int} {x:Int} (hr:RouteIs n es (stops.getD k 0) (stops.getD (k+1) 0) l x 0):LegsOK n es stops (k+1) (out++[⟨l,x⟩]):=by
 refine ⟨by simp [h.1],fun i hi=>?_⟩
 by_cases e:i=k
 ·subst e
  have e1:(out++[(⟨l,x⟩:RtD)]).getD i rtZ=⟨l,x⟩:=by
   have hl:=h.1
   simp [List.getD,←hl]
  rw [e1]
  exact hr
 ·have e1:(out++[(⟨l,x⟩:RtD)]).getD i rtZ=out.getD i rtZ:=by
   have hl:=h.1
   have hio:i<out.length:=by omega
   simp [List.getD,List.getElem?_append_left hio]
  rw [e1]
  exact h.2 i (by omega)
theorem LegsOK.uniq {n:Nat} {es:List EdgeD} (hA:∀u v w,arcG es u v w→nodeN n u∧nodeN n v∧1≤w) {stops:List Int} {k:Nat} {out out':List RtD} (h:LegsOK n es stops k out) (h':LegsOK n es stops k out'):out=out':=by
 apply List.ext_getElem?
 intro i
 by_cases hi:i<k
 ·have h1:=h.2 i hi
  have h2:=h'.2 i hi
  have e1:out.getD i rtZ=out[i]'(by rw [h.1];exact hi):=by simp [List.getD,h.1,hi]
  have e2:out'.getD i rtZ=out'[i]'(by rw [h'.1];exact hi):=by simp [List.getD,h'.1,hi]
  rw [e1] at h1
  rw [e2] at h2
  rw [List.getElem?_eq_getElem (by rw [h.1];exact hi),List.getElem?_eq_getElem (by rw [h'.1];exact hi)]
  obtain ⟨a,b,_⟩:=routeIs_uniq hA h1 h2
  generalize out[i]'(by rw [h.1];exact hi)=p at*
  generalize out'[i]'(by rw [h'.1];exact hi)=q at*
  obtain ⟨pe,pw⟩:=p
  obtain ⟨qe,qw⟩:=q
  simp only at a b
  rw [a,b]
 ·rw [List.getElem?_eq_none (by rw [h.1];omega),List.getElem?_eq_none (by rw [h'.1];omega)]
theorem LegsOK.mem {n:Nat} {es:List EdgeD} (hA:∀u v w,arcG es u v w→nodeN n u∧nodeN n v∧1≤w) {stops:List Int} {k:Nat} {out:List RtD} (h:LegsOK n es stops k out):∀r∈out,r.es.length≤n∧0≤r.w∧r.w≤1152921504606846976:=by
 intro r hr
 obtain ⟨i,hi,rfl⟩:=List.getElem_of_mem hr
 have h1:=h.2 i (by rw [←h.1];exact hi)
 have e1:out.getD i rtZ=out[i]:=by simp [List.getD,hi]
 rw [e1] at h1
 exact routeIs_bnd hA h1
def LegIs (n:Nat) (es:List EdgeD) (stops:List Int) (out:List RtD) (at_ f:Int):Prop:=
 (f=0∧at_=0∧LegsOK n es stops (stops.length-1) out)∨
 (f≠0∧out=[]∧∃i:Nat,at_=(i:Int)∧i+1<stops.length∧(∃o,LegsOK n es stops i o)∧∃l x,RouteIs n es (stops.getD i 0) (stops.getD (i+1) 0) l x f)
theorem LegIs.uniq {n:Nat} {es:List EdgeD} (hA:∀u v w,arcG es u v w→nodeN n u∧nodeN n v∧1≤w) {stops:List Int} {out out':List RtD} {a a' f f':Int} (h:LegIs n es stops out a f) (h':LegIs n es stops out' a' f'):out=out'∧a=a'∧f=f':=by
 rcases h with ⟨rfl,rfl,h⟩|⟨hf,rfl,i,rfl,hi,⟨o,ho⟩,l,x,hr⟩
 ·rcases h' with ⟨rfl,rfl,h'⟩|⟨hf',rfl,i,rfl,hi,⟨o,ho⟩,l,x,hr⟩
  ·exact ⟨h.uniq hA h',rfl,rfl⟩
  ·exact absurd (routeIs_uniq hA (h.2 i (by omega)) hr).2.2.symm hf'
 ·rcases h' with ⟨rfl,rfl,h'⟩|⟨hf',rfl,i',rfl,hi',⟨o',ho'⟩,l',x',hr'⟩
  ·exact absurd (routeIs_uniq hA (h'.2 i (by omega)) hr).2.2.symm hf
  ·rcases Nat.lt_trichotomy i i' with e|e|e
   ·exact absurd (routeIs_uniq hA (ho'.2 i e) hr).2.2.symm hf
   ·subst e
    exact ⟨rfl,rfl,(routeIs_uniq hA hr hr').2.2⟩
   ·exact absurd (routeIs_uniq hA (ho.2 i' e) hr').2.2.symm hf'
def wholeE (out:List RtD):List Int:=out.flatMap (·.es)
def wholeW (out:List RtD):Int:=(out.map (·.w)).sum
theorem wholeE_snoc (out:List RtD) (r:RtD):wholeE (out++[r])=wholeE out++r.es:=by simp [wholeE]
theorem wholeW_snoc (out:List RtD) (r:RtD):wholeW (out++[r])=wholeW out+r.w:=by simp [wholeW]
theorem whole_bnd {n:Nat}:∀{out:List RtD},(∀r∈out,r.es.length≤n∧0≤r.w∧r.w≤1152921504606846976)→(wholeE out).length≤n*out.length∧0≤wholeW out∧wholeW out≤1152921504606846976*(out.length:Int)
 |[],_=>⟨Nat.zero_le _,Int.le_refl _,Int.le_refl _⟩
 |r::l,h=>by
  obtain ⟨h1,h2,h3⟩:=h r (List.mem_cons_self ..)
  obtain ⟨k1,k2,k3⟩:=whole_bnd (fun r hr=>h r (List.mem_cons_of_mem _ hr))
  have e1:wholeE (r::l)=r.es++wholeE l:=rfl
  have e2:wholeW (r::l)=r.w+wholeW l:=by simp [wholeW]
  rw [e1,e2,List.length_append,List.length_cons,Nat.mul_add,Nat.mul_one]
  refine ⟨by omega,by omega,?_⟩
  rw [show ((l.length+1:Nat):Int)=(l.length:Int)+1 by omega,Int.mul_add]
  omega
end Go.Proofs.YteaaapdjplbljaaGreat
end
section
namespace Go.Proofs.YteaaapdjplbljaaGreat
open Go Go.Proofs Go.RowKit Go.Shelf Go.Proofs.YteaaapdjplbljaaGreat.Hp Go.Proofs.YteaaapdjplbljaaGreat.Ch Go.Proofs.YteaaapdjplbljaaGreat.Ro
theorem trRight_nil (l:List Int) (ao:Option Addr) (cap:Nat) (w:World) (hc:Cel w ao (l.map encI)) (hl:l.length≤60):
  Calls Tryz.prog 60 #[.pointer none,.slice ao l.length cap] w fun e w'=>e=.returned (.int .i64 1)∧Below w.heap.size w w':=by
 have HO:=Lib.hid (of_nil l [] ao none cap 0 w hc (Cel.nil _ _) hl (by simp))
 simp only [List.length_nil] at HO
 clear hc
 go_enter Tryz.func60,Tryz.ntmps60
 go_wp2_with (go_at_call 65;refine HO.out.mono ?_;rintro e w1 ⟨rfl,hb1⟩;(have HB1:=Lib.hid hb1);clear hb1)
 go_ret
 exact ⟨rfl,HB1.out⟩
theorem trRight_off (hb n:Nat) (es:List EdgeD) (R:List Int) (S:List SC) (O I:List (List Int)) (l:List Int) (ao:Option Addr) (cap:Nat) (w:World) (h:HierM w hb n es R S O I) (hc:Cel w ao (l.map encI)) (hl:l.length≤60) (hno:l.any (outB n)=true):
  Calls Tryz.prog 60 #[.pointer (some ⟨hb,0,none⟩),.slice ao l.length cap] w fun e w'=>e=.returned (.int .i64 7)∧Below w.heap.size w w':=by
 have HO:=Lib.hid (of_off hb n es R S O I l [] ao none cap 0 w h hc (Cel.nil _ _) hl (by simp) (by rw [List.append_nil];exact hno))
 simp only [List.length_nil] at HO
 clear hc h hno
 go_enter Tryz.func60,Tryz.ntmps60
 go_wp2_with (go_at_call 65;refine HO.out.mono ?_;rintro e w1 ⟨rfl,hb1⟩;(have HB1:=Lib.hid hb1);clear hb1)
 go_ret
 exact ⟨rfl,HB1.out⟩
theorem trRight_ok (hb n:Nat) (es:List EdgeD) (R:List Int) (S:List SC) (ro:List Int) (l:List Int) (ao:Option Addr) (cap:Nat) (w:World) (h:BH w hb n es R S ro) (hc:Cel w ao (l.map encI)) (hl:l.length≤60) (hno:∀v∈l,nodeN n v):
  Calls Tryz.prog 60 #[.pointer (some ⟨hb,0,none⟩),.slice ao l.length cap] w fun e w'=>e=.returned (.int .i64 0)∧Below w.heap.size w w':=by
 have HO:=Lib.hid (of_any hb n es R S ro l [] ao none cap 0 w h hc (Cel.nil _ _) hl (by simp) hno (by simp))
 unfold OfPost at HO
 simp only [List.length_nil] at HO
 clear hc h hno
 go_enter Tryz.func60,Tryz.ntmps60
 go_wp2_with (go_at_call 65;refine HO.out.mono ?_;rintro e w1 ⟨ao1,cap1,rows,rfl,-,-,-,hb1⟩;(have HB1:=Lib.hid hb1);clear hb1)
 go_ret
 exact ⟨rfl,HB1.out⟩
def RtsV (B:Nat) (out:List RtD) (v:Value) (W:World):Prop:=∃(a:Option Addr) (c:Nat) (ts:List RtC),v=.slice a ts.length c∧ts.map (·.r)=out∧Cel W a (flatR ts)∧Lie W ts∧(∀x,a=some x→B≤x.block)∧∀t∈ts,∀x,t.ao=some x→B≤x.block
theorem RtsV.go {B:Nat} {out:List RtD} {v:Value} {w w':World} (h:RtsV B out v w) (hb:Below w.heap.size w w'):RtsV B out v w':=by
 obtain ⟨a,c,ts,h1,h2,h3,h4,h5⟩:=h
 exact ⟨a,c,ts,h1,h2,h3.go hb,h4.go hb,h5⟩
def LegPost (n:Nat) (es:List EdgeD) (stops:List Int) (w:World) (e:Ending) (w':World):Prop:=
 ∃(v:Value) (out:List RtD) (x f:Int),e=.returned (.tuple #[v,.int .i64 x,.int .i64 f])∧RtsV w.heap.size out v w'∧Below w.heap.size w w'∧LegIs n es stops out x f
structure TrL (W:World) (v:Value) (ts:List RtC) (wr:World):Prop where
 own:wr.ownsRow W.heap.size 39 2 v ts.length (flatR ts)
 lie:Lie wr ts
 far:∀t∈ts,t.r.es≠[]→∀x,t.ao=some x→v.ownBlock≠some x.block
 below:Below W.heap.size W wr
 new:∀t∈ts,∀x,t.ao=some x→W.heap.size≤x.block
theorem TrL.go {W wr w4:World} {v:Value} {ts:List RtC} (h:TrL W v ts wr) (hz:Below wr.heap.size wr w4):TrL W v ts w4:=
 ⟨hp_owns_go h.own hz,h.lie.go hz,h.far,h.below.st hz,h.new⟩
theorem rt_two (w:World) (x y:Value) (T:TypeId) {k:Nat} (hk:k=w.heap.size):∀j u,[x,y][j]? =some u→(w.alloc (.cells #[x,y] T)).cell? ((⟨k,0,none⟩:Addr).add j)=some u:=by
 intro j u hu
 subst hk
 rw [Addr.add_lit]
 have:=World.cell?_alloc_mark w #[x,y] T (0,0) (0+j)
 rw [this]
 simpa using hu
theorem rt_far {wr:World} {t:RtC} (hl:Cel wr t.ao (t.r.es.map encI)) (hne:t.r.es≠[]) {x:Addr} (hx:t.ao=some x):x.block<wr.heap.size:=by
 cases he:t.r.es with
 |nil=>exact absurd he hne
 |cons a r=>
  rw [he] at hl
  obtain ⟨b,o,e,hc⟩:=hl 0 (encI a) rfl
  rw [hx] at e
  cases e
  exact World.block_lt_of_cell? _ _ hc
theorem TrL.app {W wr w4 w5:World} {v:Value} {ts:List RtC} {t:RtC} {g cap:Nat} (h:TrL W v ts wr) (hz:Below wr.heap.size wr w4) (hl:Cel w4 t.ao (t.r.es.map encI)) (hl6:t.r.es.length≤1000000) (hnew:∀x,t.ao=some x→wr.heap.size≤x.block)
  (hown:w5.ownsRow W.heap.size 39 2 (.slice (some ⟨g,0,none⟩) (ts.length+1) cap) (ts.length+1) (flatR ts++encC t)) (hgr:w4.grownBy w5 v.ownBlock) (hat:v.ownBlock=some g∨g=w4.heap.size):
  TrL W (.slice (some ⟨g,0,none⟩) (ts.length+1) cap) (ts++[t]) w5:=by
 have h4:=h.go hz
 have hfar:∀t'∈ts++[t],t'.r.es≠[]→∀x,t'.ao=some x→v.ownBlock≠some x.block∧x.block<w4.heap.size∧Cel w4 t'.ao (t'.r.es.map encI)∧t'.r.es.length≤1000000:=by
  intro t' ht' hne x hx
  rcases List.mem_append.1 ht' with k|k
  ·have:=h4.lie t' k
   exact ⟨h4.far t' k hne x hx,rt_far this.1 hne hx,this.1,this.2⟩
  ·obtain rfl:=List.mem_singleton.1 k
   refine ⟨fun e=>?_,rt_far hl hne hx,hl,hl6⟩
   have h1:=(h.own.lt _ e).2
   have h2:=hnew x hx
   omega
 refine ⟨by rw [List.length_append,List.length_singleton,flatR_snoc];exact hown,fun t' ht'=>?_,fun t' ht' hne x hx e=>?_,h4.below.grown hgr h4.below.size (fun k hk=>(h4.own.lt k hk).1),fun t' ht' x hx=>?_⟩
 ·by_cases hne:t'.r.es=[]
  ·rw [hne]
   exact ⟨Cel.nil _ _,by simp⟩
  ·cases hx:t'.ao with
   |none=>
    have hcl:Cel w4 t'.ao (t'.r.es.map encI):=by
     rcases List.mem_append.1 ht' with k|k
     ·exact (h4.lie t' k).1
     ·obtain rfl:=List.mem_singleton.1 k
      exact hl
    cases he:t'.r.es with
    |nil=>exact absurd he hne
    |cons a r=>
     rw [he] at hcl
     obtain ⟨b,o,e,_⟩:=hcl 0 (encI a) rfl
     rw [hx] at e
     cases e
   |some x=>
    obtain ⟨h1,h2,h3,h5⟩:=hfar t' ht' hne x hx
    refine ⟨?_,h5⟩
    rw [←hx]
    intro j u hj
    obtain ⟨b,o,e,hc⟩:=h3 j u hj
    rw [hx] at e
    cases e
    exact ⟨b,o,hx,(World.cell?_of_block (hgr.block b h2 (fun e=>h1 e.symm))).trans hc⟩
 ·obtain ⟨h1,h2,_⟩:=hfar t' ht' hne x hx
  obtain rfl:g=x.block:=Option.some.inj e
  rcases hat with k|k
  ·exact h1 k
  ·omega
 ·rcases List.mem_append.1 ht' with k|k
  ·exact h.new t' k x hx
  ·obtain rfl:=List.mem_singleton.1 k
   have:=hnew x hx
   have:=h.below.size
   omega
end Go.Proofs.YteaaapdjplbljaaGreat
end
section
namespace Go.Proofs.YteaaapdjplbljaaGreat
open Go Go.Proofs Go.RowKit Go.Shelf Go.Proofs.YteaaapdjplbljaaGreat.Hp Go.Proofs.YteaaapdjplbljaaGreat.Ch Go.Proofs.YteaaapdjplbljaaGreat.Ro
theorem elem_route:Elem Tryz.prog 39 (.agg #[.slice none 0 0,.int .u64 0]) 2 32:=⟨by kernel_rfl,rfl,by decide⟩
set_option maxRecDepth 100000 in
set_option maxHeartbeats 2000000 in
theorem legs_bad (hv:Value) (k:Int) (hk:k≠0) (l:List Int) (ao:Option Addr) (cap:Nat) (w:World)
  (hr:Calls Tryz.prog 60 #[hv,.slice ao l.length cap] w fun e w'=>e=.returned (.int .i64 k)∧Below w.heap.size w w'):
  Calls Tryz.prog 14 #[hv,.slice ao l.length cap] w fun e w'=>e=.returned (.tuple #[.slice none 0 0,.int .i64 0,.int .i64 k])∧Below w.heap.size w w':=by
 have HR:=Lib.hid hr
 have hk1:(k != 0)=true:=by simpa using hk
 clear hr hk
 go_enter Tryz.func14,Tryz.ntmps14
 repeat go_step
 refine wp_scope_labels 0 (fun _ _ _ _=>False) ?_ (fun _ _ _ _ h=>h.elim)
 go_wp2_with (go_at_call 60;refine HR.out.mono ?_;rintro e w1 ⟨rfl,hb1⟩;(have HB1:=Lib.hid hb1);clear hb1)
 simp only [jumps_ret]
 refine bodyPost_ret (v:=.tuple #[.slice none 0 0,.int .i64 0,.int .i64 k]) (by simp [results,Tryz.results14,go_sem];try rfl) rfl ?_
 exact ⟨rfl,HB1.out⟩
set_option maxRecDepth 100000 in
set_option maxHeartbeats 4000000 in
theorem legs_any (hb n:Nat) (es:List EdgeD) (R:List Int) (S:List SC) (ro:List Int) (l:List Int) (ao:Option Addr) (cap:Nat) (w:World) (h:BH w hb n es R S ro) (hc:Cel w ao (l.map encI)) (hl:l.length≤20) (hno:∀v∈l,nodeN n v)
  (hg:rightG ⟨(n:Int),es⟩=0) (hel:es.length≤40) (hA:∀u v w,arcG es u v w→nodeN n u∧nodeN n v∧1≤w∧w≤4294967296):
  Calls Tryz.prog 14 #[.pointer (some ⟨hb,0,none⟩),.slice ao l.length cap] w (LegPost n es l w):=by
 have HR:=Lib.hid (trRight_ok hb n es R S ro l ao cap w h hc (by omega) hno)
 have HRT:=Lib.hid (fun s t W (hz:Below w.heap.size w W)=>route_any hb n es R S ro s t W (h.go hz) hg hel hA)
 unfold RoutePost at HRT
 have HC:=Lib.hid hc
 have HA3:=Lib.hid (fun (u v w:Int) (h:arcG es u v w)=>(show nodeN n u∧nodeN n v∧1≤w from ⟨(hA u v w h).1,(hA u v w h).2.1,(hA u v w h).2.2.1⟩))
 have hn12:=h.le
 have HN:=Lib.hid hn12
 have hl2:(l.length:Int)≤20:=by omega
 clear h hc hno hg hel hA hn12
 go_enter Tryz.func14,Tryz.ntmps14
 repeat go_step
 refine wp_scope_labels 0 (fun _ _ _ _=>False) ?_ (fun _ _ _ _ h=>h.elim)
 go_wp2_with (go_at_call 60;refine HR.out.mono ?_;rintro e w1 ⟨rfl,hb1⟩;(have HB1:=Lib.hid hb1);clear hb1)
 go_step3
 repeat go_step
 go_loopg [20,4] l.length (fun gg v20 v4 wr=>∃(k:Nat) (ts:List RtC),k≤l.length∧l.length-k≤gg∧v20=.int .i64 k∧Aside (LegsOK n es l (k-1) (ts.map (·.r)))∧Aside (TrL w v4 ts wr))
 case atStart=>exact ⟨0,[],Nat.zero_le _,by omega,rfl,LegsOK.start,⟨World.ownsRow_nil _ _ _ _,(fun t h=>nomatch h),(fun t h=>nomatch h),HB1.out,(fun t h=>nomatch h)⟩⟩
 case round=>
  obtain ⟨k,ts,hk,hgg,rfl,hLg,hT⟩:=hrel
  have HLg:=Lib.hid hLg.out
  have HT:=Lib.hid hT.out
  clear hLg hT
  have htl:ts.length=k-1:=by have:=HLg.out.1;rwa [List.length_map] at this
  by_cases hlt:k<l.length
  ·have hlt2:(k:Int)<(l.length:Int):=by omega
   have hk0:(0:Int)≤(k:Int):=by omega
   obtain ⟨lb,lo,e,y0⟩:=(HC.out.go HT.out.below).at hlt
   subst e
   by_cases hz:k=0
   ·subst hz
    have htn:ts=[]:=List.length_eq_zero_iff.1 htl
    subst htn
    clear htl
    have y0:wr.cell? ⟨lb,lo,none⟩=some (.int .i64 l[0]):=y0
    go_wp2
    go_roundg (l.length-1)
    case measure=>omega
    case rel=>exact ⟨1,[],by omega,by omega,by go_num,HLg.out,HT.out⟩
   ·obtain ⟨j,rfl⟩:∃j,k=j+1:=⟨k-1,by omega⟩
    have hj:j<l.length:=by omega
    obtain ⟨lb',lo',e,y1⟩:=(HC.out.go HT.out.below).at hj
    cases e
    have hj1:(((j+1:Nat):Int)==0)=false:=by rw [beq_eq_false_iff_ne];omega
    have hj2:((j+1:Nat):Int)-1=(j:Int):=by omega
    have hj3:(j:Int)<(l.length:Int):=by omega
    have hj0:(0:Int)≤(j:Int):=by omega
    have HGJ:=Lib.hid (show l.getD j 0=l[j] by simp [List.getD,hj])
    have HGK:=Lib.hid (show l.getD (j+1) 0=l[j+1] by simp [List.getD,hlt])
    have HRJ:=Lib.hid (HRT.out l[j] l[j+1] wr HT.out.below)
    generalize l[j]=s at*
    generalize l[j+1]=t at*
    have hts:ts.length=j:=by omega
    have htsz:ts.length≤20:=by omega
    have HTL:=Lib.hid (And.intro hts htsz)
    have hjb:(j:Int)≤20:=by omega
    obtain ⟨kk,hkk⟩:∃kk:Nat,kk=j+1:=⟨_,rfl⟩
    rw [←hkk] at hj1 hj2 hlt2 hk0 y0 ⊢
    have HKK:=Lib.hid hkk
    have hkb:(kk:Int)≤20:=by omega
    clear htl hkk hts htsz hz
    go_upto_region 9 with (go_at_call 61;refine HRJ.out.mono ?_;rintro e w2 ⟨la,le,lc,x,f,rfl,h1,h2,h3,h4⟩;(have HL1:=Lib.hid h1);(have hb2:=h2);(have HRI:=Lib.hid h3);(have HNW:=Lib.hid h4);clear h1 h2 h3 h4)
    by_cases hf:f=0
    ·subst hf
     have HBN:=Lib.hid (routeIs_bnd HA3.out HRI.out)
     have hle:=HBN.out.1
     have hln:=HN.out
     have HB2:=Lib.hid hb2
     have HZ:=Lib.hid (And.intro HT.out.below.size hb2.size)
     have ht1:=HTL.out.2
     clear y0 y1 hb2
     go_wp2_with (at_builtin;refine wpList_app w.heap.size 39 _ 2 32 elem_route Tryz.underlying34 u4 ts.length _ ⟨w2.heap.size+1,0,none⟩ 1 1 [.slice la le.length lc,.int .u64 x] rfl rfl (World.ownsRow.alloc (World.ownsRow.alloc (hp_owns_go HT.out.own HB2.out) _) _) (rt_two _ _ _ _ (by simp)) (by intro u hu;simp at hu;rcases hu with rfl|rfl<;>rfl) ⟨rfl,by decide,by omega,by omega,by have:=HZ.out;simp;omega⟩ ?_;intro g5 cap5 w5 hown5 hgrow5 hbl5 hat5 hlt5;(have HO5:=Lib.hid hown5);(have HG5:=Lib.hid hgrow5);(have HAT5:=Lib.hid hat5);clear hown5 hgrow5 hbl5 hat5 hlt5)
     have hz:Below wr.heap.size wr ((w2.alloc (Obj.cells #[.slice la le.length lc,.int .u64 x] 39)).alloc (Obj.cells #[.slice la le.length lc,.int .u64 x] 39)):=(HB2.out.st (Below.of_al _ _)).st (Below.of_al _ _)
     have hlc:Cel ((w2.alloc (Obj.cells #[.slice la le.length lc,.int .u64 x] 39)).alloc (Obj.cells #[.slice la le.length lc,.int .u64 x] 39)) la (le.map encI):=(HL1.out.go (Below.of_al _ _)).go (Below.of_al _ _)
     have hap:=HT.out.app (t:=⟨la,lc,⟨le,x⟩⟩) hz hlc (show le.length≤1000000 by omega) HNW.out HO5.out HG5.out HAT5.out
     have hls:=HLg.out
     rw [Nat.add_sub_cancel] at hls
     have hls2:=hls.step (l:=le) (x:=x) (by rw [HGJ.out,HGK.out];exact HRI.out)
     go_roundg (l.length-(kk+1))
     case measure=>omega
     case rel=>exact ⟨kk+1,ts++[(⟨la,lc,⟨le,x⟩⟩:RtC)],by omega,by omega,by go_num,by rw [List.map_append,Nat.add_sub_cancel,HKK.out];exact hls2,hap⟩
    ·have hf1:(f != 0)=true:=by simpa using hf
     have HF:=Lib.hid hf
     clear hf
     go_wp2
     simp only [jumps_ret]
     refine bodyPost_ret (v:=.tuple #[.slice none 0 0,.int .i64 (j:Int),.int .i64 f]) (by simp [results,Tryz.results14,go_sem,hj2];try rfl) rfl ?_
     have hls:=HLg.out
     rw [Nat.add_sub_cancel] at hls
     exact ⟨_,[],(j:Int),f,rfl,⟨none,0,[],rfl,rfl,Cel.nil _ _,(fun t h=>nomatch h),(fun x h=>nomatch h),(fun t h=>nomatch h)⟩,HT.out.below.st (hb2.st (Below.of_al _ _)),.inr ⟨HF.out,rfl,j,rfl,by have:=HKK.out;omega,⟨_,hls⟩,le,x,by rw [HGJ.out,HGK.out];exact HRI.out⟩⟩
  ·obtain rfl:k=l.length:=by omega
   go_wp2
   simp only [jumps_ret]
   obtain ⟨a4,c4,e4,h4,h5⟩:=Cel.of_owns_new HT.out.own
   refine bodyPost_ret (v:=.tuple #[u4,.int .i64 0,.int .i64 0]) (by simp [results,Tryz.results14,go_sem];try rfl) rfl ?_
   exact ⟨_,_,0,0,rfl,⟨a4,c4,ts,e4,rfl,h4,HT.out.lie,h5,HT.out.new⟩,HT.out.below,.inl ⟨rfl,rfl,HLg.out⟩⟩
end Go.Proofs.YteaaapdjplbljaaGreat
end
section
namespace Go.Proofs.YteaaapdjplbljaaGreat.To
open Go.Proofs.YteaaapdjplbljaaGreat
def growF (c:Nat→Nat→Int) (m:Nat):Nat→Nat→List Nat→Int→List Nat×Int→List Nat×Int
 |0,u,so,sum,st=>if st.2≤sum then st else if c u 1<4611686018427387904∧sum+c u 1<st.2 then (so,sum+c u 1) else st
 |r+1,u,so,sum,st=>if st.2≤sum then st else (List.range m).foldl (fun st i=>if i∈so then st else if c u (i+2)<4611686018427387904 then growF c m r (i+2) (so++[i]) (sum+c u (i+2)) st else st) st
end Go.Proofs.YteaaapdjplbljaaGreat.To
end
section
namespace Go.Proofs.YteaaapdjplbljaaGreat
open Go Go.Proofs Go.RowKit Go.Shelf
theorem run_appK {P:Program} {w:World} (t ty:TypeId) (base:Nat) (E:TypeId) (z:Value) (bytes:Nat) (hE:Elem P E z 1 bytes) (ht:P.underlying t=some (.slice E))
  (v:Value) (n:Nat) (xs:List Value) (hown:w.ownsRow base E 1 v n xs) (ad:Addr) (c:Nat) (x:Value) (hx:∀j u,[x][j]? =some u→w.cell? (ad.add j)=some u) (h1:x.oneCell'=true)
  (hl:n+1≤9223372036854775807∧(n+1)*bytes≤140737488355328∧base≤w.heap.size):
  ∃g cap w',(Builtin.append_ #[t,t] ty #[v,.slice (some ad) 1 c]).run P w=.ok (.slice (some ⟨g,0,none⟩) (n+1) cap) w'∧w'.ownsRow base E 1 (.slice (some ⟨g,0,none⟩) (n+1) cap) (n+1) (xs++[x])∧w'.ownsRow base E 1 v n xs∧
   w.grownBy w' v.ownBlock∧(v.ownBlock=some g∨g=w.heap.size)∧g<w'.heap.size:=by
 obtain ⟨hE,hz1,hz2⟩:=hE
 obtain ⟨i,hi,hz,hsz,hby⟩:=info_parts hE
 obtain ⟨l2,l3,l5⟩:=hl
 have h1':∀u∈[x],u.oneCell'=true:=fun u hu=>by obtain rfl:=List.mem_singleton.1 hu;exact h1
 obtain ⟨g,cap,w',hr,ho,hg,hat,hlt⟩:=run_append_lies w t ty base E i z 1 bytes ht hi hz hsz hby hz1 hz2 v n xs hown ad 1 c [x] rfl hx h1' (by omega) (by unfold maxLen;omega) l3 l5 _ rfl
 refine ⟨g,cap,w',hr,ho,?_,hg,hat,hlt⟩
 rcases hown.2 with ⟨rfl,rfl⟩|⟨g0,cap0,cur,rfl,hbg,hg0,hnc,hcm,hcs,htake⟩
 ·have:xs=[]:=List.eq_nil_of_length_eq_zero (by simpa using hown.1)
  subst this
  exact World.ownsRow_nil _ _ _ _
 ·by_cases hroom:n+1≤cap0
  ·have hr2:=run_append_room (P:=P) w t ty E i ht hi g0 n cap0 cur hg0 ad 1 c [x] (by rw [hsz];rfl) hx h1' hroom (by rw [hsz,hcs];simp;omega)
   rw [hr] at hr2
   injection hr2 with h2 h3
   subst h3
   refine ⟨hown.1,.inr ⟨g0,cap0,_,rfl,hbg,setRow_heap w g0 cur _ E _ hg0,hnc,hcm,?_,?_⟩⟩
   ·rw [hsz]
    have hcs':cur.toList.length=cap0:=by rw [Array.length_toList,hcs,Nat.mul_one]
    simp only [List.size_toArray,List.length_append,List.length_take,List.length_drop,List.length_singleton,hcs']
    omega
   ·rw [hsz] at*
    have hxl:xs.length=n*1:=hown.1
    rw [htake,List.append_assoc]
    show List.take (n*1) (xs++_)=xs
    rw [←hxl,List.take_left']
    rfl
  ·have holds:∀j u,xs[j]? =some u→w.cell? ((⟨g0,0,none⟩:Addr).add j)=some u:=hown.cells (g:=g0) rfl
   have hr2:=run_append_grow (P:=P) w t ty E i z ht hi hz ⟨g0,0,none⟩ n cap0 xs (by rw [hsz];exact hown.1) holds ad 1 c [x] (by rw [hsz];rfl) hx (by omega) (by omega) (growslice_fits (by omega) (by rw [hby];exact l3))
   rw [hr] at hr2
   injection hr2 with h2 h3
   subst h3
   exact ⟨hown.1,.inr ⟨g0,cap0,cur,rfl,hbg,(heap_alloc_old w.drew _ (Array.getElem?_eq_some_iff.1 hg0).1).trans hg0,hnc,hcm,hcs,htake⟩⟩
end Go.Proofs.YteaaapdjplbljaaGreat
end
