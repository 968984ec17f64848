/- Walks: the reference's Less and Cmp. Rows of routes as they lie in memory, and the reference's Routes. -/
import Derived.Test.YteaaapdjplbljaaProg
import Derived.Test.YteaaapdjplbljaaVa02
set_option linter.unusedVariables false
set_option linter.unusedSimpArgs false
set_option linter.unnecessarySimpa false
section
namespace Go.Proofs.Yteaaapdjplbljaa
open Go.Proofs Go.RowKit Go.Shelf
set_option maxRecDepth 100000 in
set_option maxHeartbeats 1000000 in
theorem refLess_any (ao bo:Option Addr) (ca cb:Nat) (la lb:List Int) (w:World) (hla:la.length≤1048576) (hlb:lb.length≤1048576)
  (ha:Cel w ao (la.map encI)) (hb:Cel w bo (lb.map encI)):
  Calls Try.prog 28 #[.slice ao la.length ca,.slice bo lb.length cb] w fun e w'=>e=.returned (.int .i64 (lexI la lb))∧Below w.heap.size w w':=by
 have HA:=Lib.hid ha
 have HB:=Lib.hid hb
 have H0:=Lib.hid (show lexI (la.drop 0) (lb.drop 0)=lexI la lb from rfl)
 clear ha hb
 generalize lexI la lb=r at*
 go_enter Try.func28,Try.ntmps28
 go_wp2
 go_loopg [5] la.length (fun g i wr=>∃k q:Nat,k≤la.length∧k≤lb.length∧la.length-k≤g∧i=.int .i64 k∧wr=w.drewN q∧Aside (lexI (la.drop k) (lb.drop k)=r))
 case atStart=>exact ⟨0,0,by omega,by omega,by omega,rfl,rfl,H0.out⟩
 case round=>
  clear H0
  obtain ⟨k,q,hk,hkb,hg,rfl,rfl,HR⟩:=hrel
  have k0:(0:Int)≤(k:Int):=by omega
  by_cases hlt:k<la.length
  ·have d1:decide ((k:Int)<(la.length:Int))=true:=by simp;omega
   have i1:(k:Int)<(la.length:Int):=by omega
   by_cases hlb2:k<lb.length
   ·obtain ⟨b1,o1,hao,hc1⟩:=HA.out.at hlt
    obtain ⟨b2,o2,hbo,hc2⟩:=HB.out.at hlb2
    subst hao hbo
    have i2:(k:Int)<(lb.length:Int):=by omega
    have HS:=Lib.hid (lex_step hlt hlb2)
    rw [HR.out] at HS
    generalize la[k]=x at*
    generalize lb[k]=y at*
    by_cases h1:x<y
    ·have HQ:=Lib.hid (by have:=HS.out;rw [cmpI_lt h1] at this;simpa using this:r= -1)
     have t1:decide (x<y)=true:=by simpa using h1
     clear HS HR
     go_wp2
     go_quiet (fail)
     go_wp2
     go_ret
     exact ⟨by rw [HQ.out];rfl,by repeat (first|exact Below.refl _ _|refine Below.al ?_ _|refine Below.dr ?_ _|refine Below.drew ?_|assumption|(refine Below.st ?_ (by assumption)))⟩
    ·have t1:decide (x<y)=false:=by simpa using h1
     by_cases h2:y<x
     ·have HQ:=Lib.hid (by have:=HS.out;rw [cmpI_gt h2] at this;simpa using this:r=1)
      have t2:decide (y<x)=true:=by simpa using h2
      clear HS HR
      go_wp2
      go_quiet (fail)
      go_wp2
      go_quiet (fail)
      go_wp2
      go_ret
      exact ⟨by rw [HQ.out];rfl,by repeat (first|exact Below.refl _ _|refine Below.al ?_ _|refine Below.dr ?_ _|refine Below.drew ?_|assumption|(refine Below.st ?_ (by assumption)))⟩
     ·have t2:decide (y<x)=false:=by simpa using h2
      have HQ:=Lib.hid (by have:=HS.out;rw [cmpI_eq (by omega)] at this;simpa using this:r=lexI (la.drop (k+1)) (lb.drop (k+1)))
      clear HS HR
      go_wp2
      go_quiet (fail)
      go_wp2
      go_quiet (fail)
      go_wp2
      go_roundg (la.length-(k+1))
      case measure=>omega
      case rel=>exact ⟨k+1,_,by omega,by omega,by omega,by go_num,rfl,HQ.out.symm⟩
   ·have HQ:=Lib.hid (lex_long (la:=la) (lb:=lb) hlt (by omega))
    rw [HR.out] at HQ
    have d2:decide ((k:Int)<(lb.length:Int))=false:=by simp;omega
    have i2:¬(k:Int)<(lb.length:Int):=by omega
    have i3:¬(la.length:Int)<(lb.length:Int):=by omega
    have i4:(lb.length:Int)<(la.length:Int):=by omega
    go_wp2
    go_ret
    exact ⟨by rw [HQ.out];rfl,by repeat (first|exact Below.refl _ _|refine Below.al ?_ _|refine Below.dr ?_ _|refine Below.drew ?_|assumption|(refine Below.st ?_ (by assumption)))⟩
  ·obtain rfl:k=la.length:=by omega
   have HQ:=Lib.hid (lex_end (la:=la) (lb:=lb) (Nat.le_refl _) hkb rfl)
   rw [HR.out] at HQ
   have d1:decide ((la.length:Int)<(la.length:Int))=false:=by simp
   have i4:¬(lb.length:Int)<(la.length:Int):=by omega
   by_cases h:la.length<lb.length
   ·have HQ2:=Lib.hid (by have:=HQ.out;rw [if_pos h] at this;exact this:r= -1)
    have i3:(la.length:Int)<(lb.length:Int):=by omega
    go_wp2
    go_ret
    exact ⟨by rw [HQ2.out];rfl,by repeat (first|exact Below.refl _ _|refine Below.al ?_ _|refine Below.dr ?_ _|refine Below.drew ?_|assumption|(refine Below.st ?_ (by assumption)))⟩
   ·have HQ2:=Lib.hid (by have:=HQ.out;rw [if_neg h] at this;exact this:r=0)
    have i3:¬(la.length:Int)<(lb.length:Int):=by omega
    go_wp2
    go_ret
    exact ⟨by rw [HQ2.out];rfl,by repeat (first|exact Below.refl _ _|refine Below.al ?_ _|refine Below.dr ?_ _|refine Below.drew ?_|assumption|(refine Below.st ?_ (by assumption)))⟩
set_option maxRecDepth 100000 in
set_option maxHeartbeats 1000000 in
theorem refCmp_any (ao bo:Option Addr) (ca cb:Nat) (la lb:List Int) (wa wb:Int) (w:World) (hla:la.length≤1048576) (hlb:lb.length≤1048576)
  (ha:Cel w ao (la.map encI)) (hb:Cel w bo (lb.map encI)):
  Calls Try.prog 13 #[.agg #[.slice ao la.length ca,.int .u64 wa],.agg #[.slice bo lb.length cb,.int .u64 wb]] w fun e w'=>e=.returned (.int .i64 (cmpR wa la wb lb))∧Below w.heap.size w w':=by
 have HA:=Lib.hid ha
 have HB:=Lib.hid hb
 clear ha hb
 have HC:=Lib.hid (fun W h1 h2=>refLess_any ao bo ca cb la lb W hla hlb h1 h2)
 by_cases h1:wa<wb
 ·have HR:=Lib.hid (by unfold cmpR;rw [cmpI_lt h1];simp:cmpR wa la wb lb= -1)
  generalize cmpR wa la wb lb=r at*
  go_enter Try.func13,Try.ntmps13
  go_wp2
  go_ret
  exact ⟨by rw [HR.out];rfl,by repeat (first|exact Below.refl _ _|refine Below.al ?_ _|refine Below.dr ?_ _|refine Below.drew ?_|assumption|(refine Below.st ?_ (by assumption)))⟩
 ·by_cases h2:wb<wa
  ·have HR:=Lib.hid (by unfold cmpR;rw [cmpI_gt h2];simp:cmpR wa la wb lb=1)
   generalize cmpR wa la wb lb=r at*
   go_enter Try.func13,Try.ntmps13
   go_wp2
   go_ret
   exact ⟨by rw [HR.out];rfl,by repeat (first|exact Below.refl _ _|refine Below.al ?_ _|refine Below.dr ?_ _|refine Below.drew ?_|assumption|(refine Below.st ?_ (by assumption)))⟩
  ·have HR:=Lib.hid (by unfold cmpR;rw [cmpI_eq (by omega)];simp:cmpR wa la wb lb=lexI la lb)
   generalize cmpR wa la wb lb=r at*
   generalize lexI la lb=r2 at*
   go_enter Try.func13,Try.ntmps13
   go_wp2_with (go_at_call 28;refine (HC.out _ (HA.out.go (by repeat (first|exact Below.refl _ _|refine Below.al ?_ _|refine Below.dr ?_ _|refine Below.drew ?_|assumption|(refine Below.st ?_ (by assumption))))) (HB.out.go (by repeat (first|exact Below.refl _ _|refine Below.al ?_ _|refine Below.dr ?_ _|refine Below.drew ?_|assumption|(refine Below.st ?_ (by assumption)))))).mono ?_;rintro e w1 ⟨rfl,hb1⟩)
   go_ret
   exact ⟨by rw [HR.out];rfl,by repeat (first|exact Below.refl _ _|refine Below.al ?_ _|refine Below.dr ?_ _|refine Below.drew ?_|assumption|(refine Below.st ?_ (by assumption)))⟩
theorem lexI_self:∀l:List Int,lexI l l=0
 |[]=>rfl
 |x::l=>by
  have:=lexI_self l
  simp [lexI,cmpI,this]
theorem cmpR_self (a:Int) (l:List Int):cmpR a l a l=0:=by
 unfold cmpR
 rw [lexI_self,cmpI_eq rfl]
 rfl
end Go.Proofs.Yteaaapdjplbljaa
end
section
namespace Go.Proofs.Yteaaapdjplbljaa
open Go Go.Proofs Go.RowKit Go.Shelf
structure RtD where
 es:List Int
 w:Int
deriving DecidableEq
structure RtC where
 ao:Option Addr
 cap:Nat
 r:RtD
def encC (t:RtC):List Value:=[.slice t.ao t.r.es.length t.cap,.int .u64 t.r.w]
def flatR:List RtC→List Value
 |[]=>[]
 |t::l=>encC t++flatR l
theorem flatR_append:∀(a b:List RtC),flatR (a++b)=flatR a++flatR b
 |[],b=>rfl
 |t::a,b=>by rw [List.cons_append,flatR,flatR,flatR_append a b,List.append_assoc]
theorem flatR_length:∀ts:List RtC,(flatR ts).length=ts.length*2
 |[]=>rfl
 |t::l=>by rw [flatR,List.length_append,flatR_length l,List.length_cons];simp [encC];omega
theorem flatR_at:∀(ts:List RtC) (i:Nat) (h:i<ts.length),(flatR ts)[2*i]? =some (.slice ts[i].ao ts[i].r.es.length ts[i].cap)∧(flatR ts)[2*i+1]? =some (.int .u64 ts[i].r.w)
 |t::l,0,_=>⟨rfl,rfl⟩
 |t::l,i+1,h=>by
  have:=flatR_at l i (by simpa using h)
  have e1:2*(i+1)=2*i+2:=by omega
  rw [e1]
  exact this
abbrev encRt (t:RtC):Value:=.agg #[.slice t.ao t.r.es.length t.cap,.int .u64 t.r.w]
theorem Cel.rt {w:World} {ao:Option Addr} {ts:List RtC} (h:Cel w ao (flatR ts)) {i:Nat} (hi:i<ts.length):
  ∃b o,ao=some ⟨b,o,none⟩∧w.cell? ⟨b,o+i*2,none⟩=some (.slice ts[i].ao ts[i].r.es.length ts[i].cap)∧w.cell? ⟨b,o+i*2+1,none⟩=some (.int .u64 ts[i].r.w):=by
 obtain ⟨h1,h2⟩:=flatR_at ts i hi
 obtain ⟨b,o,e,c1⟩:=h _ _ h1
 obtain ⟨b',o',e',c2⟩:=h _ _ h2
 rw [e] at e'
 cases e'
 exact ⟨b,o,e,by rw [Nat.mul_comm];exact c1,by rw [Nat.mul_comm,Nat.add_assoc];exact c2⟩
theorem lexI_zero:∀{a b:List Int},lexI a b=0→a=b
 |[],[],_=>rfl
 |[],y::b,h=>by simp [lexI] at h
 |x::a,[],h=>by simp [lexI] at h
 |x::a,y::b,h=>by
  by_cases e:cmpI x y=0
  ·have hx:x=y:=by
    unfold cmpI at e
    split at e
    ·cases e
    ·split at e
     ·cases e
     ·omega
   have h2:lexI a b=0:=by simpa [lexI,e] using h
   rw [hx,lexI_zero h2]
  ·simp [lexI,e] at h
theorem cmpR_zero (x y:RtD):(cmpR x.w x.es y.w y.es==0)=decide (x=y):=by
 by_cases h:x=y
 ·subst h
  rw [cmpR_self]
  simp
 ·rw [decide_eq_false h,beq_eq_false_iff_ne]
  intro e
  apply h
  obtain ⟨xe,xw⟩:=x
  obtain ⟨ye,yw⟩:=y
  simp only at e
  unfold cmpR at e
  by_cases e1:cmpI xw yw=0
  ·rw [if_pos e1] at e
   have hx:xw=yw:=by
    unfold cmpI at e1
    split at e1
    ·cases e1
    ·split at e1
     ·cases e1
     ·omega
   rw [hx,lexI_zero e]
  ·rw [if_neg e1] at e
   exact absurd e e1
def Lie (w:World) (ts:List RtC):Prop:=∀t∈ts,Cel w t.ao (t.r.es.map encI)∧t.r.es.length≤1000000
theorem Lie.go {w w':World} {ts:List RtC} (h:Lie w ts) (hb:Below w.heap.size w w'):Lie w' ts:=fun t ht=>⟨(h t ht).1.go hb,(h t ht).2⟩
theorem mapR_get {ta:List RtC} {i:Nat} (h:i<ta.length) (h2:i<(ta.map (·.r)).length):(ta.map (·.r))[i]=ta[i].r:=by simp
end Go.Proofs.Yteaaapdjplbljaa
end
