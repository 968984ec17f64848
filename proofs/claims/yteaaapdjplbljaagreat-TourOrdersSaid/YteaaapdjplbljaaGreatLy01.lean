/- Walks over the reference of ways (ref15): Plain, Check, Path. Walks: cmp.Compare, slices.Compare, cmp.Or; path.Less, Cmp, Same. Walks: the reference's Less and Cmp. Rows of routes as they lie in memory, and the reference's Routes. The legs of a tour, in plain Lean. Walk of package tour: right, Legs. Walk of package tour: Legs. The nearest order of some stops: all orders gone through, and those alone that may be nearer. In plain Lean. append of one element onto a row of one's own, which stays what it was. -/
import Derived.Test.YteaaapdjplbljaaGreatLyS
import Derived.Test.YteaaapdjplbljaaGreatProg
import Derived.Test.YteaaapdjplbljaaGreatLw36
import Derived.Test.YteaaapdjplbljaaGreatLw37
import Derived.Test.YteaaapdjplbljaaGreatLw42
import Derived.Deep.Cut
import Derived.Test.YteaaapdjplbljaaGreatLw02
import Derived.Deep.RegionWith
import Derived.Deep.RegionHeld3
import Derived.StillTailTactics
import Derived.Laws.OwnMore
import Derived.Below
set_option linter.unusedVariables false
set_option linter.unusedSimpArgs false
set_option linter.unnecessarySimpa false
section
namespace Go.Proofs.YteaaapdjplbljaaGreat
open Go Go.Proofs Go.RowKit Go.Shelf Go.Proofs.YteaaapdjplbljaaGreat.Hp Go.Proofs.YteaaapdjplbljaaGreat.Ch Go.Proofs.YteaaapdjplbljaaGreat.Ro
theorem Cel.of_owns_new {w:World} {base:Nat} {e:TypeId} {size n:Nat} {v:Value} {xs:List Value} (h:w.ownsRow base e size v n xs):
  ∃ao cap,v=.slice ao n cap∧Cel w ao xs∧∀y,ao=some y→base≤y.block:=by
 obtain ⟨ao,cap,rfl,hc⟩:=Cel.of_owns h
 refine ⟨ao,cap,rfl,hc,fun y hy=>?_⟩
 subst hy
 rcases h.2 with ⟨h1,_⟩|⟨g,c,cur,h1,h2,_⟩
 ·cases h1
 ·cases h1
  exact h2
section
variable {w5 wr w4 w7:World} {rb n:Nat} {x s v:Int} {es:List EdgeD} {D:Int→Int} {l:List Int} {vr v':Value}
end
end Go.Proofs.YteaaapdjplbljaaGreat
end
section
namespace Go.Proofs.YteaaapdjplbljaaGreat
open Go.Proofs Go.RowKit Go.Shelf
def cmpI (a b:Int):Int:=if a<b then -1 else if b<a then 1 else 0
def lexI:List Int→List Int→Int
 |[],[]=>0
 |[],_::_=>-1
 |_::_,[]=>1
 |x::xs,y::ys=>if cmpI x y=0 then lexI xs ys else cmpI x y
theorem cmpI_lt {a b:Int} (h:a<b):cmpI a b= -1:=by unfold cmpI;rw [if_pos h]
theorem cmpI_gt {a b:Int} (h:b<a):cmpI a b=1:=by unfold cmpI;rw [if_neg (by omega),if_pos h]
theorem cmpI_eq {a b:Int} (h:a=b):cmpI a b=0:=by unfold cmpI;rw [if_neg (by omega),if_neg (by omega)]
theorem lex_step {la lb:List Int} {k:Nat} (h1:k<la.length) (h2:k<lb.length):lexI (la.drop k) (lb.drop k)=if cmpI la[k] lb[k]=0 then lexI (la.drop (k+1)) (lb.drop (k+1)) else cmpI la[k] lb[k]:=by
 rw [List.drop_eq_getElem_cons h1,List.drop_eq_getElem_cons h2,lexI]
theorem lex_long {la lb:List Int} {k:Nat} (h1:k<la.length) (h2:lb.length≤k):lexI (la.drop k) (lb.drop k)=1:=by
 rw [List.drop_eq_getElem_cons h1,List.drop_eq_nil_of_le h2,lexI]
theorem lex_end {la lb:List Int} {k:Nat} (h1:la.length≤k) (h2:k≤lb.length) (h3:k=la.length):lexI (la.drop k) (lb.drop k)=if la.length<lb.length then -1 else 0:=by
 rw [List.drop_eq_nil_of_le h1]
 by_cases h:k<lb.length
 ·rw [List.drop_eq_getElem_cons h,lexI,if_pos (by omega)]
 ·rw [List.drop_eq_nil_of_le (by omega),lexI,if_neg (by omega)]
end Go.Proofs.YteaaapdjplbljaaGreat
end
section
namespace Go.Proofs.YteaaapdjplbljaaGreat
open Go.Proofs Go.RowKit Go.Shelf
set_option maxRecDepth 100000 in
set_option maxHeartbeats 1000000 in
theorem refLess_any (ao bo:Option Addr) (ca cb:Nat) (la lb:List Int) (w:World) (hla:la.length≤1048576) (hlb:lb.length≤1048576)
  (ha:Cel w ao (la.map encI)) (hb:Cel w bo (lb.map encI)):
  Calls Tryz.prog 64 #[.slice ao la.length ca,.slice bo lb.length cb] w fun e w'=>e=.returned (.int .i64 (lexI la lb))∧Below w.heap.size w w':=by
 have HA:=Lib.hid ha
 have HB:=Lib.hid hb
 have H0:=Lib.hid (show lexI (la.drop 0) (lb.drop 0)=lexI la lb from rfl)
 clear ha hb
 generalize lexI la lb=r at*
 go_enter Tryz.func64,Tryz.ntmps64
 go_wp2
 go_loopg [5] la.length (fun g i wr=>∃k q:Nat,k≤la.length∧k≤lb.length∧la.length-k≤g∧i=.int .i64 k∧wr=w.drewN q∧Aside (lexI (la.drop k) (lb.drop k)=r))
 case atStart=>exact ⟨0,0,by omega,by omega,by omega,rfl,rfl,H0.out⟩
 case round=>
  clear H0
  obtain ⟨k,q,hk,hkb,hg,rfl,rfl,HR⟩:=hrel
  have k0:(0:Int)≤(k:Int):=by omega
  by_cases hlt:k<la.length
  ·have d1:decide ((k:Int)<(la.length:Int))=true:=by simp;omega
   have i1:(k:Int)<(la.length:Int):=by omega
   by_cases hlb2:k<lb.length
   ·obtain ⟨b1,o1,hao,hc1⟩:=HA.out.at hlt
    obtain ⟨b2,o2,hbo,hc2⟩:=HB.out.at hlb2
    subst hao hbo
    have i2:(k:Int)<(lb.length:Int):=by omega
    have HS:=Lib.hid (lex_step hlt hlb2)
    rw [HR.out] at HS
    generalize la[k]=x at*
    generalize lb[k]=y at*
    by_cases h1:x<y
    ·have HQ:=Lib.hid (by have:=HS.out;rw [cmpI_lt h1] at this;simpa using this:r= -1)
     have t1:decide (x<y)=true:=by simpa using h1
     clear HS HR
     go_wp2
     go_quiet (fail)
     go_wp2
     go_ret
     exact ⟨by rw [HQ.out];rfl,by repeat (first|exact Below.refl _ _|refine Below.al ?_ _|refine Below.dr ?_ _|refine Below.drew ?_|assumption|(refine Below.st ?_ (by assumption)))⟩
    ·have t1:decide (x<y)=false:=by simpa using h1
     by_cases h2:y<x
     ·have HQ:=Lib.hid (by have:=HS.out;rw [cmpI_gt h2] at this;simpa using this:r=1)
      have t2:decide (y<x)=true:=by simpa using h2
      clear HS HR
      go_wp2
      go_quiet (fail)
      go_wp2
      go_quiet (fail)
      go_wp2
      go_ret
      exact ⟨by rw [HQ.out];rfl,by repeat (first|exact Below.refl _ _|refine Below.al ?_ _|refine Below.dr ?_ _|refine Below.drew ?_|assumption|(refine Below.st ?_ (by assumption)))⟩
     ·have t2:decide (y<x)=false:=by simpa using h2
      have HQ:=Lib.hid (by have:=HS.out;rw [cmpI_eq (by omega)] at this;simpa using this:r=lexI (la.drop (k+1)) (lb.drop (k+1)))
      clear HS HR
      go_wp2
      go_quiet (fail)
      go_wp2
      go_quiet (fail)
      go_wp2
      go_roundg (la.length-(k+1))
      case measure=>omega
      case rel=>exact ⟨k+1,_,by omega,by omega,by omega,by go_num,rfl,HQ.out.symm⟩
   ·have HQ:=Lib.hid (lex_long (la:=la) (lb:=lb) hlt (by omega))
    rw [HR.out] at HQ
    have d2:decide ((k:Int)<(lb.length:Int))=false:=by simp;omega
    have i2:¬(k:Int)<(lb.length:Int):=by omega
    have i3:¬(la.length:Int)<(lb.length:Int):=by omega
    have i4:(lb.length:Int)<(la.length:Int):=by omega
    go_wp2
    go_ret
    exact ⟨by rw [HQ.out];rfl,by repeat (first|exact Below.refl _ _|refine Below.al ?_ _|refine Below.dr ?_ _|refine Below.drew ?_|assumption|(refine Below.st ?_ (by assumption)))⟩
  ·obtain rfl:k=la.length:=by omega
   have HQ:=Lib.hid (lex_end (la:=la) (lb:=lb) (Nat.le_refl _) hkb rfl)
   rw [HR.out] at HQ
   have d1:decide ((la.length:Int)<(la.length:Int))=false:=by simp
   have i4:¬(lb.length:Int)<(la.length:Int):=by omega
   by_cases h:la.length<lb.length
   ·have HQ2:=Lib.hid (by have:=HQ.out;rw [if_pos h] at this;exact this:r= -1)
    have i3:(la.length:Int)<(lb.length:Int):=by omega
    go_wp2
    go_ret
    exact ⟨by rw [HQ2.out];rfl,by repeat (first|exact Below.refl _ _|refine Below.al ?_ _|refine Below.dr ?_ _|refine Below.drew ?_|assumption|(refine Below.st ?_ (by assumption)))⟩
   ·have HQ2:=Lib.hid (by have:=HQ.out;rw [if_neg h] at this;exact this:r=0)
    have i3:¬(la.length:Int)<(lb.length:Int):=by omega
    go_wp2
    go_ret
    exact ⟨by rw [HQ2.out];rfl,by repeat (first|exact Below.refl _ _|refine Below.al ?_ _|refine Below.dr ?_ _|refine Below.drew ?_|assumption|(refine Below.st ?_ (by assumption)))⟩
end Go.Proofs.YteaaapdjplbljaaGreat
end
section
namespace Go.Proofs.YteaaapdjplbljaaGreat
open Go Go.Proofs Go.RowKit Go.Shelf
structure RtD where
 es:List Int
 w:Int
deriving DecidableEq
structure RtC where
 ao:Option Addr
 cap:Nat
 r:RtD
def encC (t:RtC):List Value:=[.slice t.ao t.r.es.length t.cap,.int .u64 t.r.w]
def flatR:List RtC→List Value
 |[]=>[]
 |t::l=>encC t++flatR l
theorem flatR_append:∀(a b:List RtC),flatR (a++b)=flatR a++flatR b
 |[],b=>rfl
 |t::a,b=>by rw [List.cons_append,flatR,flatR,flatR_append a b,List.append_assoc]
theorem flatR_snoc (ts:List RtC) (t:RtC):flatR (ts++[t])=flatR ts++encC t:=by rw [flatR_append];simp [flatR]
theorem flatR_at:∀(ts:List RtC) (i:Nat) (h:i<ts.length),(flatR ts)[2*i]? =some (.slice ts[i].ao ts[i].r.es.length ts[i].cap)∧(flatR ts)[2*i+1]? =some (.int .u64 ts[i].r.w)
 |t::l,0,_=>⟨rfl,rfl⟩
 |t::l,i+1,h=>by
  have:=flatR_at l i (by simpa using h)
  have e1:2*(i+1)=2*i+2:=by omega
  rw [e1]
  exact this
theorem Cel.rt {w:World} {ao:Option Addr} {ts:List RtC} (h:Cel w ao (flatR ts)) {i:Nat} (hi:i<ts.length):
  ∃b o,ao=some ⟨b,o,none⟩∧w.cell? ⟨b,o+i*2,none⟩=some (.slice ts[i].ao ts[i].r.es.length ts[i].cap)∧w.cell? ⟨b,o+i*2+1,none⟩=some (.int .u64 ts[i].r.w):=by
 obtain ⟨h1,h2⟩:=flatR_at ts i hi
 obtain ⟨b,o,e,c1⟩:=h _ _ h1
 obtain ⟨b',o',e',c2⟩:=h _ _ h2
 rw [e] at e'
 cases e'
 exact ⟨b,o,e,by rw [Nat.mul_comm];exact c1,by rw [Nat.mul_comm,Nat.add_assoc];exact c2⟩
def Lie (w:World) (ts:List RtC):Prop:=∀t∈ts,Cel w t.ao (t.r.es.map encI)∧t.r.es.length≤1000000
theorem Lie.go {w w':World} {ts:List RtC} (h:Lie w ts) (hb:Below w.heap.size w w'):Lie w' ts:=fun t ht=>⟨(h t ht).1.go hb,(h t ht).2⟩
end Go.Proofs.YteaaapdjplbljaaGreat
end
section
namespace Go.Proofs.YteaaapdjplbljaaGreat
open Go Go.Proofs Go.RowKit Go.Shelf Go.Proofs.YteaaapdjplbljaaGreat.Hp Go.Proofs.YteaaapdjplbljaaGreat.Ch Go.Proofs.YteaaapdjplbljaaGreat.Ro
theorem Ro.RP.visT {es:List EdgeD} {n:Nat} {t:Int} {D:Int→Int} (hA:∀u v w,arcG es u v w→nodeN n u∧nodeN n v∧1≤w) (hD:ToD es n t D) {v:Int} {l:List Int} (h:RP es D v l):nodeN n v→∃vs:List Int,vs.length=l.length+1∧vs.Nodup∧∀u∈vs,nodeN n u∧D u≤D v:=by
 induction h with
 |@stop v h=>exact fun hv=>⟨[v],rfl,by simp,fun u hu=>by rw [List.mem_singleton] at hu;subst hu;exact ⟨hv,Int.le_refl _⟩⟩
 |@go v i l h h0 hr ih=>
  intro hv
  obtain ⟨h1,_,h2,_,_⟩:=first_less hA hD h
  obtain ⟨vs,k1,k2,k3⟩:=ih h1
  refine ⟨v::vs,by simp [k1],List.nodup_cons.2 ⟨fun hm=>?_,k2⟩,fun u hu=>?_⟩
  ·have:=(k3 v hm).2
   omega
  ·rcases List.mem_cons.1 hu with rfl|hm
   ·exact ⟨hv,Int.le_refl _⟩
   ·have:=k3 u hm
    exact ⟨this.1,by omega⟩
theorem routeIs_dist {n:Nat} {es:List EdgeD} {s t:Int} {l:List Int} {x k:Int} (h1:RouteIs n es s t l x k):DistIs n (arcG es) s t x k:=by
 rcases h1 with ⟨rfl,a,b,c,d,_⟩|⟨_,_,rfl,h⟩
 ·exact .inl ⟨rfl,a,b,c,d⟩
 ·exact h
theorem routeIs_bnd {n:Nat} {es:List EdgeD} (hA:∀u v w,arcG es u v w→nodeN n u∧nodeN n v∧1≤w) {s t:Int} {l:List Int} {x k:Int} (h1:RouteIs n es s t l x k):l.length≤n∧0≤x∧x≤1152921504606846976:=by
 rcases h1 with ⟨rfl,a,b,c,d,D,hD,hR⟩|⟨hk,rfl,rfl,_⟩
 ·obtain ⟨vs,k1,k2,k3⟩:=hR.visT hA hD a
  have:=nodes_le (fun u hu=>(k3 u hu).1) k2
  exact ⟨by omega,c.1.nonneg (fun u v w h=>(hA u v w h).2.2),d⟩
 ·exact ⟨Nat.zero_le _,Int.le_refl _,by decide⟩
def rtZ:RtD:=⟨[],0⟩
def LegsOK (n:Nat) (es:List EdgeD) (stops:List Int) (k:Nat) (out:List RtD):Prop:=out.length=k∧∀i,i<k→RouteIs n es (stops.getD i 0) (stops.getD (i+1) 0) (out.getD i rtZ).es (out.getD i rtZ).w 0
theorem LegsOK.start {n:Nat} {es:List EdgeD} {stops:List Int}:LegsOK n es stops 0 []:=⟨rfl,fun i h=>absurd h (Nat.not_lt_zero _)⟩
theorem LegsOK.step {n:Nat} {es:List EdgeD} {stops:List Int} {k:Nat} {out:List RtD} (h:LegsOK n es stops k out) {l:List Int} {x:Int} (hr:RouteIs n es (stops.getD k 0) (stops.getD (k+1) 0) l x 0):LegsOK n es stops (k+1) (out++[⟨l,x⟩]):=by
 refine ⟨by simp [h.1],fun i hi=>?_⟩
 by_cases e:i=k
 ·subst e
  have e1:(out++[(⟨l,x⟩:RtD)]).getD i rtZ=⟨l,x⟩:=by
   have hl:=h.1
   simp [List.getD,←hl]
  rw [e1]
  exact hr
 ·have e1:(out++[(⟨l,x⟩:RtD)]).getD i rtZ=out.getD i rtZ:=by
   have hl:=h.1
   have hio:i<out.length:=by omega
   simp [List.getD,List.getElem?_append_left hio]
  rw [e1]
  exact h.2 i (by omega)
theorem LegsOK.mem {n:Nat} {es:List EdgeD} (hA:∀u v w,arcG es u v w→nodeN n u∧nodeN n v∧1≤w) {stops:List Int} {k:Nat} {out:List RtD} (h:LegsOK n es stops k out):∀r∈out,r.es.length≤n∧0≤r.w∧r.w≤1152921504606846976:=by
 intro r hr
 obtain ⟨i,hi,rfl⟩:=List.getElem_of_mem hr
 have h1:=h.2 i (by rw [←h.1];exact hi)
 have e1:out.getD i rtZ=out[i]:=by simp [List.getD,hi]
 rw [e1] at h1
 exact routeIs_bnd hA h1
def LegIs (n:Nat) (es:List EdgeD) (stops:List Int) (out:List RtD) (at_ f:Int):Prop:=
 (f=0∧at_=0∧LegsOK n es stops (stops.length-1) out)∨
 (f≠0∧out=[]∧∃i:Nat,at_=(i:Int)∧i+1<stops.length∧(∃o,LegsOK n es stops i o)∧∃l x,RouteIs n es (stops.getD i 0) (stops.getD (i+1) 0) l x f)
def wholeE (out:List RtD):List Int:=out.flatMap (·.es)
def wholeW (out:List RtD):Int:=(out.map (·.w)).sum
theorem wholeE_snoc (out:List RtD) (r:RtD):wholeE (out++[r])=wholeE out++r.es:=by simp [wholeE]
theorem wholeW_snoc (out:List RtD) (r:RtD):wholeW (out++[r])=wholeW out+r.w:=by simp [wholeW]
theorem whole_bnd {n:Nat}:∀{out:List RtD},(∀r∈out,r.es.length≤n∧0≤r.w∧r.w≤1152921504606846976)→(wholeE out).length≤n*out.length∧0≤wholeW out∧wholeW out≤1152921504606846976*(out.length:Int)
 |[],_=>⟨Nat.zero_le _,Int.le_refl _,Int.le_refl _⟩
 |r::l,h=>by
  obtain ⟨h1,h2,h3⟩:=h r (List.mem_cons_self ..)
  obtain ⟨k1,k2,k3⟩:=whole_bnd (fun r hr=>h r (List.mem_cons_of_mem _ hr))
  have e1:wholeE (r::l)=r.es++wholeE l:=rfl
  have e2:wholeW (r::l)=r.w+wholeW l:=by simp [wholeW]
  rw [e1,e2,List.length_append,List.length_cons,Nat.mul_add,Nat.mul_one]
  refine ⟨by omega,by omega,?_⟩
  rw [show ((l.length+1:Nat):Int)=(l.length:Int)+1 by omega,Int.mul_add]
  omega
end Go.Proofs.YteaaapdjplbljaaGreat
end
section
namespace Go.Proofs.YteaaapdjplbljaaGreat
open Go Go.Proofs Go.RowKit Go.Shelf Go.Proofs.YteaaapdjplbljaaGreat.Hp Go.Proofs.YteaaapdjplbljaaGreat.Ch Go.Proofs.YteaaapdjplbljaaGreat.Ro
theorem trRight_nil (l:List Int) (ao:Option Addr) (cap:Nat) (w:World) (hc:Cel w ao (l.map encI)) (hl:l.length≤60):
  Calls Tryz.prog 60 #[.pointer none,.slice ao l.length cap] w fun e w'=>e=.returned (.int .i64 1)∧Below w.heap.size w w':=by
 have HO:=Lib.hid (of_nil l [] ao none cap 0 w hc (Cel.nil _ _) hl (by simp))
 simp only [List.length_nil] at HO
 clear hc
 go_enter Tryz.func60,Tryz.ntmps60
 go_wp2_with (go_at_call 65;refine HO.out.mono ?_;rintro e w1 ⟨rfl,hb1⟩;(have HB1:=Lib.hid hb1);clear hb1)
 go_ret
 exact ⟨rfl,HB1.out⟩
theorem trRight_off (hb n:Nat) (es:List EdgeD) (R:List Int) (S:List SC) (O I:List (List Int)) (l:List Int) (ao:Option Addr) (cap:Nat) (w:World) (h:HierM w hb n es R S O I) (hc:Cel w ao (l.map encI)) (hl:l.length≤60) (hno:l.any (outB n)=true):
  Calls Tryz.prog 60 #[.pointer (some ⟨hb,0,none⟩),.slice ao l.length cap] w fun e w'=>e=.returned (.int .i64 7)∧Below w.heap.size w w':=by
 have HO:=Lib.hid (of_off hb n es R S O I l [] ao none cap 0 w h hc (Cel.nil _ _) hl (by simp) (by rw [List.append_nil];exact hno))
 simp only [List.length_nil] at HO
 clear hc h hno
 go_enter Tryz.func60,Tryz.ntmps60
 go_wp2_with (go_at_call 65;refine HO.out.mono ?_;rintro e w1 ⟨rfl,hb1⟩;(have HB1:=Lib.hid hb1);clear hb1)
 go_ret
 exact ⟨rfl,HB1.out⟩
theorem trRight_ok (hb n:Nat) (es:List EdgeD) (R:List Int) (S:List SC) (ro:List Int) (l:List Int) (ao:Option Addr) (cap:Nat) (w:World) (h:BH w hb n es R S ro) (hc:Cel w ao (l.map encI)) (hl:l.length≤60) (hno:∀v∈l,nodeN n v):
  Calls Tryz.prog 60 #[.pointer (some ⟨hb,0,none⟩),.slice ao l.length cap] w fun e w'=>e=.returned (.int .i64 0)∧Below w.heap.size w w':=by
 have HO:=Lib.hid (of_any hb n es R S ro l [] ao none cap 0 w h hc (Cel.nil _ _) hl (by simp) hno (by simp))
 unfold OfPost at HO
 simp only [List.length_nil] at HO
 clear hc h hno
 go_enter Tryz.func60,Tryz.ntmps60
 go_wp2_with (go_at_call 65;refine HO.out.mono ?_;rintro e w1 ⟨ao1,cap1,rows,rfl,-,-,-,hb1⟩;(have HB1:=Lib.hid hb1);clear hb1)
 go_ret
 exact ⟨rfl,HB1.out⟩
def RtsV (B:Nat) (out:List RtD) (v:Value) (W:World):Prop:=∃(a:Option Addr) (c:Nat) (ts:List RtC),v=.slice a ts.length c∧ts.map (·.r)=out∧Cel W a (flatR ts)∧Lie W ts∧(∀x,a=some x→B≤x.block)∧∀t∈ts,∀x,t.ao=some x→B≤x.block
theorem RtsV.go {B:Nat} {out:List RtD} {v:Value} {w w':World} (h:RtsV B out v w) (hb:Below w.heap.size w w'):RtsV B out v w':=by
 obtain ⟨a,c,ts,h1,h2,h3,h4,h5⟩:=h
 exact ⟨a,c,ts,h1,h2,h3.go hb,h4.go hb,h5⟩
def LegPost (n:Nat) (es:List EdgeD) (stops:List Int) (w:World) (e:Ending) (w':World):Prop:=
 ∃(v:Value) (out:List RtD) (x f:Int),e=.returned (.tuple #[v,.int .i64 x,.int .i64 f])∧RtsV w.heap.size out v w'∧Below w.heap.size w w'∧LegIs n es stops out x f
structure TrL (W:World) (v:Value) (ts:List RtC) (wr:World):Prop where
 own:wr.ownsRow W.heap.size 39 2 v ts.length (flatR ts)
 lie:Lie wr ts
 far:∀t∈ts,t.r.es≠[]→∀x,t.ao=some x→v.ownBlock≠some x.block
 below:Below W.heap.size W wr
 new:∀t∈ts,∀x,t.ao=some x→W.heap.size≤x.block
theorem TrL.go {W wr w4:World} {v:Value} {ts:List RtC} (h:TrL W v ts wr) (hz:Below wr.heap.size wr w4):TrL W v ts w4:=
 ⟨hp_owns_go h.own hz,h.lie.go hz,h.far,h.below.st hz,h.new⟩
theorem rt_two (w:World) (x y:Value) (T:TypeId) {k:Nat} (hk:k=w.heap.size):∀j u,[x,y][j]? =some u→(w.alloc (.cells #[x,y] T)).cell? ((⟨k,0,none⟩:Addr).add j)=some u:=by
 intro j u hu
 subst hk
 rw [Addr.add_lit]
 have:=World.cell?_alloc_mark w #[x,y] T (0,0) (0+j)
 rw [this]
 simpa using hu
theorem rt_far {wr:World} {t:RtC} (hl:Cel wr t.ao (t.r.es.map encI)) (hne:t.r.es≠[]) {x:Addr} (hx:t.ao=some x):x.block<wr.heap.size:=by
 cases he:t.r.es with
 |nil=>exact absurd he hne
 |cons a r=>
  rw [he] at hl
  obtain ⟨b,o,e,hc⟩:=hl 0 (encI a) rfl
  rw [hx] at e
  cases e
  exact World.block_lt_of_cell? _ _ hc
theorem TrL.app {W wr w4 w5:World} {v:Value} {ts:List RtC} {t:RtC} {g cap:Nat} (h:TrL W v ts wr) (hz:Below wr.heap.size wr w4) (hl:Cel w4 t.ao (t.r.es.map encI)) (hl6:t.r.es.length≤1000000) (hnew:∀x,t.ao=some x→wr.heap.size≤x.block)
  (hown:w5.ownsRow W.heap.size 39 2 (.slice (some ⟨g,0,none⟩) (ts.length+1) cap) (ts.length+1) (flatR ts++encC t)) (hgr:w4.grownBy w5 v.ownBlock) (hat:v.ownBlock=some g∨g=w4.heap.size):
  TrL W (.slice (some ⟨g,0,none⟩) (ts.length+1) cap) (ts++[t]) w5:=by
 have h4:=h.go hz
 have hfar:∀t'∈ts++[t],t'.r.es≠[]→∀x,t'.ao=some x→v.ownBlock≠some x.block∧x.block<w4.heap.size∧Cel w4 t'.ao (t'.r.es.map encI)∧t'.r.es.length≤1000000:=by
  intro t' ht' hne x hx
  rcases List.mem_append.1 ht' with k|k
  ·have:=h4.lie t' k
   exact ⟨h4.far t' k hne x hx,rt_far this.1 hne hx,this.1,this.2⟩
  ·obtain rfl:=List.mem_singleton.1 k
   refine ⟨fun e=>?_,rt_far hl hne hx,hl,hl6⟩
   have h1:=(h.own.lt _ e).2
   have h2:=hnew x hx
   omega
 refine ⟨by rw [List.length_append,List.length_singleton,flatR_snoc];exact hown,fun t' ht'=>?_,fun t' ht' hne x hx e=>?_,h4.below.grown hgr h4.below.size (fun k hk=>(h4.own.lt k hk).1),fun t' ht' x hx=>?_⟩
 ·by_cases hne:t'.r.es=[]
  ·rw [hne]
   exact ⟨Cel.nil _ _,by simp⟩
  ·cases hx:t'.ao with
   |none=>
    have hcl:Cel w4 t'.ao (t'.r.es.map encI):=by
     rcases List.mem_append.1 ht' with k|k
     ·exact (h4.lie t' k).1
     ·obtain rfl:=List.mem_singleton.1 k
      exact hl
    cases he:t'.r.es with
    |nil=>exact absurd he hne
    |cons a r=>
     rw [he] at hcl
     obtain ⟨b,o,e,_⟩:=hcl 0 (encI a) rfl
     rw [hx] at e
     cases e
   |some x=>
    obtain ⟨h1,h2,h3,h5⟩:=hfar t' ht' hne x hx
    refine ⟨?_,h5⟩
    rw [←hx]
    intro j u hj
    obtain ⟨b,o,e,hc⟩:=h3 j u hj
    rw [hx] at e
    cases e
    exact ⟨b,o,hx,(World.cell?_of_block (hgr.block b h2 (fun e=>h1 e.symm))).trans hc⟩
 ·obtain ⟨h1,h2,_⟩:=hfar t' ht' hne x hx
  obtain rfl:g=x.block:=Option.some.inj e
  rcases hat with k|k
  ·exact h1 k
  ·omega
 ·rcases List.mem_append.1 ht' with k|k
  ·exact h.new t' k x hx
  ·obtain rfl:=List.mem_singleton.1 k
   have:=hnew x hx
   have:=h.below.size
   omega
end Go.Proofs.YteaaapdjplbljaaGreat
end
section
namespace Go.Proofs.YteaaapdjplbljaaGreat
open Go Go.Proofs Go.RowKit Go.Shelf Go.Proofs.YteaaapdjplbljaaGreat.Hp Go.Proofs.YteaaapdjplbljaaGreat.Ch Go.Proofs.YteaaapdjplbljaaGreat.Ro
theorem elem_route:Elem Tryz.prog 39 (.agg #[.slice none 0 0,.int .u64 0]) 2 32:=⟨by kernel_rfl,rfl,by decide⟩
set_option maxRecDepth 100000 in
set_option maxHeartbeats 4000000 in
theorem legs_any (hb n:Nat) (es:List EdgeD) (R:List Int) (S:List SC) (ro:List Int) (l:List Int) (ao:Option Addr) (cap:Nat) (w:World) (h:BH w hb n es R S ro) (hc:Cel w ao (l.map encI)) (hl:l.length≤20) (hno:∀v∈l,nodeN n v)
  (hg:rightG ⟨(n:Int),es⟩=0) (hel:es.length≤40) (hA:∀u v w,arcG es u v w→nodeN n u∧nodeN n v∧1≤w∧w≤4294967296):
  Calls Tryz.prog 14 #[.pointer (some ⟨hb,0,none⟩),.slice ao l.length cap] w (LegPost n es l w):=by
 have HR:=Lib.hid (trRight_ok hb n es R S ro l ao cap w h hc (by omega) hno)
 have HRT:=Lib.hid (fun s t W (hz:Below w.heap.size w W)=>route_any hb n es R S ro s t W (h.go hz) hg hel hA)
 unfold RoutePost at HRT
 have HC:=Lib.hid hc
 have HA3:=Lib.hid (fun (u v w:Int) (h:arcG es u v w)=>(show nodeN n u∧nodeN n v∧1≤w from ⟨(hA u v w h).1,(hA u v w h).2.1,(hA u v w h).2.2.1⟩))
 have hn12:=h.le
 have HN:=Lib.hid hn12
 have hl2:(l.length:Int)≤20:=by omega
 clear h hc hno hg hel hA hn12
 go_enter Tryz.func14,Tryz.ntmps14
 repeat go_step
 refine wp_scope_labels 0 (fun _ _ _ _=>False) ?_ (fun _ _ _ _ h=>h.elim)
 go_wp2_with (go_at_call 60;refine HR.out.mono ?_;rintro e w1 ⟨rfl,hb1⟩;(have HB1:=Lib.hid hb1);clear hb1)
 go_step3
 repeat go_step
 go_loopg [20,4] l.length (fun gg v20 v4 wr=>∃(k:Nat) (ts:List RtC),k≤l.length∧l.length-k≤gg∧v20=.int .i64 k∧Aside (LegsOK n es l (k-1) (ts.map (·.r)))∧Aside (TrL w v4 ts wr))
 case atStart=>exact ⟨0,[],Nat.zero_le _,by omega,rfl,LegsOK.start,⟨World.ownsRow_nil _ _ _ _,(fun t h=>nomatch h),(fun t h=>nomatch h),HB1.out,(fun t h=>nomatch h)⟩⟩
 case round=>
  obtain ⟨k,ts,hk,hgg,rfl,hLg,hT⟩:=hrel
  have HLg:=Lib.hid hLg.out
  have HT:=Lib.hid hT.out
  clear hLg hT
  have htl:ts.length=k-1:=by have:=HLg.out.1;rwa [List.length_map] at this
  by_cases hlt:k<l.length
  ·have hlt2:(k:Int)<(l.length:Int):=by omega
   have hk0:(0:Int)≤(k:Int):=by omega
   obtain ⟨lb,lo,e,y0⟩:=(HC.out.go HT.out.below).at hlt
   subst e
   by_cases hz:k=0
   ·subst hz
    have htn:ts=[]:=List.length_eq_zero_iff.1 htl
    subst htn
    clear htl
    have y0:wr.cell? ⟨lb,lo,none⟩=some (.int .i64 l[0]):=y0
    go_wp2
    go_roundg (l.length-1)
    case measure=>omega
    case rel=>exact ⟨1,[],by omega,by omega,by go_num,HLg.out,HT.out⟩
   ·obtain ⟨j,rfl⟩:∃j,k=j+1:=⟨k-1,by omega⟩
    have hj:j<l.length:=by omega
    obtain ⟨lb',lo',e,y1⟩:=(HC.out.go HT.out.below).at hj
    cases e
    have hj1:(((j+1:Nat):Int)==0)=false:=by rw [beq_eq_false_iff_ne];omega
    have hj2:((j+1:Nat):Int)-1=(j:Int):=by omega
    have hj3:(j:Int)<(l.length:Int):=by omega
    have hj0:(0:Int)≤(j:Int):=by omega
    have HGJ:=Lib.hid (show l.getD j 0=l[j] by simp [List.getD,hj])
    have HGK:=Lib.hid (show l.getD (j+1) 0=l[j+1] by simp [List.getD,hlt])
    have HRJ:=Lib.hid (HRT.out l[j] l[j+1] wr HT.out.below)
    generalize l[j]=s at*
    generalize l[j+1]=t at*
    have hts:ts.length=j:=by omega
    have htsz:ts.length≤20:=by omega
    have HTL:=Lib.hid (And.intro hts htsz)
    have hjb:(j:Int)≤20:=by omega
    obtain ⟨kk,hkk⟩:∃kk:Nat,kk=j+1:=⟨_,rfl⟩
    rw [←hkk] at hj1 hj2 hlt2 hk0 y0 ⊢
    have HKK:=Lib.hid hkk
    have hkb:(kk:Int)≤20:=by omega
    clear htl hkk hts htsz hz
    go_upto_region 9 with (go_at_call 61;refine HRJ.out.mono ?_;rintro e w2 ⟨la,le,lc,x,f,rfl,h1,h2,h3,h4⟩;(have HL1:=Lib.hid h1);(have hb2:=h2);(have HRI:=Lib.hid h3);(have HNW:=Lib.hid h4);clear h1 h2 h3 h4)
    by_cases hf:f=0
    ·subst hf
     have HBN:=Lib.hid (routeIs_bnd HA3.out HRI.out)
     have hle:=HBN.out.1
     have hln:=HN.out
     have HB2:=Lib.hid hb2
     have HZ:=Lib.hid (And.intro HT.out.below.size hb2.size)
     have ht1:=HTL.out.2
     clear y0 y1 hb2
     go_wp2_with (at_builtin;refine wpList_app w.heap.size 39 _ 2 32 elem_route Tryz.underlying34 u4 ts.length _ ⟨w2.heap.size+1,0,none⟩ 1 1 [.slice la le.length lc,.int .u64 x] rfl rfl (World.ownsRow.alloc (World.ownsRow.alloc (hp_owns_go HT.out.own HB2.out) _) _) (rt_two _ _ _ _ (by simp)) (by intro u hu;simp at hu;rcases hu with rfl|rfl<;>rfl) ⟨rfl,by decide,by omega,by omega,by have:=HZ.out;simp;omega⟩ ?_;intro g5 cap5 w5 hown5 hgrow5 hbl5 hat5 hlt5;(have HO5:=Lib.hid hown5);(have HG5:=Lib.hid hgrow5);(have HAT5:=Lib.hid hat5);clear hown5 hgrow5 hbl5 hat5 hlt5)
     have hz:Below wr.heap.size wr ((w2.alloc (Obj.cells #[.slice la le.length lc,.int .u64 x] 39)).alloc (Obj.cells #[.slice la le.length lc,.int .u64 x] 39)):=(HB2.out.st (Below.of_al _ _)).st (Below.of_al _ _)
     have hlc:Cel ((w2.alloc (Obj.cells #[.slice la le.length lc,.int .u64 x] 39)).alloc (Obj.cells #[.slice la le.length lc,.int .u64 x] 39)) la (le.map encI):=(HL1.out.go (Below.of_al _ _)).go (Below.of_al _ _)
     have hap:=HT.out.app (t:=⟨la,lc,⟨le,x⟩⟩) hz hlc (show le.length≤1000000 by omega) HNW.out HO5.out HG5.out HAT5.out
     have hls:=HLg.out
     rw [Nat.add_sub_cancel] at hls
     have hls2:=hls.step (l:=le) (x:=x) (by rw [HGJ.out,HGK.out];exact HRI.out)
     go_roundg (l.length-(kk+1))
     case measure=>omega
     case rel=>exact ⟨kk+1,ts++[(⟨la,lc,⟨le,x⟩⟩:RtC)],by omega,by omega,by go_num,by rw [List.map_append,Nat.add_sub_cancel,HKK.out];exact hls2,hap⟩
    ·have hf1:(f != 0)=true:=by simpa using hf
     have HF:=Lib.hid hf
     clear hf
     go_wp2
     simp only [jumps_ret]
     refine bodyPost_ret (v:=.tuple #[.slice none 0 0,.int .i64 (j:Int),.int .i64 f]) (by simp [results,Tryz.results14,go_sem,hj2];try rfl) rfl ?_
     have hls:=HLg.out
     rw [Nat.add_sub_cancel] at hls
     exact ⟨_,[],(j:Int),f,rfl,⟨none,0,[],rfl,rfl,Cel.nil _ _,(fun t h=>nomatch h),(fun x h=>nomatch h),(fun t h=>nomatch h)⟩,HT.out.below.st (hb2.st (Below.of_al _ _)),.inr ⟨HF.out,rfl,j,rfl,by have:=HKK.out;omega,⟨_,hls⟩,le,x,by rw [HGJ.out,HGK.out];exact HRI.out⟩⟩
  ·obtain rfl:k=l.length:=by omega
   go_wp2
   simp only [jumps_ret]
   obtain ⟨a4,c4,e4,h4,h5⟩:=Cel.of_owns_new HT.out.own
   refine bodyPost_ret (v:=.tuple #[u4,.int .i64 0,.int .i64 0]) (by simp [results,Tryz.results14,go_sem];try rfl) rfl ?_
   exact ⟨_,_,0,0,rfl,⟨a4,c4,ts,e4,rfl,h4,HT.out.lie,h5,HT.out.new⟩,HT.out.below,.inl ⟨rfl,rfl,HLg.out⟩⟩
end Go.Proofs.YteaaapdjplbljaaGreat
end
section
namespace Go.Proofs.YteaaapdjplbljaaGreat.To
open Go.Proofs.YteaaapdjplbljaaGreat
def tailsF (m:Nat):Nat→List Nat→List (List Nat)
 |0,_=>[[]]
 |r+1,so=>(List.range m).flatMap fun i=>if i∈so then [] else (tailsF m r (so++[i])).map (i::·)
def tailC (c:Nat→Nat→Int):Nat→List Nat→Int
 |u,[]=>c u 1
 |u,i::r=>c u (i+2)+tailC c (i+2) r
def tailB (c:Nat→Nat→Int):Nat→List Nat→Bool
 |u,[]=>decide (c u 1<4611686018427387904)
 |u,i::r=>decide (c u (i+2)<4611686018427387904)&&tailB c (i+2) r
theorem tailC_pos {c:Nat→Nat→Int} (h:∀i j,0≤c i j):∀(q:List Nat) (u:Nat),0≤tailC c u q
 |[],u=>h u 1
 |i::r,u=>by
  have:=h u (i+2)
  have:=tailC_pos h r (i+2)
  show 0≤c u (i+2)+tailC c (i+2) r
  omega
def stepF (c:Nat→Nat→Int) (u:Nat) (so:List Nat) (sum:Int) (st:List Nat×Int) (q:List Nat):List Nat×Int:=
 if tailB c u q=true∧sum+tailC c u q<st.2 then (so++q,sum+tailC c u q) else st
def growF (c:Nat→Nat→Int) (m:Nat):Nat→Nat→List Nat→Int→List Nat×Int→List Nat×Int
 |0,u,so,sum,st=>if st.2≤sum then st else if c u 1<4611686018427387904∧sum+c u 1<st.2 then (so,sum+c u 1) else st
 |r+1,u,so,sum,st=>if st.2≤sum then st else (List.range m).foldl (fun st i=>if i∈so then st else if c u (i+2)<4611686018427387904 then growF c m r (i+2) (so++[i]) (sum+c u (i+2)) st else st) st
theorem step_noop {c:Nat→Nat→Int} (h:∀i j,0≤c i j) {u:Nat} {so:List Nat} {sum:Int} {st:List Nat×Int} (hs:st.2≤sum) (l:List (List Nat)):l.foldl (stepF c u so sum) st=st:=by
 induction l with
 |nil=>rfl
 |cons q l ih=>
  rw [List.foldl_cons]
  have:stepF c u so sum st q=st:=by
   unfold stepF
   have:=tailC_pos h q u
   rw [if_neg (by omega)]
  rw [this,ih]
theorem foldl_flat {α β γ:Type} (f:γ→β→γ) (g:α→List β):∀(l:List α) (s:γ),(l.flatMap g).foldl f s=l.foldl (fun s x=>(g x).foldl f s) s
 |[],_=>rfl
 |a::l,s=>by rw [List.flatMap_cons,List.foldl_append,List.foldl_cons,foldl_flat f g l]
theorem foldl_cong {α γ:Type} {f g:γ→α→γ} (h:∀s x,f s x=g s x):∀(l:List α) (s:γ),l.foldl f s=l.foldl g s
 |[],_=>rfl
 |a::l,s=>by rw [List.foldl_cons,List.foldl_cons,h,foldl_cong h l]
theorem grow_fold {c:Nat→Nat→Int} (h:∀i j,0≤c i j) {m:Nat}:∀(r u:Nat) (so:List Nat) (sum:Int) (st:List Nat×Int),growF c m r u so sum st=(tailsF m r so).foldl (stepF c u so sum) st
 |0,u,so,sum,st=>by
  unfold growF tailsF
  by_cases hs:st.2≤sum
  ·rw [if_pos hs,step_noop h hs]
  ·rw [if_neg hs]
   show _=stepF c u so sum st []
   unfold stepF tailB tailC
   rw [List.append_nil]
   simp only [decide_eq_true_eq]
 |r+1,u,so,sum,st=>by
  unfold growF
  by_cases hs:st.2≤sum
  ·rw [if_pos hs,step_noop h hs]
  ·rw [if_neg hs]
   show _=(((List.range m).flatMap fun i=>if i∈so then [] else (tailsF m r (so++[i])).map (i::·))).foldl (stepF c u so sum) st
   rw [foldl_flat]
   refine foldl_cong (fun s i=>?_) _ _
   by_cases hi:i∈so
   ·rw [if_pos hi,if_pos hi]
    rfl
   ·rw [if_neg hi,if_neg hi,List.foldl_map]
    by_cases hd:c u (i+2)<4611686018427387904
    ·rw [if_pos hd,grow_fold h r]
     refine foldl_cong (fun s q=>?_) _ _
     unfold stepF
     have e1:tailB c u (i::q)=tailB c (i+2) q:=by
      show (decide (c u (i+2)<4611686018427387904)&&tailB c (i+2) q)=_
      rw [decide_eq_true hd,Bool.true_and]
     have e2:sum+tailC c u (i::q)=sum+c u (i+2)+tailC c (i+2) q:=by
      show sum+(c u (i+2)+tailC c (i+2) q)=_
      omega
     rw [e1,e2,List.append_assoc]
     rfl
    ·rw [if_neg hd]
     have:∀(l:List (List Nat)) (s:List Nat×Int),l.foldl (fun s q=>stepF c u so sum s (i::q)) s=s:=by
      intro l
      induction l with
      |nil=>intro s;rfl
      |cons q l ih=>
       intro s
       rw [List.foldl_cons]
       have:stepF c u so sum s (i::q)=s:=by
        unfold stepF
        rw [if_neg (fun k=>by
         have h1:=k.1
         have:tailB c u (i::q)=(decide (c u (i+2)<4611686018427387904)&&tailB c (i+2) q):=rfl
         rw [this,decide_eq_false hd,Bool.false_and] at h1
         cases h1)]
       rw [this,ih]
     rw [this]
theorem mem_tails {m:Nat}:∀(r:Nat) (so q:List Nat),q∈tailsF m r so↔q.length=r∧(∀i∈q,i<m∧i∉so)∧q.Nodup
 |0,so,q=>by
  unfold tailsF
  constructor
  ·intro h
   obtain rfl:=List.mem_singleton.1 h
   simp
  ·rintro ⟨h,_⟩
   obtain rfl:=List.length_eq_zero_iff.1 h
   exact List.mem_singleton.2 rfl
 |r+1,so,q=>by
  show q∈((List.range m).flatMap fun i=>if i∈so then [] else (tailsF m r (so++[i])).map (i::·))↔_
  rw [List.mem_flatMap]
  constructor
  ·rintro ⟨i,hi,hq⟩
   by_cases hs:i∈so
   ·rw [if_pos hs] at hq;cases hq
   ·rw [if_neg hs] at hq
    obtain ⟨p,hp,rfl⟩:=List.mem_map.1 hq
    obtain ⟨h1,h2,h3⟩:=(mem_tails r (so++[i]) p).1 hp
    refine ⟨by rw [List.length_cons,h1],fun j hj=>?_,List.nodup_cons.2 ⟨fun hm=>?_,h3⟩⟩
    ·rcases List.mem_cons.1 hj with rfl|hj
     ·exact ⟨List.mem_range.1 hi,hs⟩
     ·have:=h2 j hj
      exact ⟨this.1,fun k=>this.2 (List.mem_append_left _ k)⟩
    ·exact (h2 i hm).2 (by simp)
  ·rintro ⟨h1,h2,h3⟩
   cases q with
   |nil=>cases h1
   |cons i p=>
    obtain ⟨h4,h5⟩:=List.nodup_cons.1 h3
    have h6:=h2 i (List.mem_cons_self ..)
    refine ⟨i,List.mem_range.2 h6.1,?_⟩
    rw [if_neg h6.2]
    refine List.mem_map.2 ⟨p,(mem_tails r (so++[i]) p).2 ⟨by simpa using h1,fun j hj=>?_,h5⟩,rfl⟩
    have h7:=h2 j (List.mem_cons_of_mem _ hj)
    refine ⟨h7.1,fun k=>?_⟩
    rcases List.mem_append.1 k with k|k
    ·exact h7.2 k
    ·obtain rfl:=List.mem_singleton.1 k
     exact h4 hj
theorem tails_rise {m:Nat}:∀(r:Nat) (so:List Nat),(tailsF m r so).Pairwise (fun p q=>¬lexI (q.map Int.ofNat) (p.map Int.ofNat)<0)
 |0,so=>by unfold tailsF;exact List.pairwise_singleton _ _
 |r+1,so=>by
  show ((List.range m).flatMap fun i=>if i∈so then [] else (tailsF m r (so++[i])).map (i::·)).Pairwise _
  have key:∀(L:List Nat),L.Pairwise (· <·)→(L.flatMap fun i=>if i∈so then [] else (tailsF m r (so++[i])).map (i::·)).Pairwise (fun p q=>¬lexI (q.map Int.ofNat) (p.map Int.ofNat)<0):=by
   intro L
   induction L with
   |nil=>intro _;exact List.Pairwise.nil
   |cons i L ih=>
    intro hL
    obtain ⟨h1,h2⟩:=List.pairwise_cons.1 hL
    rw [List.flatMap_cons]
    refine List.pairwise_append.2 ⟨?_,ih h2,?_⟩
    ·by_cases hs:i∈so
     ·rw [if_pos hs];exact List.Pairwise.nil
     ·rw [if_neg hs,List.pairwise_map]
      refine (tails_rise r (so++[i])).imp ?_
      intro p q hpq
      show ¬lexI ((i:Int)::q.map Int.ofNat) ((i:Int)::p.map Int.ofNat)<0
      simpa [lexI,cmpI] using hpq
    ·intro p hp q hq
     by_cases hs:i∈so
     ·rw [if_pos hs] at hp;cases hp
     ·rw [if_neg hs] at hp
      obtain ⟨p',_,rfl⟩:=List.mem_map.1 hp
      obtain ⟨j,hj,hq⟩:=List.mem_flatMap.1 hq
      by_cases hs2:j∈so
      ·rw [if_pos hs2] at hq;cases hq
      ·rw [if_neg hs2] at hq
       obtain ⟨q',_,rfl⟩:=List.mem_map.1 hq
       have hij:=h1 j hj
       show ¬lexI ((j:Int)::q'.map Int.ofNat) ((i:Int)::p'.map Int.ofNat)<0
       have:cmpI (j:Int) (i:Int)=1:=cmpI_gt (by omega)
       simp [lexI,this]
  exact key _ List.pairwise_lt_range
def bestF (c:Nat→Nat→Int) (m:Nat):List Nat×Int:=(tailsF m m []).foldl (stepF c 0 [] 0) ([],4611686018427387904)
theorem fold_least {c:Nat→Nat→Int} {u:Nat}:∀(l:List (List Nat)) (st:List Nat×Int),
  (l.foldl (stepF c u [] 0) st).2≤st.2∧(∀q∈l,tailB c u q=true→(l.foldl (stepF c u [] 0) st).2≤tailC c u q)∧
  (l.foldl (stepF c u [] 0) st=st∨∃q∈l,tailB c u q=true∧l.foldl (stepF c u [] 0) st=(q,tailC c u q))
 |[],st=>⟨Int.le_refl _,by simp,.inl rfl⟩
 |p::l,st=>by
  rw [List.foldl_cons]
  obtain ⟨h1,h2,h3⟩:=fold_least l (stepF c u [] 0 st p)
  have hst:(stepF c u [] 0 st p).2≤st.2∧(tailB c u p=true→(stepF c u [] 0 st p).2≤tailC c u p)∧(stepF c u [] 0 st p=st∨(tailB c u p=true∧stepF c u [] 0 st p=(p,tailC c u p))):=by
   unfold stepF
   by_cases h:tailB c u p=true∧0+tailC c u p<st.2
   ·rw [if_pos h]
    refine ⟨by show 0+tailC c u p≤st.2;omega,fun _=>by show 0+tailC c u p≤_;omega,.inr ⟨h.1,?_⟩⟩
    rw [List.nil_append,Int.zero_add]
   ·rw [if_neg h]
    refine ⟨Int.le_refl _,fun hb=>?_,.inl rfl⟩
    have:¬0+tailC c u p<st.2:=fun k=>h ⟨hb,k⟩
    omega
  refine ⟨Int.le_trans h1 hst.1,fun q hq hb=>?_,?_⟩
  ·rcases List.mem_cons.1 hq with rfl|hq
   ·exact Int.le_trans h1 (hst.2.1 hb)
   ·exact h2 q hq hb
  ·rcases h3 with h3|⟨q,hq,hb,h3⟩
   ·rcases hst.2.2 with h4|⟨h4,h5⟩
    ·exact .inl (h3.trans h4)
    ·exact .inr ⟨p,List.mem_cons_self ..,h4,h3.trans h5⟩
   ·exact .inr ⟨q,List.mem_cons_of_mem _ hq,hb,h3⟩
end Go.Proofs.YteaaapdjplbljaaGreat.To
end
section
namespace Go.Proofs.YteaaapdjplbljaaGreat
open Go Go.Proofs Go.RowKit Go.Shelf
theorem run_appK {P:Program} {w:World} (t ty:TypeId) (base:Nat) (E:TypeId) (z:Value) (bytes:Nat) (hE:Elem P E z 1 bytes) (ht:P.underlying t=some (.slice E))
  (v:Value) (n:Nat) (xs:List Value) (hown:w.ownsRow base E 1 v n xs) (ad:Addr) (c:Nat) (x:Value) (hx:∀j u,[x][j]? =some u→w.cell? (ad.add j)=some u) (h1:x.oneCell'=true)
  (hl:n+1≤9223372036854775807∧(n+1)*bytes≤140737488355328∧base≤w.heap.size):
  ∃g cap w',(Builtin.append_ #[t,t] ty #[v,.slice (some ad) 1 c]).run P w=.ok (.slice (some ⟨g,0,none⟩) (n+1) cap) w'∧w'.ownsRow base E 1 (.slice (some ⟨g,0,none⟩) (n+1) cap) (n+1) (xs++[x])∧w'.ownsRow base E 1 v n xs∧
   w.grownBy w' v.ownBlock∧(v.ownBlock=some g∨g=w.heap.size)∧g<w'.heap.size:=by
 obtain ⟨hE,hz1,hz2⟩:=hE
 obtain ⟨i,hi,hz,hsz,hby⟩:=info_parts hE
 obtain ⟨l2,l3,l5⟩:=hl
 have h1':∀u∈[x],u.oneCell'=true:=fun u hu=>by obtain rfl:=List.mem_singleton.1 hu;exact h1
 obtain ⟨g,cap,w',hr,ho,hg,hat,hlt⟩:=run_append_lies w t ty base E i z 1 bytes ht hi hz hsz hby hz1 hz2 v n xs hown ad 1 c [x] rfl hx h1' (by omega) (by unfold maxLen;omega) l3 l5 _ rfl
 refine ⟨g,cap,w',hr,ho,?_,hg,hat,hlt⟩
 rcases hown.2 with ⟨rfl,rfl⟩|⟨g0,cap0,cur,rfl,hbg,hg0,hnc,hcm,hcs,htake⟩
 ·have:xs=[]:=List.eq_nil_of_length_eq_zero (by simpa using hown.1)
  subst this
  exact World.ownsRow_nil _ _ _ _
 ·by_cases hroom:n+1≤cap0
  ·have hr2:=run_append_room (P:=P) w t ty E i ht hi g0 n cap0 cur hg0 ad 1 c [x] (by rw [hsz];rfl) hx h1' hroom (by rw [hsz,hcs];simp;omega)
   rw [hr] at hr2
   injection hr2 with h2 h3
   subst h3
   refine ⟨hown.1,.inr ⟨g0,cap0,_,rfl,hbg,setRow_heap w g0 cur _ E _ hg0,hnc,hcm,?_,?_⟩⟩
   ·rw [hsz]
    have hcs':cur.toList.length=cap0:=by rw [Array.length_toList,hcs,Nat.mul_one]
    simp only [List.size_toArray,List.length_append,List.length_take,List.length_drop,List.length_singleton,hcs']
    omega
   ·rw [hsz] at*
    have hxl:xs.length=n*1:=hown.1
    rw [htake,List.append_assoc]
    show List.take (n*1) (xs++_)=xs
    rw [←hxl,List.take_left']
    rfl
  ·have holds:∀j u,xs[j]? =some u→w.cell? ((⟨g0,0,none⟩:Addr).add j)=some u:=hown.cells (g:=g0) rfl
   have hr2:=run_append_grow (P:=P) w t ty E i z ht hi hz ⟨g0,0,none⟩ n cap0 xs (by rw [hsz];exact hown.1) holds ad 1 c [x] (by rw [hsz];rfl) hx (by omega) (by omega) (growslice_fits (by omega) (by rw [hby];exact l3))
   rw [hr] at hr2
   injection hr2 with h2 h3
   subst h3
   exact ⟨hown.1,.inr ⟨g0,cap0,cur,rfl,hbg,(heap_alloc_old w.drew _ (Array.getElem?_eq_some_iff.1 hg0).1).trans hg0,hnc,hcm,hcs,htake⟩⟩
end Go.Proofs.YteaaapdjplbljaaGreat
end
