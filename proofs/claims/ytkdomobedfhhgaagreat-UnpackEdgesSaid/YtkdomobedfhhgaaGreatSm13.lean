/- The hierarchy of two edges, one behind the other, whose inner node lies lowest, in plain Lean. Walks: are two rows the same (numbers, wide numbers, texts). What must come at any rate, for the laws of unpack. Walks of ways, by the reference: which rows are edges, the nodes they come by, what they weigh, whether they are ways. What a shortcut stands for is a way of its weight, whose nodes between lie below both its ends, in plain Lean. Walk of the law QueryThirds. Walk of package query where nothing was built: Dist, Peaks, Meet of none. The peaks at which both ends meet, told in two ways, in plain Lean. Walk over the reference of query: Peaks. Walk of package hier: Hierarchy. Walk of the law QueryDists. -/
import Derived.Test.YtkdomobedfhhgaaGreatSm01
import Derived.Test.YtkdomobedfhhgaaGreatSm12
import Derived.Test.YtkdomobedfhhgaaGreatProg
import Derived.Test.YtkdomobedfhhgaaGreatQm01
import Derived.Test.YtkdomobedfhhgaaGreatSm09
import Derived.Test.YtkdomobedfhhgaaGreatQm36
import Derived.Deep.Cut
import Derived.Test.YtkdomobedfhhgaaGreatQm17
import Derived.Test.YtkdomobedfhhgaaGreatQm22
import Derived.Deep.RegionLaw
import Derived.Test.YtkdomobedfhhgaaGreatSm06
import Derived.Test.YtkdomobedfhhgaaGreatSm11
import Derived.Test.YtkdomobedfhhgaaGreatQm26
set_option linter.unusedVariables false
set_option linter.unusedSimpArgs false
set_option linter.unnecessarySimpa false
section
namespace Go.Proofs.YtkdomobedfhhgaaGreat
open Go Go.Proofs Go.RowKit Go.Shelf Go.Proofs.YtkdomobedfhhgaaGreat.Hp Go.Proofs.YtkdomobedfhhgaaGreat.Ch Go.Proofs.YtkdomobedfhhgaaGreat.Ro
abbrev e2E:List EdgeD:=[⟨0,1,1⟩,⟨1,2,1⟩]
abbrev e2R:List Int:=[1,0,2]
theorem e2_arc {u v w:Int}:arcG e2E u v w↔(u=0∧v=1∧w=1)∨(u=1∧v=2∧w=1):=by
 unfold arcG e2E
 constructor
 ·rintro ⟨x,hx,h1,h2,h3⟩
  rcases List.mem_cons.1 hx with rfl|hx
  ·exact .inl ⟨h1.symm,h2.symm,h3.symm⟩
  ·rw [List.mem_singleton] at hx
   subst hx
   exact .inr ⟨h1.symm,h2.symm,h3.symm⟩
 ·rintro (⟨rfl,rfl,rfl⟩|⟨rfl,rfl,rfl⟩)
  ·exact ⟨_,List.mem_cons_self ..,rfl,rfl,rfl⟩
  ·exact ⟨_,List.mem_cons_of_mem _ (List.mem_cons_self ..),rfl,rfl,rfl⟩
theorem e2_pos:∀u v w,arcG e2E u v w→1≤w:=by
 intro u v w h
 rcases e2_arc.1 h with ⟨_,_,rfl⟩|⟨_,_,rfl⟩<;>decide
theorem e2_in:∀u v w,arcG e2E u v w→nodeN 3 u∧nodeN 3 v∧1≤w∧w≤4294967296:=by
 intro u v w h
 rcases e2_arc.1 h with ⟨rfl,rfl,rfl⟩|⟨rfl,rfl,rfl⟩<;>exact ⟨⟨by decide,by decide⟩,⟨by decide,by decide⟩,by decide,by decide⟩
theorem e2_way {p:Int→Prop} {u v d:Int} (h:Ch.Way (arcG e2E) p u v d):(u=0∧v=1∧d=1)∨(u=1∧v=2∧d=1)∨(u=0∧v=2∧d=2):=by
 induction h with
 |one h=>
  rcases e2_arc.1 h with h|h
  ·exact .inl h
  ·exact .inr (.inl h)
 |cons h1 _ _ ih=>
  rcases e2_arc.1 h1 with h|h<;>rcases ih with k|k|k<;>omega
theorem e2_dist {u v d:Int} (h:(u=0∧v=1∧d=1)∨(u=1∧v=2∧d=1)∨(u=0∧v=2∧d=2)):Dist (arcG e2E) u v d:=by
 have a1:arcG e2E 0 1 1:=e2_arc.2 (.inl ⟨rfl,rfl,rfl⟩)
 have a2:arcG e2E 1 2 1:=e2_arc.2 (.inr ⟨rfl,rfl,rfl⟩)
 refine ⟨?_,fun e k=>?_⟩
 ·rcases h with ⟨rfl,rfl,rfl⟩|⟨rfl,rfl,rfl⟩|⟨rfl,rfl,rfl⟩
  ·exact .inr (.one a1)
  ·exact .inr (.one a2)
  ·exact .inr (.cons (w:=1) (d:=1) a1 trivial (.one a2))
 ·rcases k with k|k
  ·omega
  ·have:=e2_way k
   omega
theorem gS {S:List SC} {i:Nat} (hi:i<S.length):S[i]? =some (S.getD i scZ):=by
 rw [List.getD_eq_getElem?_getD,List.getElem?_eq_getElem hi]
 rfl
theorem made_bnd {es:List EdgeD} {R:List Int} {S:List SC} (h:∀j,j<S.length→madeB es R S j=true) (hl:es.length≤1000000) (hs:S.length≤1000000):∀x∈S,-1≤x.e∧x.e≤1000000∧-1≤x.a∧x.a≤1000000∧-1≤x.b∧x.b≤1000000:=by
 intro y hy
 obtain ⟨j,hj,ej⟩:=List.getElem_of_mem hy
 have hyj:S.getD j scZ=y:=by rw [List.getD_eq_getElem?_getD,List.getElem?_eq_getElem hj,ej];rfl
 have hm:=h j hj
 unfold madeB at hm
 rw [hyj,Bool.or_eq_true] at hm
 rcases hm with h1|h1
 ·obtain ⟨h0,z,hz,_⟩:=edgeF_e h1
  have:=(List.getElem?_eq_some_iff.1 hz).1
  unfold edgeF at h1
  simp only [Bool.and_eq_true,beq_iff_eq] at h1
  obtain ⟨⟨⟨_,h2⟩,h3⟩,_⟩:=h1
  omega
 ·obtain ⟨e,a,b,ea,eb,ha,hb,_⟩:=twoF_e h1
  omega
def E2T (S:List SC) (i:Nat) (x:SC):Prop:=
 (x.f=0∧x.t=1∧x.w=1∧x.e=0)∨(x.f=1∧x.t=2∧x.w=1∧x.e=1)∨
 (x.f=0∧x.t=2∧x.w=2∧x.e= -1∧∃a b:Nat,x.a=(a:Int)∧x.b=(b:Int)∧a<i∧b<i∧(S.getD a scZ).e=0∧(S.getD b scZ).e=1)
theorem e2_shape {S:List SC} (h:∀j,j<S.length→madeB e2E e2R S j=true):∀i,i<S.length→E2T S i (S.getD i scZ):=by
 intro i
 induction i using Nat.strongRecOn with
 |ind i ih=>
  intro hi
  have hm:=h i hi
  unfold madeB at hm
  rw [Bool.or_eq_true] at hm
  rcases hm with h1|h1
  ·obtain ⟨h0,y,hy,e1,e2,e3⟩:=edgeF_e h1
   generalize S.getD i scZ=x at*
   obtain ⟨k,hk⟩:∃k:Nat,x.e=(k:Int):=⟨x.e.toNat,by omega⟩
   rw [hk,Int.toNat_natCast] at hy
   match k,hk,hy with
   |0,hk,hy=>cases hy;exact .inl ⟨e1.symm,e2.symm,e3.symm,hk⟩
   |1,hk,hy=>cases hy;exact .inr (.inl ⟨e1.symm,e2.symm,e3.symm,hk⟩)
   |k+2,hk,hy=>simp at hy
  ·obtain ⟨e,a,b,ea,eb,ha,hb,h2,h3,h4,h5,h6,h7⟩:=twoF_e h1
   have ka:=ih a ha (by omega)
   have kb:=ih b hb (by omega)
   unfold E2T at ka kb
   rcases ka with ⟨a1,a2,a3,a4⟩|⟨a1,a2,a3,a4⟩|⟨a1,a2,a3,a4,_⟩<;>rcases kb with ⟨b1,b2,b3,b4⟩|⟨b1,b2,b3,b4⟩|⟨b1,b2,b3,b4,_⟩
   all_goals try (exfalso;rw [a2,b1] at h3;revert h3;decide)
   rw [a3,b3] at h5
   have h5':(S.getD i scZ).w=2:=by rw [←h5];decide
   exact .inr (.inr ⟨by rw [←h2,a1],by rw [←h4,b2],h5',e,a,b,ea,eb,ha,hb,a4,b4⟩)
theorem e2_un {S:List SC} {ro:List Int} (ho:HierOK e2E 3 e2R S ro):FedS S∧2<S.length∧unL S 2=[0,1]∧∀x∈S,-1≤x.e∧x.e≤1000000∧-1≤x.a∧x.a≤1000000∧-1≤x.b∧x.b≤1000000:=by
 have hg:rightG ⟨3,e2E⟩=0:=by decide
 obtain ⟨_,_,_,hm⟩:=made_parts (madeR_built (g:=⟨3,e2E⟩) (n:=3) hg rfl ho (by decide))
 have hF:=made_fed hm
 have hsh:=e2_shape hm
 have hr:∀v:Int,nodeN 3 v→∀k:Int,e2R[v.toNat]? =some k→rk ro v=k:=fun v hv k h=>by
  have:=ho.at1 v hv
  rw [h] at this
  exact (Option.some.inj this).symm
 have r0:=hr 0 ⟨by decide,by decide⟩ 1 rfl
 have r1:=hr 1 ⟨by decide,by decide⟩ 0 rfl
 have r2:=hr 2 ⟨by decide,by decide⟩ 2 rfl
 obtain ⟨x,hx,x1,x2,x3⟩:=ho.h.full 0 2 2 (by decide) (e2_dist (.inr (.inr ⟨rfl,rfl,rfl⟩))) (.cons (w:=1) (d:=1) (e2_arc.2 (.inl ⟨rfl,rfl,rfl⟩)) (by rw [r0,r1,r2];decide) (.one (e2_arc.2 (.inr ⟨rfl,rfl,rfl⟩))))
 obtain ⟨i,hi,ei⟩:=List.getElem_of_mem hx
 have hxi:S.getD i scZ=x:=by rw [List.getD_eq_getElem?_getD,List.getElem?_eq_getElem hi,ei];rfl
 have once:∀p q,p<q→q<S.length→¬((S.getD p scZ).f=(S.getD q scZ).f∧(S.getD p scZ).t=(S.getD q scZ).t):=by
  intro p q hpq hq hh
  have hl:=ho.ltr p q _ _ hpq (gS (by omega)) (gS hq) hh.1 hh.2
  have kp:=hsh p (by omega)
  have kq:=hsh q hq
  unfold E2T at kp kq
  omega
 have ki:=hsh i hi
 rw [hxi] at ki
 unfold E2T at ki
 rcases ki with ⟨_,k,_⟩|⟨k,_⟩|⟨_,_,_,ke,a,b,ea,eb,ha,hb,ka,kb⟩
 ·omega
 ·omega
 ·have hab:a≠b:=fun e=>by rw [e,kb] at ka;revert ka;decide
  obtain ⟨tg,t1,t2⟩:∃tg:Nat→Nat,(∀p,tg p≤2)∧∀p q,p<q→q<S.length→tg p≠tg q:=by
   refine ⟨fun p=>if (S.getD p scZ).f=1 then 1 else if (S.getD p scZ).t=1 then 0 else 2,fun p=>?_,fun p q hpq hq e=>once p q hpq hq ?_⟩
   ·dsimp only
    split
    ·decide
    ·split<;>decide
   ·have kp:=hsh p (by omega)
    have kq:=hsh q hq
    unfold E2T at kp kq
    dsimp only at e
    rcases kp with ⟨p1,p2,_⟩|⟨p1,p2,_⟩|⟨p1,p2,_⟩<;>rcases kq with ⟨q1,q2,_⟩|⟨q1,q2,_⟩|⟨q1,q2,_⟩
    all_goals rw [p1,q1,p2,q2] at e ⊢
    all_goals simp at e ⊢
  have hi2:i=2:=by
   refine Nat.le_antisymm (Classical.byContradiction fun hgt=>?_) (by omega)
   have:=t1 0
   have:=t1 1
   have:=t1 2
   have:=t1 i
   have:=t2 0 1 (by omega) (by omega)
   have:=t2 0 2 (by omega) (by omega)
   have:=t2 1 2 (by omega) (by omega)
   have:=t2 0 i (by omega) hi
   have:=t2 1 i (by omega) hi
   have:=t2 2 i (by omega) hi
   omega
  subst hi2
  refine ⟨hF,hi,?_,?_⟩
  ·rw [unL_two hF hi (by rw [hxi,ke];decide) (by rw [hxi];exact ea) (by rw [hxi];exact eb) ha hb,unL_edge (by rw [ka];decide),unL_edge (by rw [kb];decide),ka,kb]
   rfl
  ·have hl3:S.length≤3:=by
    refine Classical.byContradiction fun hgt=>?_
    have:=t1 0
    have:=t1 1
    have:=t1 2
    have:=t1 3
    have:=t2 0 1 (by omega) (by omega)
    have:=t2 0 2 (by omega) (by omega)
    have:=t2 1 2 (by omega) (by omega)
    have:=t2 0 3 (by omega) (by omega)
    have:=t2 1 3 (by omega) (by omega)
    have:=t2 2 3 (by omega) (by omega)
    omega
   exact made_bnd hm (by decide) (by omega)
theorem e2_route {l:List Int} {x k:Int} (h:RouteIs 3 e2E 0 2 l x k):k=0∧x=2∧l=[0,1]:=by
 have hd:=e2_dist (u:=0) (v:=2) (d:=2) (.inr (.inr ⟨rfl,rfl,rfl⟩))
 rcases h with ⟨hk,_,_,hx,_,D,hD,hr⟩|⟨hk,_,_,hx⟩
 ·have f0:D 0=2:=FarV.uniq (hD 0 ⟨by decide,by decide⟩) (.inl ⟨hd,by decide,by decide⟩)
  have f1:D 1=1:=FarV.uniq (hD 1 ⟨by decide,by decide⟩) (.inl ⟨e2_dist (.inr (.inl ⟨rfl,rfl,rfl⟩)),by decide,by decide⟩)
  have f2:D 2=0:=FarV.uniq (hD 2 ⟨by decide,by decide⟩) (.inl ⟨Dist.self e2_pos 2,by decide,by decide⟩)
  have g0:FirstE e2E D 0 0:=⟨by decide,rfl,⟨by show D 1<_;rw [f1];decide,by show D 1+1=D 0;rw [f0,f1];rfl⟩,fun j _ h=>absurd h (Nat.not_lt_zero _)⟩
  have g1:FirstE e2E D 1 1:=⟨by decide,rfl,⟨by show D 2<_;rw [f2];decide,by show D 2+1=D 1;rw [f2,f1];rfl⟩,fun j _ hj hf=>by
   obtain rfl:j=0:=by omega
   exact absurd (show (0:Int)=1 from hf) (by decide)⟩
  have hp:RP e2E D 0 [((0:Nat):Int),((1:Nat):Int)]:=.go g0 (by rw [f0];decide) (.go (v:=1) g1 (by rw [f1];decide) (.stop f2))
  exact ⟨hk,hx.uniq hd,hr.uniq hp⟩
 ·rcases hx with ⟨h1,_⟩|⟨_,_,_,_,h1⟩|⟨_,_,h1⟩
  ·exact absurd h1 hk
  ·exact absurd hd.1 (h1 _)
  ·exact absurd ⟨⟨by decide,by decide⟩,⟨by decide,by decide⟩⟩ h1
end Go.Proofs.YtkdomobedfhhgaaGreat
end
section
namespace Go.Proofs.YtkdomobedfhhgaaGreat
open Go.Proofs Go.RowKit Go.Shelf
set_option maxHeartbeats 400000 in
theorem sameInts_any (ao bo:Option Addr) (ca cb:Nat) (la lb:List Int) (w:World) (hla:la.length≤9223372036854775807) (hlb:lb.length≤9223372036854775807)
  (ha:Cel w ao (la.map encI)) (hb:Cel w bo (lb.map encI)):
  Calls Tryz.prog 23 #[.slice ao la.length ca,.slice bo lb.length cb] w fun e w'=>e=.returned (.bool (decide (la=lb)))∧∃n,w'=w.drewN n:=by
 have HA:=Lib.hid ha
 have HB:=Lib.hid hb
 clear ha hb
 by_cases hl:la.length=lb.length
 ·have hn2:((la.length:Int) != (lb.length:Int))=false:=by simp;omega
  have HN:=Lib.hid hl
  clear hl
  have HD:=Lib.hid (fun k (h1:k<la.length) (h2:la[k]≠lb[k]'(by have:=HN.out;omega))=>(decide_eq_false (fun e=>h2 (by subst e;rfl)):decide (la=lb)=false))
  have HE:=Lib.hid (fun h:(∀j (h:j<la.length),la[j]=lb[j]'(by have:=HN.out;omega))=>(decide_eq_true (List.ext_getElem HN.out (fun i h1 h2=>h i h1)):decide (la=lb)=true))
  generalize decide (la=lb)=r at*
  go_enter Tryz.func23,Tryz.ntmps23
  go_wp2
  go_loopg [5] la.length (fun g i wr=>∃k q:Nat,k≤la.length∧la.length-k≤g∧i=.int .i64 k∧wr=w.drewN q∧Aside (∀j (h:j<la.length),j<k→la[j]=lb[j]'(by have:=HN.out;omega)))
  case atStart=>exact ⟨0,0,Nat.zero_le _,by omega,rfl,rfl,fun j _ h=>absurd h (Nat.not_lt_zero _)⟩
  case round=>
   obtain ⟨k,q,hk,hg,rfl,rfl,HF⟩:=hrel
   by_cases hlt:k<la.length
   ·have hlt2:k<lb.length:=by have:=HN.out;omega
    have hlt3:(k:Int)<(la.length:Int):=by omega
    have hlt4:(k:Int)<(lb.length:Int):=by omega
    have hk0:(0:Int)≤(k:Int):=by omega
    obtain ⟨b1,o1,hao,hc1⟩:=HA.out.at hlt
    obtain ⟨b2,o2,hbo,hc2⟩:=HB.out.at hlt2
    subst hao hbo
    have HD2:=Lib.hid (HD.out k hlt)
    have HM:=Lib.hid (fun h:la[k]=lb[k]=>(fun j (h1:j<la.length) (h2:j<k+1)=>(by
     by_cases e:j=k
     ·subst e;exact h
     ·exact HF.out j h1 (by omega):la[j]=lb[j]'(by have:=HN.out;omega))))
    generalize la[k]=x at*
    generalize lb[k]=y at*
    go_wp2
    go_quiet (fail)
    go_wp2
    ·have ht:=ne_i (by assumption)
     go_ret
     exact ⟨by rw [HD2.out ht];rfl,q+nq,World.drewN_drewN _ _ _⟩
    ·have ht:=eq_i (by assumption)
     go_roundg (la.length-(k+1))
     case measure=>omega
     case rel=>exact ⟨k+1,q+nq,by omega,by omega,by go_num,rfl,HM.out ht⟩
   ·obtain rfl:k=la.length:=by omega
    go_wp2
    go_ret
    exact ⟨by rw [HE.out (fun j h=>HF.out j h h)];rfl,q,rfl⟩
 ·have hn2:((la.length:Int) != (lb.length:Int))=true:=by simp;omega
  have HN:=Lib.hid (decide_eq_false (fun e=>hl (by subst e;rfl)):decide (la=lb)=false)
  clear hl
  go_enter Tryz.func23,Tryz.ntmps23
  go_wp2
  go_ret
  exact ⟨by rw [HN.out];rfl,0,rfl⟩
end Go.Proofs.YtkdomobedfhhgaaGreat
end
section
namespace Go.Proofs.YtkdomobedfhhgaaGreat
open Go Go.Proofs Go.RowKit Go.Shelf Go.Proofs.YtkdomobedfhhgaaGreat.Hp Go.Proofs.YtkdomobedfhhgaaGreat.Ch Go.Proofs.YtkdomobedfhhgaaGreat.Ro
theorem BltPost2.good {r:List Int} {g:GD} {k:Int} {w w':World} {e:Ending} (h:BltPost2 r g k w e w') (hk:k=0) (hg:rightG g=0) (hn:g.n≤12) (hr:r≠[]):∃hb S ro,e=.returned (.tuple #[.pointer (some ⟨hb,0,none⟩),.int .i64 0])∧BH w' hb g.n.toNat g.es r S ro∧Below w.heap.size w w':=by
 obtain ⟨h1|h1,h2⟩:=h
 ·obtain ⟨_,hb,R,S,ro,e,⟨hm,ho⟩,hR⟩:=h1
  have:=right_n hg
  rw [hR hr] at hm ho
  exact ⟨hb,S,ro,e,⟨hm,ho,by omega,by omega⟩,h2⟩
 ·exact absurd hk h1.1
theorem cel_lits (W:World) (xs:Array Value) (T:TypeId) {k:Nat} (hk:k=W.heap.size):Cel (W.alloc (Obj.cells xs T)) (some ⟨k,0,none⟩) xs.toList:=by
 subst hk
 intro j u hj
 exact ⟨_,_,rfl,(World.cell?_alloc_mark W xs T (0,0) (0+j)).trans (by simpa using hj)⟩
theorem e2_edges {S:List SC} {ro:List Int} {w w':World} {e:Ending} (ho:HierOK e2E 3 e2R S ro) (h:UnAllPost S [2] w e w'):∃a c,e=.returned (.tuple #[.slice a 2 c,.bool true])∧Cel w' a (([0,1]:List Int).map encI)∧Below w.heap.size w w':=by
 obtain ⟨h1,h2,h3,h4⟩:=e2_un ho
 obtain ⟨v,b,out,rfl,k1,k2,k3,k4⟩:=h
 have hb:b=true:=by
  rw [←k3]
  simp only [List.all_cons,List.all_nil,Bool.and_true]
  exact inS_iff.2 ⟨by decide,by omega⟩
 subst hb
 rcases k4 with ⟨_,rfl⟩|⟨k,_⟩
 ·have e:unA S [2]=[0,1]:=by
   show unL S 2++[]=_
   rw [h3]
   rfl
  rw [e] at k1
  obtain ⟨a,c,rfl,hc⟩:=Cel.of_owns k1
  exact ⟨a,c,rfl,hc,k2⟩
 ·cases k
set_option maxRecDepth 100000 in
set_option maxHeartbeats 2000000 in
theorem alive24_any (w:World):Calls Tryz.prog 47 #[] w fun e w'=>e=.returned (.bool true)∧Below w.heap.size w w':=by
 have HBU:=Lib.hid (fun W ao ro (hc:Cel W ao (flat e2E)) (hr:Cel W ro (e2R.map encI))=>built2_any ⟨3,e2E⟩ ao ro 2 3 9 9 e2R W hc hr (fun _=>by decide) (by decide) (by decide))
 have HRT:=Lib.hid (fun W hb S ro (h:BH W hb 3 e2E e2R S ro)=>route_any hb 3 e2E e2R S ro 0 2 W h (by decide) (by decide) e2_in)
 have HED:=Lib.hid (fun W hb S ro (h:BH W hb 3 e2E e2R S ro)=>unEdges_any hb 3 e2E e2R S _ _ (e2_un h.ok).1 2 W h.mem (by
  obtain ⟨h1,h2,h3,h4⟩:=e2_un h.ok
  have:unW S 2=3:=by
   unfold unW
   rw [if_pos (inS_iff.2 ⟨by decide,by omega⟩)]
   show 2*(unL S 2).length-1=3
   rw [h3]
   rfl
  simp [unM,this]) (e2_un h.ok).2.2.2)
 unfold RoutePost at HRT
 go_enter Tryz.func47,Tryz.ntmps47
 go_upto_region 2 with (go_at_call 16;refine (HBU.out _ (some ⟨w.heap.size,0,none⟩) (some ⟨w.heap.size+1,0,none⟩) ((cel_lits w #[.int .i64 0,.int .i64 1,.int .u64 1,.int .i64 1,.int .i64 2,.int .u64 1] _ rfl).go (Below.of_al _ _)) (cel_lits _ #[.int .i64 1,.int .i64 0,.int .i64 2] _ (by simp))).mono ?_;rintro e w1 hp;obtain ⟨hb,S,ro,rfl,hbh,hb1⟩:=hp.good (by decide) (by decide) (by decide) (by decide);(have HBH:=Lib.hid hbh);(have HB1:=Lib.hid (((Below.of_al w _).al _).st hb1));clear hp hbh hb1)
 go_upto_region 3 with (go_at_call 65;refine (HRT.out _ _ _ _ HBH.out).mono ?_;rintro e w2 ⟨la,l,lc,x,k,rfl,hcl,hb2,hri,-⟩;obtain ⟨rfl,rfl,rfl⟩:=e2_route hri;(have HCL:=Lib.hid hcl);(have HB2:=Lib.hid hb2);clear hcl hb2 hri)
 have HBH2:=Lib.hid (fun W (hz:Below w2.heap.size w2 W)=>(HBH.out.go HB2.out).go hz)
 go_upto_region 4 with (go_at_call 49;refine (HED.out _ _ _ _ (HBH2.out _ (by repeat (first|exact Below.refl _ _|refine Below.al ?_ _|refine Below.dr ?_ _|refine Below.drew ?_|assumption|(refine Below.st ?_ (by assumption)))))).mono ?_;rintro e w3 hp;obtain ⟨a3,c3,rfl,hc3,hb3⟩:=e2_edges HBH.out.ok hp;(have HC3:=Lib.hid hc3);(have HB3:=Lib.hid hb3);clear hp hc3 hb3)
 have r0:w3.cell? ⟨w2.heap.size,0,none⟩=some (.slice la 2 lc):=cell_later HB3.out (by go_simp)
 have r1:w3.cell? ⟨w2.heap.size,1,none⟩=some (.int .u64 2):=cell_later HB3.out (by go_simp)
 have HCL3:=Lib.hid ((HCL.out.go (Below.of_al w2 (.cells #[.slice la 2 lc,.int .u64 2] 111))).go HB3.out)
 have HBB:=Lib.hid ((HB1.out.st HB2.out).st ((Below.of_al w2 (.cells #[.slice la 2 lc,.int .u64 2] 111)).trans (HB3.out.mono (Below.of_al w2 _).size)))
 have HSM:=Lib.hid (fun (a A:Option Addr) (c:Nat) W (ha:Cel W a (([0,1]:List Int).map encI)) (hA:Cel W A (([0,1]:List Int).map encI))=>sameInts_any a A c 2 [0,1] [0,1] W (by decide) (by decide) ha hA)
 simp only [decide_true,List.length_cons,List.length_nil,Nat.zero_add,Nat.reduceAdd] at HSM
 clear HBH2 HBU HRT HED
 go_wp2_with fail
 refine (HSM.out _ _ _ _ (HCL3.out.go (Below.of_al _ _)) (cel_lits w3 #[.int .i64 0,.int .i64 1] 3 rfl)).mono ?_
 rintro e w4 ⟨rfl,n4,rfl⟩
 go_wp2_with fail
 refine (HSM.out _ _ _ _ (HC3.out.go (by repeat (first|exact Below.refl _ _|refine Below.al ?_ _|refine Below.dr ?_ _|refine Below.drew ?_|assumption|(refine Below.st ?_ (by assumption))))) (cel_lits _ #[.int .i64 0,.int .i64 1] 3 (by simp))).mono ?_
 rintro e w5 ⟨rfl,n5,rfl⟩
 go_wp2
 go_ret
 exact ⟨rfl,HBB.out.trans (Below.mono (show Below w3.heap.size w3 _ by repeat (first|exact Below.refl _ _|refine Below.al ?_ _|refine Below.dr ?_ _|refine Below.drew ?_|assumption|(refine Below.st ?_ (by assumption)))) HBB.out.size)⟩
end Go.Proofs.YtkdomobedfhhgaaGreat
end
section
namespace Go.Proofs.YtkdomobedfhhgaaGreat
open Go.Proofs Go.RowKit Go.Shelf
end Go.Proofs.YtkdomobedfhhgaaGreat
end
section
namespace Go.Proofs.YtkdomobedfhhgaaGreat
open Go Go.Proofs Go.RowKit Go.Shelf Go.Proofs.YtkdomobedfhhgaaGreat.Hp Go.Proofs.YtkdomobedfhhgaaGreat.Ch
end Go.Proofs.YtkdomobedfhhgaaGreat
end
section
namespace Go.Proofs.YtkdomobedfhhgaaGreat
open Go Go.Proofs Go.RowKit Go.Shelf Go.Proofs.YtkdomobedfhhgaaGreat.Hp Go.Proofs.YtkdomobedfhhgaaGreat.Ch
def lightG (n:Int) (es:List EdgeD):Bool:=(decide (n≤100)||decide (4096<n))&&decide ((es.length:Int)≤300)
set_option maxHeartbeats 1000000 in
theorem light05_any (n:Int) (es:List EdgeD) (ao:Option Addr) (cap:Nat) (w:World):
  Calls Tryz.prog 69 #[.agg #[.int .i64 n,.slice ao es.length cap]] w fun e w'=>e=.returned (.bool (lightG n es))∧Below w.heap.size w w':=by
 unfold lightG
 by_cases h1:n≤100
 ·rw [decide_eq_true h1,Bool.true_or,Bool.true_and]
  have g1:decide (n≤100)=true:=decide_eq_true h1
  go_enter Tryz.func69,Tryz.ntmps69
  go_wp2
  go_ret
  exact ⟨rfl,Below.of_al _ _⟩
 ·rw [decide_eq_false h1,Bool.false_or]
  have g1:decide (n≤100)=false:=decide_eq_false h1
  by_cases h2:4096<n
  ·rw [decide_eq_true h2,Bool.true_and]
   have g2:decide (n>4096)=true:=decide_eq_true h2
   go_enter Tryz.func69,Tryz.ntmps69
   go_wp2
   go_ret
   exact ⟨rfl,Below.of_al _ _⟩
  ·rw [decide_eq_false h2,Bool.false_and]
   have g2:decide (n>4096)=false:=decide_eq_false h2
   go_enter Tryz.func69,Tryz.ntmps69
   go_wp2
   go_ret
   exact ⟨rfl,Below.of_al _ _⟩
def light20 (n:Int) (es:List EdgeD):Bool:=lightG n es&&(decide (n≤12)||decide (4096<n))&&decide ((es.length:Int)≤40)
theorem light20_small {g:GD} (h:light20 g.n g.es=true):(rightG g=0→g.n≤12)∧g.es.length≤40:=by
 unfold light20 at h
 simp only [Bool.and_eq_true,Bool.or_eq_true,decide_eq_true_eq] at h
 refine ⟨fun hr=>?_,by omega⟩
 have:=right_n hr
 omega
set_option maxHeartbeats 1000000 in
theorem light20_any (n:Int) (es:List EdgeD) (ao:Option Addr) (cap:Nat) (w:World):
  Calls Tryz.prog 14 #[.agg #[.int .i64 n,.slice ao es.length cap]] w fun e w'=>e=.returned (.bool (light20 n es))∧Below w.heap.size w w':=by
 have HL:=Lib.hid (light05_any n es ao cap)
 unfold light20
 obtain ⟨W,hW⟩:∃W,W=w.alloc (Obj.cells #[.int .i64 n,.slice ao es.length cap] 24):=⟨_,rfl⟩
 have hbw:Below w.heap.size w W:=by rw [hW];exact Below.of_al _ _
 have c0:W.cell? ⟨w.heap.size,0,none⟩=some (.int .i64 n):=by rw [hW];go_simp
 have c1:W.cell? ⟨w.heap.size,1,none⟩=some (.slice ao es.length cap):=by rw [hW];go_simp
 have HB:=Lib.hid hbw
 have HW:=Lib.hid hW
 clear hbw hW
 cases hb:lightG n es with
 |false=>
  rw [hb] at HL
  clear hb
  go_enter Tryz.func14,Tryz.ntmps14
  go_upto_region 1 with (fail)
  rw [←HW.out]
  go_wp2_with (go_at_call 69;refine (HL.out _).mono ?_;rintro e w1 ⟨rfl,hb1⟩;(have HB1:=Lib.hid hb1);clear hb1)
  go_ret
  exact ⟨by simp,HB.out.st HB1.out⟩
 |true=>
  rw [hb] at HL
  clear hb
  by_cases h1:n≤12
  ·go_enter Tryz.func14,Tryz.ntmps14
   go_upto_region 1 with (fail)
   rw [←HW.out]
   go_wp2_with (go_at_call 69;refine (HL.out _).mono ?_;rintro e w1 ⟨rfl,hb1⟩;(have d0:=cell_later hb1 c0);(have d1:=cell_later hb1 c1);(have HB1:=Lib.hid hb1);clear hb1)
   go_ret
   exact ⟨by simp [h1],HB.out.st HB1.out⟩
  ·by_cases h2:4096<n
   ·go_enter Tryz.func14,Tryz.ntmps14
    go_upto_region 1 with (fail)
    rw [←HW.out]
    go_wp2_with (go_at_call 69;refine (HL.out _).mono ?_;rintro e w1 ⟨rfl,hb1⟩;(have d0:=cell_later hb1 c0);(have d1:=cell_later hb1 c1);(have HB1:=Lib.hid hb1);clear hb1)
    go_ret
    exact ⟨by simp [h1,h2],HB.out.st HB1.out⟩
   ·go_enter Tryz.func14,Tryz.ntmps14
    go_upto_region 1 with (fail)
    rw [←HW.out]
    go_wp2_with (go_at_call 69;refine (HL.out _).mono ?_;rintro e w1 ⟨rfl,hb1⟩;(have d0:=cell_later hb1 c0);(have d1:=cell_later hb1 c1);(have HB1:=Lib.hid hb1);clear hb1)
    go_ret
    exact ⟨by simp [h1,h2];intro h;omega,HB.out.st HB1.out⟩
theorem BltPost.two {g:GD} {k:Int} {w w':World} {e:Ending} (h:BltPost g k w e w'):∃p,e=.returned (.tuple #[.pointer p,.int .i64 k])∧Below w.heap.size w w'∧(k=0→rightG g=0→g.n≤12→∃hb R S ro,p=some ⟨hb,0,none⟩∧BH w' hb g.n.toNat g.es R S ro):=by
 have h0:=h
 obtain ⟨h1|h1,h2⟩:=h
 ·obtain ⟨rfl,hb,R,S,ro,e,hm,ho⟩:=h1
  exact ⟨_,e,h2,fun _ hg hn=>by
   have:=right_n hg
   exact ⟨hb,R,S,ro,rfl,⟨hm,ho,by omega,by omega⟩⟩⟩
 ·exact ⟨none,h1.2,h2,fun hk=>absurd hk h1.1⟩
end Go.Proofs.YtkdomobedfhhgaaGreat
end
section
namespace Go.Proofs.YtkdomobedfhhgaaGreat
open Go Go.Proofs Go.RowKit Go.Shelf Go.Proofs.YtkdomobedfhhgaaGreat.Hp Go.Proofs.YtkdomobedfhhgaaGreat.Ch
end Go.Proofs.YtkdomobedfhhgaaGreat
end
section
namespace Go.Proofs.YtkdomobedfhhgaaGreat
open Go.Proofs.YtkdomobedfhhgaaGreat.Ch
end Go.Proofs.YtkdomobedfhhgaaGreat
end
section
namespace Go.Proofs.YtkdomobedfhhgaaGreat
open Go Go.Proofs Go.RowKit Go.Shelf Go.Proofs.YtkdomobedfhhgaaGreat.Ch
section
variable {A:Int→Int→Int→Prop} {r:Int→Int} {s t d:Int} {k:Nat} {l:List Int}
end
end Go.Proofs.YtkdomobedfhhgaaGreat
end
section
namespace Go.Proofs.YtkdomobedfhhgaaGreat
open Go Go.Proofs Go.RowKit Go.Shelf Go.Proofs.YtkdomobedfhhgaaGreat.Hp Go.Proofs.YtkdomobedfhhgaaGreat.Ch
end Go.Proofs.YtkdomobedfhhgaaGreat
end
section
namespace Go.Proofs.YtkdomobedfhhgaaGreat
open Go Go.Proofs Go.RowKit Go.Shelf Go.Proofs.YtkdomobedfhhgaaGreat.Hp Go.Proofs.YtkdomobedfhhgaaGreat.Ch
theorem BltPost.nil {g:GD} {k:Int} {w w':World} {e:Ending} (h:BltPost g k w e w') (hk:k≠0):e=.returned (.tuple #[.pointer none,.int .i64 k])∧Below w.heap.size w w':=by
 obtain ⟨h1|h1,h2⟩:=h
 ·exact absurd h1.1 hk
 ·exact ⟨h1.2,h2⟩
end Go.Proofs.YtkdomobedfhhgaaGreat
end
