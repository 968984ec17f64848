/- The hierarchy of two edges, one behind the other, whose inner node lies lowest, in plain Lean. The library's contracts that the proof uses, laid at this program by the kit's own command; no condition. The sweep down a hierarchy, and which labels are exact, in plain Lean. Walks at labels: slices.IndexFunc, slices.DeleteFunc, upward.Find. What the laws of upward ask of labels, in plain Lean. Walk of package upward: Way. -/
import Derived.Test.YtkdomobedfhhgaaGreatRm01
import Derived.Test.YtkdomobedfhhgaaGreatRm06
import Derived.Shelf.Small.Bits
import Derived.Shelf.Small.Wraps
import Derived.Shelf.Strconv.Itoa0
import Derived.Shelf.Bits.Mul64
import Derived.Shelf.Slices.Reverse
import Derived.Ground.Names2Prog
import Derived.Shelf.Slices.Clone
import Derived.Shelf.Slices.SearchI
import Derived.Shelf.Slices.Cells
import Derived.Ground.SlgnProg
import Derived.Shelf.SlicesE.Clone
import Derived.Ground.SlsfProg
import Derived.Shelf.SlSortCmp.Insertion
import Derived.Test.YtkdomobedfhhgaaGreatProg
import Derived.Test.YtkdomobedfhhgaaGreatQm35
import Derived.Test.YtkdomobedfhhgaaGreatQm13
import Derived.Sort.Row
set_option linter.unusedVariables false
set_option linter.unusedSimpArgs false
set_option linter.unnecessarySimpa false
section
namespace Go.Proofs.YtkdomobedfhhgaaGreat
open Go Go.Proofs Go.RowKit Go.Shelf Go.Proofs.YtkdomobedfhhgaaGreat.Hp Go.Proofs.YtkdomobedfhhgaaGreat.Ch Go.Proofs.YtkdomobedfhhgaaGreat.Ro
abbrev e2E:List EdgeD:=[⟨0,1,1⟩,⟨1,2,1⟩]
abbrev e2R:List Int:=[1,0,2]
theorem e2_arc {u v w:Int}:arcG e2E u v w↔(u=0∧v=1∧w=1)∨(u=1∧v=2∧w=1):=by
 unfold arcG e2E
 constructor
 ·rintro ⟨x,hx,h1,h2,h3⟩
  rcases List.mem_cons.1 hx with rfl|hx
  ·exact .inl ⟨h1.symm,h2.symm,h3.symm⟩
  ·rw [List.mem_singleton] at hx
   subst hx
   exact .inr ⟨h1.symm,h2.symm,h3.symm⟩
 ·rintro (⟨rfl,rfl,rfl⟩|⟨rfl,rfl,rfl⟩)
  ·exact ⟨_,List.mem_cons_self ..,rfl,rfl,rfl⟩
  ·exact ⟨_,List.mem_cons_of_mem _ (List.mem_cons_self ..),rfl,rfl,rfl⟩
theorem e2_pos:∀u v w,arcG e2E u v w→1≤w:=by
 intro u v w h
 rcases e2_arc.1 h with ⟨_,_,rfl⟩|⟨_,_,rfl⟩<;>decide
theorem e2_in:∀u v w,arcG e2E u v w→nodeN 3 u∧nodeN 3 v∧1≤w∧w≤4294967296:=by
 intro u v w h
 rcases e2_arc.1 h with ⟨rfl,rfl,rfl⟩|⟨rfl,rfl,rfl⟩<;>exact ⟨⟨by decide,by decide⟩,⟨by decide,by decide⟩,by decide,by decide⟩
theorem e2_way {p:Int→Prop} {u v d:Int} (h:Ch.Way (arcG e2E) p u v d):(u=0∧v=1∧d=1)∨(u=1∧v=2∧d=1)∨(u=0∧v=2∧d=2):=by
 induction h with
 |one h=>
  rcases e2_arc.1 h with h|h
  ·exact .inl h
  ·exact .inr (.inl h)
 |cons h1 _ _ ih=>
  rcases e2_arc.1 h1 with h|h<;>rcases ih with k|k|k<;>omega
theorem e2_dist {u v d:Int} (h:(u=0∧v=1∧d=1)∨(u=1∧v=2∧d=1)∨(u=0∧v=2∧d=2)):Dist (arcG e2E) u v d:=by
 have a1:arcG e2E 0 1 1:=e2_arc.2 (.inl ⟨rfl,rfl,rfl⟩)
 have a2:arcG e2E 1 2 1:=e2_arc.2 (.inr ⟨rfl,rfl,rfl⟩)
 refine ⟨?_,fun e k=>?_⟩
 ·rcases h with ⟨rfl,rfl,rfl⟩|⟨rfl,rfl,rfl⟩|⟨rfl,rfl,rfl⟩
  ·exact .inr (.one a1)
  ·exact .inr (.one a2)
  ·exact .inr (.cons (w:=1) (d:=1) a1 trivial (.one a2))
 ·rcases k with k|k
  ·omega
  ·have:=e2_way k
   omega
theorem gS {S:List SC} {i:Nat} (hi:i<S.length):S[i]? =some (S.getD i scZ):=by
 rw [List.getD_eq_getElem?_getD,List.getElem?_eq_getElem hi]
 rfl
theorem made_bnd {es:List EdgeD} {R:List Int} {S:List SC} (h:∀j,j<S.length→madeB es R S j=true) (hl:es.length≤1000000) (hs:S.length≤1000000):∀x∈S,-1≤x.e∧x.e≤1000000∧-1≤x.a∧x.a≤1000000∧-1≤x.b∧x.b≤1000000:=by
 intro y hy
 obtain ⟨j,hj,ej⟩:=List.getElem_of_mem hy
 have hyj:S.getD j scZ=y:=by rw [List.getD_eq_getElem?_getD,List.getElem?_eq_getElem hj,ej];rfl
 have hm:=h j hj
 unfold madeB at hm
 rw [hyj,Bool.or_eq_true] at hm
 rcases hm with h1|h1
 ·obtain ⟨h0,z,hz,_⟩:=edgeF_e h1
  have:=(List.getElem?_eq_some_iff.1 hz).1
  unfold edgeF at h1
  simp only [Bool.and_eq_true,beq_iff_eq] at h1
  obtain ⟨⟨⟨_,h2⟩,h3⟩,_⟩:=h1
  omega
 ·obtain ⟨e,a,b,ea,eb,ha,hb,_⟩:=twoF_e h1
  omega
def E2T (S:List SC) (i:Nat) (x:SC):Prop:=
 (x.f=0∧x.t=1∧x.w=1∧x.e=0)∨(x.f=1∧x.t=2∧x.w=1∧x.e=1)∨
 (x.f=0∧x.t=2∧x.w=2∧x.e= -1∧∃a b:Nat,x.a=(a:Int)∧x.b=(b:Int)∧a<i∧b<i∧(S.getD a scZ).e=0∧(S.getD b scZ).e=1)
theorem e2_shape {S:List SC} (h:∀j,j<S.length→madeB e2E e2R S j=true):∀i,i<S.length→E2T S i (S.getD i scZ):=by
 intro i
 induction i using Nat.strongRecOn with
 |ind i ih=>
  intro hi
  have hm:=h i hi
  unfold madeB at hm
  rw [Bool.or_eq_true] at hm
  rcases hm with h1|h1
  ·obtain ⟨h0,y,hy,e1,e2,e3⟩:=edgeF_e h1
   generalize S.getD i scZ=x at*
   obtain ⟨k,hk⟩:∃k:Nat,x.e=(k:Int):=⟨x.e.toNat,by omega⟩
   rw [hk,Int.toNat_natCast] at hy
   match k,hk,hy with
   |0,hk,hy=>cases hy;exact .inl ⟨e1.symm,e2.symm,e3.symm,hk⟩
   |1,hk,hy=>cases hy;exact .inr (.inl ⟨e1.symm,e2.symm,e3.symm,hk⟩)
   |k+2,hk,hy=>simp at hy
  ·obtain ⟨e,a,b,ea,eb,ha,hb,h2,h3,h4,h5,h6,h7⟩:=twoF_e h1
   have ka:=ih a ha (by omega)
   have kb:=ih b hb (by omega)
   unfold E2T at ka kb
   rcases ka with ⟨a1,a2,a3,a4⟩|⟨a1,a2,a3,a4⟩|⟨a1,a2,a3,a4,_⟩<;>rcases kb with ⟨b1,b2,b3,b4⟩|⟨b1,b2,b3,b4⟩|⟨b1,b2,b3,b4,_⟩
   all_goals try (exfalso;rw [a2,b1] at h3;revert h3;decide)
   rw [a3,b3] at h5
   have h5':(S.getD i scZ).w=2:=by rw [←h5];decide
   exact .inr (.inr ⟨by rw [←h2,a1],by rw [←h4,b2],h5',e,a,b,ea,eb,ha,hb,a4,b4⟩)
theorem e2_un {S:List SC} {ro:List Int} (ho:HierOK e2E 3 e2R S ro):FedS S∧2<S.length∧unL S 2=[0,1]∧∀x∈S,-1≤x.e∧x.e≤1000000∧-1≤x.a∧x.a≤1000000∧-1≤x.b∧x.b≤1000000:=by
 have hg:rightG ⟨3,e2E⟩=0:=by decide
 obtain ⟨_,_,_,hm⟩:=made_parts (madeR_built (g:=⟨3,e2E⟩) (n:=3) hg rfl ho (by decide))
 have hF:=made_fed hm
 have hsh:=e2_shape hm
 have hr:∀v:Int,nodeN 3 v→∀k:Int,e2R[v.toNat]? =some k→rk ro v=k:=fun v hv k h=>by
  have:=ho.at1 v hv
  rw [h] at this
  exact (Option.some.inj this).symm
 have r0:=hr 0 ⟨by decide,by decide⟩ 1 rfl
 have r1:=hr 1 ⟨by decide,by decide⟩ 0 rfl
 have r2:=hr 2 ⟨by decide,by decide⟩ 2 rfl
 obtain ⟨x,hx,x1,x2,x3⟩:=ho.h.full 0 2 2 (by decide) (e2_dist (.inr (.inr ⟨rfl,rfl,rfl⟩))) (.cons (w:=1) (d:=1) (e2_arc.2 (.inl ⟨rfl,rfl,rfl⟩)) (by rw [r0,r1,r2];decide) (.one (e2_arc.2 (.inr ⟨rfl,rfl,rfl⟩))))
 obtain ⟨i,hi,ei⟩:=List.getElem_of_mem hx
 have hxi:S.getD i scZ=x:=by rw [List.getD_eq_getElem?_getD,List.getElem?_eq_getElem hi,ei];rfl
 have once:∀p q,p<q→q<S.length→¬((S.getD p scZ).f=(S.getD q scZ).f∧(S.getD p scZ).t=(S.getD q scZ).t):=by
  intro p q hpq hq hh
  have hl:=ho.ltr p q _ _ hpq (gS (by omega)) (gS hq) hh.1 hh.2
  have kp:=hsh p (by omega)
  have kq:=hsh q hq
  unfold E2T at kp kq
  omega
 have ki:=hsh i hi
 rw [hxi] at ki
 unfold E2T at ki
 rcases ki with ⟨_,k,_⟩|⟨k,_⟩|⟨_,_,_,ke,a,b,ea,eb,ha,hb,ka,kb⟩
 ·omega
 ·omega
 ·have hab:a≠b:=fun e=>by rw [e,kb] at ka;revert ka;decide
  obtain ⟨tg,t1,t2⟩:∃tg:Nat→Nat,(∀p,tg p≤2)∧∀p q,p<q→q<S.length→tg p≠tg q:=by
   refine ⟨fun p=>if (S.getD p scZ).f=1 then 1 else if (S.getD p scZ).t=1 then 0 else 2,fun p=>?_,fun p q hpq hq e=>once p q hpq hq ?_⟩
   ·dsimp only
    split
    ·decide
    ·split<;>decide
   ·have kp:=hsh p (by omega)
    have kq:=hsh q hq
    unfold E2T at kp kq
    dsimp only at e
    rcases kp with ⟨p1,p2,_⟩|⟨p1,p2,_⟩|⟨p1,p2,_⟩<;>rcases kq with ⟨q1,q2,_⟩|⟨q1,q2,_⟩|⟨q1,q2,_⟩
    all_goals rw [p1,q1,p2,q2] at e ⊢
    all_goals simp at e ⊢
  have hi2:i=2:=by
   refine Nat.le_antisymm (Classical.byContradiction fun hgt=>?_) (by omega)
   have:=t1 0
   have:=t1 1
   have:=t1 2
   have:=t1 i
   have:=t2 0 1 (by omega) (by omega)
   have:=t2 0 2 (by omega) (by omega)
   have:=t2 1 2 (by omega) (by omega)
   have:=t2 0 i (by omega) hi
   have:=t2 1 i (by omega) hi
   have:=t2 2 i (by omega) hi
   omega
  subst hi2
  refine ⟨hF,hi,?_,?_⟩
  ·rw [unL_two hF hi (by rw [hxi,ke];decide) (by rw [hxi];exact ea) (by rw [hxi];exact eb) ha hb,unL_edge (by rw [ka];decide),unL_edge (by rw [kb];decide),ka,kb]
   rfl
  ·have hl3:S.length≤3:=by
    refine Classical.byContradiction fun hgt=>?_
    have:=t1 0
    have:=t1 1
    have:=t1 2
    have:=t1 3
    have:=t2 0 1 (by omega) (by omega)
    have:=t2 0 2 (by omega) (by omega)
    have:=t2 1 2 (by omega) (by omega)
    have:=t2 0 3 (by omega) (by omega)
    have:=t2 1 3 (by omega) (by omega)
    have:=t2 2 3 (by omega) (by omega)
    omega
   exact made_bnd hm (by decide) (by omega)
theorem e2_route {l:List Int} {x k:Int} (h:RouteIs 3 e2E 0 2 l x k):k=0∧x=2∧l=[0,1]:=by
 have hd:=e2_dist (u:=0) (v:=2) (d:=2) (.inr (.inr ⟨rfl,rfl,rfl⟩))
 rcases h with ⟨hk,_,_,hx,_,D,hD,hr⟩|⟨hk,_,_,hx⟩
 ·have f0:D 0=2:=FarV.uniq (hD 0 ⟨by decide,by decide⟩) (.inl ⟨hd,by decide,by decide⟩)
  have f1:D 1=1:=FarV.uniq (hD 1 ⟨by decide,by decide⟩) (.inl ⟨e2_dist (.inr (.inl ⟨rfl,rfl,rfl⟩)),by decide,by decide⟩)
  have f2:D 2=0:=FarV.uniq (hD 2 ⟨by decide,by decide⟩) (.inl ⟨Dist.self e2_pos 2,by decide,by decide⟩)
  have g0:FirstE e2E D 0 0:=⟨by decide,rfl,⟨by show D 1<_;rw [f1];decide,by show D 1+1=D 0;rw [f0,f1];rfl⟩,fun j _ h=>absurd h (Nat.not_lt_zero _)⟩
  have g1:FirstE e2E D 1 1:=⟨by decide,rfl,⟨by show D 2<_;rw [f2];decide,by show D 2+1=D 1;rw [f2,f1];rfl⟩,fun j _ hj hf=>by
   obtain rfl:j=0:=by omega
   exact absurd (show (0:Int)=1 from hf) (by decide)⟩
  have hp:RP e2E D 0 [((0:Nat):Int),((1:Nat):Int)]:=.go g0 (by rw [f0];decide) (.go (v:=1) g1 (by rw [f1];decide) (.stop f2))
  exact ⟨hk,hx.uniq hd,hr.uniq hp⟩
 ·rcases hx with ⟨h1,_⟩|⟨_,_,_,_,h1⟩|⟨_,_,h1⟩
  ·exact absurd h1 hk
  ·exact absurd hd.1 (h1 _)
  ·exact absurd ⟨⟨by decide,by decide⟩,⟨by decide,by decide⟩⟩ h1
end Go.Proofs.YtkdomobedfhhgaaGreat
end
section
namespace Go.Proofs
open Go.Shelf
def Tryz.lays112_ren:Go.Shelf.Ren:=⟨fun|112=>91|n=>n,fun|28=>25|3=>3|4=>4|0=>0|n=>n,fun|n=>n⟩
theorem Tryz.lays112:Go.Proofs.Lays.n112 Tryz.prog Tryz.lays112_ren:={
 mixed:=by kernel_rfl
 f112:=Tryz.func91.trans (congrArg some (by kernel_rfl))
 t0:=Tryz.underlying0
 a0:=Tryz.isAgg0
 z0:=Tryz.sizeOf0
 v0:=Tryz.zeroValue0
 t3:=Tryz.underlying3
 a3:=Tryz.isAgg3
 z3:=Tryz.sizeOf3
 v3:=Tryz.zeroValue3
 t4:=Tryz.underlying4
 a4:=Tryz.isAgg4
 z4:=Tryz.sizeOf4
 v4:=Tryz.zeroValue4
 t28:=Tryz.underlying25
 a28:=Tryz.isAgg25
 z28:=Tryz.sizeOf25
 v28:=Tryz.zeroValue25 }
open Go.RowKit Go.Lib Go.Sort in
theorem Tryz.slices_Reverse_int (blk off cap:Nat) (zs:List Int) (w:World) (hH:Holds (Value.int .i64) w blk off zs.toArray) (hsz:zs.length≤9223372036854775807):
  Calls Tryz.prog 91 #[.slice (some ⟨blk,off,none⟩) zs.length cap] w fun e w'=>e=.returned (.tuple #[])∧∃n,w'=putRow (Value.int .i64) (Sort.ahead w n) blk off zs.reverse.toArray:=Any.slices_Reverse_int Tryz.lays112 blk off cap zs w hH hsz
open Go.RowKit Go.Lib Go.Sort in
theorem Tryz.slices_Reverse_int_empty (a:Option Addr) (cap:Nat) (w:World):
  Calls Tryz.prog 91 #[.slice a 0 cap] w fun e w'=>e=.returned (.tuple #[])∧w'=w:=Any.slices_Reverse_int_empty Tryz.lays112 a cap w
end Go.Proofs
end
section
namespace Go.Proofs.YtkdomobedfhhgaaGreat
open Go Go.Proofs Go.RowKit Go.Shelf Go.Proofs.YtkdomobedfhhgaaGreat.Hp Go.Proofs.YtkdomobedfhhgaaGreat.Ch
theorem gD_setN {d:List Int} {v:Nat} {u x:Int} (hl:v<d.length) (hu:0≤u):gD (d.set v x) u=if u=(v:Int) then x else gD d u:=by
 have:=gD_set (d:=d) (v:=(v:Int)) (u:=u) (x:=x) (by omega) (by rw [Int.toNat_natCast];exact hl) hu
 rwa [Int.toNat_natCast] at this
def lowF (v:Nat) (f:List Int) (x:Step3):List Int:=f.set v (min (gD f (v:Int)) (gD f x.2.1+x.2.2))
def lowsF (v:Nat) (f:List Int) (l:List Step3):List Int:=l.foldl (lowF v) f
theorem lowsF_snoc (v:Nat) (f:List Int) (l:List Step3) (x:Step3):lowsF v f (l++[x])=lowF v (lowsF v f l) x:=by unfold lowsF;rw [List.foldl_append];rfl
theorem lowF_len (v:Nat) (f:List Int) (x:Step3):(lowF v f x).length=f.length:=by unfold lowF;rw [List.length_set]
theorem lowsF_len (v:Nat):∀(l:List Step3) (f:List Int),(lowsF v f l).length=f.length
 |[],_=>rfl
 |x::l,f=>by show (lowsF v (lowF v f x) l).length=_;rw [lowsF_len v l,lowF_len]
theorem lowF_at {v:Nat} {f:List Int} (hv:v<f.length) (x:Step3) {u:Int} (hu:0≤u):gD (lowF v f x) u=if u=(v:Int) then min (gD f (v:Int)) (gD f x.2.1+x.2.2) else gD f u:=gD_setN hv hu
theorem lowsF_spec {v:Nat}:∀(l:List Step3) (f:List Int),v<f.length→(∀x∈l,0≤x.2.1∧x.2.1≠(v:Int))→
  (∀u,0≤u→u≠(v:Int)→gD (lowsF v f l) u=gD f u)∧gD (lowsF v f l) (v:Int)≤gD f (v:Int)∧(∀x∈l,gD (lowsF v f l) (v:Int)≤gD f x.2.1+x.2.2)∧(gD (lowsF v f l) (v:Int)=gD f (v:Int)∨∃x∈l,gD (lowsF v f l) (v:Int)=gD f x.2.1+x.2.2)
 |[],f,_,_=>⟨fun _ _ _=>rfl,Int.le_refl _,fun _ h=>(by simp at h),.inl rfl⟩
 |x::l,f,hv,hl=>by
  obtain ⟨i1,i2,i3,i4⟩:=lowsF_spec l (lowF v f x) (by rw [lowF_len];exact hv) (fun y hy=>hl y (List.mem_cons_of_mem _ hy))
  have e:lowsF v f (x::l)=lowsF v (lowF v f x) l:=rfl
  have hx:=hl x (List.mem_cons_self ..)
  have h0:gD (lowF v f x) (v:Int)=min (gD f (v:Int)) (gD f x.2.1+x.2.2):=by rw [lowF_at hv x (by omega),if_pos rfl]
  have h1:gD (lowF v f x) (v:Int)≤gD f (v:Int):=by rw [h0];exact Int.min_le_left _ _
  have h2:gD (lowF v f x) (v:Int)≤gD f x.2.1+x.2.2:=by rw [h0];exact Int.min_le_right _ _
  have hne:∀u,0≤u→u≠(v:Int)→gD (lowF v f x) u=gD f u:=fun u hu hn=>by rw [lowF_at hv x hu,if_neg hn]
  rw [e]
  refine ⟨fun u hu hn=>(i1 u hu hn).trans (hne u hu hn),by omega,?_,?_⟩
  ·intro y hy
   rcases List.mem_cons.1 hy with rfl|hy
   ·omega
   ·have:=i3 y hy
    rw [hne _ (hl y (List.mem_cons_of_mem _ hy)).1 (hl y (List.mem_cons_of_mem _ hy)).2] at this
    exact this
  ·rcases i4 with h|⟨y,hy,h⟩
   ·rw [h,h0]
    rcases Int.le_total (gD f (v:Int)) (gD f x.2.1+x.2.2) with k|k
    ·exact .inl (Int.min_eq_left k)
    ·exact .inr ⟨x,List.mem_cons_self ..,Int.min_eq_right k⟩
   ·rw [hne _ (hl y (List.mem_cons_of_mem _ hy)).1 (hl y (List.mem_cons_of_mem _ hy)).2] at h
    exact .inr ⟨y,List.mem_cons_of_mem _ hy,h⟩
def layF (f:List Int) (l:List LB):List Int:=l.foldl (fun f a=>f.set a.v.toNat a.d) f
theorem layF_snoc (f:List Int) (l:List LB) (x:LB):layF f (l++[x])=(layF f l).set x.v.toNat x.d:=by unfold layF;rw [List.foldl_append];rfl
theorem layF_len:∀(l:List LB) (f:List Int),(layF f l).length=f.length
 |[],_=>rfl
 |x::l,f=>by show (layF (f.set x.v.toNat x.d) l).length=_;rw [layF_len l,List.length_set]
theorem layF_spec:∀(l:List LB) (f:List Int),(∀a∈l,nodeN f.length a.v)→l.Pairwise (fun a b=>a.v≠b.v)→(∀a∈l,gD (layF f l) a.v=a.d)∧∀u,0≤u→(∀a∈l,a.v≠u)→gD (layF f l) u=gD f u
 |[],f,_,_=>⟨fun _ h=>(by simp at h),fun _ _ _=>rfl⟩
 |x::l,f,hn,hp=>by
  obtain ⟨h1,h2⟩:=List.pairwise_cons.1 hp
  have hx:=hn x (List.mem_cons_self ..)
  have hxl:x.v.toNat<f.length:=by have:=hx.1;have:=hx.2;omega
  have e:layF f (x::l)=layF (f.set x.v.toNat x.d) l:=rfl
  obtain ⟨i1,i2⟩:=layF_spec l (f.set x.v.toNat x.d) (fun a ha=>by rw [List.length_set];exact hn a (List.mem_cons_of_mem _ ha)) h2
  rw [e]
  refine ⟨fun a ha=>?_,fun u hu ha=>?_⟩
  ·rcases List.mem_cons.1 ha with rfl|ha
   ·rw [i2 a.v hx.1 (fun b hb k=>h1 b hb k.symm),gD_set hx.1 hxl hx.1,if_pos rfl]
   ·exact i1 a ha
  ·rw [i2 u hu (fun b hb=>ha b (List.mem_cons_of_mem _ hb)),gD_set hx.1 hxl hu,if_neg (fun k=>ha x (List.mem_cons_self ..) k.symm)]
theorem gD_rep {n:Nat} {v:Int} (_hv:nodeN n v):gD (List.replicate n FAR) v=FAR:=by
 unfold gD
 rw [List.getD_eq_getElem?_getD,List.getElem?_replicate]
 split<;>rfl
structure Swp (A:Int→Int→Int→Prop) (r:Int→Int) (s:Int) (n:Nat) (k:Nat) (f:List Int):Prop where
 kn:k≤n
 len:f.length=n
 val:∀v,nodeN n v→gD f v=FAR∨(Way0 A Any s v (gD f v)∧gD f v≤211106232532992+((n:Int)-k)*17592186044416)
 pk:∀v d,Peak A r s v d→gD f v≤d∧d≤211106232532992
 dn:∀v,nodeN n v→(k:Int)≤r v→∀d,Dist A s v d→gD f v=d∧d≤211106232532992+((n:Int)-k)*17592186044416
theorem farC:FAR=4611686018427387904:=rfl
theorem Swp.bd {A:Int→Int→Int→Prop} {r:Int→Int} {s:Int} {n k:Nat} {f:List Int} (hA:∀u v w,A u v w→1≤w) (hn:n≤12) (h:Swp A r s n k f) {v:Int} (hv:nodeN n v):0≤gD f v∧gD f v≤4611686018427387904:=by
 have h1:=h.kn
 have h2:((n:Int)-k)*17592186044416≤12*17592186044416:=Int.mul_le_mul_of_nonneg_right (by omega) (by decide)
 rcases h.val v hv with e|⟨e1,e2⟩
 ·rw [e,farC];omega
 ·have:=e1.nonneg hA
  omega
section
variable {es:List EdgeD} {n:Nat} {R:List Int} {S:List SC} {ro:List Int}
theorem down_step (h:HierOK es n R S ro) (back:Bool) {u:Nat} (hu:u<n) {i y w:Int} (hx:XN S back i y (u:Int) w) (hr:rk ro (u:Int)<rk ro y):∃j,(j,y,w)∈stepsB R S n u (back != true):=by
 obtain ⟨x,h0,hx,rfl,he⟩:=hx
 obtain ⟨hi,e⟩:=List.getElem?_eq_some_iff.1 hx
 refine ⟨(i.toNat:Int),(steps_mem h _ hu _).2 ⟨i.toNat,hi,?_,?_⟩⟩
 ·rw [e]
  cases back with
  |true=>simp only [if_true,bne_self_eq_false,Bool.false_eq_true,if_false] at he ⊢;rw [he.1]
  |false=>simp only [Bool.false_eq_true,if_false,Bool.false_bne,if_true] at he ⊢;rw [he.1]
 ·rw [e]
  cases back with
  |true=>simp only [if_true,bne_self_eq_false,Bool.false_eq_true,if_false] at he ⊢;exact ⟨he.2,by rw [he.1,he.2];exact hr⟩
  |false=>simp only [Bool.false_eq_true,if_false,Bool.false_bne,if_true] at he ⊢;exact ⟨he.2,by rw [he.1,he.2];exact hr⟩
theorem steps_dn (h:HierOK es n R S ro) (hn:n≤12) (back:Bool) {u:Nat} (hu:u<n):∀x∈stepsB R S n u (back != true),Ch.Way (relB back (arcG es)) Any x.2.1 (u:Int) x.2.2∧x.2.1≠(u:Int)∧nodeN n x.2.1∧1≤x.2.2∧x.2.2≤17592186044416:=by
 intro x hx
 obtain ⟨h1,h2,h3,h4⟩:=step_down h back hu hx
 have hH:=h.hierB back
 obtain ⟨k1,k2⟩:=hH.sound _ _ _ (XN_rel.2 h1)
 have:=big12 hn
 exact ⟨k2.imp (fun _ _=>trivial),k1,h2,h3,by omega⟩
theorem Swp.start {l:List LB} {s:Nat} {back:Bool} (hok:HierOK es n R S ro) (hn:n≤12) (hs:s<n) (h:Space (relB back (arcG es)) (XN S back) (rk ro) (s:Int) (l.map labOf)):Swp (relB back (arcG es)) (rk ro) (s:Int) n n (layF (List.replicate n FAR) l):=by
 have hL:=labsOK hok h hs hn
 have hpw:l.Pairwise (fun a b=>a.v≠b.v):=by
  have h9:=h.once
  rw [List.pairwise_map] at h9
  exact h9
 obtain ⟨l1,l2⟩:=layF_spec l (List.replicate n FAR) (fun a ha=>by rw [List.length_replicate];exact (hL a ha).1) hpw
 refine ⟨Nat.le_refl _,by rw [layF_len,List.length_replicate],fun v hv=>?_,fun v d hp=>?_,fun v hv hk=>?_⟩
 ·by_cases e:∃a∈l,a.v=v
  ·obtain ⟨a,ha,rfl⟩:=e
   rw [l1 a ha]
   exact .inr ⟨h.sound (labOf a) (List.mem_map.2 ⟨a,ha,rfl⟩),by have:=(hL a ha).2.2;omega⟩
  ·rw [l2 v hv.1 (fun a ha k=>e ⟨a,ha,k⟩),gD_rep hv]
   exact .inl rfl
 ·obtain ⟨a,ha,e1,e2⟩:=h.peaks v d hp
  obtain ⟨x,hx,rfl⟩:=List.mem_map.1 ha
  have e3:=l1 x hx
  have e4:x.v=v:=e1
  have e5:x.d=d:=e2
  rw [←e4,e3,e5]
  have:=(hL x hx).2.2
  omega
 ·have h2:=hok.at1 v hv
  have h3:=rankB_in hok.rank (rk ro v) (List.mem_of_getElem? h2)
  have:=hok.len
  omega
theorem Swp.step {s v k:Nat} {back:Bool} {f:List Int} (hok:HierOK es n R S ro) (hn:n≤12) (hv:v<n) (hr:rk ro (v:Int)=(k:Int)) (h:Swp (relB back (arcG es)) (rk ro) (s:Int) n (k+1) f):Swp (relB back (arcG es)) (rk ro) (s:Int) n k (lowsF v f (stepsB R S n v (back != true))):=by
 have hH:=hok.hierB back
 have hto:=steps_dn hok hn back hv
 have hkn:=h.kn
 obtain ⟨i1,i2,i3,i4⟩:=lowsF_spec (v:=v) (stepsB R S n v (back != true)) f (by rw [h.len];exact hv) (fun x hx=>⟨(hto x hx).2.2.1.1,(hto x hx).2.1⟩)
 have hnv:nodeN n (v:Int):=⟨by omega,by omega⟩
 have hE:((n:Int)-(k:Nat))*17592186044416=((n:Int)-((k+1:Nat):Int))*17592186044416+17592186044416:=by
  have:((n:Int)-(k:Nat))=((n:Int)-((k+1:Nat):Int))+1:=by omega
  rw [this,Int.add_mul]
  omega
 have hF:=farC
 have hE2:((n:Int)-((k+1:Nat):Int))*17592186044416≤12*17592186044416:=Int.mul_le_mul_of_nonneg_right (by omega) (by decide)
 have hval:∀u,nodeN n u→gD (lowsF v f (stepsB R S n v (back != true))) u=FAR∨(Way0 (relB back (arcG es)) Any (s:Int) u (gD (lowsF v f (stepsB R S n v (back != true))) u)∧gD (lowsF v f (stepsB R S n v (back != true))) u≤211106232532992+((n:Int)-k)*17592186044416):=by
  intro u hu
  by_cases e:u=(v:Int)
  ·subst e
   rcases i4 with h4|⟨x,hx,h4⟩
   ·rw [h4]
    rcases h.val _ hnv with h5|⟨h5,h6⟩
    ·exact .inl h5
    ·exact .inr ⟨h5,by omega⟩
   ·obtain ⟨t1,t2,t3,t4,t5⟩:=hto x hx
    rcases h.val _ t3 with h5|⟨h5,h6⟩
    ·exfalso
     rw [h5] at h4
     rcases h.val _ hnv with h7|⟨_,h7⟩<;>omega
    ·refine .inr ⟨?_,by omega⟩
     rw [h4]
     exact h5.trans trivial (.inr t1)
  ·rw [i1 u hu.1 e]
   rcases h.val _ hu with h5|⟨h5,h6⟩
   ·exact .inl h5
   ·exact .inr ⟨h5,by omega⟩
 have hle:∀u,nodeN n u→gD (lowsF v f (stepsB R S n v (back != true))) u≤gD f u:=by
  intro u hu
  by_cases e:u=(v:Int)
  ·subst e;exact i2
  ·rw [i1 u hu.1 e];exact Int.le_refl _
 refine ⟨by omega,by rw [lowsF_len];exact h.len,hval,fun u d hp=>?_,fun u hu hk d hd=>?_⟩
 ·have h5:=h.pk u d hp
  have hu:0≤u:=by
   rcases hp.2.1.1 with ⟨e,_⟩|hw
   ·omega
   ·exact (hw.nodes hH.node).2.1
  by_cases e:u=(v:Int)
  ·subst e;omega
  ·rw [i1 u hu e];exact h5
 ·have fin:gD (lowsF v f (stepsB R S n v (back != true))) u≤d→d≤211106232532992+((n:Int)-k)*17592186044416→gD (lowsF v f (stepsB R S n v (back != true))) u=d∧d≤211106232532992+((n:Int)-k)*17592186044416:=by
   intro h5 h6
   refine ⟨?_,h6⟩
   rcases hval u hu with h7|⟨h7,_⟩
   ·omega
   ·have:=hd.2 _ h7
    omega
  by_cases e:u=(v:Int)
  ·subst e
   rcases hd.down hH (fun v=>by unfold rk;omega) with hp|⟨y,w,⟨i,hx⟩,hry,hdy⟩
   ·have h5:=h.pk _ _ hp
    exact fin (by omega) (by omega)
   ·obtain ⟨j,hj⟩:=down_step hok back hv hx hry
    have h3:=i3 _ hj
    obtain ⟨t1,t2,t3,t4,t5⟩:=hto _ hj
    simp only at h3 t1 t2 t3 t4 t5
    have h5:=h.dn y t3 (by omega) _ hdy
    exact fin (by omega) (by omega)
  ·have hne:rk ro u≠(k:Int):=fun k'=>e (hH.inj _ _ hu hnv (by omega))
   have h5:=h.dn u hu (by omega) d hd
   exact fin (by rw [i1 u hu.1 e];omega) (by omega)
end
theorem Swp.far {A:Int→Int→Int→Prop} {r:Int→Int} {s:Int} {n:Nat} {f:List Int} (hA:∀u v w,A u v w→1≤w) (hn:n≤12) (hr0:∀v,0≤r v) (h:Swp A r s n 0 f) {v:Int} (hv:nodeN n v):FarV A s v (gD f v):=by
 have h2:((n:Int)-((0:Nat):Int))*17592186044416≤12*17592186044416:=Int.mul_le_mul_of_nonneg_right (by omega) (by decide)
 by_cases hd:∃e,Dist A s v e
 ·obtain ⟨e,he⟩:=hd
  have h3:=h.dn v hv (by have:=hr0 v;omega) e he
  refine .inl ⟨by rw [h3.1];exact he,by rw [h3.1];exact he.1.nonneg hA,by omega⟩
 ·rcases h.val v hv with e|⟨e,_⟩
  ·exact .inr ⟨e,fun e he=>hd (dist_some hA he)⟩
  ·exact absurd (dist_some hA e) hd
def exactL (f:List Int) (l:List LB):List LB:=l.filter fun a=>!decide (gD f a.v<a.d)
def ExIs (A:Int→Int→Int→Prop) (r:Int→Int) (s:Int) (l:List LB):Prop:=l.Pairwise (fun a b=>a.v<b.v)∧∀v d,(∃x∈l,x.v=v∧x.d=d)↔Peak A r s v d
theorem exactL_is {A:Int→Int→Int→Prop} {X:Nums} {r:Int→Int} {s:Int} {n:Nat} {f:List Int} {l:List LB} (hH:Hier A X.rel r (nodeN n)) (hr0:∀v,0≤r v) (h:Space A X r s (l.map labOf)) (ho:l.Pairwise (fun a b=>a.v≤b.v)) (hl:∀x∈l,nodeN n x.v∧x.d<FAR) (hf:∀v,nodeN n v→FarV A s v (gD f v)):ExIs A r s (exactL f l):=by
 have hpw:l.Pairwise (fun a b=>a.v≠b.v):=by
  have h9:=h.once
  rw [List.pairwise_map] at h9
  exact h9
 refine ⟨?_,fun v d=>⟨?_,fun hp=>?_⟩⟩
 ·exact ((ho.and hpw).imp (fun {a b} h=>by have:=h.1;have:=h.2;omega)).filter _
 ·rintro ⟨x,hx,rfl,rfl⟩
  obtain ⟨h1,h2⟩:=List.mem_filter.1 hx
  have hm:labOf x∈l.map labOf:=List.mem_map.2 ⟨x,h1,rfl⟩
  have hw:Way0 A Any s x.v x.d:=h.sound _ hm
  obtain ⟨hn,hF⟩:=hl x h1
  have h3:¬gD f x.v<x.d:=by simpa using h2
  rcases hf x.v hn with ⟨k,_⟩|⟨_,k⟩
  ·have h4:=k.2 _ hw
   have h5:gD f x.v=x.d:=by omega
   rw [h5] at k
   exact h.peak hH hr0 hm k
  ·exact absurd hw (k _)
 ·obtain ⟨a,ha,e1,e2⟩:=h.peaks v d hp
  obtain ⟨x,hx,rfl⟩:=List.mem_map.1 ha
  refine ⟨x,List.mem_filter.2 ⟨hx,?_⟩,e1,e2⟩
  have e3:x.v=v:=e1
  have e4:x.d=d:=e2
  rcases hf x.v (hl x hx).1 with ⟨k,_⟩|⟨k,_⟩
  ·rw [e3] at k
   have:=k.uniq hp.2.1
   simp only [Bool.not_eq_true',decide_eq_false_iff_not]
   rw [e3]
   omega
  ·have:=(hl x hx).2
   simp only [Bool.not_eq_true',decide_eq_false_iff_not]
   omega
def hitS (R:List Int) (f:Int→Option Int) (back:Bool) (v d:Int) (x:SC):Bool:=
 decide ((if back then x.f else x.t)=v)&&decide (rAt R (if back then x.t else x.f)<rAt R (if back then x.f else x.t))&&(match f (if back then x.t else x.f) with|some e=>decide (e+x.w=d)|none=>false)
def firstS (R:List Int) (S:List SC) (f:Int→Option Int) (back:Bool) (v d:Int):Int:=match S.findIdx? (hitS R f back v d) with
 |some i=>(i:Int)
 |none=>-1
theorem firstS_at {R:List Int} {S:List SC} {f:Int→Option Int} {back:Bool} {v d:Int} {i:Nat} (hi:i<S.length) (hp:hitS R f back v d S[i]=true) (hb:∀k (h:k<i),hitS R f back v d (S[k]'(by omega))=false):firstS R S f back v d=(i:Int):=by
 unfold firstS
 have:S.findIdx? (hitS R f back v d)=some i:=by
  rw [List.findIdx?_eq_some_iff_getElem]
  exact ⟨hi,hp,fun k hk=>by rw [hb k hk];simp⟩
 rw [this]
theorem firstS_no {R:List Int} {S:List SC} {f:Int→Option Int} {back:Bool} {v d:Int} (hb:∀k (h:k<S.length),hitS R f back v d S[k]=false):firstS R S f back v d= -1:=by
 unfold firstS
 have:S.findIdx? (hitS R f back v d)=none:=by
  rw [List.findIdx?_eq_none_iff]
  intro a ha
  obtain ⟨k,hk,rfl⟩:=List.mem_iff_getElem.1 ha
  exact hb k hk
 rw [this]
def labAt (l:List LB) (v:Int):LB:=(l.find? fun a=>decide (a.v=v)).getD ⟨0,0,0⟩
def labIs (l:List LB) (v:Int):Bool:=l.any fun a=>decide (a.v=v)
def labF (l:List LB) (u:Int):Option Int:=(l.find? fun a=>decide (a.v=u)).map (·.d)
theorem labIs_none {l:List LB} {u:Int} (h:labIs l u=false):labF l u=none:=by
 unfold labF
 have:l.find? (fun a=>decide (a.v=u))=none:=by
  rw [List.find?_eq_none]
  intro x hx k
  unfold labIs at h
  rw [List.any_eq_false] at h
  exact h x hx k
 rw [this]
 rfl
theorem labIs_some {l:List LB} {u:Int} (h:labIs l u=true):labF l u=some (labAt l u).d∧labAt l u∈l∧(labAt l u).v=u:=by
 unfold labF labAt
 unfold labIs at h
 obtain ⟨x,hx,hk⟩:=List.any_eq_true.1 h
 cases hf:l.find? (fun a=>decide (a.v=u)) with
 |none=>rw [List.find?_eq_none] at hf;exact absurd hk (hf x hx)
 |some y=>
  have h1:=List.find?_some hf
  have h2:=List.mem_of_find?_eq_some hf
  exact ⟨rfl,h2,of_decide_eq_true h1⟩
theorem labF_spec {l:List LB} (hp:l.Pairwise (fun a b=>a.v≠b.v)) (u d:Int):labF l u=some d↔∃x∈l,x.v=u∧x.d=d:=by
 have key:∀x∈l,x.v=u→labF l u=some x.d:=by
  intro x hx e
  have h1:labIs l u=true:=List.any_eq_true.2 ⟨x,hx,decide_eq_true e⟩
  obtain ⟨k1,k2,k3⟩:=labIs_some h1
  have h2:labAt l u=x:=by
   obtain ⟨i,hi,e1⟩:=List.mem_iff_getElem.1 k2
   obtain ⟨j,hj,e2⟩:=List.mem_iff_getElem.1 hx
   have h3:=List.pairwise_iff_getElem.1 hp
   rcases Nat.lt_trichotomy i j with h|h|h
   ·exact absurd (by rw [e1,e2,k3,e]) (h3 i j hi hj h)
   ·subst h;rw [←e1,←e2]
   ·exact absurd (by rw [e1,e2,k3,e]) (h3 j i hj hi h)
  rw [k1,h2]
 constructor
 ·intro h
  cases hi:labIs l u with
  |false=>rw [labIs_none hi] at h;cases h
  |true=>
   obtain ⟨k1,k2,k3⟩:=labIs_some hi
   rw [k1] at h
   cases h
   exact ⟨_,k2,k3,rfl⟩
 ·rintro ⟨x,hx,h1,h2⟩
  rw [key x hx h1,h2]
theorem labF_cong:∀{l l':List LB},l.map (fun a=>(a.v,a.d))=l'.map (fun a=>(a.v,a.d))→labF l=labF l'
 |[],[],_=>rfl
 |[],_::_,h=>by simp at h
 |_::_,[],h=>by simp at h
 |x::l,y::l',h=>by
  simp only [List.map_cons,List.cons.injEq,Prod.mk.injEq] at h
  have ih:=labF_cong (l:=l) (l':=l') h.2
  funext u
  have ihu:=congrFun ih u
  unfold labF at ihu ⊢
  rw [List.find?_cons,List.find?_cons,h.1.1]
  split
  ·simp [h.1.2]
  ·exact ihu
def withB (R:List Int) (S:List SC) (back:Bool) (l:List LB):List LB:=l.map fun a=>⟨a.v,a.d,firstS R S (labF l) back a.v a.d⟩
def mixB (R:List Int) (S:List SC) (back:Bool) (l:List LB) (k:Nat):List LB:=(withB R S back l).take k++l.drop k
theorem withB_len (R:List Int) (S:List SC) (back:Bool) (l:List LB):(withB R S back l).length=l.length:=by simp [withB]
theorem mixB_len {R:List Int} {S:List SC} {back:Bool} {l:List LB} {k:Nat}:(mixB R S back l k).length=l.length:=by simp [mixB,withB];omega
theorem mixB_zero (R:List Int) (S:List SC) (back:Bool) (l:List LB):mixB R S back l 0=l:=by simp [mixB]
theorem mixB_all (R:List Int) (S:List SC) (back:Bool) (l:List LB):mixB R S back l l.length=withB R S back l:=by
 unfold mixB
 rw [List.take_of_length_le (by rw [withB_len];exact Nat.le_refl _),List.drop_of_length_le (Nat.le_refl _),List.append_nil]
theorem mixB_get {R:List Int} {S:List SC} {back:Bool} {l:List LB} {k:Nat} (hk:k<l.length):(mixB R S back l k)[k]? =some l[k]:=by
 unfold mixB
 rw [List.getElem?_append_right (by simp [withB];omega),List.length_take,withB_len,Nat.min_eq_left (by omega),Nat.sub_self,List.getElem?_drop,Nat.add_zero,List.getElem?_eq_getElem hk]
theorem mixB_set {R:List Int} {S:List SC} {back:Bool} {l:List LB} {k:Nat} (hk:k<l.length):(mixB R S back l k).set k ⟨l[k].v,l[k].d,firstS R S (labF l) back l[k].v l[k].d⟩=mixB R S back l (k+1):=by
 apply List.ext_getElem?
 intro i
 have hw:∀i (h:i<l.length),(withB R S back l)[i]? =some ⟨l[i].v,l[i].d,firstS R S (labF l) back l[i].v l[i].d⟩:=fun i h=>by
  unfold withB
  rw [List.getElem?_map,List.getElem?_eq_getElem h]
  rfl
 by_cases e:i=k
 ·subst e
  rw [List.getElem?_set_self (by rw [mixB_len];exact hk)]
  unfold mixB
  rw [List.getElem?_append_left (by simp [withB];omega),List.getElem?_take_of_lt (by omega),hw i hk]
 ·rw [List.getElem?_set_ne (fun h=>e h.symm)]
  unfold mixB
  by_cases h:i<k
  ·rw [List.getElem?_append_left (by simp [withB];omega),List.getElem?_append_left (by simp [withB];omega),List.getElem?_take_of_lt h,List.getElem?_take_of_lt (by omega)]
  ·rw [List.getElem?_append_right (by simp [withB];omega),List.getElem?_append_right (by simp [withB];omega),List.length_take,List.length_take,withB_len,Nat.min_eq_left (by omega),Nat.min_eq_left (by omega),List.getElem?_drop,List.getElem?_drop]
   congr 1
   omega
theorem mixB_vd (R:List Int) (S:List SC) (back:Bool) (l:List LB) (k:Nat):(mixB R S back l k).map (fun a=>(a.v,a.d))=l.map (fun a=>(a.v,a.d)):=by
 have h:(withB R S back l).map (fun a=>(a.v,a.d))=l.map (fun a=>(a.v,a.d)):=by simp [withB,Function.comp_def]
 unfold mixB
 rw [List.map_append,List.map_take,h,List.map_drop,List.take_append_drop]
theorem ExIs.withB {A:Int→Int→Int→Prop} {r:Int→Int} {s:Int} {l:List LB} (h:ExIs A r s l) (R:List Int) (S:List SC) (back:Bool):ExIs A r s (withB R S back l):=by
 refine ⟨?_,fun v d=>?_⟩
 ·unfold Go.Proofs.YtkdomobedfhhgaaGreat.withB
  rw [List.pairwise_map]
  exact h.1
 ·rw [←h.2 v d]
  unfold Go.Proofs.YtkdomobedfhhgaaGreat.withB
  constructor
  ·rintro ⟨x,hx,h1,h2⟩
   obtain ⟨y,hy,rfl⟩:=List.mem_map.1 hx
   exact ⟨y,hy,h1,h2⟩
  ·rintro ⟨x,hx,h1,h2⟩
   exact ⟨_,List.mem_map.2 ⟨x,hx,rfl⟩,h1,h2⟩
end Go.Proofs.YtkdomobedfhhgaaGreat
end
section
namespace Go.Proofs.YtkdomobedfhhgaaGreat
open Go Go.Proofs Go.RowKit Go.Shelf Go.Proofs.YtkdomobedfhhgaaGreat.Hp Go.Proofs.YtkdomobedfhhgaaGreat.Ch
def encL (x:LB):Value:=.agg #[.int .i64 x.v,.int .u64 x.d,.int .i64 x.b]
set_option maxHeartbeats 1000000 in
theorem IndexFunc_lab (g:Nat) (cb:Array Value) (p:LB→Bool) (ao:Option Addr) (cap:Nat) (l:List LB) (w:World) (hen:Enters Tryz.prog g)
  (hp:PredOn Tryz.prog g cb encL p l w) (hl:l.length≤9223372036854775807) (hc:Cel w ao (flatB l)):
  Calls Tryz.prog 82 #[.slice ao l.length cap,.func (.func g) #[] cb] w fun e w'=>e=.returned (.int .i64 (idxI p l))∧Below w.heap.size w w':=by
 have HP:=Lib.hid hp
 have HC:=Lib.hid hc
 clear hp hc
 unfold Enters at hen
 go_enter Tryz.func82,Tryz.ntmps82
 go_wp2
 go_loopg [8] l.length (fun g i wr=>∃k:Nat,k≤l.length∧l.length-k≤g∧i=.int .i64 k∧Aside (Below w.heap.size w wr)∧Aside (∀j (h:j<l.length),j<k→p l[j]=false))
 case atStart=>exact ⟨0,Nat.zero_le _,by omega,rfl,Below.refl _ _,fun j _ h=>absurd h (Nat.not_lt_zero _)⟩
 case round=>
  obtain ⟨k,hk,hg,rfl,HB,HA⟩:=hrel
  by_cases hlt:k<l.length
  ·obtain ⟨b,o,hao,hc1,hc2,hc3⟩:=(HC.out.below HB.out (Nat.le_refl _)).lab hlt
   have HQ:=Lib.hid (HP.out wr l[k] HB.out (List.getElem_mem hlt))
   have HN:=Lib.hid (fun h:p l[k]=true=>idxI_hit p l k hlt h (fun j h1 h2=>HA.out j h1 h2))
   have HM:=Lib.hid (fun h:p l[k]=false=>(fun j (h1:j<l.length) (h2:j<k+1)=>(by
    by_cases e:j=k
    ·subst e;exact h
    ·exact HA.out j h1 (by omega):p l[j]=false)))
   generalize hx:l[k]=x at*
   clear hx
   subst hao
   cases hq:p x with
   |true=>
    have HN2:=Lib.hid (HN.out hq)
    have HQ2:=Lib.hid (hq▸HQ.out)
    clear hq
    go_wp2_with (go_at_fn g;refine HQ2.out.mono ?_;rintro e w1 ⟨rfl,hb1⟩)
    go_ret
    exact ⟨by rw [HN2.out];rfl,HB.out.trans (hb1.mono (by have:=HB.out.size;omega))⟩
   |false=>
    have HN2:=Lib.hid (HM.out hq)
    have HQ2:=Lib.hid (hq▸HQ.out)
    clear hq
    go_wp2_with (go_at_fn g;refine HQ2.out.mono ?_;rintro e w1 ⟨rfl,hb1⟩)
    go_roundg (l.length-(k+1))
    case measure=>omega
    case rel=>exact ⟨k+1,by omega,by omega,by go_num,HB.out.trans (hb1.mono (by have:=HB.out.size;omega)),HN2.out⟩
  ·obtain rfl:k=l.length:=by omega
   have HN:=Lib.hid (idxI_miss p l (fun j h=>HA.out j h h))
   go_wp2
   go_ret
   exact ⟨by rw [HN.out];rfl,HB.out⟩
theorem find1_any (x:LB) (v:Int) (b:Nat) (w:World) (hx:w.cell? ⟨b,0,none⟩=some (.int .i64 v)):
  Calls Tryz.prog 83 (#[encL x]++#[.pointer (some ⟨b,0,none⟩)]) w fun e w'=>e=.returned (.bool (decide (x.v=v)))∧Below w.heap.size w w':=by
 have f:=fun o=>cell_later (Below.of_al w o) hx
 have he:(x.v==v)=decide (x.v=v):=by rw [Bool.eq_iff_iff,beq_iff_eq,decide_eq_true_eq]
 unfold encL
 go_enter Tryz.func83,Tryz.ntmps83
 go_wp2
 go_ret
 exact ⟨by rw [←he];rfl,Below.of_al _ _⟩
theorem idxI_lab (l:List LB) (v:Int):(idxI (fun a=>decide (a.v=v)) l<0∧labIs l v=false)∨∃i:Nat,∃h:i<l.length,idxI (fun a=>decide (a.v=v)) l=(i:Int)∧labIs l v=true∧l[i]=labAt l v:=by
 unfold labIs labAt
 induction l with
 |nil=>exact .inl ⟨by simp [idxI],rfl⟩
 |cons x l ih=>
  unfold idxI
  by_cases h:x.v=v
  ·refine .inr ⟨0,by simp,?_,?_,?_⟩
   ·simp [h]
   ·simp [h]
   ·simp [h]
  ·rcases ih with ⟨i1,i2⟩|⟨i,hi,i1,i2,i3⟩
   ·refine .inl ⟨?_,?_⟩
    ·simp [h,i1]
    ·simp [h]
     simpa using i2
   ·refine .inr ⟨i+1,by simp;omega,?_,?_,?_⟩
    ·simp [h,i1]
     omega
    ·simp [h]
     simpa using i2
    ·simp [h]
     exact i3
theorem h3_read {W:World} {b:Nat} {a0 a1 a2:Value} (x y z:Value) (h0:W.cell? ⟨b,0,none⟩=some a0) (h1:W.cell? ⟨b,1,none⟩=some a1) (h2:W.cell? ⟨b,2,none⟩=some a2):
  (((W.setCell ⟨b,0,none⟩ x).setCell ⟨b,1,none⟩ y).setCell ⟨b,2,none⟩ z).cell? ⟨b,0,none⟩=some x∧(((W.setCell ⟨b,0,none⟩ x).setCell ⟨b,1,none⟩ y).setCell ⟨b,2,none⟩ z).cell? ⟨b,1,none⟩=some y∧(((W.setCell ⟨b,0,none⟩ x).setCell ⟨b,1,none⟩ y).setCell ⟨b,2,none⟩ z).cell? ⟨b,2,none⟩=some z:=by
 obtain ⟨r0,r1⟩:=h2_read x y h0 h1
 refine ⟨?_,?_,?_⟩
 ·rw [World.cell?_setCell_other _ _ _ _ (by simp)];exact r0
 ·rw [World.cell?_setCell_other _ _ _ _ (by simp)];exact r1
 ·refine World.cell?_setCell_same (u:=a2) _ _ _ ?_
  rw [World.cell?_setCell_other _ _ _ _ (by simp),World.cell?_setCell_other _ _ _ _ (by simp)]
  exact h2
theorem below_set3 {B b:Nat} {w W:World} (x y z:Value) (h:Below B w W) (hb:B≤b):Below B w (((W.setCell ⟨b,0,none⟩ x).setCell ⟨b,1,none⟩ y).setCell ⟨b,2,none⟩ z):=((h.setCell hb _).setCell hb _).setCell hb _
theorem labAt_none {l:List LB} {u:Int} (h:labIs l u=false):labAt l u=⟨0,0,0⟩:=by
 unfold labAt
 have:l.find? (fun a=>decide (a.v=u))=none:=by
  rw [List.find?_eq_none]
  intro x hx k
  unfold labIs at h
  rw [List.any_eq_false] at h
  exact h x hx k
 rw [this]
 rfl
set_option maxRecDepth 100000 in
set_option maxHeartbeats 1000000 in
theorem find_any (l:List LB) (ao:Option Addr) (cap:Nat) (v:Int) (w:World) (hc:Cel w ao (flatB l)) (hl:l.length≤1000000):
  Calls Tryz.prog 31 #[.slice ao l.length cap,.int .i64 v] w fun e w'=>e=.returned (.tuple #[encL (labAt l v),.bool (labIs l v)])∧Below w.heap.size w w':=by
 obtain ⟨W,hW⟩:∃W,W=(w.alloc (Obj.cells #[.int .i64 v] 3)).alloc (Obj.cells #[.int .i64 0,.int .u64 0,.int .i64 0] 64):=⟨_,rfl⟩
 have hbw:Below w.heap.size w W:=by rw [hW];exact (Below.of_al _ _).al _
 have hsz:W.heap.size=w.heap.size+2:=by rw [hW];simp
 have c0:W.cell? ⟨w.heap.size,0,none⟩=some (.int .i64 v):=by rw [hW];go_simp
 have q0:W.cell? ⟨w.heap.size+1,0,none⟩=some (.int .i64 0):=by rw [hW];go_simp
 have q1:W.cell? ⟨w.heap.size+1,1,none⟩=some (.int .u64 0):=by rw [hW];go_simp
 have q2:W.cell? ⟨w.heap.size+1,2,none⟩=some (.int .i64 0):=by rw [hW];go_simp
 have z0:W.frozen? ⟨w.heap.size+1,0,none⟩=false:=by rw [hW];go_simp
 have z1:W.frozen? ⟨w.heap.size+1,1,none⟩=false:=by rw [hW];go_simp
 have z2:W.frozen? ⟨w.heap.size+1,2,none⟩=false:=by rw [hW];go_simp
 have HI:=Lib.hid (IndexFunc_lab 83 #[.pointer (some ⟨w.heap.size,0,none⟩)] (fun a=>decide (a.v=v)) ao cap l W (enters_of Tryz.func83 (by kernel_rfl) rfl) (fun W' x hb hx=>find1_any x v w.heap.size W' (cell_later hb c0)) (by omega) (hc.go hbw))
 have HC:=Lib.hid (hc.go hbw)
 have HB:=Lib.hid hbw
 have HSZ:=Lib.hid hsz
 have HW:=Lib.hid hW
 have hl2:(l.length:Int)≤1000000:=by omega
 clear hW hbw hc hsz c0
 rcases idxI_lab l v with ⟨h1,h2⟩|⟨i,hi,h1,h2,h3⟩
 ·have HL:=Lib.hid (labAt_none h2)
  have HL2:=Lib.hid h2
  generalize idxI (fun a:LB=>decide (a.v=v)) l=r at*
  clear h2
  go_enter Tryz.func31,Tryz.ntmps31
  go_upto_region 1 with (fail)
  rw [←HW.out]
  go_upto_region 2 with (go_at_call 82;refine HI.out.mono ?_;rintro e w1 ⟨rfl,hb1⟩;(have HB1:=Lib.hid hb1);(have p0:=cell_later hb1 q0);(have p1:=cell_later hb1 q1);(have p2:=cell_later hb1 q2);(have y0:=(hb1.frozen (p:=⟨w.heap.size+1,0,none⟩) (by show w.heap.size+1<_;rw [HSZ.out];omega)).trans z0);(have y1:=(hb1.frozen (p:=⟨w.heap.size+1,1,none⟩) (by show w.heap.size+1<_;rw [HSZ.out];omega)).trans z1);(have y2:=(hb1.frozen (p:=⟨w.heap.size+1,2,none⟩) (by show w.heap.size+1<_;rw [HSZ.out];omega)).trans z2);clear hb1)
  clear q0 q1 q2 z0 z1 z2
  go_wp2
  obtain ⟨r0,r1,r2⟩:=h3_read (.int .i64 0) (.int .u64 0) (.int .i64 0) p0 p1 p2
  refine bodyPost_ret (v:=.tuple #[encL ⟨0,0,0⟩,.bool false]) (by simp [results,Tryz.results31,go_sem,r0,r1,r2,encL];try rfl) rfl ?_
  exact ⟨by rw [HL.out,HL2.out],below_set3 _ _ _ (HB.out.st HB1.out) (Nat.le_succ _)⟩
 ·have HL:=Lib.hid h3
  have HL2:=Lib.hid h2
  have hr0:¬idxI (fun a:LB=>decide (a.v=v)) l<0:=by omega
  rw [h1] at HI
  obtain ⟨lb,lo,rfl,x0,x1,x2⟩:=HC.out.lab hi
  have hi0:(0:Int)≤(i:Int):=by omega
  have hi1:(i:Int)<(l.length:Int):=by omega
  generalize l[i]=a at*
  obtain ⟨av,ad,ab⟩:=a
  simp only at x0 x1 x2
  clear h1 h2 h3 hr0
  go_enter Tryz.func31,Tryz.ntmps31
  go_upto_region 1 with (fail)
  rw [←HW.out]
  go_upto_region 2 with (go_at_call 82;refine HI.out.mono ?_;rintro e w1 ⟨rfl,hb1⟩;(have HB1:=Lib.hid hb1);(have p0:=cell_later hb1 q0);(have p1:=cell_later hb1 q1);(have p2:=cell_later hb1 q2);(have v0:=cell_later hb1 x0);(have v1:=cell_later hb1 x1);(have v2:=cell_later hb1 x2);(have y0:=(hb1.frozen (p:=⟨w.heap.size+1,0,none⟩) (by show w.heap.size+1<_;rw [HSZ.out];omega)).trans z0);(have y1:=(hb1.frozen (p:=⟨w.heap.size+1,1,none⟩) (by show w.heap.size+1<_;rw [HSZ.out];omega)).trans z1);(have y2:=(hb1.frozen (p:=⟨w.heap.size+1,2,none⟩) (by show w.heap.size+1<_;rw [HSZ.out];omega)).trans z2);clear hb1)
  clear q0 q1 q2 z0 z1 z2 x0 x1 x2
  go_wp2
  obtain ⟨r0,r1,r2⟩:=h3_read (.int .i64 av) (.int .u64 ad) (.int .i64 ab) p0 p1 p2
  refine bodyPost_ret (v:=.tuple #[encL ⟨av,ad,ab⟩,.bool true]) (by simp [results,Tryz.results31,go_sem,r0,r1,r2,encL];try rfl) rfl ?_
  exact ⟨by rw [←HL.out,HL2.out],below_set3 _ _ _ (HB.out.st HB1.out) (Nat.le_succ _)⟩
structure DlI (p:LB→Bool) (l cur:List LB) (i j:Nat):Prop where
 le:i≤j
 jn:j≤l.length
 len:cur.length=l.length
 hd:cur.take i=(l.take j).filter (fun a=>!p a)
 tl:∀k,j≤k→cur[k]? =l[k]?
theorem DlI.drop {p:LB→Bool} {l cur:List LB} {i j:Nat} (h:DlI p l cur i j) (hj:j<l.length) (hp:p l[j]=true):DlI p l cur i (j+1):=
 ⟨by have:=h.le;omega,hj,h.len,by rw [h.hd,List.take_succ_eq_append_getElem hj,List.filter_append];simp [hp],fun k hk=>h.tl k (by omega)⟩
theorem DlI.keep {p:LB→Bool} {l cur:List LB} {i j:Nat} (h:DlI p l cur i j) (hj:j<l.length) (hp:p l[j]=false):DlI p l (cur.set i l[j]) (i+1) (j+1):=by
 have hle:=h.le
 have hlen:=h.len
 refine ⟨by omega,hj,by rw [List.length_set];exact hlen,?_,fun k hk=>by rw [List.getElem?_set_ne (by omega)];exact h.tl k (by omega)⟩
 rw [List.take_succ_eq_append_getElem (by rw [List.length_set];omega),List.take_succ_eq_append_getElem hj,List.filter_append,←h.hd]
 rw [List.getElem_set_self]
 congr 1
 ·rw [List.take_set_of_le (Nat.le_refl _)]
 ·simp [hp]
theorem DlI.begin {p:LB→Bool} {l:List LB} {i:Nat} (hi:i<l.length) (hp:p l[i]=true) (hb:∀k (h:k<i),p (l[k]'(by omega))=false):DlI p l l i (i+1):=by
 refine ⟨by omega,hi,rfl,?_,fun _ _=>rfl⟩
 rw [List.take_succ_eq_append_getElem hi,List.filter_append]
 have:(l.take i).filter (fun a=>!p a)=l.take i:=by
  rw [List.filter_eq_self]
  intro a ha
  obtain ⟨k,hk,rfl⟩:=List.mem_iff_getElem.1 ha
  rw [List.getElem_take,hb k (by simp at hk;omega)]
  rfl
 rw [this]
 simp [hp]
theorem DlI.done {p:LB→Bool} {l cur:List LB} {i:Nat} (h:DlI p l cur i l.length):cur.take i=l.filter (fun a=>!p a):=by rw [h.hd,List.take_length]
theorem run_clear3 {P:Program} (w:World) (t e:TypeId) (z:Value) (ht:P.underlying t=some (.slice e)) (hv:∀w,(zeroValue e).run P w=.ok z w) (h2:z.cells.size=3) (h1:∀u∈z.cells.toList,u.oneCell'=true) (b o n c:Nat) (hn:0<n)
  (hc:∀j,j<n*3→(w.cell? ⟨b,o+j,none⟩).isSome=true) (hf:∀j,j<n*3→w.frozen? ⟨b,o+j,none⟩=false):
  ∃vs,vs.length=n*3∧∀ty,(Builtin.clear_ #[t] ty #[.slice (some ⟨b,o,none⟩) n c]).run P w=.ok (.tuple #[]) (w.setCells b o vs):=by
 have hzl:((Builtin.zeroCells z.cells n).toList).length=n*3:=by simp [Builtin.zeroCells,h2,Nat.mul_comm]
 have hst:=run_storeCells_cells (P:=P) b o (Builtin.zeroCells z.cells n).toList 0 w (by simpa [hzl] using hc) (by simpa [hzl] using hf) (by
  intro v hv'
  apply h1
  simp [Builtin.zeroCells] at hv'
  obtain ⟨k,hk,rfl⟩:=hv'
  rw [Array.getElem!_eq_getD]
  simp [Array.getD,h2,Nat.mod_lt])
 simp only [Nat.add_zero] at hst
 obtain ⟨m,rfl⟩:∃m,n=m+1:=⟨n-1,by omega⟩
 refine ⟨_,hzl,fun ty=>?_⟩
 simp [Builtin.clear_,run_underlying ht,hv,hst]
theorem flatB_take:∀(l:List LB) (i:Nat),(flatB l).take (i*3)=flatB (l.take i)
 |[],i=>by simp [flatB]
 |x::l,0=>by simp [flatB]
 |x::l,i+1=>by
  rw [show (i+1)*3=i*3+1+1+1 by omega,flatB,List.take_succ_cons,List.take_succ_cons,List.take_succ_cons,flatB_take l i]
  rfl
theorem flatB_set:∀(l:List LB) (i:Nat) (q:LB),(((flatB l).set (i*3) (.int .i64 q.v)).set (i*3+1) (.int .u64 q.d)).set (i*3+2) (.int .i64 q.b)=flatB (l.set i q)
 |[],i,q=>by simp [flatB]
 |x::l,0,q=>rfl
 |x::l,i+1,q=>by
  rw [show (i+1)*3=i*3+1+1+1 by omega,List.set_cons_succ]
  show _=_::_::_::flatB (l.set i q)
  rw [←flatB_set l i q]
  rfl
theorem hp_onet3 (a b c:Int):∀u∈((Value.agg #[.int .i64 a,.int .u64 b,.int .i64 c]).cells).toList,u.oneCell'=true:=by
 intro u hu
 have h:((Value.agg #[.int .i64 a,.int .u64 b,.int .i64 c]).cells).toList=[Value.int .i64 a,.int .u64 b,.int .i64 c]:=rfl
 rw [h] at hu
 simp only [List.mem_cons,List.not_mem_nil,or_false] at hu
 rcases hu with rfl|rfl|rfl<;>rfl
def DelPostL (base:Nat) (p:LB→Bool) (l:List LB) (ao:Option Addr) (cap:Nat) (w:World) (e:Ending) (w':World):Prop:=
 e=.returned (.slice ao (l.filter (fun a=>!p a)).length cap)∧w'.ownsRow base 64 3 (.slice ao (l.filter (fun a=>!p a)).length cap) (l.filter (fun a=>!p a)).length (flatB (l.filter (fun a=>!p a)))∧
  OffX (fun k=>(Value.slice ao l.length cap).ownBlock=some k) w w'
theorem zero_lab (w:World):(zeroValue 64).run Tryz.prog w=.ok (.agg #[.int .i64 0,.int .u64 0,.int .i64 0]) w:=by kernel_rfl
set_option maxRecDepth 100000 in
set_option maxHeartbeats 4000000 in
theorem delLab_any (base:Nat) (cb:Array Value) (p:LB→Bool) (l:List LB) (ao:Option Addr) (cap:Nat) (w:World) (h:w.ownsRow base 64 3 (.slice ao l.length cap) l.length (flatB l))
  (hp1:∀(W:World) (x:LB),OffX (fun k=>(Value.slice ao l.length cap).ownBlock=some k) w W→x∈l→Calls Tryz.prog 86 (#[encL x]++cb) W fun e w'=>e=.returned (.bool (p x))∧Below W.heap.size W w') (hl:l.length≤1000000):
  Calls Tryz.prog 85 #[.slice ao l.length cap,.func (.func 86) #[] cb] w (DelPostL base p l ao cap w):=by
 obtain ⟨ao',c',e,hc⟩:=Cel.of_owns h
 cases e
 have HI:=Lib.hid (IndexFunc_lab 86 cb p ao cap l w (enters_of Tryz.func86 (by kernel_rfl) rfl) (fun W x hb hx=>hp1 W x (.of_below hb) hx) (by omega) hc)
 have HP1:=Lib.hid hp1
 have HO:=Lib.hid h
 have hl2:(l.length:Int)≤1000000:=by omega
 unfold DelPostL
 by_cases hex:∃i,∃hi:i<l.length,p l[i]=true∧∀k (h:k<i),p (l[k]'(by omega))=false
 ·obtain ⟨i,hi,hp,hb⟩:=hex
  obtain ⟨g,cg,e⟩:=own_form h (by omega)
  cases e
  rw [idxI_hit p l i hi hp (fun j h h2=>hb j h2)] at HI
  have HD:=Lib.hid (DlI.begin hi hp hb)
  clear hp hb hc h hp1
  have hi1:((i:Int)== -1)=false:=by rw [beq_eq_false_iff_ne];omega
  have hi2:(i:Int)<(l.length:Int):=by omega
  go_enter Tryz.func85,Tryz.ntmps85
  go_wp2_with (go_at_call 82;refine HI.out.mono ?_;rintro e w1 ⟨rfl,hb1⟩;(have HB1:=Lib.hid hb1;clear hb1))
  go_loopg [5,6] l.length (fun gg v5 v6 wr=>∃(i j:Nat) (cur:List LB),i<j∧j≤l.length∧l.length-j≤gg∧v5=.int .i64 i∧v6=.int .i64 j∧Aside (DlI p l cur i j)∧Aside (wr.ownsRow base 64 3 (.slice (some ⟨g,0,none⟩) l.length cap) l.length (flatB cur))∧Aside (OffX (· =g) w wr))
  case atStart=>exact ⟨i,i+1,l,Nat.lt_succ_self i,hi,by omega,rfl,by go_num,HD.out,hp_owns_go HO.out HB1.out,.of_below HB1.out⟩
  case round=>
   clear HD HI HB1 hi hi1 hi2
   obtain ⟨i,j,cur,hij,hj,hg,rfl,rfl,HD,HR,HF⟩:=hrel
   have hcl:=HD.out.len
   by_cases hlt:j<l.length
   ·have hlt2:(j:Int)<(l.length:Int):=by omega
    have hi2:(i:Int)<(l.length:Int):=by omega
    have hcj:cur[j]'(by omega)=l[j]:=by
     have:=HD.out.tl j (Nat.le_refl _)
     rw [List.getElem?_eq_getElem (by omega),List.getElem?_eq_getElem hlt] at this
     exact Option.some.inj this
    obtain ⟨x0,x1,x2⟩:=flatB_get cur j (by omega)
    rw [hcj] at x0 x1 x2
    have y0:=(HR.out.cellAt (j*3) (by omega)).trans x0
    have y1:=(HR.out.cellAt (j*3+1) (by omega)).trans x1
    have y2:=(HR.out.cellAt (j*3+2) (by omega)).trans x2
    clear x0 x1 x2 hcj
    have HA:=Lib.hid (fun o=>HP1.out (wr.alloc o) l[j] ((HF.out.mono (fun k e=>by rw [e];rfl)).trans (.of_below (Below.of_al wr o))) (List.getElem_mem hlt))
    obtain ⟨x0,x1,x2⟩:=flatB_get cur i (by omega)
    have HP:=Lib.hid (And.intro ((HR.out.cellAt (i*3) (by omega)).trans x0) (And.intro ((HR.out.cellAt (i*3+1) (by omega)).trans x1) ((HR.out.cellAt (i*3+2) (by omega)).trans x2)))
    have HIJ:=Lib.hid hij
    have hi0:(0:Int)≤(i:Int):=by omega
    clear x0 x1 x2
    cases hp:p l[j] with
    |true=>
     have HD2:=Lib.hid (HD.out.drop hlt hp)
     rw [hp] at HA
     clear hp
     generalize l[j]=q at*
     go_wp2_with (go_at_call 86;refine (HA.out _).mono ?_;rintro e w5 ⟨rfl,hb5⟩;(have HB5:=Lib.hid ((Below.of_al wr _).st hb5));clear hb5)
     go_roundg (l.length-(j+1))
     case measure=>omega
     case rel=>exact ⟨i,j+1,cur,by omega,by omega,Nat.le_refl _,rfl,by go_num,HD2.out,hp_owns_go HR.out HB5.out,HF.out.trans (.of_below HB5.out)⟩
    |false=>
     have HD2:=Lib.hid (HD.out.keep hlt hp)
     rw [hp] at HA
     clear hp
     generalize l[j]=q at*
     go_wp2_with (go_at_call 86;refine (HA.out _).mono ?_;rintro e w5 ⟨rfl,hb5⟩;(have HB5:=Lib.hid ((Below.of_al wr _).st hb5));(have c5:w5.cell? ⟨wr.heap.size,0,none⟩=some (.int .i64 q.v):=cell_later hb5 (by go_simp));(have c6:w5.cell? ⟨wr.heap.size,1,none⟩=some (.int .u64 q.d):=cell_later hb5 (by go_simp));(have c7:w5.cell? ⟨wr.heap.size,2,none⟩=some (.int .i64 q.b):=cell_later hb5 (by go_simp));(have p0:=cell_later HB5.out HP.out.1);(have p1:=cell_later HB5.out HP.out.2.1);(have p2:=cell_later HB5.out HP.out.2.2);(have z0:=(hp_owns_go HR.out HB5.out).frozenAt (i*3));(have z1:=(hp_owns_go HR.out HB5.out).frozenAt (i*3+1));(have z2:=(hp_owns_go HR.out HB5.out).frozenAt (i*3+2));clear hb5)
     have hown:(((w5.setCell ⟨g,i*3,none⟩ (.int .i64 q.v)).setCell ⟨g,i*3+1,none⟩ (.int .u64 q.d)).setCell ⟨g,i*3+2,none⟩ (.int .i64 q.b)).ownsRow base 64 3 (.slice (some ⟨g,0,none⟩) l.length cap) l.length (flatB (cur.set i q)):=by
      have h1:=((hp_owns_go HR.out HB5.out).stored (i*3) (.int .i64 q.v)).1
      have h2:=(h1.stored (i*3+1) (.int .u64 q.d)).1
      have h3:=(h2.stored (i*3+2) (.int .i64 q.b)).1
      rw [flatB_set] at h3
      exact h3
     go_roundg (l.length-(j+1))
     case measure=>omega
     case rel=>exact ⟨i+1,j+1,cur.set i q,by omega,by omega,Nat.le_refl _,by go_num,by go_num,HD2.out,hown,(((HF.out.trans (.of_below HB5.out)).trans (.set _ rfl)).trans (.set _ rfl)).trans (.set _ rfl)⟩
   ·obtain rfl:j=l.length:=by omega
    obtain ⟨vs,hvs,hclr⟩:=run_clear3 (P:=Tryz.prog) wr 59 64 _ Tryz.underlying59 zero_lab rfl (fun u hu=>hp_onet3 0 0 0 u hu) g (i*3) (l.length-i) (cap-i) (by omega)
     (fun k hk=>by rw [HR.out.cellAt (i*3+k) (by omega),List.getElem?_eq_getElem (by rw [flatB_len];omega)];rfl) (fun k hk=>HR.out.frozenAt _)
    obtain ⟨ys,ho,hys,_,hof⟩:=owns_setCells vs (i*3) wr _ HR.out (by rw [flatB_len];omega)
    have hcut:=owns_cut ho (Nat.le_of_lt hij)
    have hfl:(l.filter (fun a=>!p a)).length=i:=by rw [←HD.out.done,List.length_take];omega
    have htk:ys.take (i*3)=flatB (l.filter (fun a=>!p a)):=by rw [hys,flatB_take,HD.out.done]
    rw [htk] at hcut
    have HCUT:=Lib.hid hcut
    have HOF:=Lib.hid (HF.out.trans hof)
    have HFL:=Lib.hid hfl
    have hcap:=owns_capH HR.out
    have hi0:(0:Int)≤(i:Int):=by omega
    clear ho hys hof hcut hfl htk hvs
    go_wp2
    go_ret
    rw [HFL.out]
    exact ⟨rfl,HCUT.out,HOF.out.mono (fun k e=>by rw [e];rfl)⟩
 ·have hno:∀k (h:k<l.length),p l[k]=false:=by
   have:∀n k,k<n→∀(h:k<l.length),p l[k]=false:=by
    intro n
    induction n with
    |zero=>intro k hk;omega
    |succ n ih=>
     intro k hk h
     cases hp:p l[k] with
     |false=>rfl
     |true=>exact absurd ⟨k,h,hp,fun k' h'=>ih k' (by omega) (by omega)⟩ hex
   exact fun k h=>this (k+1) k (by omega) h
  rw [idxI_miss p l hno] at HI
  have hf:l.filter (fun a=>!p a)=l:=by
   rw [List.filter_eq_self]
   intro a ha
   obtain ⟨k,hk,rfl⟩:=List.mem_iff_getElem.1 ha
   rw [hno k hk]
   rfl
  rw [hf]
  clear hf hno hex h hc hp1
  go_enter Tryz.func85,Tryz.ntmps85
  go_wp2_with (go_at_call 82;refine HI.out.mono ?_;rintro e w1 ⟨rfl,hb1⟩)
  go_ret
  exact ⟨rfl,hp_owns_go HO.out hb1,.of_below hb1⟩
end Go.Proofs.YtkdomobedfhhgaaGreat
end
section
namespace Go.Proofs.YtkdomobedfhhgaaGreat
open Go Go.Proofs Go.RowKit Go.Shelf Go.Proofs.YtkdomobedfhhgaaGreat.Hp Go.Proofs.YtkdomobedfhhgaaGreat.Ch
abbrev frS (back:Bool) (x:SC):Int:=if back then x.t else x.f
abbrev toS (back:Bool) (x:SC):Int:=if back then x.f else x.t
theorem ExIs.once {A:Int→Int→Int→Prop} {r:Int→Int} {s:Int} {l:List LB} (h:ExIs A r s l):l.Pairwise (fun a b=>a.v≠b.v):=h.1.imp fun {a b} k e=>by omega
theorem ExIs.one {A:Int→Int→Int→Prop} {r:Int→Int} {s:Int} {l:List LB} (hA:∀u v w,¬A u v w) (h:ExIs A r s l):∃b,l=[⟨s,0,b⟩]:=by
 have key:∀x∈l,x.v=s∧x.d=0:=by
  intro x hx
  have hp:=(h.2 x.v x.d).1 ⟨x,hx,rfl,rfl⟩
  rcases hp.2.1.1 with ⟨e1,e2⟩|hw
  ·exact ⟨e1.symm,e2⟩
  ·obtain ⟨m,w,k,_⟩:=hw.lastArc
   exact absurd k (hA _ _ _)
 obtain ⟨x,hx,h1,h2⟩:=(h.2 s 0).2 (Peak.self (fun u v w k=>absurd k (hA _ _ _)) r s)
 match l,hx,h.1,key with
 |[y],hx,_,key=>
  obtain ⟨k1,k2⟩:=key y (List.mem_singleton.2 rfl)
  exact ⟨y.b,by cases y;simp only at k1 k2;rw [k1,k2]⟩
 |y::z::r,_,hp,key=>
  have k1:=(key y (by simp)).1
  have k2:=(key z (by simp)).1
  have:=(List.pairwise_cons.1 hp).1 z (by simp)
  omega
end Go.Proofs.YtkdomobedfhhgaaGreat
end
section
namespace Go.Proofs.YtkdomobedfhhgaaGreat
open Go Go.Proofs Go.RowKit Go.Shelf Go.Proofs.YtkdomobedfhhgaaGreat.Hp Go.Proofs.YtkdomobedfhhgaaGreat.Ch
theorem rev_any (base:Nat) (v:Value) (zs:List Int) (W:World) (h:W.ownsRow base 3 1 v zs.length (zs.map encI)) (hl:zs.length≤1000000):
  Calls Tryz.prog 91 #[v] W fun e w'=>e=.returned (.tuple #[])∧(∃(ao:Option Addr) (cap:Nat),v=.slice ao zs.length cap∧Cel w' ao (zs.reverse.map encI))∧OffX (fun k=>v.ownBlock=some k) W w':=by
 have h0:=h
 obtain ⟨hlen,h2⟩:=h
 rcases h2 with ⟨rfl,hz⟩|⟨g,cap,cur,rfl,hb,hg,-⟩
 ·have hzs:zs=[]:=by cases zs with|nil=>rfl|cons a r=>simp at hz
  subst hzs
  refine (Tryz.slices_Reverse_int_empty none 0 W).mono ?_
  rintro e w' ⟨rfl,rfl⟩
  exact ⟨rfl,⟨none,0,rfl,Cel.nil _ _⟩,.refl _ _⟩
 ·have hH:Go.Sort.Holds (Value.int .i64) W g 0 zs.toArray:=by
   intro j hj
   have hj2:j<zs.length:=by simpa using hj
   refine ⟨?_,by rw [Nat.zero_add];exact h0.frozenAt j⟩
   rw [Nat.zero_add]
   refine (h0.cellAt j (by omega)).trans ?_
   rw [List.getElem?_map,List.getElem?_eq_getElem hj2,getElem!_pos _ j hj]
   simp
  refine (Tryz.slices_Reverse_int g 0 cap zs W hH (by omega)).mono ?_
  rintro e w' ⟨rfl,n,rfl⟩
  refine ⟨rfl,⟨_,cap,rfl,?_⟩,⟨rfl,rfl,rfl,by rw [Go.Sort.size_putRow];exact Nat.le_refl _,fun k hk hn=>?_⟩⟩
  ·intro i u hu
   have hi:i<zs.reverse.toArray.size:=by
    have:=(List.getElem?_eq_some_iff.1 hu).1
    simpa using this
   refine ⟨g,0,rfl,?_⟩
   rw [Go.Sort.cell?_putRow (Value.int .i64) (Go.Sort.ahead W n) g 0 zs.toArray zs.reverse.toArray hH (by simp) i hi]
   rw [←hu,List.getElem?_map,List.getElem?_eq_getElem (by simpa using hi),getElem!_pos _ i hi]
   simp
  ·show ((W.heap.modify g _))[k]? =_
   rw [Array.getElem?_modify,if_neg (fun e=>hn (by rw [←e];rfl))]
def wayF (S:List SC) (l:List LB) (back:Bool):Nat→Int→List Int→Option (List Int)
 |0,_,_=>none
 |left+1,v,out=>if labIs l v then
   (if (labAt l v).b= -1 then some (if back then out else out.reverse) else if 0≤(labAt l v).b∧(labAt l v).b<S.length∧toS back (S.getD (labAt l v).b.toNat scZ)=v then wayF S l back left (frS back (S.getD (labAt l v).b.toNat scZ)) (out++[(labAt l v).b]) else none)
  else none
theorem wayF_len {S:List SC} {l:List LB} {back:Bool}:∀(left:Nat) (v:Int) (out o:List Int),wayF S l back left v out=some o→o.length<left+out.length
 |0,_,_,_,h=>by cases h
 |left+1,v,out,o,h=>by
  unfold wayF at h
  split at h
  ·split at h
   ·cases h
    split
    ·omega
    ·rw [List.length_reverse];omega
   ·split at h
    ·have:=wayF_len left _ _ _ h
     rw [List.length_append,List.length_singleton] at this
     omega
    ·cases h
  ·cases h
theorem wayF_miss {S:List SC} {l:List LB} {back:Bool} {left:Nat} {v:Int} {out:List Int} (h:labIs l v=false):wayF S l back left v out=none:=by
 cases left with
 |zero=>rfl
 |succ left=>unfold wayF;rw [h];rfl
def WayPost (res:Option (List Int)) (w:World) (e:Ending) (w':World):Prop:=
 ∃(ao:Option Addr) (cap:Nat) (o:List Int) (b:Bool),e=.returned (.tuple #[.slice ao o.length cap,.bool b])∧Cel w' ao (o.map encI)∧Below w.heap.size w w'∧((res=some o∧b=true)∨(res=none∧o=[]∧b=false))
theorem WayPost.none {w w':World} (hb:Below w.heap.size w w') {res:Option (List Int)} (h:res=Option.none):WayPost res w (.returned (.tuple #[.slice Option.none 0 0,.bool false])) w':=⟨Option.none,0,[],false,rfl,Cel.nil _ _,hb,.inr ⟨h,rfl,rfl⟩⟩
def WyJ (w:World) (hb:Nat) (S:List SC) (l:List LB) (ao:Option Addr) (cap:Nat) (back:Bool) (res:Option (List Int)) (mm l0:Nat) (a:Act) (wr:World):Prop:=
 l0=0∧∃u,a=lit 80 u∧u 0=.pointer (some ⟨hb,0,none⟩)∧u 1=.slice ao l.length cap∧u 3=.bool back∧∃(v:Int) (out:List Int) (left:Nat),u 2=.int .i64 v∧u 10=.int .i64 (left:Int)∧left≤mm∧out.length+left=l.length∧
  Aside (wr.ownsRow w.heap.size 3 1 (u 8) out.length (out.map encI)∧Below w.heap.size w wr∧wayF S l back left v out=res)
set_option maxRecDepth 100000 in
set_option maxHeartbeats 4000000 in
theorem way_any (hb n:Nat) (es:List EdgeD) (R:List Int) (S:List SC) (O I:List (List Int)) (l:List LB) (ao:Option Addr) (cap:Nat) (v:Int) (back:Bool) (w:World) (hh:HierM w hb n es R S O I) (hends:∀x∈S,nodeN n x.f∧nodeN n x.t) (hc:Cel w ao (flatB l)) (hl:l.length≤60000):
  Calls Tryz.prog 39 #[.pointer (some ⟨hb,0,none⟩),.slice ao l.length cap,.int .i64 v,.bool back] w (WayPost (wayF S l back l.length v []) w):=by
 have HH:=Lib.hid (fun W (hz:Below w.heap.size w W)=>hh.same (fun k hk=>hz.block k hk))
 have HC:=Lib.hid hc
 have HEN:=Lib.hid hends
 have HFD:=Lib.hid (fun u W (hz:Below w.heap.size w W)=>find_any l ao cap u W (hc.go hz) (by omega))
 have hl2:(l.length:Int)≤60000:=by omega
 have hn6:=hh.small.1
 obtain ⟨res,hres⟩:∃res,res=wayF S l back l.length v []:=⟨_,rfl⟩
 have HRE:=Lib.hid hres
 rw [←hres]
 clear hh hc hends hres
 go_enter Tryz.func39,Tryz.ntmps39
 repeat go_step
 refine wp_scope_into 0 l.length (WyJ w hb S l ao cap back res) rfl ?_ ?_ ?_ ?_
 ·rintro m m' l0 a w' hle ⟨h1,u,h2,h3,h4,h5,v',out,left,h6,h7,h8,h9⟩
  exact ⟨h1,u,h2,h3,h4,h5,v',out,left,h6,h7,Nat.le_trans h8 hle,h9⟩
 ·intro hcont
  have HCONT:=Lib.hid hcont
  clear hcont
  repeat go_step
  go_step3
  go_step
  go_step
  refine HCONT.out _ _ ?_
  exact ⟨rfl,_,lit_of 80 _ rfl rfl,rfl,rfl,rfl,v,[],l.length,rfl,rfl,Nat.le_refl _,by simp,World.ownsRow_nil _ _ _ _,Below.refl _ _,HRE.out.symm⟩
 ·rintro mm a wr ⟨_,u,rfl,h0,h1,h3,v',out,left,h2,h10,hmm,hol,HA⟩
  simp only [lit,List.range,List.range.loop,List.map_cons,List.map_nil,h0,h1,h2,h3,h10]
  obtain ⟨v8,hv8⟩:∃v8,v8=u 8:=⟨_,rfl⟩
  obtain ⟨u9,hu9⟩:∃u9,u9=u 9:=⟨_,rfl⟩
  rw [←hv8] at HA ⊢
  have HO:=Lib.hid HA.out.1
  have HB:=Lib.hid HA.out.2.1
  have HW:=Lib.hid HA.out.2.2
  clear HA hv8 h0 h1 h2 h3 h10 hu9
  have HF:=Lib.hid (HFD.out v' wr HB.out)
  cases hi:labIs l v' with
  |false=>
   have HN:=Lib.hid (HW.out.symm.trans (wayF_miss hi))
   rw [hi] at HF
   clear hi HW
   generalize labAt l v'=y at*
   obtain ⟨yv,yd,yb⟩:=y
   simp only [encL] at HF
   go_wp2_with (go_at_call 31;refine HF.out.mono ?_;rintro e w1 ⟨rfl,hb1⟩;(have HB1:=Lib.hid hb1);clear hb1)
   simp only [jumps_ret]
   refine bodyPost_ret (v:=.tuple #[.slice none 0 0,.bool false]) (by simp [results,Tryz.results39,go_sem];try rfl) rfl ?_
   exact WayPost.none (HB.out.st (HB1.out.st (Below.of_al _ _))) HN.out
  |true=>
   rw [hi] at HF
   cases left with
   |zero=>
    have HN:=Lib.hid (HW.out.symm.trans (show wayF S l back 0 v' out=none from rfl))
    have hz:(((0:Nat):Int)==0)=true:=rfl
    clear hi HW
    generalize labAt l v'=y at*
    obtain ⟨yv,yd,yb⟩:=y
    simp only [encL] at HF
    go_wp2_with (go_at_call 31;refine HF.out.mono ?_;rintro e w1 ⟨rfl,hb1⟩;(have HB1:=Lib.hid hb1);clear hb1)
    simp only [jumps_ret]
    refine bodyPost_ret (v:=.tuple #[.slice none 0 0,.bool false]) (by simp [results,Tryz.results39,go_sem];try rfl) rfl ?_
    exact WayPost.none (HB.out.st (HB1.out.st (Below.of_al _ _))) HN.out
   |succ left=>
    obtain ⟨L,hL⟩:∃L:Int,L=((left+1:Nat):Int):=⟨_,rfl⟩
    rw [←hL]
    have hz:(L==0)=false:=by rw [beq_eq_false_iff_ne];omega
    have hl1:L-1=(left:Int):=by omega
    have hll:L≤60000:=by omega
    have hl0:0<L:=by omega
    have HMM:=Lib.hid (And.intro hmm hL)
    have hol2:out.length≤60000:=by omega
    have HOL:=Lib.hid hol
    clear hol hmm hL
    have HW2:=Lib.hid (HW.out.symm.trans (show wayF S l back (left+1) v' out=(if (labAt l v').b= -1 then some (if back then out else out.reverse)
     else if 0≤(labAt l v').b∧(labAt l v').b<S.length∧toS back (S.getD (labAt l v').b.toNat scZ)=v' then wayF S l back left (frS back (S.getD (labAt l v').b.toNat scZ)) (out++[(labAt l v').b]) else none) by
      conv=>lhs;unfold wayF
      rw [hi]
      rfl))
    clear hi HW
    generalize labAt l v'=y at*
    obtain ⟨yv,yd,yb⟩:=y
    simp only [encL] at HF
    simp only at HW2
    by_cases hb1:yb= -1
    ·subst hb1
     rw [if_pos rfl] at HW2
     cases back with
     |true=>
      obtain ⟨oa,oc,e,hce⟩:=Cel.of_owns HO.out
      subst e
      have HCE:=Lib.hid hce
      clear hce
      go_wp2_with (go_at_call 31;refine HF.out.mono ?_;rintro e w1 ⟨rfl,hb1⟩;(have HB1:=Lib.hid hb1);clear hb1)
      simp only [jumps_ret]
      refine bodyPost_ret (v:=.tuple #[.slice oa out.length oc,.bool true]) (by simp [results,Tryz.results39,go_sem];try rfl) rfl ?_
      exact ⟨oa,oc,out,true,rfl,HCE.out.go (HB1.out.st (Below.of_al _ _)),HB.out.st (HB1.out.st (Below.of_al _ _)),.inl ⟨HW2.out,rfl⟩⟩
     |false=>
      have HRV:=Lib.hid (fun W (hz:Below wr.heap.size wr W)=>rev_any w.heap.size v8 out W (hp_owns_go HO.out hz) (by omega))
      go_wp2_with (first
       |(go_at_call 31;refine HF.out.mono ?_;rintro e w1 ⟨rfl,hb1⟩;(have HB1:=Lib.hid hb1);clear hb1)
       |(go_at_call 91;refine (HRV.out _ (HB1.out.st (Below.of_al _ _))).mono ?_;rintro e w2 ⟨rfl,⟨oa,oc,rfl,hce⟩,hof⟩;(have HCE:=Lib.hid hce);(have HOF:=Lib.hid hof);clear hce hof))
      simp only [jumps_ret]
      refine bodyPost_ret (v:=.tuple #[.slice oa out.length oc,.bool true]) (by simp [results,Tryz.results39,go_sem];try rfl) rfl ?_
      have hbz:=HB.out.st (HB1.out.st (Below.of_al w1 (Obj.cells #[.int .i64 yv,.int .u64 yd,.int .i64 (-1)] 64)))
      exact ⟨oa,oc,out.reverse,true,by rw [List.length_reverse],HCE.out,hbz.trans (HOF.out.below hbz.size (fun k e=>(HO.out.lt k e).1)),.inl ⟨HW2.out,rfl⟩⟩
    ·rw [if_neg hb1] at HW2
     have hbn:(yb != -1)=true:=by simpa using hb1
     by_cases hin:0≤yb∧yb<(S.length:Int)
     ·obtain ⟨i,rfl⟩:∃i:Nat,yb=i:=⟨yb.toNat,by omega⟩
      have hiS:i<S.length:=by omega
      obtain ⟨⟨p0,p1⟩,⟨q0,q1⟩⟩:=HEN.out _ (List.getElem_mem hiS)
      have HSC:=Lib.hid (fun W hz=>shortcut_any hb n es R S O I W (HH.out W hz) i hiS)
      rw [Int.toNat_natCast,sc_at hiS] at HW2
      generalize S[i]=x at*
      obtain ⟨xf,xt,xw,xe,xa,xb⟩:=x
      simp only [scV] at p0 p1 q0 q1 HSC
      obtain ⟨fn,rfl⟩:∃fn:Nat,xf=fn:=⟨xf.toNat,by omega⟩
      obtain ⟨tn,rfl⟩:∃tn:Nat,xt=tn:=⟨xt.toNat,by omega⟩
      have hfn:(fn:Int)≤60000:=by omega
      have htn:(tn:Int)≤60000:=by omega
      have hf0:(0:Int)≤(fn:Int):=by omega
      have ht0:(0:Int)≤(tn:Int):=by omega
      have hin1:=hin.1
      have hin2:=hin.2
      unfold frS toS at HW2
      clear hb1 hin p0 p1 q0 q1
      cases back with
      |false=>
       simp only [Bool.false_eq_true,if_false] at HW2
       by_cases hto:(tn:Int)=v'
       ·subst hto
        rw [if_pos ⟨hin1,hin2,rfl⟩] at HW2
        have hsv:(fn:Int)+(tn:Int)-(tn:Int)=(fn:Int):=by omega
        have htt:((tn:Int)==(tn:Int))=true:=by simp
        go_upto_region 9 with (first
         |(go_at_call 31;refine HF.out.mono ?_;rintro e w1 ⟨rfl,hb1⟩;(have HB1:=Lib.hid hb1);clear hb1)
         |(go_at_call 40;refine (HSC.out _ (HB.out.st (HB1.out.st (Below.of_al _ _)))).mono ?_;rintro e w2 ⟨rfl,hb2⟩;(have k2:=cell_later hb2 (show (w1.alloc (Obj.cells #[.int .i64 yv,.int .u64 yd,.int .i64 (i:Int)] 64)).cell? ⟨w1.heap.size,2,none⟩=some (.int .i64 (i:Int)) by go_simp));(have HB2:=Lib.hid (HB1.out.st ((Below.of_al _ _).st hb2)));clear hb2))
        obtain ⟨W3,hW3⟩:∃W3,W3=w2.alloc (Obj.cells #[.int .i64 (fn:Int),.int .i64 (tn:Int),.int .u64 xw,.int .i64 xe,.int .i64 xa,.int .i64 xb] 79):=⟨_,rfl⟩
        rw [←hW3]
        have hb3:Below w2.heap.size w2 W3:=by rw [hW3];exact Below.of_al _ _
        have k3:=cell_later hb3 k2
        have HB3:=Lib.hid (HB.out.st (HB2.out.st hb3))
        have HO3:=Lib.hid (hp_owns_go HO.out (HB2.out.st hb3))
        clear hW3 hb3 k2
        go_wp2_with (at_builtin;go_must (refine wpList_app w.heap.size 3 _ 1 8 elem_int Tryz.underlying25 v8 out.length (out.map encI) ⟨W3.heap.size,0,none⟩ 1 1 [.int .i64 (i:Int)] rfl rfl (World.ownsRow.alloc HO3.out _) (cell_one_new _ _ _) (one_cells rfl) ⟨rfl,by decide,by omega,by omega,(by have:=HB3.out.size;simp;omega)⟩ ?_);intro g6 cap6 w6 hown6 hgrow6 hbl6 hat6 hlt6;(have HO6:=Lib.hid hown6);(have HB6:=Lib.hid ((HB3.out.al _).trans hbl6));clear hown6 hgrow6 hbl6 hat6 hlt6)
        go_step3
        repeat go_step
        rw [jumps_goto]
        obtain ⟨hmm,hLL⟩:=HMM.out
        have hol:=HOL.out
        refine ⟨left,by omega,rfl,_,lit_of 80 _ rfl rfl,rfl,rfl,rfl,(fn:Int),out++[(i:Int)],left,rfl,rfl,Nat.le_refl _,by rw [List.length_append,List.length_singleton];omega,?_,HB6.out,HW2.out.symm⟩
        rw [List.length_append,List.map_append]
        exact HO6.out
       ·rw [if_neg (fun h=>hto h.2.2)] at HW2
        have hvt:((tn:Int)==v')=false:=by rw [beq_eq_false_iff_ne];exact hto
        clear hto
        go_wp2_with (first
         |(go_at_call 31;refine HF.out.mono ?_;rintro e w1 ⟨rfl,hb1⟩;(have HB1:=Lib.hid hb1);clear hb1)
         |(go_at_call 40;refine (HSC.out _ (HB.out.st (HB1.out.st (Below.of_al _ _)))).mono ?_;rintro e w2 ⟨rfl,hb2⟩;(have HB2:=Lib.hid (HB1.out.st ((Below.of_al _ _).st hb2)));clear hb2))
        simp only [jumps_ret]
        refine bodyPost_ret (v:=.tuple #[.slice none 0 0,.bool false]) (by simp [results,Tryz.results39,go_sem];try rfl) rfl ?_
        exact WayPost.none (HB.out.st (HB2.out.st (Below.of_al _ _))) HW2.out
      |true=>
       simp only [if_true] at HW2
       by_cases hto:(fn:Int)=v'
       ·subst hto
        rw [if_pos ⟨hin1,hin2,rfl⟩] at HW2
        have hsv:(fn:Int)+(tn:Int)-(fn:Int)=(tn:Int):=by omega
        have htt:((fn:Int)==(fn:Int))=true:=by simp
        go_upto_region 9 with (first
         |(go_at_call 31;refine HF.out.mono ?_;rintro e w1 ⟨rfl,hb1⟩;(have HB1:=Lib.hid hb1);clear hb1)
         |(go_at_call 40;refine (HSC.out _ (HB.out.st (HB1.out.st (Below.of_al _ _)))).mono ?_;rintro e w2 ⟨rfl,hb2⟩;(have k2:=cell_later hb2 (show (w1.alloc (Obj.cells #[.int .i64 yv,.int .u64 yd,.int .i64 (i:Int)] 64)).cell? ⟨w1.heap.size,2,none⟩=some (.int .i64 (i:Int)) by go_simp));(have HB2:=Lib.hid (HB1.out.st ((Below.of_al _ _).st hb2)));clear hb2))
        obtain ⟨W3,hW3⟩:∃W3,W3=w2.alloc (Obj.cells #[.int .i64 (fn:Int),.int .i64 (tn:Int),.int .u64 xw,.int .i64 xe,.int .i64 xa,.int .i64 xb] 79):=⟨_,rfl⟩
        rw [←hW3]
        have hb3:Below w2.heap.size w2 W3:=by rw [hW3];exact Below.of_al _ _
        have k3:=cell_later hb3 k2
        have HB3:=Lib.hid (HB.out.st (HB2.out.st hb3))
        have HO3:=Lib.hid (hp_owns_go HO.out (HB2.out.st hb3))
        clear hW3 hb3 k2
        go_wp2_with (at_builtin;go_must (refine wpList_app w.heap.size 3 _ 1 8 elem_int Tryz.underlying25 v8 out.length (out.map encI) ⟨W3.heap.size,0,none⟩ 1 1 [.int .i64 (i:Int)] rfl rfl (World.ownsRow.alloc HO3.out _) (cell_one_new _ _ _) (one_cells rfl) ⟨rfl,by decide,by omega,by omega,(by have:=HB3.out.size;simp;omega)⟩ ?_);intro g6 cap6 w6 hown6 hgrow6 hbl6 hat6 hlt6;(have HO6:=Lib.hid hown6);(have HB6:=Lib.hid ((HB3.out.al _).trans hbl6));clear hown6 hgrow6 hbl6 hat6 hlt6)
        go_step3
        repeat go_step
        rw [jumps_goto]
        obtain ⟨hmm,hLL⟩:=HMM.out
        have hol:=HOL.out
        refine ⟨left,by omega,rfl,_,lit_of 80 _ rfl rfl,rfl,rfl,rfl,(tn:Int),out++[(i:Int)],left,rfl,rfl,Nat.le_refl _,by rw [List.length_append,List.length_singleton];omega,?_,HB6.out,HW2.out.symm⟩
        rw [List.length_append,List.map_append]
        exact HO6.out
       ·rw [if_neg (fun h=>hto h.2.2)] at HW2
        have hvt:((fn:Int)==v')=false:=by rw [beq_eq_false_iff_ne];exact hto
        clear hto
        go_wp2_with (first
         |(go_at_call 31;refine HF.out.mono ?_;rintro e w1 ⟨rfl,hb1⟩;(have HB1:=Lib.hid hb1);clear hb1)
         |(go_at_call 40;refine (HSC.out _ (HB.out.st (HB1.out.st (Below.of_al _ _)))).mono ?_;rintro e w2 ⟨rfl,hb2⟩;(have HB2:=Lib.hid (HB1.out.st ((Below.of_al _ _).st hb2)));clear hb2))
        simp only [jumps_ret]
        refine bodyPost_ret (v:=.tuple #[.slice none 0 0,.bool false]) (by simp [results,Tryz.results39,go_sem];try rfl) rfl ?_
        exact WayPost.none (HB.out.st (HB2.out.st (Below.of_al _ _))) HW2.out
     ·rw [if_neg (fun h=>hin ⟨h.1,h.2.1⟩)] at HW2
      have HSC:=Lib.hid (fun W hz=>shortcut_none hb n es R S O I W (HH.out W hz) yb (by omega))
      simp only [scV,scZ] at HSC
      clear hin hb1
      go_wp2_with (first
       |(go_at_call 31;refine HF.out.mono ?_;rintro e w1 ⟨rfl,hb1⟩;(have HB1:=Lib.hid hb1);clear hb1)
       |(go_at_call 40;refine (HSC.out _ (HB.out.st (HB1.out.st (Below.of_al _ _)))).mono ?_;rintro e w2 ⟨rfl,hb2⟩;(have HB2:=Lib.hid (HB1.out.st ((Below.of_al _ _).st hb2)));clear hb2))
      simp only [jumps_ret]
      refine bodyPost_ret (v:=.tuple #[.slice none 0 0,.bool false]) (by simp [results,Tryz.results39,go_sem];try rfl) rfl ?_
      exact WayPost.none (HB.out.st (HB2.out.st (Below.of_al _ _))) HW2.out
 ·rintro mm l0 a w' hne ⟨h,_⟩
  exact absurd h hne
end Go.Proofs.YtkdomobedfhhgaaGreat
end
