/- Parts; no condition. -/
import Derived.Test.YteaaapdjplbljaaGreatVc44
import Derived.Sort.Defs
import Derived.Sort.WalkA
import Derived.Sort.LotA
import Derived.Shelf.SlSortCmp.InsertionK
set_option linter.unusedVariables false
set_option linter.unusedSimpArgs false
set_option linter.unnecessarySimpa false
set_option maxRecDepth 100000
set_option maxHeartbeats 8000000
namespace Go.Proofs.YteaaapdjplbljaaGreat
section
open Go Go.Proofs Go.RowKit Go.Shelf Hp Ch
inductive PE (es:List EdgeD):Int->List Int->Int->Int->List Int->Prop
 |one {e:Int} {y:EdgeD} (h0:0<=e) (h:es[e.toNat]? =some y):PE es y.f [e] y.t y.w []
 |two {u m v d d':Int} {l l' I I':List Int} (h:PE es u l m d I) (h':PE es m l' v d' I'):PE es u (l++l') v (d+d') (I++m::I')
theorem PE.walk {es:List EdgeD} {u v d:Int} {l I:List Int} (h:PE es u l v d I):∀out r,Bu es u out (l++r)=Bu es v (out++I++[v]) r:=by
 induction h with
 |one h0 h=>
  intro out r
  rename_i e y
  have he:es.getD e.toNat edD=y:=by rw [Bj1,h];rfl
  show Bu es y.f out (e::r)=_
  rw [Bu,he,if_pos rfl,List.append_nil]
 |two h h' ih ih'=>
  intro out r;rw [Bm8,ih,ih']
  congr 1
  simp
theorem PE.mem {es:List EdgeD} {u v d:Int} {l I:List Int} (h:PE es u l v d I):∀e∈l,0<=e/\e<(es.length:Int):=by
 induction h with
 |one h0 h=>
  intro e he;obtain rfl:=Bk2.1 he;have:=(Bj8.1 h).1;omega
 |two h h' ih ih'=>
  intro e he
  rcases Bl8.1 he with he|he
  ·exact ih e he
  ·exact ih' e he
theorem PE.sum {es:List EdgeD} {u v d:Int} {l I:List Int} (h:PE es u l v d I):(l.map (wt es)).sum=d:=by
 induction h with
 |one h0 h=>
  rename_i e y
  have he:es.getD e.toNat edD=y:=by rw [Bj1,h];rfl
  show (es.getD e.toNat edD).w+0=y.w
  rw [he];exact Int.add_zero _
 |two h h' ih ih'=>rw [Bm6,List.sum_append,ih,ih']
theorem PE.ne {es:List EdgeD} {u v d:Int} {l I:List Int} (h:PE es u l v d I):l≠[]:=by
 induction h with
 |one h0 h=>simp
 |two h h' ih ih'=>simp [ih]
theorem Tp (es:List EdgeD):∀(l:List Int) (a:Int),(Ak3 es a l)[l.length]? =some (a+(l.map (wt es)).sum)
 |[],a=>by simp [Ak3]
 |e::r,a=>by
  show (Ak3 es (a+wt es e) r)[r.length]? =_
  rw [Tp es r];simp;omega
theorem Nz {g:GD} {l:List Int} (hg:Ak g=0) (h:∀e∈l,0<=e/\e<(g.es.length:Int)):Dd g l=true:=by
 unfold Dd;rw [hg];simp only [beq_self_eq_true,Bool.true_and,Bool.not_eq_true',List.any_eq_false];intro e he;have:=h e he;simp [Dz];omega
theorem PE.weight {g:GD} {u v d:Int} {l I:List Int} (hg:Ak g=0) (h:PE g.es u l v d I):Ae6 g l=some d:=by
 unfold Ae6;rw [As9 (Nz hg h.mem),Option.map_some,Tp,h.sum];simp
theorem PE.nodes {g:GD} {u v d:Int} {l I:List Int} (hg:Ak g=0) (h:PE g.es u l v d I) (hu:Bs g.n u=true):Cu g u l=some ([u]++I++[v]):=by
 rw [Ht (Nz hg h.mem) hu];have:=h.walk [u] [];rw [List.append_nil] at this;rw [this,Bu]
theorem PE.is {g:GD} {u v d:Int} {l I:List Int} (hg:Ak g=0) (h:PE g.es u l v d I) (hu:Bs g.n u=true):isB g u v l=true:=by
 unfold isB;rw [h.nodes hg hu];simp
end
section
namespace Vi
open Go Go.Proofs Go.RowKit Go.Shelf Hp Ch Ad Ro Dj
theorem Bg8 {n:Nat} {es:List EdgeD} {D:Int->Int} {t:Int} (hA:∀u v w,Am es u v w->Aa n u/\Aa n v/\1<=w) (hD:ToD es n t D) {v:Int} {l:List Int} (h:RP es D v l):Aa n v->(l=[]/\v=t/\D v=0)\/∃I,PE es v l t (D v) I:=by
 induction h with
 |@stop v h=>
  intro hv;refine .inl ⟨rfl,?_,h⟩
  rcases hD v hv with ⟨hd,_,_⟩|⟨hd,_⟩
  ·rcases hd.1 with ⟨e,_⟩|h1
   ·exact e
   ·have:=h1.pos (fun u v w h=>(hA u v w h).2.2)
    omega
  ·rw [h] at hd
   exact absurd hd (by decide)
 |@go v i l hf h0 hr ih=>
  intro hv;obtain ⟨hi,hfv,⟨hg1,hg2⟩,_⟩:=hf;have hty:=hA es[i].f es[i].t es[i].w ⟨es[i],Bj7 hi,rfl,rfl,rfl⟩;have hgd:es.getD i edZ=es[i]:=by simp [List.getD,hi]
  have h1:PE es v [(i:Int)] es[i].t es[i].w []:=by
   have:=PE.one (es:=es) (e:=(i:Int)) (y:=es[i]) (by omega) (by rw [Bj9,Bj0 hi]);rw [hfv] at this;exact this
  rw [hgd] at ih hr
  rcases ih hty.2.1 with ⟨rfl,e,hz⟩|⟨I,hI⟩
  ·refine .inr ⟨[],?_⟩
   have:D v=es[i].w:=by rw [<-hfv];omega
   rw [this,<-e];exact h1
  ·refine .inr ⟨[]++es[i].t::I,?_⟩
   have:D v=es[i].w+D es[i].t:=by rw [<-hfv];omega
   rw [this];exact .two h1 hI
theorem Ho {n:Nat} {es:List EdgeD} (hA:∀u v w,Am es u v w->Aa n u/\Aa n v/\1<=w) {s t:Int} {l:List Int} {x:Int} (h:Cy n es s t l x 0):(l=[]/\s=t/\x=0)\/∃I,PE es s l t x I:=by
 rcases h with ⟨_,hs,ht,hd,_,D,hD,hR⟩|⟨h,_⟩
 ·have hx:x=D s:=by
   rcases hD s hs with ⟨h1,_,_⟩|⟨_,h1⟩
   ·exact hd.uniq h1
   ·exact absurd hd.1 (h1 _)
  rw [hx];exact Bg8 hA hD hR hs
 ·exact absurd rfl h
theorem ByIs.uniq {n:Nat} {es:List EdgeD} (hA:∀u v w,Am es u v w->Aa n u/\Aa n v/\1<=w) {s v t V V':Int} {l l':List Int} {x c k x' c' k':Int} (h:ByIs n es s v t V l x c k) (h':ByIs n es s v t V' l' x' c' k'):V=V'/\l=l'/\x=x'/\c=c'/\k=k':=by
 have key:∀{l1 l2 x1 x2},Cy n es s v l1 x1 0->Cy n es v t l2 x2 0->((¬(Aa n s/\Aa n v/\Aa n t))\/(∀e,¬Way0 (Am es) Any s v e)\/∀e,¬Way0 (Am es) Any v t e)->False:=by
  intro l1 l2 x1 x2 r1 r2 hh
  rcases r1 with ⟨_,a1,a2,a3,_⟩|⟨a1,_⟩
  ·rcases r2 with ⟨_,b1,b2,b3,_⟩|⟨b1,_⟩
   ·rcases hh with hh|hh|hh
    ·exact hh ⟨a1,a2,b2⟩
    ·exact hh _ a3.1
    ·exact hh _ b3.1
   ·exact b1 rfl
  ·exact a1 rfl
 rcases h with ⟨rfl,rfl,l1,l2,x1,x2,r1,r2,rfl,rfl,rfl⟩|⟨hk,rfl,rfl,rfl,rfl,h⟩
 ·rcases h' with ⟨rfl,rfl,m1,m2,y1,y2,q1,q2,rfl,rfl,rfl⟩|⟨_,_,_,_,_,h'⟩
  ·obtain ⟨rfl,rfl,_⟩:=Lw hA r1 q1
   obtain ⟨rfl,rfl,_⟩:=Lw hA r2 q2;exact ⟨rfl,rfl,rfl,rfl,rfl⟩
  ·refine (key r1 r2 ?_).elim
   rcases h' with ⟨_,h'⟩|⟨_,_,_,_,h'⟩
   ·exact .inl h'
   ·exact .inr h'
 ·rcases h' with ⟨rfl,rfl,m1,m2,y1,y2,q1,q2,rfl,rfl,rfl⟩|⟨_,rfl,rfl,rfl,rfl,h'⟩
  ·refine (key q1 q2 ?_).elim
   rcases h with ⟨_,h⟩|⟨_,_,_,_,h⟩
   ·exact .inl h
   ·exact .inr h
  ·refine ⟨rfl,rfl,rfl,rfl,?_⟩
   rcases h with ⟨rfl,h⟩|⟨rfl,a,b,c,h⟩<;>rcases h' with ⟨rfl,h'⟩|⟨rfl,a',b',c',h'⟩
   ·rfl
   ·exact absurd ⟨a',b',c'⟩ h
   ·exact absurd ⟨a,b,c⟩ h'
   ·rfl
end Vi
end
section
open Go.Proofs Go.RowKit Go.Shelf
theorem Uw (ao bo:Option Addr) (ca cb:Nat) (la lb:List Int) (w:World) (hla:la.length<=9223372036854775807) (hlb:lb.length<=9223372036854775807)
  (ha:Cel w ao (la.map Aj)) (hb:Cel w bo (lb.map Aj)):
  Calls Tryz.prog 25 #[.slice ao la.length ca,.slice bo lb.length cb] w fun e w'=>e=.returned (.bool (decide (la=lb)))/\∃n,w'=w.drewN n:=by
 have HA:=Bi5 ha;have HB:=Bi5 hb;clear ha hb
 by_cases hl:la.length=lb.length
 ·have hn2:((la.length:Int) != (lb.length:Int))=false:=by simp;omega
  have HN:=Bi5 hl;clear hl;have HD:=Bi5 (fun k (h1:k<la.length) (h2:la[k]≠lb[k]'(by have:=HN.out;omega))=>(decide_eq_false (fun e=>h2 (by subst e;rfl)):decide (la=lb)=false));have HE:=Bi5 (fun h:(∀j (h:j<la.length),la[j]=lb[j]'(by have:=HN.out;omega))=>(decide_eq_true (List.ext_getElem HN.out (fun i h1 h2=>h i h1)):decide (la=lb)=true));generalize decide (la=lb)=r at*
  go_enter Tryz.func25,Tryz.ntmps25
  go_wp2
  go_loopg [5] la.length (fun g i wr=>∃k q:Nat,k<=la.length/\la.length-k<=g/\i=.int .i64 k/\wr=w.drewN q/\Aside (∀j (h:j<la.length),j<k->la[j]=lb[j]'(by have:=HN.out;omega)))
  case atStart=>exact ⟨0,0,Bi8 _,by omega,rfl,rfl,fun j _ h=>absurd h (Nat.not_lt_zero _)⟩
  case round=>
   obtain ⟨k,q,hk,hg,rfl,rfl,HF⟩:=hrel
   by_cases hlt:k<la.length
   ·have hlt2:k<lb.length:=by have:=HN.out;omega
    have hlt3:(k:Int)<(la.length:Int):=by omega
    have hlt4:(k:Int)<(lb.length:Int):=by omega
    have hk0:(0:Int)<=(k:Int):=by omega
    obtain ⟨b1,o1,hao,hc1⟩:=HA.out.at hlt;obtain ⟨b2,o2,hbo,hc2⟩:=HB.out.at hlt2;subst hao hbo;have HD2:=Bi5 (HD.out k hlt);have HM:=Bi5 (fun h:la[k]=lb[k]=>(fun j (h1:j<la.length) (h2:j<k+1)=>(by
     by_cases e:j=k
     ·subst e;exact h
     ·exact HF.out j h1 (by omega):la[j]=lb[j]'(by have:=HN.out;omega))))
    generalize la[k]=x at*;generalize lb[k]=y at*
    go_wp2
    go_quiet (fail)
    go_wp2
    ·have ht:=ne_i (by assumption)
     go_ret
     exact ⟨by rw [HD2.out ht];rfl,q+nq,World.drewN_drewN _ _ _⟩
    ·have ht:=eq_i (by assumption)
     go_roundg (la.length-(k+1))
     case measure=>omega
     case rel=>exact ⟨k+1,q+nq,by omega,by omega,by go_num,rfl,HM.out ht⟩
   ·obtain rfl:k=la.length:=by omega
    go_wp2
    go_ret
    exact ⟨by rw [HE.out (fun j h=>HF.out j h h)];rfl,q,rfl⟩
 ·have hn2:((la.length:Int) != (lb.length:Int))=true:=by simp;omega
  have HN:=Bi5 (decide_eq_false (fun e=>hl (by subst e;rfl)):decide (la=lb)=false);clear hl
  go_enter Tryz.func25,Tryz.ntmps25
  go_wp2
  go_ret
  exact ⟨by rw [HN.out];rfl,0,rfl⟩
end
section
namespace Vi
open Go Go.Proofs Go.RowKit Go.Shelf Hp Ch Ad Ro Dj
theorem ex_A:∀u v w,Am exE u v w->Aa 2 u/\Aa 2 v/\1<=w:=by
 intro u v w h;obtain ⟨rfl,rfl,rfl⟩:=Nx.1 h;exact ⟨by decide,by decide,by decide⟩
theorem Aw2 {ro:List Int} {L:List Int} {k:Int} (h:VnIs 2 exE ro 1 1 L k):L=[1]/\k=0:=by
 rcases h with ⟨hk,_,_,_,hp,_,hv⟩|⟨hk,_,hd⟩
 ·refine ⟨?_,hk⟩
  have h1:∀v,v∈L↔v=1:=fun v=>by
   rw [hv];constructor
   ·rintro ⟨⟨d,_,hd,_⟩,_⟩
    rcases hd.1 with ⟨e,_⟩|h
    ·exact e.symm
    ·have:=(Aw1 h).1
     cases this
   ·rintro rfl
    exact ⟨⟨0,Peak.self Ac3 _ _⟩,⟨0,Peak.self (fun u v w h=>Ac3 v u w h) _ _⟩⟩
  match L,hp,h1 with
  |[],_,h1=>exact absurd ((h1 1).2 rfl) (by simp)
  |[a],_,h1=>rw [(h1 a).1 (by simp)]
  |a::b::r,hp,h1=>
   have e1:=(h1 a).1 (by simp);have e2:=(h1 b).1 (by simp);have:=List.rel_of_pairwise_cons hp (a':=b) (by simp);omega
 ·exact absurd (Ah1 hd).2 hk
theorem Bi0 {V:Int} {l:List Int} {x c k:Int} (h:ByIs 2 exE 0 1 1 V l x c k):V=1/\x=3/\c=1/\k=0:=by
 rcases h with ⟨hk,hV,l1,l2,x1,x2,h1,h2,rfl,rfl,rfl⟩|⟨_,_,_,_,_,h|⟨_,_,_,_,h|h⟩⟩
 ·have e1:=(Bb8 (Fh h1)).1
  have e2:=(Ah1 (Fh h2)).1;refine ⟨hV,by omega,?_,hk⟩
  rcases Ho ex_A h1 with ⟨_,e,_⟩|⟨I,hI⟩
  ·cases e
  ·have hm:=hI.mem
   have hs:=hI.sum;have hw:l1.map (wt exE)=List.replicate l1.length 3:=by
    rw [List.eq_replicate_iff];refine ⟨by simp,fun y hy=>?_⟩;obtain ⟨e,he,rfl⟩:=List.mem_map.1 hy;obtain ⟨k1,k2⟩:=hm e he;have:e=0:=by simp at k2;omega
    subst this;rfl
   rw [hw,List.sum_replicate_int] at hs;omega
 ·exact absurd ⟨⟨by decide,by decide⟩,⟨by decide,by decide⟩,⟨by decide,by decide⟩⟩ h.2
 ·exact absurd (.inr (.one (Nx.2 ⟨rfl,rfl,rfl⟩))) (h 3)
 ·exact absurd (.inl ⟨rfl,rfl⟩) (h 0)
theorem Yu (w:World):Calls Tryz.prog 32 #[] w fun e w'=>e=.returned (.bool true)/\Below w.heap.size w w':=by
 have HBU:=Bi5 (fun W ao (hc:Cel W ao (Ax exE))=>Ui ⟨2,exE⟩ ao none 1 0 1 1 [] W hc (Cel.nil _ _) (fun _=>by decide) (by decide) (by decide));have HVN:=Bi5 (fun W hb R S ro (h:BH W hb 2 exE R S ro)=>Oo hb 2 exE R S ro 1 1 W h);have HBY:=Bi5 (fun W ao (hc:Cel W ao (Ax exE))=>Ax5 2 exE ao 1 0 1 1 W (by decide) (by decide) (by decide) hc);unfold Vv at HVN;unfold Ln Us at HBY
 go_enter Tryz.func32,Tryz.ntmps32
 go_upto_region 2 with (go_at_call 13;refine (HBU.out _ (some ⟨w.heap.size,0,none⟩) (Ym _ _ _ _ _)).mono ?_;rintro e w1 hp;obtain ⟨hb,R,S,ro,rfl,hbh,hb1⟩:=hp.good (by decide) (by decide) (by decide);(have HBH:=Bi5 hbh);(have HB1:=Bi5 ((Below.of_al _ _).st hb1));clear hp hbh hb1)
 go_upto_region 4 with (first
  |(go_at_call 38;refine (HVN.out _ _ _ _ _ HBH.out).mono ?_;rintro e w2 ⟨ao,cap,L,k,rfl,h1,h2,h3⟩;obtain ⟨rfl,rfl⟩:=Aw2 h3;(have HC2:=Bi5 h1);(have HB2:=Bi5 (HB1.out.st h2));clear h1 h2 h3)
  |(go_at_call 33;refine (HBY.out _ (some ⟨w2.heap.size,0,none⟩) (Ym _ _ _ _ _)).mono ?_;rintro e w3 ⟨la,l,lc,V,x,c,k,rfl,h1,h2,h3,h4⟩;obtain ⟨rfl,rfl,rfl,rfl⟩:=Bi0 h3;(have HC3:=Bi5 ((HC2.out.go (Below.of_al _ _)).go h2));(have HB3:=Bi5 (HB2.out.st ((Below.of_al _ _).st h2)));clear h1 h2 h3 h4))
 obtain ⟨W3,hW3⟩:∃W3,W3=w3.alloc (Obj.cells #[.int .i64 1,.slice la l.length lc,.int .u64 3,.int .i64 1] 63):=⟨_,rfl⟩;rw [<-hW3];have hb3:Below w3.heap.size w3 W3:=by rw [hW3];exact Below.of_al _ _
 have HBW:=Bi5 (HB3.out.st hb3);have HCW:=Bi5 (HC3.out.go hb3);have z2:W3.cell? ⟨w3.heap.size,2,none⟩=some (.int .u64 3):=by rw [hW3];go_simp
 have z3:W3.cell? ⟨w3.heap.size,3,none⟩=some (.int .i64 1):=by rw [hW3];go_simp
 clear hW3 hb3;have HSA:=Bi5 (Uw ao (some ⟨W3.heap.size,0,none⟩) cap 1 [1] [1] (W3.alloc (Obj.cells #[.int .i64 1] 3)) (by decide) (by decide) (HCW.out.go (Below.of_al _ _)) (fun i u hu=>by
  match i with
  |0=>exact ⟨W3.heap.size,0,rfl,by cases hu;go_simp⟩
  |i+1=>simp at hu))
 rw [decide_eq_true (rfl:[(1:Int)]=[1])] at HSA;simp only [Bk0,Bk1,Nat.reduceAdd] at HSA;have x2:=Bi6 (Below.of_al W3 (Obj.cells #[.int .i64 1] 3)) z2;have x3:=Bi6 (Below.of_al W3 (Obj.cells #[.int .i64 1] 3)) z3
 go_wp2_with (go_at_call 25;refine HSA.out.mono ?_;rintro e w4 ⟨rfl,nq,rfl⟩;(have y2:=Bi6 (Below.of_dr _ nq) x2);(have y3:=Bi6 (Below.of_dr _ nq) x3))
 go_ret
 exact ⟨rfl,HBW.out.st ((Below.of_al W3 (Obj.cells #[.int .i64 1] 3)).st (Below.of_dr _ _))⟩
end Vi
end
section
namespace Vi
open Go Go.Proofs Go.RowKit Go.Shelf Hp Ch Ad Ro Dj
end Vi
end
section
namespace Vi
open Go Go.Proofs Go.RowKit Go.Shelf Hp Ch Ad Ro Dj
end Vi
end
section
namespace Vi
open Go Go.Proofs Go.RowKit Go.Shelf Hp Ch Ad Ro Dj
theorem Bg3 {n:Nat} {es:List EdgeD} (hg:Ak ⟨(n:Int),es⟩=0):∀u v w,Am es u v w->Aa n u/\Aa n v/\1<=w:=fun a b c h=>by
 have:=XD.ok (Ac4 hg) a b c (Ll (bk:=false).2 h);exact ⟨this.1,this.2.1,this.2.2.1⟩
end Vi
end
section
namespace Vi
open Go Go.Proofs Go.Sort Go.Lib
structure VD where
 v:Int
 ao:Option Addr
 cap:Nat
 es:List Int
 w:Int
 c:Int
instance:Inhabited VD:=⟨⟨0,none,0,[],0,0⟩⟩
def cfV (a b:VD):Int:=Lib.compareInt a.w b.w
theorem ltV (a b:VD):ltOf cfV a b=decide (a.w<b.w):=by
 unfold ltOf cfV Lib.compareInt
 by_cases h1:a.w<b.w
 ·simp [h1]
 ·by_cases h2:b.w<a.w
  ·simp [h1,h2]
  ·simp [h1,h2]
def Ek (x:VD) (p:List VD):List VD:=p.takeWhile (fun y=>decide (y.w<=x.w))++x::p.dropWhile (fun y=>decide (y.w<=x.w))
theorem Al7 {x y:VD} {p:List VD} (h:x.w<y.w):Ek x (p++[y])=Ek x p++[y]:=by
 unfold Ek
 induction p with
 |nil=>simp [show ¬y.w<=x.w by omega]
 |cons a p ih=>
  by_cases ha:a.w<=x.w
  ·simp only [List.cons_append,List.takeWhile_cons,List.dropWhile_cons,ha,decide_true,if_true]
   rw [ih]
  ·simp [ha]
theorem Au6 {x:VD} {p:List VD} (h:∀y∈p,y.w<=x.w):Ek x p=p++[x]:=by
 unfold Ek
 induction p with
 |nil=>rfl
 |cons a p ih=>
  have ha:=h a (by simp);simp only [List.takeWhile_cons,List.dropWhile_cons,ha,decide_true,if_true];rw [List.cons_append,ih (fun y hy=>h y (by simp [hy])),List.cons_append]
theorem Au5 (x:VD) (p:List VD):(Ek x p).length=p.length+1:=by
 unfold Ek;have:=congrArg List.length (List.takeWhile_append_dropWhile (p:=fun y:VD=>decide (y.w<=x.w)) (l:=p));rw [Bl5] at this;rw [Bl5,Bk0];omega
theorem Xy {x y:VD} {p:List VD}:y∈Ek x p↔y=x\/y∈p:=by
 unfold Ek;have h:=congrArg (fun l=>y∈l) (List.takeWhile_append_dropWhile (p:=fun y:VD=>decide (y.w<=x.w)) (l:=p));simp only [Bl8] at h;simp only [Bl8,Bl7];rw [<-h];constructor
 ·rintro (h|h|h)
  ·exact .inr (.inl h)
  ·exact .inl h
  ·exact .inr (.inr h)
 ·rintro (h|h|h)
  ·exact .inr (.inl h)
  ·exact .inl h
  ·exact .inr (.inr h)
theorem Xx {x:VD} {p:List VD} (h:p.Pairwise fun a b=>a.w<=b.w):(Ek x p).Pairwise fun a b=>a.w<=b.w:=by
 induction p with
 |nil=>simp [Ek]
 |cons a p ih=>
  obtain ⟨h1,h2⟩:=List.pairwise_cons.1 h
  by_cases ha:a.w<=x.w
  ·have e:Ek x (a::p)=a::Ek x p:=by
    unfold Ek;simp only [List.takeWhile_cons,List.dropWhile_cons,ha,decide_true,if_true];rfl
   rw [e];refine List.pairwise_cons.2 ⟨fun y hy=>?_,ih h2⟩
   rcases Xy.1 hy with rfl|hy
   ·exact ha
   ·exact h1 y hy
  ·have e:Ek x (a::p)=x::a::p:=by
    unfold Ek;simp [ha]
   rw [e];refine List.pairwise_cons.2 ⟨fun y hy=>?_,h⟩
   rcases Bl7.1 hy with rfl|hy
   ·omega
   ·have:=h1 y hy
    omega
def Bi (l:List VD):List VD:=l.foldl (fun p x=>Ek x p) []
theorem Vn {p q:List VD} {x:VD} (j:Nat) (h:j=p.length):(p++x::q).toArray[j]! =x:=by
 subst h;rw [getElem!_pos _ _ (by simp)];simp
theorem Bd9 {p q:List VD} {x y:VD} (j:Nat) (h:j=p.length):swp (p++y::x::q).toArray (j+1) j=(p++x::y::q).toArray:=by
 subst h;have e1:(p++y::x::q).toArray[p.length+1]! =x:=by
  have:=Vn (p:=p++[y]) (q:=q) (x:=x) (p.length+1) (by simp);rw [Bm8] at this;exact this
 have e2:(p++y::x::q).toArray[p.length]! =y:=Vn _ rfl;unfold swp;rw [e1,e2]
 apply Array.ext'
 simp
theorem Kt:∀(k:Nat) (p:List VD) (x:VD) (q:List VD),p.length=k->(p.Pairwise fun a b=>a.w<=b.w)->insInner (ltOf cfV) 0 k (p++x::q).toArray=(Ek x p++q).toArray
 |0,p,x,q,hl,_=>by
  obtain rfl:=List.eq_nil_of_length_eq_zero hl;rfl
 |k+1,p,x,q,hl,hs=>by
  obtain ⟨p',y,rfl⟩:∃p' y,p=p'++[y]:=⟨p.dropLast,p.getLast (by intro e;rw [e] at hl;cases hl),(List.dropLast_concat_getLast _).symm⟩;have hk:k=p'.length:=by simpa using hl.symm
  have hp:=Bn5.1 hs;have e1:(p'++[y]++x::q).toArray[k+1]! =x:=Vn _ (by simp [hk]);have e2:(p'++[y]++x::q).toArray[k]! =y:=by
   rw [Bm8];exact Vn (p:=p') (q:=x::q) _ hk
  unfold insInner;rw [e1,e2,ltV]
  by_cases hlt:x.w<y.w
  ·simp only [hlt,decide_true,Bool.and_true,decide_eq_true_eq]
   rw [if_pos (by omega)];have e3:swp (p'++[y]++x::q).toArray (k+1) k=(p'++x::(y::q)).toArray:=by
    rw [Bm8];exact Bd9 k hk
   rw [e3,Kt k p' x (y::q) hk.symm hp.1,Al7 hlt,Bm8];rfl
  ·simp only [hlt,decide_false,Bool.and_false]
   rw [if_neg (by simp),Au6 (fun z hz=>?_)]
   ·simp
   ·rcases Bl8.1 hz with hz|hz
    ·have:=hp.2.2 z hz y (by simp)
     omega
    ·rw [Bk2.1 hz]
     omega
theorem Lx {P:List VD->Prop} (h0:P []) (h1:∀l x,P l->P (l++[x])) (l:List VD):P l:=by
 have key:∀(k:Nat) (l:List VD),l.length=k->P l:=by
  intro k
  induction k with
  |zero=>intro l hl;rw [List.eq_nil_of_length_eq_zero hl];exact h0
  |succ k ih=>
   intro l hl;have hne:l≠[]:=by intro e;rw [e] at hl;cases hl
   rw [<-List.dropLast_concat_getLast hne];exact h1 _ _ (ih _ (by rw [List.length_dropLast];omega))
 exact key _ _ rfl
theorem Ei (l:List VD) (x:VD):Bi (l++[x])=Ek x (Bi l):=by
 unfold Bi;rw [List.foldl_append];rfl
theorem Jq:∀(l:List VD),(Bi l).length=l.length:=by
 refine Lx rfl fun l x ih=>?_;rw [Ei,Au5,ih];simp
theorem Jp {y:VD} (l:List VD):y∈Bi l↔y∈l:=by
 refine Lx (P:=fun l=>y∈Bi l↔y∈l) Iff.rfl (fun l x ih=>?_) l;rw [Ei,Xy,ih];simp [or_comm]
theorem Uv:∀(l:List VD),(Bi l).Pairwise fun a b=>a.w<=b.w:=by
 refine Lx .nil fun l x ih=>?_;rw [Ei];exact Xx ih
theorem Ks (l:List VD):∀(d i:Nat),l.length-i=d->1<=i->i<=l.length->insOuter (ltOf cfV) 0 l.length i (Bi (l.take i)++l.drop i).toArray=(Bi l).toArray
 |0,i,hd,_,hi=>by
  have e:i=l.length:=by omega
  subst e;rw [insOuter,if_neg (by omega),Bn1,List.drop_length,List.append_nil]
 |d+1,i,hd,h1,hi=>by
  have hlt:i<l.length:=by omega
  rw [insOuter,if_pos hlt,List.drop_eq_getElem_cons hlt,Kt i (Bi (l.take i)) l[i] (l.drop (i+1)) (by rw [Jq,List.length_take];omega) (Uv _),<-Ei,<-Bk3 hlt];exact Ks l d (i+1) (by omega) (by omega) (by omega)
theorem Aj1 (l:List VD) (hl:l≠[]):Go.Sort.insertionSort (ltOf cfV) l.toArray 0 l.length=(Bi l).toArray:=by
 have h0:0<l.length:=List.length_pos_iff.2 hl;have h:=Ks l (l.length-1) 1 rfl (Bi7 _) h0;have e:Bi (l.take 1)++l.drop 1=l:=by
  cases l with
  |nil=>exact absurd rfl hl
  |cons a r=>rfl
 rw [e] at h;exact h
end Vi
end
section
namespace Vi
open Go Go.Proofs Go.RowKit Go.Shelf Go.Lib Go.Sort Hp
def Bf6:Go.Shelf.Ren:=⟨fun|20=>205|n=>n,fun|22=>76|24=>63|25=>154|n=>n,fun n=>n⟩
theorem Bb5:Go.Proofs.SlLaysF0.n20 Tryz.prog Bf6:={
 mixed:=by kernel_rfl
 f20:=⟨Tryz.f205.name,by decide,Tryz.func205.trans (congrArg some (by kernel_rfl))⟩
 t0:=Tryz.underlying0
 a0:=Tryz.isAgg0
 z0:=Tryz.sizeOf0
 v0:=Tryz.zeroValue0
 t3:=Tryz.underlying3
 a3:=Tryz.isAgg3
 z3:=Tryz.sizeOf3
 v3:=Tryz.zeroValue3
 t4:=Tryz.underlying4
 a4:=Tryz.isAgg4
 z4:=Tryz.sizeOf4
 v4:=Tryz.zeroValue4
 t22:=Tryz.underlying76
 a22:=Tryz.isAgg76
 z22:=Tryz.sizeOf76
 v22:=Tryz.zeroValue76
 t25:=Tryz.underlying154
 a25:=Tryz.isAgg154
 z25:=Tryz.sizeOf154
 v25:=Tryz.zeroValue154 }
def Jj (x:VD):List Value:=[.int .i64 x.v,.slice x.ao x.es.length x.cap,.int .u64 x.w,.int .i64 x.c]
def Cd:List VD->List Value
 |[]=>[]
 |x::l=>Jj x++Cd l
theorem Nt:∀l:List VD,(Cd l).length=l.length*4
 |[]=>rfl
 |x::l=>by rw [Cd,Bl5,Nt l,Bk0];show 4+_=_;omega
theorem Uc:∀a b:List VD,Cd (a++b)=Cd a++Cd b
 |[],_=>rfl
 |x::l,b=>by rw [List.cons_append,Cd,Cd,Uc l b,Bm8]
theorem Nu:∀(l:List VD) (i:Nat) (h:i<l.length),(Cd l)[i*4]? =some (.int .i64 l[i].v)/\(Cd l)[i*4+1]? =some (.slice l[i].ao l[i].es.length l[i].cap)/\(Cd l)[i*4+2]? =some (.int .u64 l[i].w)/\(Cd l)[i*4+3]? =some (.int .i64 l[i].c)
 |x::l,0,_=>⟨rfl,rfl,rfl,rfl⟩
 |x::l,i+1,h=>by
  have ih:=Nu l i (by simpa using h);have e:∀j,(Cd (x::l))[(i+1)*4+j]? =(Cd l)[i*4+j]?:=fun j=>by
   rw [Cd,show (i+1)*4+j=(i*4+j)+4 by omega,Bm3 (by show 4<=_;omega)]
   show (Cd l)[i*4+j+4-4]? =_
   rw [Nat.add_sub_cancel]
  have e0:=e 0;rw [Nat.add_zero,Nat.add_zero] at e0;exact ⟨e0.trans ih.1,(e 1).trans ih.2.1,(e 2).trans ih.2.2.1,(e 3).trans ih.2.2.2⟩
theorem Oz (l:List VD):(flatK Jj 4 l.toArray).toList=Cd l:=by
 apply List.ext_getElem?
 intro t
 rcases Nat.lt_or_ge t (l.length*4) with ht|ht
 ·have h1:=get_flatK Jj 4 l.toArray t (by simpa using ht)
  have hk:t / 4<l.length:=by omega
  have hsz:t<(flatK Jj 4 l.toArray).size:=by simpa using ht
  rw [getElem!_pos _ t hsz] at h1;rw [Array.getElem?_toList,Array.getElem?_eq_getElem hsz,h1];have h2:l.toArray[t / 4]! =l[t / 4]:=by rw [getElem!_pos _ (t / 4) (by simpa using hk)];simp
  rw [h2];obtain ⟨g0,g1,g2,g3⟩:=Nu l (t / 4) hk;have hm:t % 4=0\/t % 4=1\/t % 4=2\/t % 4=3:=by omega
  have hd:t=t / 4*4+t % 4:=by omega
  rcases hm with h|h|h|h
  ·rw [h] at hd ⊢
   conv=>rhs;rw [hd]
   exact g0.symm
  ·rw [h] at hd ⊢
   conv=>rhs;rw [hd]
   exact g1.symm
  ·rw [h] at hd ⊢
   conv=>rhs;rw [hd]
   exact g2.symm
  ·rw [h] at hd ⊢
   conv=>rhs;rw [hd]
   exact g3.symm
 ·rw [Bm2 (by simpa using ht),Bm2 (by rw [Nt];exact ht)]
theorem Ay1 (x y:VD) (W:World):Calls Tryz.prog 91 (#[.agg (Jj x).toArray,.agg (Jj y).toArray]++#[]) W fun e w'=>e=.returned (.int .i64 (cfV x y))/\∃q os,w'=grow (W.drewN q) os:=by
 have HC:=Bi5 (Ns.Zc x.w y.w);have HE:=Bi5 (show Ns.Ao4 x.w y.w=cfV x y by
  unfold Ns.Ao4 cfV Lib.compareInt
  by_cases h1:x.w<y.w
  ·simp [h1]
  ·by_cases h2:y.w<x.w
   ·simp [h1,h2]
   ·simp [h1,h2])
 rw [<-HE.out];generalize Ns.Ao4 x.w y.w=r at*
 show Calls Tryz.prog _ (#[.agg #[.int .i64 x.v,.slice x.ao x.es.length x.cap,.int .u64 x.w,.int .i64 x.c],.agg #[.int .i64 y.v,.slice y.ao y.es.length y.cap,.int .u64 y.w,.int .i64 y.c]]++#[]) W _
 go_enter Tryz.func91,Tryz.ntmps91
 go_wp2_with (go_at_call 92;refine (HC.out _).mono ?_;rintro e w1 ⟨rfl,rfl⟩)
 go_ret
 refine ⟨rfl,0,#[.cells #[.int .i64 x.v,.slice x.ao x.es.length x.cap,.int .u64 x.w,.int .i64 x.c] 63,.cells #[.int .i64 y.v,.slice y.ao y.es.length y.cap,.int .u64 y.w,.int .i64 y.c] 63],?_⟩;rw [alloc_eq_grow,alloc_eq_grow,grow_grow];rfl
theorem Au7 (W:World) (base:Nat) (v4:Value) (l:List VD) (hne:l≠[]) (h20:l.length<=1000000) (hown:W.ownsRow base 63 4 v4 l.length (Cd l)):
  Calls Tryz.prog 205 #[v4,.int .i64 (0:Nat),.int .i64 (l.length:Nat),.func (.func 91) #[] #[]] W fun e w'=>e=.returned (.tuple #[])/\w'.ownsRow base 63 4 v4 l.length (Cd (Bi l))/\OffX (fun k=>v4.ownBlock=some k) W w':=by
 have hown0:=hown;obtain ⟨hlen,h2⟩:=hown
 rcases h2 with ⟨_,h0⟩|⟨g,cap,cur,rfl,hb,hg,hcap,hml,hsz,htk⟩
 ·exact absurd (List.eq_nil_of_length_eq_zero h0) hne
 ·have hcell:=fun j (hj:j<l.length*4)=>hown0.cellAt j hj
  have hfroz:=hown0.frozenAt;have hlt:g<W.heap.size:=(Bj2.1 hg).1;have hH:HoldsK Jj 4 W g 0 l.toArray:=by
   intro j hj;rw [size_flatK] at hj;have hj2:j<l.length*4:=by simpa using hj
   refine ⟨?_,by rw [Nat.zero_add];exact hfroz j⟩;rw [Nat.zero_add];refine (hcell j hj2).trans ?_;rw [<-Oz,Array.getElem?_toList,getElem!_pos _ j (by rw [size_flatK];exact hj),Array.getElem?_eq_getElem (by rw [size_flatK];exact hj)];rfl
  have h:=AnyQ.insertionSortCmpFunc Bb5 4 (fun _=>by kernel_rfl) (fun _=>by kernel_rfl) Jj (fun _=>rfl) (by
   intro x v hv;unfold Jj at hv;simp only [Bl7,List.not_mem_nil,or_false] at hv
   rcases hv with rfl|rfl|rfl|rfl<;>rfl) cfV 91 #[] g 0 cap 0 l.length l.toArray W (enters_of Tryz.func91 (by kernel_rfl) rfl) (fun m os dk _ x y=>Ay1 x y _) hH hlt (Bi8 _) (by simp) (by simp;omega)
  have e9:l.toArray.size=l.length:=by simp
  rw [e9] at h;refine h.mono ?_;rintro e w' ⟨rfl,n,os,rfl⟩;rw [Aj1 l hne];have hs2:(Bi l).length=l.length:=Jq l;have hsz9:=size_sortWorldK_c Jj 4 W g 0 n (Bi l).toArray os;have hoth:∀k,k<W.heap.size->k≠g->(sortWorldK Jj 4 W g 0 n (Bi l).toArray os).heap[k]? =W.heap[k]?:=by
   intro k hk hne2
   show ((W.heap.modify g _)++os)[k]? =_
   rw [Array.getElem?_append_left (by simpa using hk),Array.getElem?_modify,if_neg (fun e=>hne2 e.symm)]
  have hgg:(sortWorldK Jj 4 W g 0 n (Bi l).toArray os).heap[g]? =some (.cells (putCells id 0 (flatK Jj 4 (Bi l).toArray) cur) 63 (0,0)):=by
   show ((W.heap.modify g _)++os)[g]? =_
   rw [Array.getElem?_append_left (by simpa using hlt),Array.getElem?_modify,if_pos rfl,hg];rfl
  refine ⟨rfl,⟨by rw [Nt,hs2],.inr ⟨g,cap,_,rfl,hb,hgg,hcap,hml,by unfold putCells;rw [Array.size_mapIdx];exact hsz,?_⟩⟩,⟨rfl,rfl,rfl,hsz9,fun k hk hn=>hoth k hk (fun e=>hn (by rw [e];rfl))⟩⟩;have hF:=Oz (Bi l);have hFs:(flatK Jj 4 (Bi l).toArray).size=l.length*4:=by rw [size_flatK];simp [hs2]
  rw [<-hF]
  apply List.ext_getElem?
  intro t;rw [List.getElem?_take]
  by_cases ht:t<l.length*4
  ·have h1:t<cur.size:=by rw [hsz];have:=Nat.mul_le_mul_right 4 hcap;omega
   have h2:t<(flatK Jj 4 (Bi l).toArray).size:=by rw [hFs];exact ht
   rw [if_pos ht,Array.getElem?_toList,Array.getElem?_toList,Array.getElem?_eq_getElem h2];unfold putCells;rw [Array.getElem?_mapIdx,Array.getElem?_eq_getElem h1];simp only [Option.map_some];rw [if_pos ⟨Bi8 _,by omega⟩,Nat.sub_zero,getElem!_pos _ t h2];rfl
  ·rw [if_neg ht,Array.getElem?_toList,Array.getElem?_eq_none (by rw [hFs];omega)]
theorem Al9 (fv v4:Value) (w:World):
  Calls Tryz.prog 205 #[v4,.int .i64 (0:Nat),.int .i64 (0:Nat),fv] w (fun e w'=>e=.returned (.tuple #[])/\w'=w):=by
 go_enter Tryz.func205,Tryz.ntmps205
 go_wp2
 refine wp_loop_rounds 1 ?_;rw [rounds_succ]
 go_wp2
 go_end0
 exact ⟨rfl,rfl⟩
def Ap7 (base:Nat) (v4:Value) (l:List VD) (W:World) (e:Ending) (w':World):Prop:=e=.returned (.tuple #[])/\w'.ownsRow base 63 4 v4 l.length (Cd (Bi l))/\OffX (fun k=>v4.ownBlock=some k) W w'
theorem Aj2 (W:World) (base:Nat) (ao:Option Addr) (cap:Nat) (l:List VD) (h12:l.length<=19) (hown:W.ownsRow base 63 4 (.slice ao l.length cap) l.length (Cd l)):
  Calls Tryz.prog 90 #[.slice ao l.length cap,.func (.func 91) #[] #[]] W (Ap7 base (.slice ao l.length cap) l W):=by
 have HI:RowKit.Hid (Calls Tryz.prog 205 #[.slice ao l.length cap,.int .i64 (0:Nat),.int .i64 (l.length:Nat),.func (.func 91) #[] #[]] W (Ap7 base (.slice ao l.length cap) l W)):=by
  refine Bi5 ?_
  by_cases h0:l=[]
  ·subst h0
   refine (Al9 _ _ W).mono ?_;rintro e w1 ⟨rfl,rfl⟩;exact ⟨rfl,hown,.of_below (Below.refl _ _)⟩
  ·exact Au7 W base _ l h0 (by omega) hown
 have HST:RowKit.Hid (Calls Tryz.prog 148 #[.slice ao l.length cap,.int .i64 (l.length:Nat),.func (.func 91) #[] #[]] W (Ap7 base (.slice ao l.length cap) l W)):=by
  refine Bi5 ?_;have hlt:(l.length:Int)<20:=by omega
  obtain ⟨Q,hQ⟩:∃Q,Q=Ap7 base (.slice ao l.length cap) l W:=⟨_,rfl⟩;have HQ:=Bi5 (fun e w' (h:Q e w')=>show e=.returned (.tuple #[]) by rw [hQ] at h;exact h.1);rw [<-hQ] at HI ⊢;clear hQ hown h12
  go_enter Tryz.func148,Tryz.ntmps148
  go_wp2
  refine wp_loop_rounds 1 ?_;rw [rounds_succ]
  go_wp2_with (go_at_call 205;refine HI.out.mono ?_;rintro e w1 hq;obtain rfl:=HQ.out _ _ hq;(have HH:=Bi5 hq);clear hq)
  refine wp_loop_rounds 1 ?_;rw [rounds_succ]
  go_wp2
  go_end0
  exact HH.out
 obtain ⟨Q,hQ⟩:∃Q,Q=Ap7 base (.slice ao l.length cap) l W:=⟨_,rfl⟩;have HQ:=Bi5 (fun e w' (h:Q e w')=>show e=.returned (.tuple #[]) by rw [hQ] at h;exact h.1);rw [<-hQ] at HST ⊢;clear hQ hown h12 HI
 go_enter Tryz.func90,Tryz.ntmps90
 go_wp2_with (go_at_call 148;refine HST.out.mono ?_;rintro e w1 hq;obtain rfl:=HQ.out _ _ hq;(have HH:=Bi5 hq);clear hq)
 go_end0
 exact HH.out
end Vi
end
section
namespace Ro
open Go Go.Proofs Go.RowKit Go.Shelf Hp Ch
theorem Ab1 (hb n:Nat) (es:List EdgeD) (R:List Int) (S:List SC) (O I:List (List Int)) (w:World) (h:HierM w hb n es R S O I):
  Calls Tryz.prog 89 #[.pointer (some ⟨hb,0,none⟩)] w (Ol (n:Int) es w):=by
 obtain ⟨W,hW⟩:∃W,W=w.alloc (Obj.cells #[.int .i64 0,.slice none 0 0] 24):=⟨_,rfl⟩;have hbw:Below w.heap.size w W:=by rw [hW];exact Below.of_al _ _
 have z:=And.intro (show W.cell? ⟨w.heap.size,0,none⟩=some (.int .i64 0) by rw [hW];go_simp) (And.intro (show W.cell? ⟨w.heap.size,1,none⟩=some (.slice none 0 0) by rw [hW];go_simp) (And.intro (show W.frozen? ⟨w.heap.size,0,none⟩=false by rw [hW];go_simp) (show W.frozen? ⟨w.heap.size,1,none⟩=false by rw [hW];go_simp)));have hlt:w.heap.size<W.heap.size:=by rw [hW];simp
 have c0:=Bi6 hbw h.c0;obtain ⟨a,c,c1,hc⟩:=h.c1;have c1:=Bi6 hbw c1;have HCG:=Bi5 (Lk (n:Int) es a c W (hc.go hbw) h.small.2.2.1);have HB:=Bi5 hbw;have HW:=Bi5 hW;have HZ:=Bi5 z;have HLT:=Bi5 hlt;unfold Ol at HCG ⊢;unfold gV at HCG;clear hW hbw hc z hlt h
 go_enter Tryz.func89,Tryz.ntmps89
 go_upto_region 1 with (fail)
 rw [<-HW.out]
 go_wp2_with (go_at_call 112;refine HCG.out.mono ?_;rintro e w1 ⟨a1,k1,rfl,h1,h2,h3⟩;(have HC1:=Bi5 h1);(have HB1:=Bi5 h2);(have HF1:=Bi5 h3);(have x0:=Bi6 h2 HZ.out.1);(have x1:=Bi6 h2 HZ.out.2.1);(have y0:=(h2.frozen (p:=⟨w.heap.size,0,none⟩) HLT.out).trans HZ.out.2.2.1);(have y1:=(h2.frozen (p:=⟨w.heap.size,1,none⟩) HLT.out).trans HZ.out.2.2.2);clear h1 h2 h3)
 have r0:((w1.setCell ⟨w.heap.size,0,none⟩ (.int .i64 (n:Int))).setCell ⟨w.heap.size,1,none⟩ (.slice a1 es.length k1)).cell? ⟨w.heap.size,0,none⟩=some (.int .i64 (n:Int)):=by
  rw [Bj3 _ _ _ _ (by simp)];exact Bj4 _ _ _ x0
 have r1:((w1.setCell ⟨w.heap.size,0,none⟩ (.int .i64 (n:Int))).setCell ⟨w.heap.size,1,none⟩ (.slice a1 es.length k1)).cell? ⟨w.heap.size,1,none⟩=some (.slice a1 es.length k1):=
  Bj4 (u:=.slice none 0 0) _ _ _ (by rw [Bj3 _ _ _ _ (by simp)];exact x1)
 refine bodyPost_ret (by simp [results,Tryz.results89,go_sem,r0,r1];try rfl) rfl ?_;refine ⟨a1,k1,rfl,fun i u hu=>?_,((HB.out.st HB1.out).setCell (Bi7 _) _).setCell (Bi7 _) _,fun k hk=>by have:=HF1.out k hk;have:=HLT.out;omega⟩;obtain ⟨b,o,e,h9⟩:=HC1.out i u hu;have hb9:=HF1.out b (by rw [e];rfl);have:=HLT.out;refine ⟨b,o,e,?_⟩;rw [Bn0 _ _ _ _ (by simp;omega),Bn0 _ _ _ _ (by simp;omega)];exact h9
end Ro
end
end Go.Proofs.YteaaapdjplbljaaGreat
