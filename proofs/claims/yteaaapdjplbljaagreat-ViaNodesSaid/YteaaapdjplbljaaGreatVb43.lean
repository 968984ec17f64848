/- Parts; no condition. -/
import Derived.Test.YteaaapdjplbljaaGreatVb42
import Derived.Sort.Defs
import Derived.Sort.WalkA
import Derived.Sort.LotA
import Derived.Shelf.SlSortCmp.InsertionK
set_option linter.unusedVariables false
set_option linter.unusedSimpArgs false
set_option linter.unnecessarySimpa false
set_option maxRecDepth 100000
set_option maxHeartbeats 8000000
namespace Go.Proofs.YteaaapdjplbljaaGreat
section
namespace Vi
open Go Go.Proofs Go.RowKit Go.Shelf Hp Ch Ad Ro Dj
theorem ex_A:∀u v w,Am exE u v w->Ac 2 u/\Ac 2 v/\1<=w:=by
 intro u v w h;obtain ⟨rfl,rfl,rfl⟩:=Ot.1 h;exact ⟨by decide,by decide,by decide⟩
theorem Az3 {ro:List Int} {L:List Int} {k:Int} (h:VnIs 2 exE ro 1 1 L k):L=[1]/\k=0:=by
 rcases h with ⟨hk,_,_,_,hp,_,hv⟩|⟨hk,_,hd⟩
 ·refine ⟨?_,hk⟩
  have h1:∀v,v∈L↔v=1:=fun v=>by
   rw [hv];constructor
   ·rintro ⟨⟨d,_,hd,_⟩,_⟩
    rcases hd.1 with ⟨e,_⟩|h
    ·exact e.symm
    ·have:=(Az2 h).1
     cases this
   ·rintro rfl
    exact ⟨⟨0,Peak.self Af2 _ _⟩,⟨0,Peak.self (fun u v w h=>Af2 v u w h) _ _⟩⟩
  match L,hp,h1 with
  |[],_,h1=>exact absurd ((h1 1).2 rfl) (by simp)
  |[a],_,h1=>rw [(h1 a).1 (by simp)]
  |a::b::r,hp,h1=>
   have e1:=(h1 a).1 (by simp);have e2:=(h1 b).1 (by simp);have:=List.rel_of_pairwise_cons hp (a':=b) (by simp);omega
 ·exact absurd (Aj9 hd).2 hk
theorem Bl4 {V:Int} {l:List Int} {x c k:Int} (h:ByIs 2 exE 0 1 1 V l x c k):V=1/\x=3/\c=1/\k=0:=by
 rcases h with ⟨hk,hV,l1,l2,x1,x2,h1,h2,rfl,rfl,rfl⟩|⟨_,_,_,_,_,h|⟨_,_,_,_,h|h⟩⟩
 ·have e1:=(Bf3 (Fo h1)).1
  have e2:=(Aj9 (Fo h2)).1;refine ⟨hV,by omega,?_,hk⟩
  rcases Ab9 ex_A h1 with ⟨_,e,_⟩|⟨I,hI⟩
  ·cases e
  ·have hm:=hI.mem
   have hs:=hI.sum;have hw:l1.map (wt exE)=List.replicate l1.length 3:=by
    rw [List.eq_replicate_iff];refine ⟨by simp,fun y hy=>?_⟩;obtain ⟨e,he,rfl⟩:=List.mem_map.1 hy;obtain ⟨k1,k2⟩:=hm e he;have:e=0:=by simp at k2;omega
    subst this;rfl
   rw [hw,List.sum_replicate_int] at hs;omega
 ·exact absurd ⟨⟨by decide,by decide⟩,⟨by decide,by decide⟩,⟨by decide,by decide⟩⟩ h.2
 ·exact absurd (.inr (.one (Ot.2 ⟨rfl,rfl,rfl⟩))) (h 3)
 ·exact absurd (.inl ⟨rfl,rfl⟩) (h 0)
theorem Zw (w:World):Calls Tryz.prog 32 #[] w fun e w'=>e=.returned (.bool true)/\Below w.heap.size w w':=by
 have HBU:=Bm0 (fun W ao (hc:Cel W ao (Ay exE))=>Vh ⟨2,exE⟩ ao none 1 0 1 1 [] W hc (Cel.nil _ _) (fun _=>by decide) (by decide) (by decide));have HVN:=Bm0 (fun W hb R S ro (h:BH W hb 2 exE R S ro)=>Jh hb 2 exE R S ro 1 1 W h);have HBY:=Bm0 (fun W ao (hc:Cel W ao (Ay exE))=>Ba6 2 exE ao 1 0 1 1 W (by decide) (by decide) (by decide) hc);unfold Jz at HVN;unfold Mj Fl at HBY
 go_enter Tryz.func32,Tryz.ntmps32
 go_upto_region 2 with (go_at_call 13;refine (HBU.out _ (some ⟨w.heap.size,0,none⟩) (Zo _ _ _ _ _)).mono ?_;rintro e w1 hp;obtain ⟨hb,R,S,ro,rfl,hbh,hb1⟩:=hp.good (by decide) (by decide) (by decide);(have HBH:=Bm0 hbh);(have HB1:=Bm0 ((Below.of_al _ _).st hb1));clear hp hbh hb1)
 go_upto_region 4 with (first
  |(go_at_call 38;refine (HVN.out _ _ _ _ _ HBH.out).mono ?_;rintro e w2 ⟨ao,cap,L,k,rfl,h1,h2,h3⟩;obtain ⟨rfl,rfl⟩:=Az3 h3;(have HC2:=Bm0 h1);(have HB2:=Bm0 (HB1.out.st h2));clear h1 h2 h3)
  |(go_at_call 33;refine (HBY.out _ (some ⟨w2.heap.size,0,none⟩) (Zo _ _ _ _ _)).mono ?_;rintro e w3 ⟨la,l,lc,V,x,c,k,rfl,h1,h2,h3,h4⟩;obtain ⟨rfl,rfl,rfl,rfl⟩:=Bl4 h3;(have HC3:=Bm0 ((HC2.out.go (Below.of_al _ _)).go h2));(have HB3:=Bm0 (HB2.out.st ((Below.of_al _ _).st h2)));clear h1 h2 h3 h4))
 obtain ⟨W3,hW3⟩:∃W3,W3=w3.alloc (Obj.cells #[.int .i64 1,.slice la l.length lc,.int .u64 3,.int .i64 1] 63):=⟨_,rfl⟩;rw [<-hW3];have hb3:Below w3.heap.size w3 W3:=by rw [hW3];exact Below.of_al _ _
 have HBW:=Bm0 (HB3.out.st hb3);have HCW:=Bm0 (HC3.out.go hb3);have z2:W3.cell? ⟨w3.heap.size,2,none⟩=some (.int .u64 3):=by rw [hW3];go_simp
 have z3:W3.cell? ⟨w3.heap.size,3,none⟩=some (.int .i64 1):=by rw [hW3];go_simp
 clear hW3 hb3;have HSA:=Bm0 (Mq ao (some ⟨W3.heap.size,0,none⟩) cap 1 [1] [1] (W3.alloc (Obj.cells #[.int .i64 1] 3)) (by decide) (by decide) (HCW.out.go (Below.of_al _ _)) (fun i u hu=>by
  match i with
  |0=>exact ⟨W3.heap.size,0,rfl,by cases hu;go_simp⟩
  |i+1=>simp at hu))
 rw [decide_eq_true (rfl:[(1:Int)]=[1])] at HSA;simp only [Bn5,Bn6,Nat.reduceAdd] at HSA;have x2:=Bm1 (Below.of_al W3 (Obj.cells #[.int .i64 1] 3)) z2;have x3:=Bm1 (Below.of_al W3 (Obj.cells #[.int .i64 1] 3)) z3
 go_wp2_with (go_at_call 25;refine HSA.out.mono ?_;rintro e w4 ⟨rfl,nq,rfl⟩;(have y2:=Bm1 (Below.of_dr _ nq) x2);(have y3:=Bm1 (Below.of_dr _ nq) x3))
 go_ret
 exact ⟨rfl,HBW.out.st ((Below.of_al W3 (Obj.cells #[.int .i64 1] 3)).st (Below.of_dr _ _))⟩
end Vi
end
section
namespace Vi
open Go Go.Proofs Go.RowKit Go.Shelf Hp Ch Ad Ro Dj
end Vi
end
section
namespace Vi
open Go Go.Proofs Go.RowKit Go.Shelf Hp Ch Ad Ro Dj
end Vi
end
section
namespace Vi
open Go Go.Proofs Go.RowKit Go.Shelf Hp Ch Ad Ro Dj
theorem Bk1 {n:Nat} {es:List EdgeD} (hg:Ak ⟨(n:Int),es⟩=0):∀u v w,Am es u v w->Ac n u/\Ac n v/\1<=w:=fun a b c h=>by
 have:=XD.ok (Si hg) a b c (Im (bk:=false).2 h);exact ⟨this.1,this.2.1,this.2.2.1⟩
theorem Ti (V W c:Int) (la lb:Option Addr) (lc ld:Nat) (l:List Int) (w:World) (hl:l.length<=1000000) (ha:Cel w la (l.map Ai)) (hb:Cel w lb (l.map Ai)):
  Calls Tryz.prog 80 #[Fl V la l.length lc W c,Fl V lb l.length ld W c] w fun e w'=>e=.returned (.bool true)/\Below w.heap.size w w':=by
 obtain ⟨W1,hW1⟩:∃W1,W1=(w.alloc (Obj.cells #[.int .i64 V,.slice la l.length lc,.int .u64 W,.int .i64 c] 66)).alloc (Obj.cells #[.int .i64 V,.slice lb l.length ld,.int .u64 W,.int .i64 c] 66):=⟨_,rfl⟩;have hb1:Below w.heap.size w W1:=by rw [hW1];exact (Below.of_al _ _).al _
 have x0:W1.cell? ⟨w.heap.size,0,none⟩=some (.int .i64 V):=by rw [hW1];go_simp
 have x1:W1.cell? ⟨w.heap.size,1,none⟩=some (.slice la l.length lc):=by rw [hW1];go_simp
 have x2:W1.cell? ⟨w.heap.size,2,none⟩=some (.int .u64 W):=by rw [hW1];go_simp
 have x3:W1.cell? ⟨w.heap.size,3,none⟩=some (.int .i64 c):=by rw [hW1];go_simp
 have y0:W1.cell? ⟨w.heap.size+1,0,none⟩=some (.int .i64 V):=by rw [hW1];go_simp
 have y1:W1.cell? ⟨w.heap.size+1,1,none⟩=some (.slice lb l.length ld):=by rw [hW1];go_simp
 have y2:W1.cell? ⟨w.heap.size+1,2,none⟩=some (.int .u64 W):=by rw [hW1];go_simp
 have y3:W1.cell? ⟨w.heap.size+1,3,none⟩=some (.int .i64 c):=by rw [hW1];go_simp
 have HCM:=Bm0 (show Calls Tryz.prog 19 #[.agg #[.slice la l.length lc,.int .u64 W],.agg #[.slice lb l.length ld,.int .u64 W]] W1 fun e w'=>e=.returned (.int .i64 0)/\Below W1.heap.size W1 w' from by
  have h:=Ac1 la lb lc ld l l W W W1 (by omega) (by omega) (ha.go hb1) (hb.go hb1);rw [Ar5] at h;exact h)
 have hV:(V==V)=true:=by simp
 have hcc:(c==c)=true:=by simp
 have HB1:=Bm0 hb1;have HW1:=Bm0 hW1;unfold Fl;clear hW1 hb1 ha hb
 go_enter Tryz.func80,Tryz.ntmps80
 go_upto_region 1 with (fail)
 rw [<-HW1.out]
 go_wp2_with (go_at_call 19;refine HCM.out.mono ?_;rintro e w2 ⟨rfl,hb2⟩;(have HB2:=Bm0 hb2);clear hb2)
 go_ret
 exact ⟨rfl,HB1.out.st HB2.out⟩
theorem Ab4 (V W c:Int) (la lb:Option Addr) (lc ld:Nat) (l:List Int) (w:World) (hl:l.length<=1000000) (ha:Cel w la (l.map Ai)) (hb:Cel w lb (l.map Ai)):
  Calls Tryz.prog 35 #[Fl V la l.length lc W c,Fl V lb l.length ld W c] w fun e w'=>e=.returned (.bool true)/\Below w.heap.size w w':=by
 obtain ⟨W1,hW1⟩:∃W1,W1=(w.alloc (Obj.cells #[.int .i64 V,.slice la l.length lc,.int .u64 W,.int .i64 c] 63)).alloc (Obj.cells #[.int .i64 V,.slice lb l.length ld,.int .u64 W,.int .i64 c] 66):=⟨_,rfl⟩;have hb1:Below w.heap.size w W1:=by rw [hW1];exact (Below.of_al _ _).al _
 have x0:W1.cell? ⟨w.heap.size,0,none⟩=some (.int .i64 V):=by rw [hW1];go_simp
 have x1:W1.cell? ⟨w.heap.size,1,none⟩=some (.slice la l.length lc):=by rw [hW1];go_simp
 have x2:W1.cell? ⟨w.heap.size,2,none⟩=some (.int .u64 W):=by rw [hW1];go_simp
 have x3:W1.cell? ⟨w.heap.size,3,none⟩=some (.int .i64 c):=by rw [hW1];go_simp
 have y0:W1.cell? ⟨w.heap.size+1,0,none⟩=some (.int .i64 V):=by rw [hW1];go_simp
 have y1:W1.cell? ⟨w.heap.size+1,1,none⟩=some (.slice lb l.length ld):=by rw [hW1];go_simp
 have y2:W1.cell? ⟨w.heap.size+1,2,none⟩=some (.int .u64 W):=by rw [hW1];go_simp
 have y3:W1.cell? ⟨w.heap.size+1,3,none⟩=some (.int .i64 c):=by rw [hW1];go_simp
 have HSM:=Bm0 (Ti V W c la lb lc ld l W1 hl (ha.go hb1) (hb.go hb1));have HB1:=Bm0 hb1;have HW1:=Bm0 hW1;unfold Fl at HSM ⊢;clear hW1 hb1 ha hb
 go_enter Tryz.func35,Tryz.ntmps35
 go_upto_region 1 with (fail)
 rw [<-HW1.out]
 go_wp2_with (go_at_call 80;refine HSM.out.mono ?_;rintro e w2 ⟨rfl,hb2⟩;(have HB2:=Bm0 hb2);clear hb2)
 go_ret
 exact ⟨rfl,HB1.out.st HB2.out⟩
end Vi
end
section
namespace Vi
open Go Go.Proofs Go.Sort Go.Lib
structure VD where
 v:Int
 ao:Option Addr
 cap:Nat
 es:List Int
 w:Int
 c:Int
instance:Inhabited VD:=⟨⟨0,none,0,[],0,0⟩⟩
def cfV (a b:VD):Int:=Lib.compareInt a.w b.w
theorem ltV (a b:VD):ltOf cfV a b=decide (a.w<b.w):=by
 unfold ltOf cfV Lib.compareInt
 by_cases h1:a.w<b.w
 ·simp [h1]
 ·by_cases h2:b.w<a.w
  ·simp [h1,h2]
  ·simp [h1,h2]
def Da (x:VD) (p:List VD):List VD:=p.takeWhile (fun y=>decide (y.w<=x.w))++x::p.dropWhile (fun y=>decide (y.w<=x.w))
theorem Ap0 {x y:VD} {p:List VD} (h:x.w<y.w):Da x (p++[y])=Da x p++[y]:=by
 unfold Da
 induction p with
 |nil=>simp [show ¬y.w<=x.w by omega]
 |cons a p ih=>
  by_cases ha:a.w<=x.w
  ·simp only [List.cons_append,List.takeWhile_cons,List.dropWhile_cons,ha,decide_true,if_true]
   rw [ih]
  ·simp [ha]
theorem Ax8 {x:VD} {p:List VD} (h:∀y∈p,y.w<=x.w):Da x p=p++[x]:=by
 unfold Da
 induction p with
 |nil=>rfl
 |cons a p ih=>
  have ha:=h a (by simp);simp only [List.takeWhile_cons,List.dropWhile_cons,ha,decide_true,if_true];rw [List.cons_append,ih (fun y hy=>h y (by simp [hy])),List.cons_append]
theorem Rx (x:VD) (p:List VD):(Da x p).length=p.length+1:=by
 unfold Da;have:=congrArg List.length (List.takeWhile_append_dropWhile (p:=fun y:VD=>decide (y.w<=x.w)) (l:=p));rw [Bp0] at this;rw [Bp0,Bn5];omega
theorem Yy {x y:VD} {p:List VD}:y∈Da x p↔y=x\/y∈p:=by
 unfold Da;have h:=congrArg (fun l=>y∈l) (List.takeWhile_append_dropWhile (p:=fun y:VD=>decide (y.w<=x.w)) (l:=p));simp only [Bp3] at h;simp only [Bp3,Bp2];rw [<-h];constructor
 ·rintro (h|h|h)
  ·exact .inr (.inl h)
  ·exact .inl h
  ·exact .inr (.inr h)
 ·rintro (h|h|h)
  ·exact .inr (.inl h)
  ·exact .inl h
  ·exact .inr (.inr h)
theorem Yx {x:VD} {p:List VD} (h:p.Pairwise fun a b=>a.w<=b.w):(Da x p).Pairwise fun a b=>a.w<=b.w:=by
 induction p with
 |nil=>simp [Da]
 |cons a p ih=>
  obtain ⟨h1,h2⟩:=List.pairwise_cons.1 h
  by_cases ha:a.w<=x.w
  ·have e:Da x (a::p)=a::Da x p:=by
    unfold Da;simp only [List.takeWhile_cons,List.dropWhile_cons,ha,decide_true,if_true];rfl
   rw [e];refine List.pairwise_cons.2 ⟨fun y hy=>?_,ih h2⟩
   rcases Yy.1 hy with rfl|hy
   ·exact ha
   ·exact h1 y hy
  ·have e:Da x (a::p)=x::a::p:=by
    unfold Da;simp [ha]
   rw [e];refine List.pairwise_cons.2 ⟨fun y hy=>?_,h⟩
   rcases Bp2.1 hy with rfl|hy
   ·omega
   ·have:=h1 y hy
    omega
def Bk (l:List VD):List VD:=l.foldl (fun p x=>Da x p) []
theorem Wp {p q:List VD} {x:VD} (j:Nat) (h:j=p.length):(p++x::q).toArray[j]! =x:=by
 subst h;rw [getElem!_pos _ _ (by simp)];simp
theorem Bh7 {p q:List VD} {x y:VD} (j:Nat) (h:j=p.length):swp (p++y::x::q).toArray (j+1) j=(p++x::y::q).toArray:=by
 subst h;have e1:(p++y::x::q).toArray[p.length+1]! =x:=by
  have:=Wp (p:=p++[y]) (q:=q) (x:=x) (p.length+1) (by simp);rw [Bq3] at this;exact this
 have e2:(p++y::x::q).toArray[p.length]! =y:=Wp _ rfl;unfold swp;rw [e1,e2]
 apply Array.ext'
 simp
theorem Li:∀(k:Nat) (p:List VD) (x:VD) (q:List VD),p.length=k->(p.Pairwise fun a b=>a.w<=b.w)->insInner (ltOf cfV) 0 k (p++x::q).toArray=(Da x p++q).toArray
 |0,p,x,q,hl,_=>by
  obtain rfl:=List.eq_nil_of_length_eq_zero hl;rfl
 |k+1,p,x,q,hl,hs=>by
  obtain ⟨p',y,rfl⟩:∃p' y,p=p'++[y]:=⟨p.dropLast,p.getLast (by intro e;rw [e] at hl;cases hl),(List.dropLast_concat_getLast _).symm⟩;have hk:k=p'.length:=by simpa using hl.symm
  have hp:=Br0.1 hs;have e1:(p'++[y]++x::q).toArray[k+1]! =x:=Wp _ (by simp [hk]);have e2:(p'++[y]++x::q).toArray[k]! =y:=by
   rw [Bq3];exact Wp (p:=p') (q:=x::q) _ hk
  unfold insInner;rw [e1,e2,ltV]
  by_cases hlt:x.w<y.w
  ·simp only [hlt,decide_true,Bool.and_true,decide_eq_true_eq]
   rw [if_pos (by omega)];have e3:swp (p'++[y]++x::q).toArray (k+1) k=(p'++x::(y::q)).toArray:=by
    rw [Bq3];exact Bh7 k hk
   rw [e3,Li k p' x (y::q) hk.symm hp.1,Ap0 hlt,Bq3];rfl
  ·simp only [hlt,decide_false,Bool.and_false]
   rw [if_neg (by simp),Ax8 (fun z hz=>?_)]
   ·simp
   ·rcases Bp3.1 hz with hz|hz
    ·have:=hp.2.2 z hz y (by simp)
     omega
    ·rw [Bn7.1 hz]
     omega
theorem Vt {P:List VD->Prop} (h0:P []) (h1:∀l x,P l->P (l++[x])) (l:List VD):P l:=by
 have key:∀(k:Nat) (l:List VD),l.length=k->P l:=by
  intro k
  induction k with
  |zero=>intro l hl;rw [List.eq_nil_of_length_eq_zero hl];exact h0
  |succ k ih=>
   intro l hl;have hne:l≠[]:=by intro e;rw [e] at hl;cases hl
   rw [<-List.dropLast_concat_getLast hne];exact h1 _ _ (ih _ (by rw [List.length_dropLast];omega))
 exact key _ _ rfl
theorem Ep (l:List VD) (x:VD):Bk (l++[x])=Da x (Bk l):=by
 unfold Bk;rw [List.foldl_append];rfl
theorem He:∀(l:List VD),(Bk l).length=l.length:=by
 refine Vt rfl fun l x ih=>?_;rw [Ep,Rx,ih];simp
theorem Ty {y:VD} (l:List VD):y∈Bk l↔y∈l:=by
 refine Vt (P:=fun l=>y∈Bk l↔y∈l) Iff.rfl (fun l x ih=>?_) l;rw [Ep,Yy,ih];simp [or_comm]
theorem Vq:∀(l:List VD),(Bk l).Pairwise fun a b=>a.w<=b.w:=by
 refine Vt .nil fun l x ih=>?_;rw [Ep];exact Yx ih
theorem Lh (l:List VD):∀(d i:Nat),l.length-i=d->1<=i->i<=l.length->insOuter (ltOf cfV) 0 l.length i (Bk (l.take i)++l.drop i).toArray=(Bk l).toArray
 |0,i,hd,_,hi=>by
  have e:i=l.length:=by omega
  subst e;rw [insOuter,if_neg (by omega),Bq6,List.drop_length,List.append_nil]
 |d+1,i,hd,h1,hi=>by
  have hlt:i<l.length:=by omega
  rw [insOuter,if_pos hlt,List.drop_eq_getElem_cons hlt,Li i (Bk (l.take i)) l[i] (l.drop (i+1)) (by rw [He,List.length_take];omega) (Vq _),<-Ep,<-Bn8 hlt];exact Lh l d (i+1) (by omega) (by omega) (by omega)
theorem Am6 (l:List VD) (hl:l≠[]):Go.Sort.insertionSort (ltOf cfV) l.toArray 0 l.length=(Bk l).toArray:=by
 have h0:0<l.length:=List.length_pos_iff.2 hl;have h:=Lh l (l.length-1) 1 rfl (Bm2 _) h0;have e:Bk (l.take 1)++l.drop 1=l:=by
  cases l with
  |nil=>exact absurd rfl hl
  |cons a r=>rfl
 rw [e] at h;exact h
end Vi
end
section
namespace Vi
open Go Go.Proofs Go.RowKit Go.Shelf Go.Lib Go.Sort Hp
def Bj4:Go.Shelf.Ren:=⟨fun|20=>205|n=>n,fun|22=>76|24=>63|25=>154|n=>n,fun n=>n⟩
theorem Bf0:Go.Proofs.SlLaysF0.n20 Tryz.prog Bj4:={
 mixed:=by kernel_rfl
 f20:=⟨Tryz.f205.name,by decide,Tryz.func205.trans (congrArg some (by kernel_rfl))⟩
 t0:=Tryz.underlying0
 a0:=Tryz.isAgg0
 z0:=Tryz.sizeOf0
 v0:=Tryz.zeroValue0
 t3:=Tryz.underlying3
 a3:=Tryz.isAgg3
 z3:=Tryz.sizeOf3
 v3:=Tryz.zeroValue3
 t4:=Tryz.underlying4
 a4:=Tryz.isAgg4
 z4:=Tryz.sizeOf4
 v4:=Tryz.zeroValue4
 t22:=Tryz.underlying76
 a22:=Tryz.isAgg76
 z22:=Tryz.sizeOf76
 v22:=Tryz.zeroValue76
 t25:=Tryz.underlying154
 a25:=Tryz.isAgg154
 z25:=Tryz.sizeOf154
 v25:=Tryz.zeroValue154 }
def Gj (x:VD):List Value:=[.int .i64 x.v,.slice x.ao x.es.length x.cap,.int .u64 x.w,.int .i64 x.c]
def Ar:List VD->List Value
 |[]=>[]
 |x::l=>Gj x++Ar l
theorem Hr:∀l:List VD,(Ar l).length=l.length*4
 |[]=>rfl
 |x::l=>by rw [Ar,Bp0,Hr l,Bn5];show 4+_=_;omega
theorem Oo:∀a b:List VD,Ar (a++b)=Ar a++Ar b
 |[],_=>rfl
 |x::l,b=>by rw [List.cons_append,Ar,Ar,Oo l b,Bq3]
theorem Kl:∀(l:List VD) (i:Nat) (h:i<l.length),(Ar l)[i*4]? =some (.int .i64 l[i].v)/\(Ar l)[i*4+1]? =some (.slice l[i].ao l[i].es.length l[i].cap)/\(Ar l)[i*4+2]? =some (.int .u64 l[i].w)/\(Ar l)[i*4+3]? =some (.int .i64 l[i].c)
 |x::l,0,_=>⟨rfl,rfl,rfl,rfl⟩
 |x::l,i+1,h=>by
  have ih:=Kl l i (by simpa using h);have e:∀j,(Ar (x::l))[(i+1)*4+j]? =(Ar l)[i*4+j]?:=fun j=>by
   rw [Ar,show (i+1)*4+j=(i*4+j)+4 by omega,Bp8 (by show 4<=_;omega)]
   show (Ar l)[i*4+j+4-4]? =_
   rw [Nat.add_sub_cancel]
  have e0:=e 0;rw [Nat.add_zero,Nat.add_zero] at e0;exact ⟨e0.trans ih.1,(e 1).trans ih.2.1,(e 2).trans ih.2.2.1,(e 3).trans ih.2.2.2⟩
theorem Pu (l:List VD):(flatK Gj 4 l.toArray).toList=Ar l:=by
 apply List.ext_getElem?
 intro t
 rcases Nat.lt_or_ge t (l.length*4) with ht|ht
 ·have h1:=get_flatK Gj 4 l.toArray t (by simpa using ht)
  have hk:t / 4<l.length:=by omega
  have hsz:t<(flatK Gj 4 l.toArray).size:=by simpa using ht
  rw [getElem!_pos _ t hsz] at h1;rw [Array.getElem?_toList,Array.getElem?_eq_getElem hsz,h1];have h2:l.toArray[t / 4]! =l[t / 4]:=by rw [getElem!_pos _ (t / 4) (by simpa using hk)];simp
  rw [h2];obtain ⟨g0,g1,g2,g3⟩:=Kl l (t / 4) hk;have hm:t % 4=0\/t % 4=1\/t % 4=2\/t % 4=3:=by omega
  have hd:t=t / 4*4+t % 4:=by omega
  rcases hm with h|h|h|h
  ·rw [h] at hd ⊢
   conv=>rhs;rw [hd]
   exact g0.symm
  ·rw [h] at hd ⊢
   conv=>rhs;rw [hd]
   exact g1.symm
  ·rw [h] at hd ⊢
   conv=>rhs;rw [hd]
   exact g2.symm
  ·rw [h] at hd ⊢
   conv=>rhs;rw [hd]
   exact g3.symm
 ·rw [Bp7 (by simpa using ht),Bp7 (by rw [Hr];exact ht)]
theorem Bb4 (x y:VD) (W:World):Calls Tryz.prog 91 (#[.agg (Gj x).toArray,.agg (Gj y).toArray]++#[]) W fun e w'=>e=.returned (.int .i64 (cfV x y))/\∃q os,w'=grow (W.drewN q) os:=by
 have HC:=Bm0 (Ns.Aa4 x.w y.w);have HE:=Bm0 (show Ns.Ik x.w y.w=cfV x y by
  unfold Ns.Ik cfV Lib.compareInt
  by_cases h1:x.w<y.w
  ·simp [h1]
  ·by_cases h2:y.w<x.w
   ·simp [h1,h2]
   ·simp [h1,h2])
 rw [<-HE.out];generalize Ns.Ik x.w y.w=r at*
 show Calls Tryz.prog _ (#[.agg #[.int .i64 x.v,.slice x.ao x.es.length x.cap,.int .u64 x.w,.int .i64 x.c],.agg #[.int .i64 y.v,.slice y.ao y.es.length y.cap,.int .u64 y.w,.int .i64 y.c]]++#[]) W _
 go_enter Tryz.func91,Tryz.ntmps91
 go_wp2_with (go_at_call 92;refine (HC.out _).mono ?_;rintro e w1 ⟨rfl,rfl⟩)
 go_ret
 refine ⟨rfl,0,#[.cells #[.int .i64 x.v,.slice x.ao x.es.length x.cap,.int .u64 x.w,.int .i64 x.c] 63,.cells #[.int .i64 y.v,.slice y.ao y.es.length y.cap,.int .u64 y.w,.int .i64 y.c] 63],?_⟩;rw [alloc_eq_grow,alloc_eq_grow,grow_grow];rfl
theorem Ax9 (W:World) (base:Nat) (v4:Value) (l:List VD) (hne:l≠[]) (h20:l.length<=1000000) (hown:W.ownsRow base 63 4 v4 l.length (Ar l)):
  Calls Tryz.prog 205 #[v4,.int .i64 (0:Nat),.int .i64 (l.length:Nat),.func (.func 91) #[] #[]] W fun e w'=>e=.returned (.tuple #[])/\w'.ownsRow base 63 4 v4 l.length (Ar (Bk l))/\OffX (fun k=>v4.ownBlock=some k) W w':=by
 have hown0:=hown;obtain ⟨hlen,h2⟩:=hown
 rcases h2 with ⟨_,h0⟩|⟨g,cap,cur,rfl,hb,hg,hcap,hml,hsz,htk⟩
 ·exact absurd (List.eq_nil_of_length_eq_zero h0) hne
 ·have hcell:=fun j (hj:j<l.length*4)=>hown0.cellAt j hj
  have hfroz:=hown0.frozenAt;have hlt:g<W.heap.size:=(Bm7.1 hg).1;have hH:HoldsK Gj 4 W g 0 l.toArray:=by
   intro j hj;rw [size_flatK] at hj;have hj2:j<l.length*4:=by simpa using hj
   refine ⟨?_,by rw [Nat.zero_add];exact hfroz j⟩;rw [Nat.zero_add];refine (hcell j hj2).trans ?_;rw [<-Pu,Array.getElem?_toList,getElem!_pos _ j (by rw [size_flatK];exact hj),Array.getElem?_eq_getElem (by rw [size_flatK];exact hj)];rfl
  have h:=AnyQ.insertionSortCmpFunc Bf0 4 (fun _=>by kernel_rfl) (fun _=>by kernel_rfl) Gj (fun _=>rfl) (by
   intro x v hv;unfold Gj at hv;simp only [Bp2,List.not_mem_nil,or_false] at hv
   rcases hv with rfl|rfl|rfl|rfl<;>rfl) cfV 91 #[] g 0 cap 0 l.length l.toArray W (enters_of Tryz.func91 (by kernel_rfl) rfl) (fun m os dk _ x y=>Bb4 x y _) hH hlt (Bm3 _) (by simp) (by simp;omega)
  have e9:l.toArray.size=l.length:=by simp
  rw [e9] at h;refine h.mono ?_;rintro e w' ⟨rfl,n,os,rfl⟩;rw [Am6 l hne];have hs2:(Bk l).length=l.length:=He l;have hsz9:=size_sortWorldK_c Gj 4 W g 0 n (Bk l).toArray os;have hoth:∀k,k<W.heap.size->k≠g->(sortWorldK Gj 4 W g 0 n (Bk l).toArray os).heap[k]? =W.heap[k]?:=by
   intro k hk hne2
   show ((W.heap.modify g _)++os)[k]? =_
   rw [Array.getElem?_append_left (by simpa using hk),Array.getElem?_modify,if_neg (fun e=>hne2 e.symm)]
  have hgg:(sortWorldK Gj 4 W g 0 n (Bk l).toArray os).heap[g]? =some (.cells (putCells id 0 (flatK Gj 4 (Bk l).toArray) cur) 63 (0,0)):=by
   show ((W.heap.modify g _)++os)[g]? =_
   rw [Array.getElem?_append_left (by simpa using hlt),Array.getElem?_modify,if_pos rfl,hg];rfl
  refine ⟨rfl,⟨by rw [Hr,hs2],.inr ⟨g,cap,_,rfl,hb,hgg,hcap,hml,by unfold putCells;rw [Array.size_mapIdx];exact hsz,?_⟩⟩,⟨rfl,rfl,rfl,hsz9,fun k hk hn=>hoth k hk (fun e=>hn (by rw [e];rfl))⟩⟩;have hF:=Pu (Bk l);have hFs:(flatK Gj 4 (Bk l).toArray).size=l.length*4:=by rw [size_flatK];simp [hs2]
  rw [<-hF]
  apply List.ext_getElem?
  intro t;rw [List.getElem?_take]
  by_cases ht:t<l.length*4
  ·have h1:t<cur.size:=by rw [hsz];have:=Nat.mul_le_mul_right 4 hcap;omega
   have h2:t<(flatK Gj 4 (Bk l).toArray).size:=by rw [hFs];exact ht
   rw [if_pos ht,Array.getElem?_toList,Array.getElem?_toList,Array.getElem?_eq_getElem h2];unfold putCells;rw [Array.getElem?_mapIdx,Array.getElem?_eq_getElem h1];simp only [Option.map_some];rw [if_pos ⟨Bm3 _,by omega⟩,Nat.sub_zero,getElem!_pos _ t h2];rfl
  ·rw [if_neg ht,Array.getElem?_toList,Array.getElem?_eq_none (by rw [hFs];omega)]
theorem Ap1 (fv v4:Value) (w:World):
  Calls Tryz.prog 205 #[v4,.int .i64 (0:Nat),.int .i64 (0:Nat),fv] w (fun e w'=>e=.returned (.tuple #[])/\w'=w):=by
 go_enter Tryz.func205,Tryz.ntmps205
 go_wp2
 refine wp_loop_rounds 1 ?_;rw [rounds_succ]
 go_wp2
 go_end0
 exact ⟨rfl,rfl⟩
def As8 (base:Nat) (v4:Value) (l:List VD) (W:World) (e:Ending) (w':World):Prop:=e=.returned (.tuple #[])/\w'.ownsRow base 63 4 v4 l.length (Ar (Bk l))/\OffX (fun k=>v4.ownBlock=some k) W w'
theorem Am8 (W:World) (base:Nat) (ao:Option Addr) (cap:Nat) (l:List VD) (h12:l.length<=19) (hown:W.ownsRow base 63 4 (.slice ao l.length cap) l.length (Ar l)):
  Calls Tryz.prog 90 #[.slice ao l.length cap,.func (.func 91) #[] #[]] W (As8 base (.slice ao l.length cap) l W):=by
 have HI:RowKit.Hid (Calls Tryz.prog 205 #[.slice ao l.length cap,.int .i64 (0:Nat),.int .i64 (l.length:Nat),.func (.func 91) #[] #[]] W (As8 base (.slice ao l.length cap) l W)):=by
  refine Bm0 ?_
  by_cases h0:l=[]
  ·subst h0
   refine (Ap1 _ _ W).mono ?_;rintro e w1 ⟨rfl,rfl⟩;exact ⟨rfl,hown,.of_below (Below.refl _ _)⟩
  ·exact Ax9 W base _ l h0 (by omega) hown
 have HST:RowKit.Hid (Calls Tryz.prog 148 #[.slice ao l.length cap,.int .i64 (l.length:Nat),.func (.func 91) #[] #[]] W (As8 base (.slice ao l.length cap) l W)):=by
  refine Bm0 ?_;have hlt:(l.length:Int)<20:=by omega
  obtain ⟨Q,hQ⟩:∃Q,Q=As8 base (.slice ao l.length cap) l W:=⟨_,rfl⟩;have HQ:=Bm0 (fun e w' (h:Q e w')=>show e=.returned (.tuple #[]) by rw [hQ] at h;exact h.1);rw [<-hQ] at HI ⊢;clear hQ hown h12
  go_enter Tryz.func148,Tryz.ntmps148
  go_wp2
  refine wp_loop_rounds 1 ?_;rw [rounds_succ]
  go_wp2_with (go_at_call 205;refine HI.out.mono ?_;rintro e w1 hq;obtain rfl:=HQ.out _ _ hq;(have HH:=Bm0 hq);clear hq)
  refine wp_loop_rounds 1 ?_;rw [rounds_succ]
  go_wp2
  go_end0
  exact HH.out
 obtain ⟨Q,hQ⟩:∃Q,Q=As8 base (.slice ao l.length cap) l W:=⟨_,rfl⟩;have HQ:=Bm0 (fun e w' (h:Q e w')=>show e=.returned (.tuple #[]) by rw [hQ] at h;exact h.1);rw [<-hQ] at HST ⊢;clear hQ hown h12 HI
 go_enter Tryz.func90,Tryz.ntmps90
 go_wp2_with (go_at_call 148;refine HST.out.mono ?_;rintro e w1 hq;obtain rfl:=HQ.out _ _ hq;(have HH:=Bm0 hq);clear hq)
 go_end0
 exact HH.out
end Vi
end
section
namespace Ro
open Go Go.Proofs Go.RowKit Go.Shelf Hp Ch
theorem Ad8 (hb n:Nat) (es:List EdgeD) (R:List Int) (S:List SC) (O I:List (List Int)) (w:World) (h:HierM w hb n es R S O I):
  Calls Tryz.prog 89 #[.pointer (some ⟨hb,0,none⟩)] w (Ph (n:Int) es w):=by
 obtain ⟨W,hW⟩:∃W,W=w.alloc (Obj.cells #[.int .i64 0,.slice none 0 0] 24):=⟨_,rfl⟩;have hbw:Below w.heap.size w W:=by rw [hW];exact Below.of_al _ _
 have z:=And.intro (show W.cell? ⟨w.heap.size,0,none⟩=some (.int .i64 0) by rw [hW];go_simp) (And.intro (show W.cell? ⟨w.heap.size,1,none⟩=some (.slice none 0 0) by rw [hW];go_simp) (And.intro (show W.frozen? ⟨w.heap.size,0,none⟩=false by rw [hW];go_simp) (show W.frozen? ⟨w.heap.size,1,none⟩=false by rw [hW];go_simp)));have hlt:w.heap.size<W.heap.size:=by rw [hW];simp
 have c0:=Bm1 hbw h.c0;obtain ⟨a,c,c1,hc⟩:=h.c1;have c1:=Bm1 hbw c1;have HCG:=Bm0 (Mi (n:Int) es a c W (hc.go hbw) h.small.2.2.1);have HB:=Bm0 hbw;have HW:=Bm0 hW;have HZ:=Bm0 z;have HLT:=Bm0 hlt;unfold Ph at HCG ⊢;unfold gV at HCG;clear hW hbw hc z hlt h
 go_enter Tryz.func89,Tryz.ntmps89
 go_upto_region 1 with (fail)
 rw [<-HW.out]
 go_wp2_with (go_at_call 112;refine HCG.out.mono ?_;rintro e w1 ⟨a1,k1,rfl,h1,h2,h3⟩;(have HC1:=Bm0 h1);(have HB1:=Bm0 h2);(have HF1:=Bm0 h3);(have x0:=Bm1 h2 HZ.out.1);(have x1:=Bm1 h2 HZ.out.2.1);(have y0:=(h2.frozen (p:=⟨w.heap.size,0,none⟩) HLT.out).trans HZ.out.2.2.1);(have y1:=(h2.frozen (p:=⟨w.heap.size,1,none⟩) HLT.out).trans HZ.out.2.2.2);clear h1 h2 h3)
 have r0:((w1.setCell ⟨w.heap.size,0,none⟩ (.int .i64 (n:Int))).setCell ⟨w.heap.size,1,none⟩ (.slice a1 es.length k1)).cell? ⟨w.heap.size,0,none⟩=some (.int .i64 (n:Int)):=by
  rw [Bm8 _ _ _ _ (by simp)];exact Bm9 _ _ _ x0
 have r1:((w1.setCell ⟨w.heap.size,0,none⟩ (.int .i64 (n:Int))).setCell ⟨w.heap.size,1,none⟩ (.slice a1 es.length k1)).cell? ⟨w.heap.size,1,none⟩=some (.slice a1 es.length k1):=
  Bm9 (u:=.slice none 0 0) _ _ _ (by rw [Bm8 _ _ _ _ (by simp)];exact x1)
 refine bodyPost_ret (by simp [results,Tryz.results89,go_sem,r0,r1];try rfl) rfl ?_;refine ⟨a1,k1,rfl,fun i u hu=>?_,((HB.out.st HB1.out).setCell (Bm2 _) _).setCell (Bm2 _) _,fun k hk=>by have:=HF1.out k hk;have:=HLT.out;omega⟩;obtain ⟨b,o,e,h9⟩:=HC1.out i u hu;have hb9:=HF1.out b (by rw [e];rfl);have:=HLT.out;refine ⟨b,o,e,?_⟩;rw [Bq5 _ _ _ _ (by simp;omega),Bq5 _ _ _ _ (by simp;omega)];exact h9
end Ro
end
end Go.Proofs.YteaaapdjplbljaaGreat
