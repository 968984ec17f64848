/- Parts; no condition. -/
import Derived.Test.YteaaapdjplbljaaGreatVb45
set_option linter.unusedVariables false
set_option linter.unusedSimpArgs false
set_option linter.unnecessarySimpa false
set_option maxRecDepth 100000
set_option maxHeartbeats 8000000
namespace Go.Proofs.YteaaapdjplbljaaGreat
section
namespace Vi
open Go Go.Proofs Go.RowKit Hp Ch Ad Ro Dj
theorem Ax2:∀(L L':List Int),L.Pairwise (· <·)->L'.Pairwise (· <·)->(∀v,v∈L↔v∈L')->L=L'
 |[],[],_,_,_=>rfl
 |[],b::l',_,_,h=>nomatch (h b).2 List.mem_cons_self
 |a::l,[],_,_,h=>nomatch (h a).1 List.mem_cons_self
 |a::l,b::l',hp,hp',h=>by
  rw [List.pairwise_cons] at hp hp';have e:a=b:=by
   rcases Bp2.1 ((h a).1 List.mem_cons_self) with h1|h1
   ·exact h1
   ·rcases Bp2.1 ((h b).2 List.mem_cons_self) with h2|h2
    ·exact h2.symm
    ·have h3:=hp.1 b h2
     have h4:=hp'.1 a h1;omega
  subst e;rw [Ax2 l l' hp.2 hp'.2 (fun v=>⟨fun hv=>by
   rcases Bp2.1 ((h v).1 (List.mem_cons_of_mem _ hv)) with h1|h1
   ·have:=hp.1 v hv;omega
   ·exact h1,fun hv=>by
   rcases Bp2.1 ((h v).2 (List.mem_cons_of_mem _ hv)) with h1|h1
   ·have:=hp'.1 v hv;omega
   ·exact h1⟩)]
theorem VnIs.uniq {n:Nat} {es:List EdgeD} {ro:List Int} {s t:Int} {L L':List Int} {k k':Int} (h:VnIs n es ro s t L k) (h':VnIs n es ro s t L' k'):L=L'/\k=k':=by
 have key:∀{d k:Int},Dist (Am es) s t d->Ac n s->Ac n t->k≠0->DistIs n (Am es) s t 0 k->False:=by
  intro d k hd hs ht hk hx
  rcases hx with ⟨h,_⟩|⟨_,_,_,_,h⟩|⟨_,_,h⟩
  ·exact hk h
  ·exact h _ hd.1
  ·exact h ⟨hs,ht⟩
 rcases h with ⟨rfl,a1,a2,⟨d,a3⟩,a4,_,a5⟩|⟨a1,rfl,a3⟩
 ·rcases h' with ⟨rfl,b1,b2,b3,b4,_,b5⟩|⟨b1,rfl,b3⟩
  ·exact ⟨Ax2 L L' a4 b4 (fun v=>(a5 v).trans (b5 v).symm),rfl⟩
  ·exact (key a3 a1 a2 b1 b3).elim
 ·rcases h' with ⟨rfl,b1,b2,⟨d,b3⟩,b4,_,b5⟩|⟨b1,rfl,b3⟩
  ·exact (key b3 b1 b2 a1 a3).elim
  ·exact ⟨rfl,(a3.uniq b3).2⟩
def Ah6 (x y:VD):Prop:=x.v=y.v/\x.es=y.es/\x.w=y.w/\x.c=y.c
def AllV:List VD->List VD->Prop
 |[],[]=>True
 |x::a,y::b=>Ah6 x y/\AllV a b
 |[],_::_=>False
 |_::_,[]=>False
theorem Al2:∀(a b:List VD),a.length=b.length->(∀i (h:i<a.length) (h':i<b.length),Ah6 a[i] b[i])->AllV a b
 |[],[],_,_=>trivial
 |[],_::_,h,_=>nomatch h
 |_::_,[],h,_=>nomatch h
 |x::a,y::b,h,hi=>⟨hi 0 (Nat.zero_lt_succ _) (Nat.zero_lt_succ _),Al2 a b (Nat.succ.inj h) (fun i h1 h2=>hi (i+1) (Nat.succ_lt_succ h1) (Nat.succ_lt_succ h2))⟩
theorem AllV.len:∀{a b:List VD},AllV a b->a.length=b.length
 |[],[],_=>rfl
 |x::a,y::b,h=>congrArg (· +1) (AllV.len h.2)
 |[],_::_,h=>h.elim
 |_::_,[],h=>h.elim
theorem AllV.get:∀{a b:List VD},AllV a b->∀i (h:i<a.length) (h':i<b.length),Ah6 a[i] b[i]
 |x::a,y::b,h,0,_,_=>h.1
 |x::a,y::b,h,i+1,h1,h2=>AllV.get h.2 i (Nat.lt_of_succ_lt_succ h1) (Nat.lt_of_succ_lt_succ h2)
 |[],_,_,_,h1,_=>absurd h1 (Nat.not_lt_zero _)
 |_::_,[],h,_,_,_=>h.elim
theorem Uz (x a:VD) (p:List VD):Da x (a::p)=if a.w<=x.w then a::Da x p else x::a::p:=by
 unfold Da
 by_cases h:a.w<=x.w
 ·simp [h]
 ·simp [h]
theorem Uy {x y:VD} (h:Ah6 x y):∀{a b:List VD},AllV a b->AllV (Da x a) (Da y b)
 |[],[],_=>⟨h,trivial⟩
 |p::a,q::b,hh=>by
  rw [Uz,Uz];have e1:=hh.1.2.2.1;have e2:=h.2.2.1
  by_cases hw:p.w<=x.w
  ·rw [if_pos hw,if_pos (by omega)]
   exact ⟨hh.1,Uy h hh.2⟩
  ·rw [if_neg hw,if_neg (by omega)]
   exact ⟨h,hh⟩
 |[],_::_,hh=>hh.elim
 |_::_,[],hh=>hh.elim
theorem Zi:∀{a b p q:List VD},AllV a b->AllV p q->AllV (a.foldl (fun p x=>Da x p) p) (b.foldl (fun p x=>Da x p) q)
 |[],[],_,_,_,h=>h
 |x::a,y::b,p,q,h1,h2=>Zi (a:=a) (b:=b) h1.2 (Uy h1.1 h2)
 |[],_::_,_,_,h,_=>h.elim
 |_::_,[],_,_,h,_=>h.elim
theorem Am7 {a b:List VD} (h:AllV a b):AllV (Bk a) (Bk b):=Zi h trivial
theorem ByL.all {n:Nat} {es:List EdgeD} (hA:∀u v w,Am es u v w->Ac n u/\Ac n v/\1<=w) {s t:Int} {L:List Int} {ys ys':List VD} (h:ByL n es s t L ys) (h':ByL n es s t L ys'):AllV ys ys':=
 Al2 _ _ (h.1.trans h'.1.symm) fun i h1 h2=>by
  obtain ⟨k,hk⟩:=h.2 i h1 (h.1▸h1);obtain ⟨k',hk'⟩:=h'.2 i h2 (h.1▸h1);obtain ⟨e1,e2,e3,e4,_⟩:=hk.uniq hA hk';exact ⟨e1,e2,e3,e4⟩
theorem Bf7 {n:Nat} {es:List EdgeD} {s t:Int} {L:List Int} {ys:List VD} (h:ByL n es s t L ys) {x:VD} (hx:x∈ys):∃v∈L,ByX n es s t v x:=by
 obtain ⟨i,hi,rfl⟩:=Bq4.1 hx;have hi2:i<L.length:=h.1▸hi;exact ⟨L[i],Bn2 hi2,h.2 i hi hi2⟩
theorem Bf6 {n:Nat} {es:List EdgeD} (hA:∀u v w,Am es u v w->Ac n u/\Ac n v/\1<=w) {s t v:Int} {x:VD} (h:ByX n es s t v x):x.es.length<=n+n:=by
 obtain ⟨k,h⟩:=h
 rcases h with ⟨rfl,_,l1,l2,x1,x2,r1,r2,e,_⟩|⟨_,_,e,_⟩
 ·have h1:=(Dt hA r1).1
  have h2:=(Dt hA r2).1;rw [e,Bp0];omega
 ·rw [e];simp
end Vi
end
section
namespace Vi
open Go Go.Proofs Go.RowKit Go.Shelf Hp
theorem Cel.via {w:World} {ao:Option Addr} {xs:List VD} (h:Cel w ao (Ar xs)) {i:Nat} (hi:i<xs.length):
  ∃b o,ao=some ⟨b,o,none⟩/\w.cell? ⟨b,o+i*4,none⟩=some (.int .i64 xs[i].v)/\w.cell? ⟨b,o+i*4+1,none⟩=some (.slice xs[i].ao xs[i].es.length xs[i].cap)/\w.cell? ⟨b,o+i*4+2,none⟩=some (.int .u64 xs[i].w)/\w.cell? ⟨b,o+i*4+3,none⟩=some (.int .i64 xs[i].c):=by
 obtain ⟨f0,f1,f2,f3⟩:=Kl xs i hi;obtain ⟨b,o,rfl,c0⟩:=h _ _ f0;obtain ⟨b1,o1,e1,c1⟩:=h _ _ f1
 cases e1
 obtain ⟨b2,o2,e2,c2⟩:=h _ _ f2
 cases e2
 obtain ⟨b3,o3,e3,c3⟩:=h _ _ f3
 cases e3
 exact ⟨b,o,rfl,c0,by rw [Nat.add_assoc];exact c1,by rw [Nat.add_assoc];exact c2,by rw [Nat.add_assoc];exact c3⟩
end Vi
end
section
open Go Go.Proofs Go.RowKit Go.Shelf Hp Ch
def Wi (n:Int) (es:List EdgeD):Bool:=(decide (n<=100)||decide (4096<n))&&decide ((es.length:Int)<=300)
theorem Yp (n:Int) (es:List EdgeD) (ao:Option Addr) (cap:Nat) (w:World):
  Calls Tryz.prog 31 #[.agg #[.int .i64 n,.slice ao es.length cap]] w fun e w'=>e=.returned (.bool (Wi n es))/\Below w.heap.size w w':=by
 unfold Wi
 by_cases h1:n<=100
 ·rw [decide_eq_true h1,Bool.true_or,Bool.true_and]
  have g1:decide (n<=100)=true:=decide_eq_true h1
  go_enter Tryz.func31,Tryz.ntmps31
  go_wp2
  go_ret
  exact ⟨rfl,Below.of_al _ _⟩
 ·rw [decide_eq_false h1,Bool.false_or]
  have g1:decide (n<=100)=false:=decide_eq_false h1
  by_cases h2:4096<n
  ·rw [decide_eq_true h2,Bool.true_and]
   have g2:decide (n>4096)=true:=decide_eq_true h2
   go_enter Tryz.func31,Tryz.ntmps31
   go_wp2
   go_ret
   exact ⟨rfl,Below.of_al _ _⟩
  ·rw [decide_eq_false h2,Bool.false_and]
   have g2:decide (n>4096)=false:=decide_eq_false h2
   go_enter Tryz.func31,Tryz.ntmps31
   go_wp2
   go_ret
   exact ⟨rfl,Below.of_al _ _⟩
def Mx (n:Int) (es:List EdgeD):Bool:=Wi n es&&(decide (n<=12)||decide (4096<n))&&decide ((es.length:Int)<=40)
theorem Tn {g:GD} (h:Mx g.n g.es=true):(Ak g=0->g.n<=12)/\g.es.length<=40:=by
 unfold Mx at h;simp only [Bool.and_eq_true,Bool.or_eq_true,decide_eq_true_eq] at h;refine ⟨fun hr=>?_,by omega⟩;have:=Ke hr;omega
theorem Yo (n:Int) (es:List EdgeD) (ao:Option Addr) (cap:Nat) (w:World):
  Calls Tryz.prog 11 #[.agg #[.int .i64 n,.slice ao es.length cap]] w fun e w'=>e=.returned (.bool (Mx n es))/\Below w.heap.size w w':=by
 have HL:=Bm0 (Yp n es ao cap);unfold Mx;obtain ⟨W,hW⟩:∃W,W=w.alloc (Obj.cells #[.int .i64 n,.slice ao es.length cap] 24):=⟨_,rfl⟩;have hbw:Below w.heap.size w W:=by rw [hW];exact Below.of_al _ _
 have c0:W.cell? ⟨w.heap.size,0,none⟩=some (.int .i64 n):=by rw [hW];go_simp
 have c1:W.cell? ⟨w.heap.size,1,none⟩=some (.slice ao es.length cap):=by rw [hW];go_simp
 have HB:=Bm0 hbw;have HW:=Bm0 hW;clear hbw hW
 cases hb:Wi n es with
 |false=>
  rw [hb] at HL;clear hb
  go_enter Tryz.func11,Tryz.ntmps11
  go_upto_region 1 with (fail)
  rw [<-HW.out]
  go_wp2_with (go_at_call 31;refine (HL.out _).mono ?_;rintro e w1 ⟨rfl,hb1⟩;(have HB1:=Bm0 hb1);clear hb1)
  go_ret
  exact ⟨by simp,HB.out.st HB1.out⟩
 |true=>
  rw [hb] at HL;clear hb
  by_cases h1:n<=12
  ·go_enter Tryz.func11,Tryz.ntmps11
   go_upto_region 1 with (fail)
   rw [<-HW.out]
   go_wp2_with (go_at_call 31;refine (HL.out _).mono ?_;rintro e w1 ⟨rfl,hb1⟩;(have d0:=Bm1 hb1 c0);(have d1:=Bm1 hb1 c1);(have HB1:=Bm0 hb1);clear hb1)
   go_ret
   exact ⟨by simp [h1],HB.out.st HB1.out⟩
  ·by_cases h2:4096<n
   ·go_enter Tryz.func11,Tryz.ntmps11
    go_upto_region 1 with (fail)
    rw [<-HW.out]
    go_wp2_with (go_at_call 31;refine (HL.out _).mono ?_;rintro e w1 ⟨rfl,hb1⟩;(have d0:=Bm1 hb1 c0);(have d1:=Bm1 hb1 c1);(have HB1:=Bm0 hb1);clear hb1)
    go_ret
    exact ⟨by simp [h1,h2],HB.out.st HB1.out⟩
   ·go_enter Tryz.func11,Tryz.ntmps11
    go_upto_region 1 with (fail)
    rw [<-HW.out]
    go_wp2_with (go_at_call 31;refine (HL.out _).mono ?_;rintro e w1 ⟨rfl,hb1⟩;(have d0:=Bm1 hb1 c0);(have d1:=Bm1 hb1 c1);(have HB1:=Bm0 hb1);clear hb1)
    go_ret
    exact ⟨by simp [h1,h2];intro h;omega,HB.out.st HB1.out⟩
theorem BltPost.two {g:GD} {k:Int} {w w':World} {e:Ending} (h:BltPost g k w e w'):∃p,e=.returned (.tuple #[.pointer p,.int .i64 k])/\Below w.heap.size w w'/\(k=0->Ak g=0->g.n<=12->∃hb R S ro,p=some ⟨hb,0,none⟩/\BH w' hb g.n.toNat g.es R S ro):=by
 have h0:=h;obtain ⟨h1|h1,h2⟩:=h
 ·obtain ⟨rfl,hb,R,S,ro,e,hm,ho⟩:=h1
  exact ⟨_,e,h2,fun _ hg hn=>by
   have:=Ke hg;exact ⟨hb,R,S,ro,rfl,⟨hm,ho,by omega,by omega⟩⟩⟩
 ·exact ⟨none,h1.2,h2,fun hk=>absurd hk h1.1⟩
end
section
open Go Go.Proofs Go.RowKit Go.Shelf Hp Ch
theorem BltPost.nil {g:GD} {k:Int} {w w':World} {e:Ending} (h:BltPost g k w e w') (hk:k≠0):e=.returned (.tuple #[.pointer none,.int .i64 k])/\Below w.heap.size w w':=by
 obtain ⟨h1|h1,h2⟩:=h
 ·exact absurd h1.1 hk
 ·exact ⟨h1.2,h2⟩
theorem Zr {g:GD} {h s:Int} {r:List Int} (k:Cg g h s r=0):Ak g=0:=by
 unfold Cg at k
 split at k
 ·cases k
 ·rename_i hn
  exact Decidable.byContradiction fun e=>hn (.inl e)
structure QB1 (W:World) (b:Nat) (g:GD) (ao:Option Addr) (cap:Nat) (h1 s1:Int) (ro:Option Addr) (r:List Int) (rc:Nat):Prop where
 g0:W.cell? ⟨b,0,none⟩=some (.int .i64 g.n)
 g1:W.cell? ⟨b,1,none⟩=some (.slice ao g.es.length cap)
 a0:W.cell? ⟨b+1,0,none⟩=some (.int .i64 h1)
 a1:W.cell? ⟨b+1,1,none⟩=some (.int .i64 s1)
 a2:W.cell? ⟨b+1,2,none⟩=some (.slice ro r.length rc)
theorem QB1.go {W W':World} {b:Nat} {g:GD} {ao:Option Addr} {cap:Nat} {h1 s1:Int} {ro:Option Addr} {r:List Int} {rc:Nat} (h:QB1 W b g ao cap h1 s1 ro r rc) (hz:Below W.heap.size W W'):QB1 W' b g ao cap h1 s1 ro r rc:=
 ⟨Bm1 hz h.g0,Bm1 hz h.g1,Bm1 hz h.a0,Bm1 hz h.a1,Bm1 hz h.a2⟩
end
end Go.Proofs.YteaaapdjplbljaaGreat
