/- Parts; no condition. -/
import Derived.Test.YteaaapdjplbljaaGreatVc46
set_option linter.unusedVariables false
set_option linter.unusedSimpArgs false
set_option linter.unnecessarySimpa false
set_option maxRecDepth 100000
set_option maxHeartbeats 8000000
namespace Go.Proofs.YteaaapdjplbljaaGreat
section
open Go Go.Proofs Go.RowKit
section
variable {a:Act} {P:Program} {Q:Exit->Act->World->Prop} {w:World}
end
end
section
namespace Vi
open Go Go.Proofs Go.RowKit Go.Shelf Hp
def Ax3 (x:VD) (p:List VD):Nat:=(p.takeWhile (fun y=>decide (y.w<=x.w))).length
theorem Xz (x:VD) (p:List VD):Ek x p=p.take (Ax3 x p)++x::p.drop (Ax3 x p):=by
 unfold Ek Ax3;have h:p.takeWhile (fun y=>decide (y.w<=x.w))=p.take (p.takeWhile (fun y=>decide (y.w<=x.w))).length:=by
  have h2:=List.takeWhile_append_dropWhile (p:=fun y:VD=>decide (y.w<=x.w)) (l:=p)
  conv=>rhs;arg 2;rw [<-h2]
  rw [List.take_left'];rfl
 have h3:p.dropWhile (fun y=>decide (y.w<=x.w))=p.drop (p.takeWhile (fun y=>decide (y.w<=x.w))).length:=by
  have h2:=List.takeWhile_append_dropWhile (p:=fun y:VD=>decide (y.w<=x.w)) (l:=p)
  conv=>rhs;arg 2;rw [<-h2]
  rw [List.drop_left'];rfl
 rw [<-h,<-h3]
end Vi
end
section
namespace Vi
open Go Go.Proofs Go.RowKit Hp Ch Ad Ro Dj
theorem Au1:∀(L L':List Int),L.Pairwise (· <·)->L'.Pairwise (· <·)->(∀v,v∈L↔v∈L')->L=L'
 |[],[],_,_,_=>rfl
 |[],b::l',_,_,h=>nomatch (h b).2 List.mem_cons_self
 |a::l,[],_,_,h=>nomatch (h a).1 List.mem_cons_self
 |a::l,b::l',hp,hp',h=>by
  rw [List.pairwise_cons] at hp hp';have e:a=b:=by
   rcases Bl7.1 ((h a).1 List.mem_cons_self) with h1|h1
   ·exact h1
   ·rcases Bl7.1 ((h b).2 List.mem_cons_self) with h2|h2
    ·exact h2.symm
    ·have h3:=hp.1 b h2
     have h4:=hp'.1 a h1;omega
  subst e;rw [Au1 l l' hp.2 hp'.2 (fun v=>⟨fun hv=>by
   rcases Bl7.1 ((h v).1 (List.mem_cons_of_mem _ hv)) with h1|h1
   ·have:=hp.1 v hv;omega
   ·exact h1,fun hv=>by
   rcases Bl7.1 ((h v).2 (List.mem_cons_of_mem _ hv)) with h1|h1
   ·have:=hp'.1 v hv;omega
   ·exact h1⟩)]
theorem VnIs.uniq {n:Nat} {es:List EdgeD} {ro:List Int} {s t:Int} {L L':List Int} {k k':Int} (h:VnIs n es ro s t L k) (h':VnIs n es ro s t L' k'):L=L'/\k=k':=by
 have key:∀{d k:Int},Dist (Am es) s t d->Aa n s->Aa n t->k≠0->DistIs n (Am es) s t 0 k->False:=by
  intro d k hd hs ht hk hx
  rcases hx with ⟨h,_⟩|⟨_,_,_,_,h⟩|⟨_,_,h⟩
  ·exact hk h
  ·exact h _ hd.1
  ·exact h ⟨hs,ht⟩
 rcases h with ⟨rfl,a1,a2,⟨d,a3⟩,a4,_,a5⟩|⟨a1,rfl,a3⟩
 ·rcases h' with ⟨rfl,b1,b2,b3,b4,_,b5⟩|⟨b1,rfl,b3⟩
  ·exact ⟨Au1 L L' a4 b4 (fun v=>(a5 v).trans (b5 v).symm),rfl⟩
  ·exact (key a3 a1 a2 b1 b3).elim
 ·rcases h' with ⟨rfl,b1,b2,⟨d,b3⟩,b4,_,b5⟩|⟨b1,rfl,b3⟩
  ·exact (key b3 b1 b2 a1 a3).elim
  ·exact ⟨rfl,(a3.uniq b3).2⟩
def Ar0 (x y:VD):Prop:=x.v=y.v/\x.es=y.es/\x.w=y.w/\x.c=y.c
def AllV:List VD->List VD->Prop
 |[],[]=>True
 |x::a,y::b=>Ar0 x y/\AllV a b
 |[],_::_=>False
 |_::_,[]=>False
theorem Ai0:∀(a b:List VD),a.length=b.length->(∀i (h:i<a.length) (h':i<b.length),Ar0 a[i] b[i])->AllV a b
 |[],[],_,_=>trivial
 |[],_::_,h,_=>nomatch h
 |_::_,[],h,_=>nomatch h
 |x::a,y::b,h,hi=>⟨hi 0 (Nat.zero_lt_succ _) (Nat.zero_lt_succ _),Ai0 a b (Nat.succ.inj h) (fun i h1 h2=>hi (i+1) (Nat.succ_lt_succ h1) (Nat.succ_lt_succ h2))⟩
theorem AllV.len:∀{a b:List VD},AllV a b->a.length=b.length
 |[],[],_=>rfl
 |x::a,y::b,h=>congrArg (· +1) (AllV.len h.2)
 |[],_::_,h=>h.elim
 |_::_,[],h=>h.elim
theorem AllV.get:∀{a b:List VD},AllV a b->∀i (h:i<a.length) (h':i<b.length),Ar0 a[i] b[i]
 |x::a,y::b,h,0,_,_=>h.1
 |x::a,y::b,h,i+1,h1,h2=>AllV.get h.2 i (Nat.lt_of_succ_lt_succ h1) (Nat.lt_of_succ_lt_succ h2)
 |[],_,_,_,h1,_=>absurd h1 (Nat.not_lt_zero _)
 |_::_,[],h,_,_,_=>h.elim
theorem Al8 (x a:VD) (p:List VD):Ek x (a::p)=if a.w<=x.w then a::Ek x p else x::a::p:=by
 unfold Ek
 by_cases h:a.w<=x.w
 ·simp [h]
 ·simp [h]
theorem ByL.all {n:Nat} {es:List EdgeD} (hA:∀u v w,Am es u v w->Aa n u/\Aa n v/\1<=w) {s t:Int} {L:List Int} {ys ys':List VD} (h:ByL n es s t L ys) (h':ByL n es s t L ys'):AllV ys ys':=
 Ai0 _ _ (h.1.trans h'.1.symm) fun i h1 h2=>by
  obtain ⟨k,hk⟩:=h.2 i h1 (h.1▸h1);obtain ⟨k',hk'⟩:=h'.2 i h2 (h.1▸h1);obtain ⟨e1,e2,e3,e4,_⟩:=hk.uniq hA hk';exact ⟨e1,e2,e3,e4⟩
theorem Bb4 {x:VD} {p:List VD} {z:VD} (hz:z∈Ek x p):z=x\/z∈p:=by
 rw [Xz] at hz
 rcases Bl8.1 hz with h1|h1
 ·exact .inr (List.mem_of_mem_take h1)
 ·rcases Bl7.1 h1 with h2|h2
  ·exact .inl h2
  ·exact .inr (List.mem_of_mem_drop h2)
theorem Ah6 {n:Nat} {es:List EdgeD} {s t:Int} {L:List Int} {ys:List VD} (h:ByL n es s t L ys) {x:VD} (hx:x∈ys):∃v∈L,ByX n es s t v x:=by
 obtain ⟨i,hi,rfl⟩:=Bm9.1 hx;have hi2:i<L.length:=h.1▸hi;exact ⟨L[i],Bj7 hi2,h.2 i hi hi2⟩
theorem Bc0 {n:Nat} {es:List EdgeD} (hA:∀u v w,Am es u v w->Aa n u/\Aa n v/\1<=w) {s t v:Int} {x:VD} (h:ByX n es s t v x):x.es.length<=n+n:=by
 obtain ⟨k,h⟩:=h
 rcases h with ⟨rfl,_,l1,l2,x1,x2,r1,r2,e,_⟩|⟨_,_,e,_⟩
 ·have h1:=(Gf hA r1).1
  have h2:=(Gf hA r2).1;rw [e,Bl5];omega
 ·rw [e];simp
end Vi
end
section
namespace Vi
open Go Go.Proofs Go.RowKit Go.Shelf Hp Ch Ad Ro Dj
theorem Ai6 {n:Nat} {A:Int->Int->Int->Prop} (hA:∀u v w,A u v w->Aa n u/\Aa n v) {p:Int->Prop} {u v d:Int} (h:Ch.Way A p u v d):Aa n v:=by
 induction h with
 |one h=>exact (hA _ _ _ h).2
 |cons _ _ _ ih=>exact ih
end Vi
end
section
namespace Vi
open Go Go.Proofs Go.RowKit Hp Ch Ad Ro Dj
theorem As3 {es:List EdgeD} {u v d:Int} {l I:List Int} (h:PE es u l v d I):I.length+1=l.length:=by
 induction h with
 |one h0 h=>rfl
 |two h h' ih ih'=>rw [Bl5,Bl5,Bk0];omega
theorem Vs {n:Nat} {es:List EdgeD} {ro:List Int} {s t:Int} {L:List Int} (hA:∀u v w,Am es u v w->Aa n u/\Aa n v/\1<=w) (h:VnIs n es ro s t L 0) {v:Int} (hv:v∈L) {x:VD} (hx:ByX n es s t v x):
  ∃l1 l2 x1 x2,Cy n es s v l1 x1 0/\Cy n es v t l2 x2 0/\x.es=l1++l2/\x.w=x1+x2/\x.c=(l1.length:Int)/\x.v=v:=by
 rcases h with ⟨_,hs,ht,_,_,_,hm⟩|⟨h,_⟩
 ·obtain ⟨⟨d1,_,p1,_⟩,⟨d2,_,p2,_⟩⟩:=(hm v).1 hv
  have p2':Way0 (Am es) Any v t d2:=p2.turn.1;obtain ⟨k,hx⟩:=hx
  rcases hx with ⟨rfl,e1,l1,l2,x1,x2,r1,r2,e2,e3,e4⟩|⟨_,_,_,_,_,hx⟩
  ·exact ⟨l1,l2,x1,x2,r1,r2,e2,e3,e4,e1⟩
  ·rcases hx with ⟨_,h7⟩|⟨_,_,_,_,h9|h9⟩
   ·refine absurd ⟨hs,?_,ht⟩ h7
    rcases p1.1 with ⟨rfl,_⟩|p
    ·exact hs
    ·exact Ai6 (fun u v w h=>⟨(hA u v w h).1,(hA u v w h).2.1⟩) p
   ·exact absurd p1.1 (h9 _)
   ·exact absurd p2' (h9 _)
 ·exact absurd rfl h
theorem Ak4 {n:Nat} {es:List EdgeD} (hg:Ak ⟨(n:Int),es⟩=0) (hA:∀u v w,Am es u v w->Aa n u/\Aa n v/\1<=w) {s v t:Int} {l1 l2:List Int} {x1 x2:Int} (h1:Cy n es s v l1 x1 0) (h2:Cy n es v t l2 x2 0):
  isB ⟨n,es⟩ s t (l1++l2)=true/\∃A B,Cu ⟨n,es⟩ s (l1++l2)=some (A++v::B)/\A.length=l1.length:=by
 have hs:Aa n s:=by
  rcases h1 with ⟨_,h,_⟩|⟨h,_⟩
  ·exact h
  ·exact absurd rfl h
 have hu:Bs (⟨n,es⟩:GD).n s=true:=by
  unfold Bs;simp only [Bool.and_eq_true,decide_eq_true_eq];exact hs
 have hE:Dd ⟨n,es⟩ []=true:=Nz hg (by intro e he;cases he)
 rcases Ho hA h1 with ⟨rfl,rfl,_⟩|⟨I,hI⟩
 ·rw [List.nil_append]
  rcases Ho hA h2 with ⟨rfl,rfl,_⟩|⟨J,hJ⟩
  ·refine ⟨?_,[],[],?_,rfl⟩
   ·unfold isB
    rw [Ht hE hu];simp [Bu]
   ·rw [Ht hE hu]
    rfl
  ·exact ⟨hJ.is (g:=⟨n,es⟩) hg hu,[],J++[t],by rw [hJ.nodes (g:=⟨n,es⟩) hg hu];simp,rfl⟩
 ·rcases Ho hA h2 with ⟨rfl,rfl,_⟩|⟨J,hJ⟩
  ·rw [List.append_nil]
   exact ⟨hI.is (g:=⟨n,es⟩) hg hu,s::I,[],by rw [hI.nodes (g:=⟨n,es⟩) hg hu];simp,by rw [Bk0];exact As3 hI⟩
  ·have hT:=PE.two hI hJ
   exact ⟨hT.is (g:=⟨n,es⟩) hg hu,s::I,J++[t],by rw [hT.nodes (g:=⟨n,es⟩) hg hu];simp,by rw [Bk0];exact As3 hI⟩
theorem Ao6 {n:Nat} {es:List EdgeD} {ro:List Int} {s t:Int} {L:List Int} (hg:Ak ⟨(n:Int),es⟩=0) (hA:∀u v w,Am es u v w->Aa n u/\Aa n v/\1<=w) (h:VnIs n es ro s t L 0) {v:Int} (hv:v∈L) {x:VD} (hx:ByX n es s t v x):
  x.v=v/\isB ⟨n,es⟩ s t x.es=true/\∃A B,Cu ⟨n,es⟩ s x.es=some (A++x.v::B)/\x.c=(A.length:Int)/\A.length<=x.es.length:=by
 obtain ⟨l1,l2,x1,x2,r1,r2,e1,e2,e3,e4⟩:=Vs hA h hv hx;obtain ⟨h1,A,B,h2,h3⟩:=Ak4 hg hA r1 r2;refine ⟨e4,by rw [e1];exact h1,A,B,by rw [e1,e4];exact h2,by rw [e3,h3],by rw [e1,h3,Bl5];omega⟩
theorem Al6 (x:VD) (p:List VD):(Ek x p).Perm (x::p):=by
 rw [Xz];have h:=List.perm_middle (a:=x) (l₁:=p.take (Ax3 x p)) (l₂:=p.drop (Ax3 x p));rw [List.take_append_drop] at h;exact h
theorem Zk:∀(l:List VD),(Bi l).Perm l:=by
 refine Lx (List.Perm.refl _) fun l x ih=>?_;rw [Ei];exact ((Al6 x _).trans (ih.cons x)).trans (List.perm_append_comm (l₁:=[x]) (l₂:=l))
theorem Xw {x:VD}:∀{p:List VD},p.Pairwise (fun a b=>a.w<=b.w)->(Ek x p).Pairwise (fun a b=>a.w<=b.w)
 |[],_=>List.pairwise_singleton _ _
 |a::p,h=>by
  rw [Al8];have h2:=List.pairwise_cons.1 h
  split
  ·rename_i hw
   refine List.pairwise_cons.2 ⟨fun b hb=>?_,Xw h2.2⟩
   rcases Bb4 hb with rfl|hb
   ·exact hw
   ·exact h2.1 b hb
  ·rename_i hw
   refine List.pairwise_cons.2 ⟨fun b hb=>?_,h⟩
   rcases Bl7.1 hb with rfl|hb
   ·omega
   ·have:=h2.1 b hb;omega
theorem Te:∀(l:List VD),(Bi l).Pairwise (fun a b=>a.w<=b.w):=by
 refine Lx List.Pairwise.nil fun l x ih=>?_;rw [Ei];exact Xw ih
theorem Wm {n:Nat} {es:List EdgeD} {ro:List Int} {s t:Int} {L:List Int} {ys:List VD} (hA:∀u v w,Am es u v w->Aa n u/\Aa n v/\1<=w) (h:VnIs n es ro s t L 0) (hy:ByL n es s t L ys):
  (Bi ys).Pairwise (fun a b=>a.v≠b.v):=by
 refine ((Zk ys).pairwise_iff (fun h e=>h e.symm)).2 ?_;have hL:L.Pairwise (· <·):=by
  rcases h with ⟨_,_,_,_,h,_⟩|⟨h,_⟩
  ·exact h
  ·exact absurd rfl h
 have hv:∀i (h1:i<ys.length),ys[i].v=L[i]'(hy.1▸h1):=fun i h1=>by
  obtain ⟨_,_,_,_,_,_,_,_,_,e⟩:=Vs hA h (Bj7 (hy.1▸h1)) (hy.2 i h1 (hy.1▸h1));exact e
 rw [List.pairwise_iff_getElem] at hL ⊢;intro i j h1 h2 hij;rw [hv i h1,hv j h2];have:=hL i j (hy.1▸h1) (hy.1▸h2) hij;omega
theorem Xp {n:Nat} {es:List EdgeD} {R:List Int} {S:List SC} {ro:List Int} {s t d:Int} {L:List Int} {ys:List VD} (hok:HierOK es n R S ro) (hA:∀u v w,Am es u v w->Aa n u/\Aa n v/\1<=w) (h:VnIs n es ro s t L 0) (hy:ByL n es s t L ys) (hd:Dist (Am es) s t d):
  ∃x r,Bi ys=x::r/\x.w=d:=by
 obtain ⟨v,a,b,e,p1,p2⟩:=Nk hok.h hd;have hv:v∈L:=by
  rcases h with ⟨_,_,_,_,_,_,h⟩|⟨h,_⟩
  ·exact (h v).2 ⟨⟨a,p1⟩,b,p2⟩
  ·exact absurd rfl h
 have hge:∀x∈ys,d<=x.w:=fun x hx=>by
  obtain ⟨u,hu,hb⟩:=Ah6 hy hx;obtain ⟨l1,l2,x1,x2,r1,r2,_,e3,_⟩:=Vs hA h hu hb;have q1:Dist (Am es) s u x1:=by
   rcases r1 with ⟨_,_,_,h,_⟩|⟨h,_⟩
   ·exact h
   ·exact absurd rfl h
  have q2:Dist (Am es) u t x2:=by
   rcases r2 with ⟨_,_,_,h,_⟩|⟨h,_⟩
   ·exact h
   ·exact absurd rfl h
  rw [e3];exact hd.2 _ (q1.1.trans trivial q2.1)
 obtain ⟨i,hi,rfl⟩:=Bm9.1 hv;have hi2:i<ys.length:=hy.1▸hi;have hw:(ys[i]).w=d:=by
  obtain ⟨l1,l2,x1,x2,r1,r2,_,e3,_⟩:=Vs hA h hv (hy.2 i hi2 hi);have q1:Dist (Am es) s L[i] x1:=by
   rcases r1 with ⟨_,_,_,h,_⟩|⟨h,_⟩
   ·exact h
   ·exact absurd rfl h
  have q2:Dist (Am es) L[i] t x2:=by
   rcases r2 with ⟨_,_,_,h,_⟩|⟨h,_⟩
   ·exact h
   ·exact absurd rfl h
  have e1:=q1.uniq p1.2.1;have e2:x2=b:=q2.uniq p2.2.1.turn;rw [e3,e1,e2,e]
 have hm:ys[i]∈Bi ys:=(Jp _).2 (Bj7 hi2);have hs:=Te ys
 cases hq:Bi ys with
 |nil=>rw [hq] at hm;cases hm
 |cons x r=>
  refine ⟨x,r,rfl,?_⟩;rw [hq] at hm hs;have h1:x.w<=(ys[i]).w:=by
   rcases Bl7.1 hm with e|hr
   ·rw [e];exact Int.le_refl _
   ·exact (List.pairwise_cons.1 hs).1 _ hr
  have h2:=hge x ((Jp _).1 (hq▸List.mem_cons_self));omega
end Vi
end
section
namespace Vi
open Go Go.Proofs Go.RowKit Go.Shelf Hp
theorem Cel.via {w:World} {ao:Option Addr} {xs:List VD} (h:Cel w ao (Cd xs)) {i:Nat} (hi:i<xs.length):
  ∃b o,ao=some ⟨b,o,none⟩/\w.cell? ⟨b,o+i*4,none⟩=some (.int .i64 xs[i].v)/\w.cell? ⟨b,o+i*4+1,none⟩=some (.slice xs[i].ao xs[i].es.length xs[i].cap)/\w.cell? ⟨b,o+i*4+2,none⟩=some (.int .u64 xs[i].w)/\w.cell? ⟨b,o+i*4+3,none⟩=some (.int .i64 xs[i].c):=by
 obtain ⟨f0,f1,f2,f3⟩:=Nu xs i hi;obtain ⟨b,o,rfl,c0⟩:=h _ _ f0;obtain ⟨b1,o1,e1,c1⟩:=h _ _ f1
 cases e1
 obtain ⟨b2,o2,e2,c2⟩:=h _ _ f2
 cases e2
 obtain ⟨b3,o3,e3,c3⟩:=h _ _ f3
 cases e3
 exact ⟨b,o,rfl,c0,by rw [Nat.add_assoc];exact c1,by rw [Nat.add_assoc];exact c2,by rw [Nat.add_assoc];exact c3⟩
end Vi
end
section
open Go Go.Proofs Go.RowKit Go.Shelf Hp Ch
def Vf (n:Int) (es:List EdgeD):Bool:=(decide (n<=100)||decide (4096<n))&&decide ((es.length:Int)<=300)
theorem Xo (n:Int) (es:List EdgeD) (ao:Option Addr) (cap:Nat) (w:World):
  Calls Tryz.prog 31 #[.agg #[.int .i64 n,.slice ao es.length cap]] w fun e w'=>e=.returned (.bool (Vf n es))/\Below w.heap.size w w':=by
 unfold Vf
 by_cases h1:n<=100
 ·rw [decide_eq_true h1,Bool.true_or,Bool.true_and]
  have g1:decide (n<=100)=true:=decide_eq_true h1
  go_enter Tryz.func31,Tryz.ntmps31
  go_wp2
  go_ret
  exact ⟨rfl,Below.of_al _ _⟩
 ·rw [decide_eq_false h1,Bool.false_or]
  have g1:decide (n<=100)=false:=decide_eq_false h1
  by_cases h2:4096<n
  ·rw [decide_eq_true h2,Bool.true_and]
   have g2:decide (n>4096)=true:=decide_eq_true h2
   go_enter Tryz.func31,Tryz.ntmps31
   go_wp2
   go_ret
   exact ⟨rfl,Below.of_al _ _⟩
  ·rw [decide_eq_false h2,Bool.false_and]
   have g2:decide (n>4096)=false:=decide_eq_false h2
   go_enter Tryz.func31,Tryz.ntmps31
   go_wp2
   go_ret
   exact ⟨rfl,Below.of_al _ _⟩
def Md (n:Int) (es:List EdgeD):Bool:=Vf n es&&(decide (n<=12)||decide (4096<n))&&decide ((es.length:Int)<=40)
theorem Ss {g:GD} (h:Md g.n g.es=true):(Ak g=0->g.n<=12)/\g.es.length<=40:=by
 unfold Md at h;simp only [Bool.and_eq_true,Bool.or_eq_true,decide_eq_true_eq] at h;refine ⟨fun hr=>?_,by omega⟩;have:=Jr hr;omega
theorem Xn (n:Int) (es:List EdgeD) (ao:Option Addr) (cap:Nat) (w:World):
  Calls Tryz.prog 11 #[.agg #[.int .i64 n,.slice ao es.length cap]] w fun e w'=>e=.returned (.bool (Md n es))/\Below w.heap.size w w':=by
 have HL:=Bi5 (Xo n es ao cap);unfold Md;obtain ⟨W,hW⟩:∃W,W=w.alloc (Obj.cells #[.int .i64 n,.slice ao es.length cap] 24):=⟨_,rfl⟩;have hbw:Below w.heap.size w W:=by rw [hW];exact Below.of_al _ _
 have c0:W.cell? ⟨w.heap.size,0,none⟩=some (.int .i64 n):=by rw [hW];go_simp
 have c1:W.cell? ⟨w.heap.size,1,none⟩=some (.slice ao es.length cap):=by rw [hW];go_simp
 have HB:=Bi5 hbw;have HW:=Bi5 hW;clear hbw hW
 cases hb:Vf n es with
 |false=>
  rw [hb] at HL;clear hb
  go_enter Tryz.func11,Tryz.ntmps11
  go_upto_region 1 with (fail)
  rw [<-HW.out]
  go_wp2_with (go_at_call 31;refine (HL.out _).mono ?_;rintro e w1 ⟨rfl,hb1⟩;(have HB1:=Bi5 hb1);clear hb1)
  go_ret
  exact ⟨by simp,HB.out.st HB1.out⟩
 |true=>
  rw [hb] at HL;clear hb
  by_cases h1:n<=12
  ·go_enter Tryz.func11,Tryz.ntmps11
   go_upto_region 1 with (fail)
   rw [<-HW.out]
   go_wp2_with (go_at_call 31;refine (HL.out _).mono ?_;rintro e w1 ⟨rfl,hb1⟩;(have d0:=Bi6 hb1 c0);(have d1:=Bi6 hb1 c1);(have HB1:=Bi5 hb1);clear hb1)
   go_ret
   exact ⟨by simp [h1],HB.out.st HB1.out⟩
  ·by_cases h2:4096<n
   ·go_enter Tryz.func11,Tryz.ntmps11
    go_upto_region 1 with (fail)
    rw [<-HW.out]
    go_wp2_with (go_at_call 31;refine (HL.out _).mono ?_;rintro e w1 ⟨rfl,hb1⟩;(have d0:=Bi6 hb1 c0);(have d1:=Bi6 hb1 c1);(have HB1:=Bi5 hb1);clear hb1)
    go_ret
    exact ⟨by simp [h1,h2],HB.out.st HB1.out⟩
   ·go_enter Tryz.func11,Tryz.ntmps11
    go_upto_region 1 with (fail)
    rw [<-HW.out]
    go_wp2_with (go_at_call 31;refine (HL.out _).mono ?_;rintro e w1 ⟨rfl,hb1⟩;(have d0:=Bi6 hb1 c0);(have d1:=Bi6 hb1 c1);(have HB1:=Bi5 hb1);clear hb1)
    go_ret
    exact ⟨by simp [h1,h2];intro h;omega,HB.out.st HB1.out⟩
theorem BltPost.two {g:GD} {k:Int} {w w':World} {e:Ending} (h:BltPost g k w e w'):∃p,e=.returned (.tuple #[.pointer p,.int .i64 k])/\Below w.heap.size w w'/\(k=0->Ak g=0->g.n<=12->∃hb R S ro,p=some ⟨hb,0,none⟩/\BH w' hb g.n.toNat g.es R S ro):=by
 have h0:=h;obtain ⟨h1|h1,h2⟩:=h
 ·obtain ⟨rfl,hb,R,S,ro,e,hm,ho⟩:=h1
  exact ⟨_,e,h2,fun _ hg hn=>by
   have:=Jr hg;exact ⟨hb,R,S,ro,rfl,⟨hm,ho,by omega,by omega⟩⟩⟩
 ·exact ⟨none,h1.2,h2,fun hk=>absurd hk h1.1⟩
end
section
open Go Go.Proofs Go.RowKit Go.Shelf Hp Ch
theorem BltPost.nil {g:GD} {k:Int} {w w':World} {e:Ending} (h:BltPost g k w e w') (hk:k≠0):e=.returned (.tuple #[.pointer none,.int .i64 k])/\Below w.heap.size w w':=by
 obtain ⟨h1|h1,h2⟩:=h
 ·exact absurd h1.1 hk
 ·exact ⟨h1.2,h2⟩
theorem Yq {g:GD} {h s:Int} {r:List Int} (k:Cb g h s r=0):Ak g=0:=by
 unfold Cb at k
 split at k
 ·cases k
 ·rename_i hn
  exact Decidable.byContradiction fun e=>hn (.inl e)
structure QB1 (W:World) (b:Nat) (g:GD) (ao:Option Addr) (cap:Nat) (h1 s1:Int) (ro:Option Addr) (r:List Int) (rc:Nat):Prop where
 g0:W.cell? ⟨b,0,none⟩=some (.int .i64 g.n)
 g1:W.cell? ⟨b,1,none⟩=some (.slice ao g.es.length cap)
 a0:W.cell? ⟨b+1,0,none⟩=some (.int .i64 h1)
 a1:W.cell? ⟨b+1,1,none⟩=some (.int .i64 s1)
 a2:W.cell? ⟨b+1,2,none⟩=some (.slice ro r.length rc)
theorem QB1.go {W W':World} {b:Nat} {g:GD} {ao:Option Addr} {cap:Nat} {h1 s1:Int} {ro:Option Addr} {r:List Int} {rc:Nat} (h:QB1 W b g ao cap h1 s1 ro r rc) (hz:Below W.heap.size W W'):QB1 W' b g ao cap h1 s1 ro r rc:=
 ⟨Bi6 hz h.g0,Bi6 hz h.g1,Bi6 hz h.a0,Bi6 hz h.a1,Bi6 hz h.a2⟩
end
end Go.Proofs.YteaaapdjplbljaaGreat
