/- Parts; no condition. -/
import Derived.Test.YteaaapdjplbljaaGreatVc43
import Derived.IntWalk
set_option linter.unusedVariables false
set_option linter.unusedSimpArgs false
set_option linter.unnecessarySimpa false
set_option maxRecDepth 100000
set_option maxHeartbeats 8000000
namespace Go.Proofs.YteaaapdjplbljaaGreat
section
namespace Vi
open Go Go.Proofs Go.RowKit Go.Shelf Hp Ch Ad Ro Dj
def orF (a b:Int):Int:=if a=0 then b else a
theorem Ao3 (b:Nat) (x y:Int) (w:World) (h0:w.cell? ⟨b,0,none⟩=some (.int .i64 x)) (h1:w.cell? ⟨b,1,none⟩=some (.int .i64 y)):
  Calls Tryz.prog 77 #[.slice (some ⟨b,0,none⟩) 2 2] w fun e w'=>e=.returned (.int .i64 (orF x y))/\w'=w:=by
 unfold orF
 by_cases hx:x=0
 ·subst hx
  rw [if_pos rfl]
  by_cases hy:y=0
  ·subst hy
   go_enter Tryz.func77,Tryz.ntmps77
   go_wp2
   refine wp_loop_rounds 3 ?_;rw [rounds_succ]
   go_wp2
   rw [rounds_succ]
   go_wp2
   rw [rounds_succ]
   go_wp2
   go_ret
   exact ⟨rfl,rfl⟩
  ·have hy2:(y != 0)=true:=by simpa using hy
   clear hy
   go_enter Tryz.func77,Tryz.ntmps77
   go_wp2
   refine wp_loop_rounds 2 ?_;rw [rounds_succ]
   go_wp2
   rw [rounds_succ]
   go_wp2
   go_ret
   exact ⟨rfl,rfl⟩
 ·rw [if_neg hx]
  have hx2:(x != 0)=true:=by simpa using hx
  clear hx
  go_enter Tryz.func77,Tryz.ntmps77
  go_wp2
  refine wp_loop_rounds 1 ?_;rw [rounds_succ]
  go_wp2
  go_ret
  exact ⟨rfl,rfl⟩
theorem Bc1 (B n:Nat) (es:List EdgeD) (ao:Option Addr) (cap:Nat) (v:Int) (w:World) (h0:w.cell? ⟨B,0,none⟩=some (.int .i64 (n:Int))) (h1:w.cell? ⟨B,1,none⟩=some (.slice ao es.length cap)):
  Calls Tryz.prog 74 (#[Aj v]++#[.pointer (some ⟨B,0,none⟩)]) w fun e w'=>e=.returned (.bool (Zv n v))/\Below w.heap.size w w':=by
 have HN:=Bi5 (Hc ⟨(n:Int),es⟩ ao cap v w);have HV:=Bi5 (show (!Bs (⟨(n:Int),es⟩:GD).n v)=Zv n v by
  unfold Bs Zv
  by_cases h:v<0
  ·simp [h]
  ·by_cases h':(n:Int)<=v<;>simp [h,h']<;>omega)
 generalize Bs (⟨(n:Int),es⟩:GD).n v=r at*;rw [<-HV.out];clear HV
 go_enter Tryz.func74,Tryz.ntmps74
 go_wp2_with (go_at_call 75;refine HN.out.mono ?_;rintro e w1 ⟨rfl,hb1⟩;(have HB1:=Bi5 hb1);clear hb1)
 go_ret
 exact ⟨rfl,HB1.out⟩
def ByIs (n:Nat) (es:List EdgeD) (s v t V:Int) (l:List Int) (x c k:Int):Prop:=
 (k=0/\V=v/\∃l1 l2 x1 x2,Cy n es s v l1 x1 0/\Cy n es v t l2 x2 0/\l=l1++l2/\x=x1+x2/\c=(l1.length:Int))\/
 (k≠0/\V=0/\l=[]/\x=0/\c=0/\((k=7/\¬(Aa n s/\Aa n v/\Aa n t))\/(k=9/\Aa n s/\Aa n v/\Aa n t/\((∀e,¬Way0 (Am es) Any s v e)\/∀e,¬Way0 (Am es) Any v t e))))
def Us (V:Int) (la:Option Addr) (m c:Nat) (x q:Int):Value:=.agg #[.int .i64 V,.slice la m c,.int .u64 x,.int .i64 q]
def Ln (n:Nat) (es:List EdgeD) (s v t:Int) (w:World) (e:Ending) (w':World):Prop:=
 ∃(la:Option Addr) (l:List Int) (lc:Nat) (V x c k:Int),e=.returned (.tuple #[Us V la l.length lc x c,.int .i64 k])/\Cel w' la (l.map Aj)/\Below w.heap.size w w'/\ByIs n es s v t V l x c k/\∀y,la=some y->w.heap.size<=y.block
def byR (L b1:Nat) (v:Int) (a1:Option Addr) (c1:Nat) (l1:List Int) (x1:Int) (g2:Value) (lj:List Int) (x:Int):Nat->Value->World->Prop
 |0,u,_=>u=.int .i64 v
 |1,u,_=>u=.agg #[.slice a1 l1.length c1,.int .u64 x1]
 |2,u,_=>u=g2
 |3,u,w=>∃a c,u=.agg #[.slice a lj.length c,.int .u64 x]/\Cel w a (lj.map Aj)/\∀y,a=some y->L<=y.block
 |4,u,_=>u=.pointer (some ⟨b1,0,none⟩)
 |5,u,_=>u=.slice a1 l1.length c1
 |6,u,_=>u=.int .i64 (l1.length:Int)
 |_,u,w=>∃a c,u=Us v a lj.length c x (l1.length:Int)/\Cel w a (lj.map Aj)/\∀y,a=some y->L<=y.block
theorem Bg2 {L b1:Nat} {v:Int} {a1:Option Addr} {c1:Nat} {l1:List Int} {x1:Int} {g2:Value} {lj:List Int} {x:Int}:∀i u w' w'',Below w'.heap.size w' w''->byR L b1 v a1 c1 l1 x1 g2 lj x i u w'->byR L b1 v a1 c1 l1 x1 g2 lj x i u w''
 |0,_,_,_,_,h=>h
 |1,_,_,_,_,h=>h
 |2,_,_,_,_,h=>h
 |3,_,_,_,hb,⟨a,c,e,h,r⟩=>⟨a,c,e,h.go hb,r⟩
 |4,_,_,_,_,h=>h
 |5,_,_,_,_,h=>h
 |6,_,_,_,_,h=>h
 |_+7,_,_,_,hb,⟨a,c,e,h,r⟩=>⟨a,c,e,h.go hb,r⟩
theorem Ab7 {W:World} {C:Nat} {u0 u1 u2 u3:Value} {T:TypeId} (h:W.heap[C]? =some (.cells #[u0,u1,u2,u3] T (0,0))):W.cell? ⟨C,0,none⟩=some u0/\W.cell? ⟨C,1,none⟩=some u1/\W.cell? ⟨C,2,none⟩=some u2/\W.cell? ⟨C,3,none⟩=some u3/\∀j,W.frozen? ⟨C,j,none⟩=false:=by
 refine ⟨?_,?_,?_,?_,fun j=>?_⟩<;>simp [World.cell?,World.frozen?,h]
theorem Ao5 (w:World) (x y z:Int) (T:TypeId):Cel (w.alloc (Obj.cells #[.int .i64 x,.int .i64 y,.int .i64 z] T)) (some ⟨w.heap.size,0,none⟩) ([x,y,z].map Aj):=fun i u hu=>by
 refine ⟨w.heap.size,0,rfl,?_⟩
 match i with
 |0=>cases hu;go_simp
 |1=>cases hu;go_simp
 |2=>cases hu;go_simp
 |i+3=>simp at hu
theorem Vm {w:World} {B:Nat} {v0 v1 v2 v3:Value} (u0 u1 u2 u3:Value) (h0:w.cell? ⟨B,0,none⟩=some v0) (h1:w.cell? ⟨B,1,none⟩=some v1) (h2:w.cell? ⟨B,2,none⟩=some v2) (h3:w.cell? ⟨B,3,none⟩=some v3):
  ((((w.setCell ⟨B,0,none⟩ u0).setCell ⟨B,1,none⟩ u1).setCell ⟨B,2,none⟩ u2).setCell ⟨B,3,none⟩ u3).cell? ⟨B,0,none⟩=some u0/\((((w.setCell ⟨B,0,none⟩ u0).setCell ⟨B,1,none⟩ u1).setCell ⟨B,2,none⟩ u2).setCell ⟨B,3,none⟩ u3).cell? ⟨B,1,none⟩=some u1/\
  ((((w.setCell ⟨B,0,none⟩ u0).setCell ⟨B,1,none⟩ u1).setCell ⟨B,2,none⟩ u2).setCell ⟨B,3,none⟩ u3).cell? ⟨B,2,none⟩=some u2/\((((w.setCell ⟨B,0,none⟩ u0).setCell ⟨B,1,none⟩ u1).setCell ⟨B,2,none⟩ u2).setCell ⟨B,3,none⟩ u3).cell? ⟨B,3,none⟩=some u3:=by
 refine ⟨?_,?_,?_,?_⟩
 ·rw [Bj3 _ _ _ _ (by simp),Bj3 _ _ _ _ (by simp),Bj3 _ _ _ _ (by simp)]
  exact Bj4 _ _ _ h0
 ·rw [Bj3 _ _ _ _ (by simp),Bj3 _ _ _ _ (by simp)]
  exact Bj4 (u:=v1) _ _ _ (by rw [Bj3 _ _ _ _ (by simp)];exact h1)
 ·rw [Bj3 _ _ _ _ (by simp)]
  exact Bj4 (u:=v2) _ _ _ (by rw [Bj3 _ _ _ _ (by simp),Bj3 _ _ _ _ (by simp)];exact h2)
 ·exact Bj4 (u:=v3) _ _ _ (by rw [Bj3 _ _ _ _ (by simp),Bj3 _ _ _ _ (by simp),Bj3 _ _ _ _ (by simp)];exact h3)
theorem Be8 (w:World) (B:Nat) (u0 u1 u2 u3:Value):OffX (· =B) w ((((w.setCell ⟨B,0,none⟩ u0).setCell ⟨B,1,none⟩ u1).setCell ⟨B,2,none⟩ u2).setCell ⟨B,3,none⟩ u3):=
 ((((.set _ rfl:OffX (· =B) w (w.setCell ⟨B,0,none⟩ u0)).trans (.set _ rfl)).trans (.set _ rfl)).trans (.set _ rfl))
theorem Ax5 (n:Nat) (es:List EdgeD) (ao:Option Addr) (cap:Nat) (s v t:Int) (w:World) (hg:Ak ⟨(n:Int),es⟩=0) (hn:n<=50000) (hm:es.length<=50000) (hc:Cel w ao (Ax es)):
  Calls Tryz.prog 33 #[.agg #[.int .i64 (n:Int),.slice ao es.length cap],.int .i64 s,.int .i64 v,.int .i64 t] w (Ln n es s v t w):=by
 obtain ⟨W,hW⟩:∃W,W=(w.alloc (Obj.cells #[.int .i64 (n:Int),.slice ao es.length cap] 24)).alloc (Obj.cells #[.int .i64 0,.slice none 0 0,.int .u64 0,.int .i64 0] 63):=⟨_,rfl⟩;have hbw:Below w.heap.size w W:=by rw [hW];exact (Below.of_al _ _).al _
 have c0:W.cell? ⟨w.heap.size,0,none⟩=some (.int .i64 (n:Int)):=by rw [hW];go_simp
 have c1:W.cell? ⟨w.heap.size,1,none⟩=some (.slice ao es.length cap):=by rw [hW];go_simp
 have HRB:=Bi5 (show W.heap[w.heap.size+1]? =some (.cells #[.int .i64 0,.slice none 0 0,.int .u64 0,.int .i64 0] 63 (0,0)) by
  rw [hW];have e:w.heap.size+1=(w.alloc (Obj.cells #[.int .i64 (n:Int),.slice ao es.length cap] 24)).heap.size:=by simp
  rw [e]
  show ((w.alloc (Obj.cells #[.int .i64 (n:Int),.slice ao es.length cap] 24)).heap.push _)[_]? =_
  rw [Array.getElem?_push_size])
 have HRG:=Bi5 (Dm ⟨(n:Int),es⟩ ao cap W (show es.length<=9223372036854775807 by omega) (hc.go hbw));rw [hg] at HRG;simp only at HRG;have HPT:=Bi5 (fun (s t:Nat) (hs:s<n) (ht:t<n) U (hz:Below w.heap.size w U)=>Sy n s t es ao cap U hg hn hm hs ht (hc.go hz));have HE:=Bi5 (Ac4 hg);have HW:=Bi5 hW;have HB:=Bi5 hbw;clear hW hbw hg hc
 go_enter Tryz.func33,Tryz.ntmps33
 go_upto_region 1 with (fail)
 rw [<-HW.out]
 go_upto_region 3 with (go_at_call 72;refine HRG.out.mono ?_;rintro e w1 ⟨rfl,hb1⟩;(have HB1:=Bi5 hb1);(have d0:=Bi6 hb1 c0);(have d1:=Bi6 hb1 c1);clear hb1)
 have HCF:=Bi5 (Oj 74 #[.pointer (some ⟨w.heap.size,0,none⟩)] (Zv n) (some ⟨w1.heap.size,0,none⟩) 3 [s,v,t] (w1.alloc (Obj.cells #[.int .i64 s,.int .i64 v,.int .i64 t] 3)) (enters_of Tryz.func74 (by kernel_rfl) rfl)
  (fun W' x hz _=>Bc1 w.heap.size n es ao cap x W' (Bi6 ((Below.of_al _ _).st hz) d0) (Bi6 ((Below.of_al _ _).st hz) d1)) (by simp) (Ao5 _ _ _ _ _))
 have HNO:=Bi5 (Ba5 (n:=n) (l:=[s,v,t]));generalize [s,v,t].any (Zv n)=r at*;simp only [Bk0,Bk1,Nat.reduceAdd] at HCF;have HRX:=Bi5 (fun W2 (hz:Below W.heap.size W W2)=>Ab7 ((hz.block _ (Bj2.1 HRB.out).1).trans HRB.out))
 cases r with
 |true=>
  have HN7:=Bi5 (show ¬(Aa n s/\Aa n v/\Aa n t) from fun h=>absurd (HNO.out.2 (fun x hx=>by
   simp only [Bl7,List.not_mem_nil,or_false] at hx
   rcases hx with rfl|rfl|rfl
   ·exact h.1
   ·exact h.2.1
   ·exact h.2.2)) (by decide))
  go_upto_region 4 with (go_at_call 73;refine HCF.out.mono ?_;rintro e w2 ⟨rfl,hb2⟩;(have HB2:=Bi5 (HB1.out.st ((Below.of_al _ _).st hb2)));clear hb2)
  obtain ⟨x0,x1,x2,x3,zz⟩:=HRX.out _ HB2.out;have z0:=zz 0;have z1:=zz 1;have z2:=zz 2;have z3:=zz 3
  go_wp2
  obtain ⟨r0,r1,r2,r3⟩:=Vm (.int .i64 0) (.slice none 0 0) (.int .u64 0) (.int .i64 0) x0 x1 x2 x3;refine bodyPost_ret (v:=.tuple #[Us 0 none 0 0 0 0,.int .i64 7]) (by simp [results,Tryz.results33,go_sem,r0,r1,r2,r3];try rfl) rfl ?_;exact ⟨none,[],0,0,0,0,7,rfl,Cel.nil _ _,(HB.out.st HB2.out).trans ((Be8 _ _ _ _ _ _).below (HB.out.st HB2.out).size (fun k e=>by have e2:k=w.heap.size+1:=e;omega)),.inr ⟨by decide,rfl,rfl,rfl,rfl,.inl ⟨rfl,HN7.out⟩⟩,fun y hy=>nomatch hy⟩
 |false=>
  have hnod:=HNO.out.1 rfl;have hsn:Aa n s:=hnod s (by simp);have hvn:Aa n v:=hnod v (by simp);have htn:Aa n t:=hnod t (by simp);obtain ⟨s,rfl⟩:∃q:Nat,s=(q:Int):=⟨s.toNat,by have:=hsn.1;omega⟩;obtain ⟨v,rfl⟩:∃q:Nat,v=(q:Int):=⟨v.toNat,by have:=hvn.1;omega⟩;obtain ⟨t,rfl⟩:∃q:Nat,t=(q:Int):=⟨t.toNat,by have:=htn.1;omega⟩;have hs:s<n:=by have:=hsn.2;omega
  have hv:v<n:=by have:=hvn.2;omega
  have ht:t<n:=by have:=htn.2;omega
  have HND:=Bi5 (And.intro hsn (And.intro hvn htn));clear hnod hsn hvn htn HNO;unfold Ul Eb at HPT
  go_upto_region 6 with (first
   |(go_at_call 73;refine HCF.out.mono ?_;rintro e w2 ⟨rfl,hb2⟩;(have HB2:=Bi5 (HB1.out.st ((Below.of_al _ _).st hb2)));(have e0:=Bi6 ((Below.of_al _ _).st hb2) d0);(have e1:=Bi6 ((Below.of_al _ _).st hb2) d1);clear hb2)
   |(go_at_call 76;refine (HPT.out s v hs hv _ (HB.out.st HB2.out)).mono ?_;rintro e w3 ⟨a1,l1,lc1,x1,k1,rfl,h1,h2,h3,h4⟩;(have HC1:=Bi5 h1);(have HB3:=Bi5 (HB2.out.st h2));(have HR1:=Bi5 h3);(have f0:=Bi6 h2 e0);(have f1:=Bi6 h2 e1);clear h1 h2 h3 h4))
  obtain ⟨W3,hW3⟩:∃W3,W3=w3.alloc (Obj.cells #[.slice a1 l1.length lc1,.int .u64 x1] 39):=⟨_,rfl⟩;rw [<-hW3];have hb3:Below w3.heap.size w3 W3:=by rw [hW3];exact Below.of_al _ _
  have HB3':=Bi5 (HB3.out.st hb3);have HC13:=Bi5 (HC1.out.go hb3);have g0:=Bi6 hb3 f0;have g1:=Bi6 hb3 f1;have b0:W3.cell? ⟨w3.heap.size,0,none⟩=some (.slice a1 l1.length lc1):=by rw [hW3];go_simp
  have b1:W3.cell? ⟨w3.heap.size,1,none⟩=some (.int .u64 x1):=by rw [hW3];go_simp
  clear hW3 hb3 f0 f1 e0 e1 d0 d1 c0 c1
  go_upto_region 7 with (go_at_call 76;refine (HPT.out v t hv ht _ (HB.out.st HB3'.out)).mono ?_;rintro e w5 ⟨a2,l2,lc2,x2,k2,rfl,h1,h2,h3,h4⟩;(have HC2:=Bi5 h1);(have HB5:=Bi5 (HB3'.out.st h2));(have HR2:=Bi5 h3);(have HC15:=Bi5 (HC13.out.go h2));(have q0:=Bi6 h2 b0);(have q1:=Bi6 h2 b1);clear h1 h2 h3 h4)
  obtain ⟨W5,hW5⟩:∃W5,W5=w5.alloc (Obj.cells #[.slice a2 l2.length lc2,.int .u64 x2] 39):=⟨_,rfl⟩;rw [<-hW5];have hb5:Below w5.heap.size w5 W5:=by rw [hW5];exact Below.of_al _ _
  have HB5':=Bi5 (HB5.out.st hb5);have HC17:=Bi5 (HC15.out.go hb5);have HC27:=Bi5 (HC2.out.go hb5);have p0:=Bi6 hb5 q0;have p1:=Bi6 hb5 q1;have m0:W5.cell? ⟨w5.heap.size,0,none⟩=some (.slice a2 l2.length lc2):=by rw [hW5];go_simp
  have m1:W5.cell? ⟨w5.heap.size,1,none⟩=some (.int .u64 x2):=by rw [hW5];go_simp
  clear hW5 hb5 q0 q1 b0 b1 g0 g1;have HOR:=Bi5 (Ao3 W5.heap.size k1 k2 (W5.alloc (Obj.cells #[.int .i64 k1,.int .i64 k2] 31)) (by go_simp) (by go_simp))
  by_cases hk:k1=0/\k2=0
  ·obtain ⟨rfl,rfl⟩:=hk
   rw [show orF 0 0=0 from rfl] at HOR
   go_upto_region 9 with (go_at_call 77;refine HOR.out.mono ?_;rintro e w6 ⟨rfl,rfl⟩)
   obtain ⟨W6,hW6⟩:∃W6,W6=W5.alloc (Obj.cells #[.int .i64 0,.int .i64 0] 31):=⟨_,rfl⟩;rw [<-hW6];have hb6:Below W5.heap.size W5 W6:=by rw [hW6];exact Below.of_al _ _
   have HB6:=Bi5 (HB5'.out.st hb6);have HC18:=Bi5 (HC17.out.go hb6);have HC28:=Bi5 (HC27.out.go hb6);have b0:=Bi6 hb6 p0;have b1:=Bi6 hb6 p1;have g0:=Bi6 hb6 m0;have g1:=Bi6 hb6 m1;have hA:∀u v w,Am es u v w->Aa n u/\Aa n v/\1<=w:=fun a b c h=>by
    have:=XD.ok HE.out a b c (Ll (bk:=false).2 h);exact ⟨this.1,this.2.1,this.2.2.1⟩
   obtain ⟨hl1,hx10,hx11⟩:=Gf hA HR1.out;obtain ⟨hl2,hx20,hx21⟩:=Gf hA HR2.out;have hwr:IntKind.u64.wrap (x1+x2)=x1+x2:=by rw [Bn7];omega
   have HJ:=Bi5 (fun U (hz:Below W6.heap.size W6 U)=>Ay5 a1 a2 lc1 lc2 l1 l2 x1 x2 U (by omega) (by omega) (HC18.out.go hz) (HC28.out.go hz));rw [hwr] at HJ;obtain ⟨lj,hlj⟩:∃lj,lj=l1++l2:=⟨_,rfl⟩;rw [<-hlj] at HJ;have HLJ:=Bi5 hlj;have HL6:=Bi5 (show w.heap.size+1<W6.heap.size from by
    have h1:=(Bj2.1 HRB.out).1;have h2:=HB6.out.size;omega)
   clear hlj hW6 hb6 p0 p1 m0 m1 hA hl1 hl2 hwr hx10 hx11 hx20 hx21;refine Hz 8 _ _ rfl rfl (byR W6.heap.size w3.heap.size (v:Int) a1 lc1 l1 x1 (.agg #[.slice a2 l2.length lc2,.int .u64 x2]) lj (x1+x2)) (by decide) (by kernel_rfl) (by kernel_rfl) (by kernel_rfl) (by kernel_rfl) Bg2 ?hop ?hend
   case hop=>
    refine ⟨?_,?_,?_,?_,?_,?_,?_,?_,trivial⟩
    ·intro act w' hbe hd ho K hK
     have g9:act.tmps.getD 2 undef=.int .i64 (v:Int):=ho 2 (by kernel_rfl);refine .inl ⟨Ab rfl,?_⟩;simp [Oper.wp,execOp,Oper.upon,go_sem,Act.eval,g9];exact hK _ w' (Below.refl _ _) rfl
    ·intro act w' hbe hd ho K hK
     have g9:act.tmps.getD 10 undef=.pointer (some ⟨w3.heap.size,0,none⟩):=ho 10 (by kernel_rfl);have c0:=Bi6 hbe b0;have c1:=Bi6 hbe b1;refine .inl ⟨Ab rfl,?_⟩;simp [Oper.wp,execOp,Oper.upon,go_sem,Act.eval,g9,c0,c1];exact hK _ w' (Below.refl _ _) rfl
    ·intro act w' hbe hd ho K hK
     have g9:act.tmps.getD 12 undef=.pointer (some ⟨w5.heap.size,0,none⟩):=ho 12 (by kernel_rfl);have c0:=Bi6 hbe g0;have c1:=Bi6 hbe g1;refine .inl ⟨Ab rfl,?_⟩;simp [Oper.wp,execOp,Oper.upon,go_sem,Act.eval,g9,c0,c1];exact hK _ w' (Below.refl _ _) rfl
    ·intro act w' hbe hd ho K hK
     have e1:act.tmps.getD 48 undef=.agg #[.slice a1 l1.length lc1,.int .u64 x1]:=hd 1 (by rfl);have e2:act.tmps.getD 49 undef=.agg #[.slice a2 l2.length lc2,.int .u64 x2]:=hd 2 (by rfl);refine .inl ⟨Ab rfl,?_⟩;simp [Oper.wp,execOp,Oper.upon,go_sem,Act.eval,e1,e2];refine (HJ.out w' hbe).mono ?_;rintro e w7 ⟨a,c,rfl,h1,h2,h3⟩;exact hK _ w7 h2 ⟨a,c,rfl,h1,fun y hy=>Bi9 hbe.size (h3 y hy)⟩
    ·intro act w' hbe hd ho K hK
     have g9:act.tmps.getD 10 undef=.pointer (some ⟨w3.heap.size,0,none⟩):=ho 10 (by kernel_rfl);refine .inl ⟨Ab rfl,?_⟩;simp [Oper.wp,execOp,Oper.upon,go_sem,Act.eval,g9];exact hK _ w' (Below.refl _ _) rfl
    ·intro act w' hbe hd ho K hK
     have e4:act.tmps.getD 51 undef=.pointer (some ⟨w3.heap.size,0,none⟩):=hd 4 (by rfl);have c0:=Bi6 hbe b0;refine .inl ⟨Ab rfl,?_⟩;simp [Oper.wp,execOp,Oper.upon,go_sem,Act.eval,e4,c0];exact hK _ w' (Below.refl _ _) rfl
    ·intro act w' hbe hd ho K hK
     have e5:act.tmps.getD 52 undef=.slice a1 l1.length lc1:=hd 5 (by rfl);refine .inl ⟨Ab rfl,?_⟩;simp [Oper.wp,execOp,Oper.upon,go_sem,Act.eval,e5];exact hK _ w' (Below.refl _ _) rfl
    ·intro act w' hbe hd ho K hK
     have e0:act.tmps.getD 47 undef=.int .i64 (v:Int):=hd 0 (by rfl);obtain ⟨a,c,e3,h1,h2⟩:∃a c,act.tmps.getD 50 undef=.agg #[.slice a lj.length c,.int .u64 (x1+x2)]/\Cel w' a (lj.map Aj)/\∀y,a=some y->W6.heap.size<=y.block:=hd 3 (by rfl);have e6:act.tmps.getD 53 undef=.int .i64 (l1.length:Int):=hd 6 (by rfl);have z0:=(Bm0 (xs:=act.tmps) (i:=47) (d:=undef)).symm.trans e0;have z3:=(Bm0 (xs:=act.tmps) (i:=50) (d:=undef)).symm.trans e3;have z6:=(Bm0 (xs:=act.tmps) (i:=53) (d:=undef)).symm.trans e6;refine .inl ⟨Ab rfl,?_⟩;simp [Oper.wp,execOp,Oper.upon,go_sem,Act.eval,e0,e3,e6,z0,z3,z6];exact hK _ w' (Below.refl _ _) ⟨a,c,rfl,h1,h2⟩
   case hend=>
    intro vs act w7 hb7 hR hon hoff hact;obtain ⟨a,c,e7,h1,h2⟩:=hR 7 (by decide);have q54:act.tmps.getD 54 undef=Us (v:Int) a lj.length c (x1+x2) (l1.length:Int):=(hon 7 (by decide)).trans e7;have q8:act.tmps.getD 8 undef=.pointer (some ⟨w.heap.size+1,0,none⟩):=hoff 8 (by kernel_rfl);obtain ⟨x0,x1',x2',x3,zz⟩:=HRX.out _ (HB6.out.st hb7);have z0:=zz 0;have z1:=zz 1;have z2:=zz 2;have z3:=zz 3;unfold Us at q54;simp only [Na];simp [Oper.wp,execOp,Oper.upon,go_sem,Act.eval,q8,q54,x0,x1',x2',x3,z0,z1,z2,z3];rw [hact];simp only [Al,Ae,Bk7,Bk6,Bl1,Bl0,Act.put,Bk0,Bk1,Nat.reduceAdd,Bk5,Bk8,Bk9];have HC7:=Bi5 h1;have HN7:=Bi5 h2;have HB7:=Bi5 (HB.out.st (HB6.out.st hb7));obtain ⟨r0,r1,r2,r3⟩:=Vm (.int .i64 (v:Int)) (.slice a lj.length c) (.int .u64 (x1+x2)) (.int .i64 (l1.length:Int)) x0 x1' x2' x3;clear hR hon hoff hact q54 q8 e7 h1 h2 hb7 b0 b1 g0 g1 zz;generalize vs 0=u0;generalize vs 1=u1;generalize vs 2=u2;generalize vs 3=u3;generalize vs 4=u4;generalize vs 5=u5;generalize vs 6=u6;generalize vs 7=u7
    go_wp2
    refine bodyPost_ret (v:=.tuple #[Us (v:Int) a lj.length c (x1+x2) (l1.length:Int),.int .i64 0]) (by simp [results,Tryz.results33,go_sem,r0,r1,r2,r3];try rfl) rfl ?_;have ho:=Be8 w7 (w.heap.size+1) (.int .i64 (v:Int)) (.slice a lj.length c) (.int .u64 (x1+x2)) (.int .i64 (l1.length:Int));refine ⟨a,lj,c,(v:Int),x1+x2,(l1.length:Int),0,rfl,fun i u hu=>?_,HB7.out.trans (ho.below HB7.out.size (fun k e=>by have e2:k=w.heap.size+1:=e;omega)),.inl ⟨rfl,rfl,l1,l2,x1,x2,HR1.out,HR2.out,HLJ.out,rfl,rfl⟩,fun y hy=>by have:=HN7.out y hy;have:=HL6.out;omega⟩;obtain ⟨b,o,e,h8⟩:=HC7.out i u hu;have hl:=HN7.out _ e;exact ⟨b,o,e,ho.cell h8 (fun e2=>by have e3:b=w.heap.size+1:=e2;have:=HL6.out;simp only at hl;omega)⟩
  ·have hk2:(orF k1 k2 != 0)=true:=by
    unfold orF
    by_cases h1:k1=0
    ·rw [if_pos h1]
     simp;exact fun h2=>hk ⟨h1,h2⟩
    ·rw [if_neg h1]
     simpa using h1
   have HNW:=Bi5 (show (∀e,¬Way0 (Am es) Any (s:Int) (v:Int) e)\/∀e,¬Way0 (Am es) Any (v:Int) (t:Int) e by
    rcases HR1.out with ⟨h1,_⟩|⟨_,_,_,h1|h1|h1⟩
    ·rcases HR2.out with ⟨h2,_⟩|⟨_,_,_,h2|h2|h2⟩
     ·exact absurd ⟨h1,h2⟩ hk
     ·exact absurd ⟨h1,h2.1⟩ hk
     ·exact .inr h2.2.2.2.2
     ·exact absurd HND.out.2 h2.2.2
    ·rcases HR2.out with ⟨h2,_⟩|⟨_,_,_,h2|h2|h2⟩
     ·exact absurd ⟨h1.1,h2⟩ hk
     ·exact absurd ⟨h1.1,h2.1⟩ hk
     ·exact .inr h2.2.2.2.2
     ·exact absurd HND.out.2 h2.2.2
    ·exact .inl h1.2.2.2.2
    ·exact absurd ⟨HND.out.1,HND.out.2.1⟩ h1.2.2)
   generalize orF k1 k2=kk at*;clear hk;obtain ⟨x0,x1',x2',x3,zz⟩:=HRX.out _ (HB5'.out.st (Below.of_al _ (Obj.cells #[.int .i64 k1,.int .i64 k2] 31)));have z0:=zz 0;have z1:=zz 1;have z2:=zz 2;have z3:=zz 3
   go_wp2_with (go_at_call 77;refine HOR.out.mono ?_;rintro e w6 ⟨rfl,rfl⟩)
   obtain ⟨r0,r1,r2,r3⟩:=Vm (.int .i64 0) (.slice none 0 0) (.int .u64 0) (.int .i64 0) x0 x1' x2' x3;have HB6:=Bi5 (HB.out.st (HB5'.out.st (Below.of_al _ (Obj.cells #[.int .i64 k1,.int .i64 k2] 31))));refine bodyPost_ret (v:=.tuple #[Us 0 none 0 0 0 0,.int .i64 9]) (by simp [results,Tryz.results33,go_sem,r0,r1,r2,r3];try rfl) rfl ?_;exact ⟨none,[],0,0,0,0,9,rfl,Cel.nil _ _,HB6.out.trans ((Be8 _ _ _ _ _ _).below HB6.out.size (fun k e=>by have e2:k=w.heap.size+1:=e;omega)),.inr ⟨by decide,rfl,rfl,rfl,rfl,.inr ⟨rfl,HND.out.1,HND.out.2.1,HND.out.2.2,HNW.out⟩⟩,fun y hy=>nomatch hy⟩
end Vi
end
section
namespace Vi
open Go Go.Proofs Go.RowKit Go.Shelf
structure KeepA (L n:Nat) (xs:List Value) (m:Nat) (ys:List Value) (E:TypeId) (w w':World):Prop where
 bel:Below L w w'
 row:∀v,w.ownsRow L E 1 v n xs->w'.ownsRow L E 1 v n xs
 full:∀v,w.ownsRow L E 1 v (n+m) (xs++ys)->w'.ownsRow L E 1 v (n+m) (xs++ys)
 lit:∀g,w.ownsRow L E 1 (.slice (some ⟨g,0,none⟩) 0 0) 0 []->w'.ownsRow L E 1 (.slice (some ⟨g,0,none⟩) 0 0) 0 []
 oth:∀(b:Nat) (o:Obj),w.heap[b]? =some o->(∀c,o≠Obj.cells c E (0,0))->w'.heap[b]? =some o
theorem KeepA.of_below {L n m:Nat} {xs ys:List Value} {E:TypeId} {w w':World} (h:Below w.heap.size w w') (hL:L<=w.heap.size):KeepA L n xs m ys E w w':=
 ⟨h.mono hL,fun _ k=>Af k h,fun _ k=>Af k h,fun _ k=>Af k h,fun b o k _=>(h.block b (Bj2.1 k).1).trans k⟩
theorem Qo {w:World} {L g n cap:Nat} {E:TypeId} {xs:List Value} (h:w.ownsRow L E 1 (.slice (some ⟨g,0,none⟩) n cap) n xs):∃cur,w.heap[g]? =some (.cells cur E (0,0))/\L<=g/\n<=cap/\cap<=maxLen/\cur.size=cap/\cur.toList.take n=xs:=by
 rcases h.2 with ⟨e,_⟩|⟨g',cap',cur,e,h1,h2,h3,h4,h5,h6⟩
 ·cases e
 ·cases e
  exact ⟨cur,h2,h1,h3,h4,by simpa using h5,by simpa using h6⟩
theorem Ap {w:World} {L n:Nat} {E:TypeId} {v:Value} {xs:List Value} (h:w.ownsRow L E 1 v n xs):v=.slice none 0 0\/∃g cap,v=.slice (some ⟨g,0,none⟩) n cap:=by
 rcases h.2 with ⟨e,_⟩|⟨g',cap',cur,e,_⟩
 ·exact .inl e
 ·exact .inr ⟨g',cap',e⟩
theorem As6 {w:World} {L g n m cap:Nat} {E:TypeId} {xs ys:List Value} (h:w.ownsRow L E 1 (.slice (some ⟨g,0,none⟩) (n+m) cap) (n+m) (xs++ys)) (hx:xs.length=n):w.ownsRow L E 1 (.slice (some ⟨g,0,none⟩) n cap) n xs:=by
 obtain ⟨cur,h1,h2,h3,h4,h5,h6⟩:=Qo h;refine ⟨by simpa using hx,.inr ⟨g,cap,cur,rfl,h2,h1,by omega,h4,by simpa using h5,?_⟩⟩;have h7:=congrArg (List.take n) h6;rw [List.take_take,Nat.min_eq_left (by omega),List.take_left' hx] at h7
 simpa using h7
theorem Wr {P:Program} {w:World} (t ty:TypeId) (L:Nat) (E:TypeId) (z:Value) (bytes:Nat) (hE:Gq P E z 1 bytes) (ht:P.underlying t=some (.slice E))
  (ao:Option Addr) (n cap:Nat) (xs:List Value) (hown:w.ownsRow L E 1 (.slice ao n cap) n xs) (bo:Option Addr) (m c:Nat) (news:List Value) (hnews:Cel w bo news) (h1:∀u∈news,u.oneCell'=true)
  (hl:news.length=m/\n+m<=9223372036854775807/\(n+m)*bytes<=140737488355328/\L<=w.heap.size):
  ∃ao' cap' w',(Builtin.append_ #[t,t] ty #[.slice ao n cap,.slice bo m c]).run P w=.ok (.slice ao' (n+m) cap') w'/\w'.ownsRow L E 1 (.slice ao' (n+m) cap') (n+m) (xs++news)/\KeepA L n xs m news E w w'/\(cap=0->Below w.heap.size w w'):=by
 obtain ⟨hE,hz1,hz2⟩:=hE;obtain ⟨i,hi,hz,hsz,hby⟩:=info_parts hE;obtain ⟨l1,l2,l3,l5⟩:=hl
 by_cases hm:m=0
 ·subst hm
  have hn:news=[]:=List.length_eq_zero_iff.1 l1;subst hn;refine ⟨ao,cap,w,?_,by simpa using hown,.of_below (Below.refl _ _) l5,fun _=>Below.refl _ _⟩
  rcases hown.2 with ⟨e,rfl⟩|⟨g,cap',cur,e,_,_,hnc,_⟩
  ·cases e
   cases bo<;>simp [Builtin.append_,run_underlying ht,sizeOf,typeInfo,hi,Builtin.lenOf,Builtin.firstCells,loadCells,loadCellsFrom,storeCells]
  ·cases e
   cases bo<;>simp [Builtin.append_,run_underlying ht,sizeOf,typeInfo,hi,Builtin.lenOf,Builtin.firstCells,hnc,storeCells,loadCells,loadCellsFrom]
 ·have hh:∃u,news[0]? =some u:=⟨_,Bj0 (by omega)⟩
  obtain ⟨u,hu⟩:=hh;obtain ⟨b,o,rfl,_⟩:=hnews 0 u hu;have hn2:∀j u,news[j]? =some u->w.cell? ((⟨b,o,none⟩:Addr).add j)=some u:=fun j u hj=>by
   obtain ⟨b',o',e,h⟩:=hnews j u hj
   cases e
   rw [Addr.add_lit];exact h
  rcases Ap hown with e|⟨g,cap2,e⟩
  ·cases e
   obtain ⟨g,cap',w',hr,ho,hg,_,_⟩:=run_append_lies w t ty L E i z 1 bytes ht hi hz hsz hby hz1 hz2 (.slice none 0 0) 0 xs hown ⟨b,o,none⟩ m c news (by omega) hn2 h1 (by omega) (by unfold maxLen;omega) l3 l5 _ rfl;exact ⟨_,cap',w',hr,ho,.of_below ((Below.refl _ w).grown hg (Bi7 _) (fun k hk=>nomatch hk)) l5,fun _=>(Below.refl _ w).grown hg (Bi7 _) (fun k hk=>nomatch hk)⟩
  ·cases e
   obtain ⟨cur,k1,k2,k3,k4,k5,k6⟩:=Qo hown;have hxl:xs.length=n:=by have:=hown.1;omega
   by_cases hroom:n+m<=cap
   ·obtain ⟨w',hr,ho,hg⟩:=run_append_fits (P:=P) w L t ty E i 1 ht hi hsz g n cap xs hown ⟨b,o,none⟩ m c news (by omega) hn2 h1 hroom
    have hoff:∀k,k<w.heap.size->k≠g->w'.heap[k]? =w.heap[k]?:=fun k hk hne=>hg.block k hk (fun e=>hne (Bl4 e));refine ⟨_,cap,w',hr,ho,⟨(Below.refl _ w).grown hg l5 (fun k hk=>by cases hk;exact k2),fun v hv=>?_,fun v hv=>?_,fun g9 hv=>?_,fun b9 o9 h9 hne=>?_⟩,fun e=>by omega⟩
    ·rcases Ap hv with e|⟨g9,c9,e⟩
     ·subst e
      exact ⟨hv.1,.inl (hv.2.elim id (fun ⟨_,_,_,e,_⟩=>nomatch e))⟩
     ·subst e
      obtain ⟨cur9,q1,q2,q3,q4,q5,q6⟩:=Qo hv
      by_cases hgg:g9=g
      ·subst hgg
       rw [k1] at q1
       cases q1
       rw [show c9=cap by omega];exact As6 ho hxl
      ·refine Ai hv fun k hk=>?_
       cases hk
       exact hoff _ (Bj2.1 q1).1 hgg
    ·rcases Ap hv with e|⟨g9,c9,e⟩
     ·subst e
      rcases hv.2 with ⟨_,h9⟩|⟨_,_,_,e,_⟩
      ·omega
      ·cases e
     ·subst e
      obtain ⟨cur9,q1,q2,q3,q4,q5,q6⟩:=Qo hv
      by_cases hgg:g9=g
      ·subst hgg
       rw [k1] at q1
       cases q1
       rw [show c9=cap by omega];exact ho
      ·refine Ai hv fun k hk=>?_
       cases hk
       exact hoff _ (Bj2.1 q1).1 hgg
    ·obtain ⟨cur9,q1,q2,q3,q4,q5,q6⟩:=Qo hv
     by_cases hgg:g9=g
     ·subst hgg
      rw [k1] at q1
      cases q1
      omega
     ·refine Ai hv fun k hk=>?_
      cases hk
      exact hoff _ (Bj2.1 q1).1 hgg
    ·refine (hoff b9 (Bj2.1 h9).1 (fun e=>?_)).trans h9
     subst e;rw [k1] at h9;exact hne cur (Bl4 h9).symm
   ·obtain ⟨v',w',hr,ho,hg⟩:=run_append_arg_grows (P:=P) w t ty E i z 1 bytes ht hi hz hsz hby hz1 hz2 ⟨g,0,none⟩ n cap xs (by omega) (fun j u hj=>by
      have hjn:j<n:=by have:=(Bj8.1 hj).1;omega
      rw [Addr.add_lit,Nat.zero_add,hown.cellAt j (by omega)];exact hj) ⟨b,o,none⟩ m c news (by omega) hn2 (by omega) (by unfold maxLen;omega) l3
    rcases Ap ho with e|⟨g9,c9,e⟩
    ·subst e
     have:=ho.2
     rcases this with ⟨_,h9⟩|⟨_,_,_,e,_⟩
     ·omega
     ·cases e
    ·subst e
     exact ⟨_,c9,w',hr,⟨ho.1,ho.2.imp id (fun ⟨x1,x2,x3,x4,x5,x6⟩=>⟨x1,x2,x3,x4,Bi9 l5 x5,x6⟩)⟩,.of_below ((Below.refl _ w).grown hg (Bi7 _) (fun k hk=>nomatch hk)) l5,fun _=>(Below.refl _ w).grown hg (Bi7 _) (fun k hk=>nomatch hk)⟩
section
variable {a:Act} {P:Program} {Q:Exit->Act->World->Prop} {w:World}
end
end Vi
end
section
namespace Vi
open Go Go.Proofs Go.RowKit Go.Shelf Hp Ch Ad Ro Dj
section
variable {L b1 b2 c1 c2:Nat} {a1 a2:Option Addr} {l1 l2:List Int} {x1 x2:Int}
end
end Vi
end
section
namespace Vi
open Go Go.Proofs Go.RowKit Go.Shelf Hp Ch Ad Ro Dj
end Vi
end
section
open Go Go.Proofs Go.RowKit Go.Shelf Hp Ch
end
section
open Go Go.Proofs Go.RowKit Go.Shelf Hp Ch
def Dd (g:GD) (l:List Int):Bool:=Ak g==0&&!(l.any fun e=>!Dz g.es.length e)
end
section
open Go.Proofs Go.RowKit Go.Shelf
theorem Aw8 {g:GD} {l:List Int} (h:(Ak g != 0)=true):Dd g l=false:=by
 have h2:(Ak g==0)=false:=by simpa using h
 unfold Dd;rw [h2];rfl
theorem Aw7 {g:GD} {l:List Int} (h:(Ak g != 0)=false):Dd g l=!(l.any fun e=>!Dz g.es.length e):=by
 have h2:(Ak g==0)=true:=by simpa using h
 unfold Dd;rw [h2];rfl
theorem Uz (g:GD) (ao bo:Option Addr) (cap cb:Nat) (l:List Int) (w:World) (hl:g.es.length<=9223372036854775807) (hll:l.length<=9223372036854775807) (hc:Cel w ao (Ax g.es)) (hd:Cel w bo (l.map Aj)):
  Calls Tryz.prog 95 #[.agg #[.int .i64 g.n,.slice ao g.es.length cap],.slice bo l.length cb] w fun e w'=>e=.returned (.bool (Dd g l))/\Below w.heap.size w w':=by
 have HC:=Bi5 hc;have HD:=Bi5 hd;clear hc hd;have X1:=Bi5 (fun W h=>Kr g ao cap W hl h);have E1:=Bi5 (@Aw8 g l);have E2:=Bi5 (@Aw7 g l);generalize Dd g l=r at*
 cases q1:(Ak g != 0) with
 |true=>
  have HR:=Bi5 (E1.out q1);generalize Ak g=f at*
  go_enter Tryz.func95,Tryz.ntmps95
  go_wp2_with (go_at_call 78;refine (X1.out _ (HC.out.go (by repeat (first|exact Below.refl _ _|refine Below.al ?_ _|refine Below.dr ?_ _|refine Below.drew ?_|assumption|(refine Below.st ?_ (by assumption)))))).mono ?_;rintro e w1 ⟨rfl,hb1⟩)
  go_ret
  exact ⟨by rw [HR.out];rfl,by repeat (first|exact Below.refl _ _|refine Below.al ?_ _|refine Below.dr ?_ _|refine Below.drew ?_|assumption|(refine Below.st ?_ (by assumption)))⟩
 |false=>
  have HR:=Bi5 (E2.out q1);generalize Ak g=f at*
  go_enter Tryz.func95,Tryz.ntmps95
  go_wp2_with fail
  obtain ⟨W,hW,c0,c1,hsW⟩:∃W,W=w.alloc (Obj.cells #[.int .i64 g.n,.slice ao g.es.length cap] 24)/\W.cell? ⟨w.heap.size,0,none⟩=some (.int .i64 g.n)/\W.cell? ⟨w.heap.size,1,none⟩=some (.slice ao g.es.length cap)/\w.heap.size<W.heap.size:=⟨_,rfl,by go_simp,by go_simp,by simp⟩;rw [<-hW];have HW:=Bi5 (show Below w.heap.size w W by rw [hW];repeat (first|exact Below.refl _ _|refine Below.al ?_ _|refine Below.dr ?_ _|refine Below.drew ?_|assumption|(refine Below.st ?_ (by assumption))));clear hW;refine (X1.out _ (HC.out.go HW.out)).mono ?_;rintro e w1 ⟨rfl,hb1⟩;have c0':=Bi6 hb1 c0;have c1':=Bi6 hb1 c1;have HW1:=Bi5 (HW.out.st hb1);have hsW1:w.heap.size<w1.heap.size:=by have:=hb1.size;omega
  clear HW c0 c1 hb1 hsW
  go_wp2
  go_loopg [5] l.length (fun gg i wr=>∃k q:Nat,k<=l.length/\l.length-k<=gg/\i=.int .i64 k/\wr=w1.drewN q/\Aside (∀j (h:j<l.length),j<k->(!Dz g.es.length l[j])=false))
  case atStart=>exact ⟨0,0,Bi8 _,by omega,rfl,rfl,fun j _ h=>absurd h (Nat.not_lt_zero _)⟩
  case round=>
   obtain ⟨k,qn,hk,hg,rfl,rfl,HA⟩:=hrel
   by_cases hlt:k<l.length
   ·have hlt3:(k:Int)<(l.length:Int):=by omega
    have hk0:(0:Int)<=(k:Int):=by omega
    obtain ⟨b,o,hao,f1⟩:=(HD.out.go HW1.out).at hlt;have HN:=Bi5 (fun h=>@Mw _ (fun e=>!Dz g.es.length e) l k HA.out hlt h);have HY:=Bi5 (fun h=>@Ae0 _ (fun e=>!Dz g.es.length e) l k hlt h);generalize l[k]=x at*;subst hao
    by_cases d1:x<0
    ·have HZ:=Bi5 (HY.out (by simp [Dz];omega))
     have t1:decide (x<0)=true:=by simp [d1]
     go_wp2
     go_quiet (fail)
     go_wp2
     go_ret
     exact ⟨by rw [HR.out,HZ.out];rfl,(HW1.out.dr _).dr _⟩
    ·have t1:decide (x<0)=false:=by simp;omega
     by_cases d2:(g.es.length:Int)<=x
     ·have HZ:=Bi5 (HY.out (by simp [Dz];omega))
      have t2:decide ((g.es.length:Int)<=x)=true:=by simp [d2]
      go_wp2
      go_quiet (fail)
      go_wp2
      go_ret
      exact ⟨by rw [HR.out,HZ.out];rfl,(HW1.out.dr _).dr _⟩
     ·have HZ:=Bi5 (HN.out (by simp [Dz];omega))
      have t2:decide ((g.es.length:Int)<=x)=false:=by simp;omega
      go_wp2
      go_quiet (fail)
      go_wp2
      go_roundg (l.length-(k+1))
      case measure=>omega
      case rel=>exact ⟨k+1,qn+nq,by omega,by omega,by go_num,rfl,HZ.out⟩
   ·obtain rfl:k=l.length:=by omega
    have HZ:=Bi5 (@Sa _ (fun e=>!Dz g.es.length e) l (fun j h=>HA.out j h h))
    go_wp2
    go_ret
    exact ⟨by rw [HR.out,HZ.out];rfl,HW1.out.dr _⟩
def edD:EdgeD:=⟨0,0,0⟩
def Bu (es:List EdgeD):Int->List Int->List Int->Option (List Int)
 |_,out,[]=>some out
 |s,out,e::r=>if (es.getD e.toNat edD).f=s then Bu es (es.getD e.toNat edD).t (out++[(es.getD e.toNat edD).t]) r else none
def Cu (g:GD) (s:Int) (l:List Int):Option (List Int):=if Dd g l&&Bs g.n s then Bu g.es s [s] l else none
theorem Zz {g:GD} {s:Int} {l:List Int} (h:Dd g l=false):Cu g s l=none:=by unfold Cu;rw [h];rfl
theorem Zy {g:GD} {s:Int} {l:List Int} (h:Bs g.n s=false):Cu g s l=none:=by unfold Cu;rw [h,Bool.and_false];rfl
theorem Ht {g:GD} {s:Int} {l:List Int} (h:Dd g l=true) (h2:Bs g.n s=true):Cu g s l=Bu g.es s [s] l:=by unfold Cu;rw [h,h2];rfl
theorem Ac5 {g:GD} {l:List Int} (h:Dd g l=true) {e:Int} (he:e∈l):0<=e/\e<(g.es.length:Int):=by
 unfold Dd at h;simp only [Bool.and_eq_true,Bool.not_eq_true',List.any_eq_false] at h;have:=h.2 e he
 simpa [Dz] using this
theorem Sk {es:List EdgeD} {s:Int} {out l:List Int} {k:Nat} (hk:k<l.length) (h0:0<=l[k]) (h1:l[k].toNat<es.length) (h:es[l[k].toNat].f=s):
  Bu es s out (l.drop k)=Bu es es[l[k].toNat].t (out++[es[l[k].toNat].t]) (l.drop (k+1)):=by
 rw [List.drop_eq_getElem_cons hk,Bu];have:es.getD l[k].toNat edD=es[l[k].toNat]:=by simp [List.getD,h1]
 rw [this,if_pos h]
theorem Ur {es:List EdgeD} {s:Int} {out l:List Int} {k:Nat} (hk:k<l.length) (h0:0<=l[k]) (h1:l[k].toNat<es.length) (h:¬es[l[k].toNat].f=s):
  Bu es s out (l.drop k)=none:=by
 rw [List.drop_eq_getElem_cons hk,Bu];have:es.getD l[k].toNat edD=es[l[k].toNat]:=by simp [List.getD,h1]
 rw [this,if_neg h]
theorem Aq6 {es:List EdgeD} {s:Int} {out l:List Int}:Bu es s out (l.drop l.length)=some out:=by rw [List.drop_length,Bu]
theorem Yn {w:World} {base:Nat} {e:TypeId} {size n cap:Nat} {ao:Option Addr} {xs:List Value} (h:w.ownsRow base e size (.slice ao n cap) n xs):n<=cap:=by
 rcases h.2 with ⟨h1,rfl⟩|⟨g,cap',cur,h1,hb,hg,rest⟩
 ·omega
 ·cases h1
  omega
def Um (w:World) (r:Option (List Int)) (e:Ending) (w':World):Prop:=
 ∃ao cap,e=.returned (.tuple #[.slice ao (r.getD []).length cap,.bool r.isSome])/\Cel w' ao ((r.getD []).map Aj)/\Below w.heap.size w w'/\(r.getD []).length<=cap
theorem Qk (g:GD) (ao bo:Option Addr) (cap cb:Nat) (s:Int) (l:List Int) (w:World) (hl:g.es.length<=9223372036854775807) (hll:l.length<=1099511627776) (hc:Cel w ao (Ax g.es)) (hd:Cel w bo (l.map Aj)):
  Calls Tryz.prog 46 #[.agg #[.int .i64 g.n,.slice ao g.es.length cap],.int .i64 s,.slice bo l.length cb] w (Um w (Cu g s l)):=by
 have HC:=Bi5 hc;have HD:=Bi5 hd;clear hc hd;have X1:=Bi5 (fun W h1 h2=>Uz g ao bo cap cb l W hl (by omega) h1 h2)
 cases q1:Dd g l with
 |false=>
  have HR:=Bi5 (Zz (s:=s) q1);rw [q1] at X1;clear q1;generalize Cu g s l=r at*
  go_enter Tryz.func46,Tryz.ntmps46
  go_wp2_with fail
  obtain ⟨W,hW,c0,c1,hsW⟩:∃W,W=w.alloc (Obj.cells #[.int .i64 g.n,.slice ao g.es.length cap] 24)/\W.cell? ⟨w.heap.size,0,none⟩=some (.int .i64 g.n)/\W.cell? ⟨w.heap.size,1,none⟩=some (.slice ao g.es.length cap)/\w.heap.size<W.heap.size:=⟨_,rfl,by go_simp,by go_simp,by simp⟩;rw [<-hW];have HW:=Bi5 (show Below w.heap.size w W by rw [hW];repeat (first|exact Below.refl _ _|refine Below.al ?_ _|refine Below.dr ?_ _|refine Below.drew ?_|assumption|(refine Below.st ?_ (by assumption))));clear hW;refine (X1.out _ (HC.out.go HW.out) (HD.out.go HW.out)).mono ?_;rintro e w2 ⟨rfl,hb2⟩;have m0:=Bi6 hb2 c0;have m1:=Bi6 hb2 c1;have HW2:=Bi5 (HW.out.st hb2);have hs2:w.heap.size<w2.heap.size:=by have:=hb2.size;omega
  clear c0 c1 hb2 hsW HW;have c0:=m0;have c1:=m1;clear m0 m1
  go_wp2
  go_ret2
  exact ⟨none,0,by rw [HR.out];rfl,by rw [HR.out];exact Cel.nil _ _,HW2.out,by rw [HR.out];exact Bi7 _⟩
 |true=>
  have HM:=Bi5 (fun e he=>Ac5 q1 (e:=e) he);rw [q1] at X1
  by_cases q2:s<0\/g.n<=s
  ·have HR:=Bi5 (Zy (g:=g) (s:=s) (l:=l) (by unfold Bs;simp;omega))
   clear q1;generalize Cu g s l=r at*
   by_cases q3:s<0
   all_goals
    have q4:s<0\/g.n<=s:=q2;clear q2
    try have q5:g.n<=s:=by omega
    clear q4
    go_enter Tryz.func46,Tryz.ntmps46
    go_wp2_with fail
    obtain ⟨W,hW,c0,c1,hsW⟩:∃W,W=w.alloc (Obj.cells #[.int .i64 g.n,.slice ao g.es.length cap] 24)/\W.cell? ⟨w.heap.size,0,none⟩=some (.int .i64 g.n)/\W.cell? ⟨w.heap.size,1,none⟩=some (.slice ao g.es.length cap)/\w.heap.size<W.heap.size:=⟨_,rfl,by go_simp,by go_simp,by simp⟩;rw [<-hW];have HW:=Bi5 (show Below w.heap.size w W by rw [hW];repeat (first|exact Below.refl _ _|refine Below.al ?_ _|refine Below.dr ?_ _|refine Below.drew ?_|assumption|(refine Below.st ?_ (by assumption))));clear hW;refine (X1.out _ (HC.out.go HW.out) (HD.out.go HW.out)).mono ?_;rintro e w2 ⟨rfl,hb2⟩;have m0:=Bi6 hb2 c0;have m1:=Bi6 hb2 c1;have HW2:=Bi5 (HW.out.st hb2);have hs2:w.heap.size<w2.heap.size:=by have:=hb2.size;omega
    clear c0 c1 hb2 hsW HW;have c0:=m0;have c1:=m1;clear m0 m1
    go_wp2
    go_ret2
    exact ⟨none,0,by rw [HR.out];rfl,by rw [HR.out];exact Cel.nil _ _,HW2.out,by rw [HR.out];exact Bi7 _⟩
  ·have HR:=Bi5 (Ht q1 (s:=s) (by unfold Bs;simp;omega))
   clear q1;generalize Cu g s l=r at*;have q3:¬s<0:=by omega
   have q4:¬g.n<=s:=by omega
   clear q2
   go_enter Tryz.func46,Tryz.ntmps46
   go_wp2_with fail
   obtain ⟨W,hW,c0,c1,hsW⟩:∃W,W=w.alloc (Obj.cells #[.int .i64 g.n,.slice ao g.es.length cap] 24)/\W.cell? ⟨w.heap.size,0,none⟩=some (.int .i64 g.n)/\W.cell? ⟨w.heap.size,1,none⟩=some (.slice ao g.es.length cap)/\w.heap.size<W.heap.size:=⟨_,rfl,by go_simp,by go_simp,by simp⟩;rw [<-hW];have HW:=Bi5 (show Below w.heap.size w W by rw [hW];repeat (first|exact Below.refl _ _|refine Below.al ?_ _|refine Below.dr ?_ _|refine Below.drew ?_|assumption|(refine Below.st ?_ (by assumption))));clear hW;refine (X1.out _ (HC.out.go HW.out) (HD.out.go HW.out)).mono ?_;rintro e w2 ⟨rfl,hb2⟩;have m0:=Bi6 hb2 c0;have m1:=Bi6 hb2 c1;have HW2:=Bi5 (HW.out.st hb2);have hs2:w.heap.size<w2.heap.size:=by have:=hb2.size;omega
   clear c0 c1 hb2 hsW HW;have c0:=m0;have c1:=m1;clear m0 m1
   go_wp2
   have HO1:=Bi5 (World.ownsRow_lit (base:=w2.heap.size) (e:=3) (size:=1) w2 #[.int .i64 s] 1 (Bi7 _) (by decide) rfl)
   go_loopg [8,9] l.length (fun gg v i wr=>∃(k cap':Nat) (x:Int) (ao':Option Addr) (O:List Int),k<=l.length/\l.length-k<=gg/\i=.int .i64 k/\v=.slice ao' (k+1) cap'/\w2.heap.size<=wr.heap.size/\
    Aside (O.length=k+1/\O[k]? =some x/\wr.ownsRow w2.heap.size 3 1 (.slice ao' (k+1) cap') (k+1) (O.map Aj)/\Below w2.heap.size w2 wr)/\Aside (Bu g.es x O (l.drop k)=r))
   case atStart=>exact ⟨0,1,s,_,[s],Bi8 _,by omega,rfl,rfl,by simp,⟨rfl,rfl,HO1.out,Below.of_al _ _⟩,HR.out.symm⟩
   case round=>
    clear HO1;obtain ⟨k,cap',x,ao',O,hk,hg,rfl,rfl,hsz,HA,HG⟩:=hrel;have m0:=Bi6 HA.out.2.2.2 c0;have m1:=Bi6 HA.out.2.2.2 c1
    by_cases hlt:k<l.length
    ·obtain ⟨b,o,hbo,f1⟩:=(HD.out.go (HW2.out.st HA.out.2.2.2)).at hlt
     have hin:=HM.out l[k] (Bj7 hlt);have hj:l[k].toNat<g.es.length:=by omega
     obtain ⟨b2,o2,hao2,j1,j2,j3⟩:=(HC.out.go (HW2.out.st HA.out.2.2.2)).edge hj;have HY:=Bi5 (fun h=>Sk (out:=O) (s:=x) hlt hin.1 hj h);have HNo:=Bi5 (fun h=>Ur (out:=O) (s:=x) hlt hin.1 hj h);rw [HG.out] at HY HNo;have i0:0<=l[k]:=hin.1;have i1:l[k]<(g.es.length:Int):=hin.2;have k0:(0:Int)<=(k:Int):=by omega
     have k1:(k:Int)<(l.length:Int):=by omega
     have hlast:∃b3,ao'=some ⟨b3,0,none⟩/\w2.heap.size<=b3/\b3<wr.heap.size/\wr.cell? ⟨b3,k,none⟩=some (.int .i64 x):=by
      obtain ⟨g3,cap3,e3,hg3,hb3⟩:=HA.out.2.2.1.form (by omega)
      cases e3
      refine ⟨g3,rfl,hg3,hb3,?_⟩;rw [HA.out.2.2.1.cellAt k (by omega),Bk4,HA.out.2.1];rfl
     obtain ⟨b3,hao3,hb3,hb3',j4⟩:=hlast;generalize g.es[l[k].toNat]=ed at*;generalize l[k]=ei at*;subst hbo hao2 hao3;have t0:(0:Int)<=(k:Int)+1-1:=by omega
     by_cases he:ed.f=x
     ·have t1:(ed.f != x)=false:=by simp [he]
      have HQ:=Bi5 (HY.out he);clear he;have u1:=fun o'=>Bi6 (Below.of_al wr o') f1;have u2:=fun o'=>Bi6 (Below.of_al wr o') j1;have u3:=fun o'=>Bi6 (Below.of_al wr o') j2;have u4:=fun o'=>Bi6 (Below.of_al wr o') j3;have u5:=fun o'=>Bi6 (Below.of_al wr o') m1;have u6:=fun o'=>Bi6 (Below.of_al wr o') j4
      go_wp2
      go_region
      obtain ⟨W4,hW4,n1,n2,n4,hs4⟩:∃W4,W4=(wr.alloc (Obj.cells #[.int .i64 ed.f,.int .i64 ed.t,.int .u64 ed.w] 109)).drew/\W4.cell? ⟨wr.heap.size,0,none⟩=some (.int .i64 ed.f)/\W4.cell? ⟨wr.heap.size,1,none⟩=some (.int .i64 ed.t)/\W4.cell? ⟨b3,k,none⟩=some (.int .i64 x)/\w2.heap.size<=W4.heap.size:=⟨_,rfl,by go_simp,by go_simp,by go_simp,by simp;omega⟩;have HO4:=Bi5 (show W4.ownsRow w2.heap.size 3 1 (.slice (some ⟨b3,0,none⟩) (k+1) cap') (k+1) (O.map Aj) by rw [hW4];exact (HA.out.2.2.1.alloc _).drew);have HB4:=Bi5 (show Below w2.heap.size w2 W4 by rw [hW4];exact ((HA.out.2.2.2.alloc hsz _).drew));rw [<-hW4];clear hW4 u1 u2 u3 u4 u5 u6
      go_wp2
      go_quiet (fail)
      go_wp2_with (at_builtin;go_must ((with_reducible refine Ce w2.heap.size 3 _ 1 8 Hf Tryz.underlying25 (.slice (some ⟨b3,0,none⟩) (k+1) cap') (k+1) _ ⟨W4.heap.size,0,none⟩ 1 1 ?_ ?_ ?_ (World.ownsRow.alloc (Ly HO4.out nq) _) ?_ ?_ ?_ ?_);rotate_left 1;(· rfl);(· rfl);(· exact cell_one_new _ _ _);(· exact Cr rfl);(· exact ⟨rfl,by decide,by omega,by omega,by simp;omega⟩);intro g1 cap1 w1 hown hgrow hbl hat hlt1;(have H1o:=Bi5 hown;have H1b:=Bi5 hbl;have H1g:=Bi5 (And.intro hgrow hat);clear hown hgrow hbl hat)))
      go_roundg (l.length-(k+1))
      case measure=>omega
      case rel=>
       refine ⟨k+1,cap1,ed.t,some ⟨g1,0,none⟩,O++[ed.t],by omega,by omega,by go_num,rfl,by have:=H1b.out.size;simp at this;omega,⟨by simp [HA.out.1],?_,?_,HB4.out.trans ((Below.alloc (below_drewN (Below.refl _ _) _) (by simp;omega) _).trans H1b.out)⟩,HQ.out.symm⟩
       ·rw [Bm3 (by rw [HA.out.1];omega),HA.out.1];simp
       ·rw [Bm6];exact H1o.out
     ·have t1:(ed.f != x)=true:=by simp [he]
      have HQ:=Bi5 (HNo.out he);clear he;have u1:=fun o'=>Bi6 (Below.of_al wr o') f1;have u2:=fun o'=>Bi6 (Below.of_al wr o') j1;have u3:=fun o'=>Bi6 (Below.of_al wr o') j2;have u4:=fun o'=>Bi6 (Below.of_al wr o') j3;have u5:=fun o'=>Bi6 (Below.of_al wr o') m1;have u6:=fun o'=>Bi6 (Below.of_al wr o') j4
      go_wp2
      go_region
      obtain ⟨W4,hW4,n1,n2,n4,hs4⟩:∃W4,W4=(wr.alloc (Obj.cells #[.int .i64 ed.f,.int .i64 ed.t,.int .u64 ed.w] 109)).drew/\W4.cell? ⟨wr.heap.size,0,none⟩=some (.int .i64 ed.f)/\W4.cell? ⟨wr.heap.size,1,none⟩=some (.int .i64 ed.t)/\W4.cell? ⟨b3,k,none⟩=some (.int .i64 x)/\w2.heap.size<=W4.heap.size:=⟨_,rfl,by go_simp,by go_simp,by go_simp,by simp;omega⟩;have HO4:=Bi5 (show W4.ownsRow w2.heap.size 3 1 (.slice (some ⟨b3,0,none⟩) (k+1) cap') (k+1) (O.map Aj) by rw [hW4];exact (HA.out.2.2.1.alloc _).drew);have HB4:=Bi5 (show Below w2.heap.size w2 W4 by rw [hW4];exact ((HA.out.2.2.2.alloc hsz _).drew));rw [<-hW4];clear hW4 u1 u2 u3 u4 u5 u6
      go_wp2
      go_quiet (fail)
      go_wp2
      go_ret2
      exact ⟨none,0,by rw [HQ.out];rfl,by rw [HQ.out];exact Cel.nil _ _,HW2.out.st (HB4.out.dr _),by rw [HQ.out];exact Bi7 _⟩
    ·obtain rfl:k=l.length:=by omega
     have HQ:=Bi5 (@Aq6 g.es x O l);rw [HG.out] at HQ
     go_wp2
     go_ret2
     obtain ⟨ao3,cap3,e3,h3⟩:=Cel.of_owns HA.out.2.2.1
     cases e3
     exact ⟨ao',cap',by rw [HQ.out];simp [HA.out.1],by rw [HQ.out];exact h3,HW2.out.st HA.out.2.2.2,by rw [HQ.out];exact HA.out.1▸Yn HA.out.2.2.1⟩
def wt (es:List EdgeD) (e:Int):Int:=(es.getD e.toNat edD).w
def Ak3 (es:List EdgeD):Int->List Int->List Int
 |a,[]=>[a]
 |a,e::r=>a::Ak3 es (a+wt es e) r
def Be7 (g:GD) (l:List Int):Option (List Int):=if Dd g l then some (Ak3 g.es 0 l) else none
theorem As9 {g:GD} {l:List Int} (h:Dd g l=true):Be7 g l=some (Ak3 g.es 0 l):=by unfold Be7;rw [h];rfl
def Ae6 (g:GD) (l:List Int):Option Int:=(Be7 g l).map fun L=>(L[l.length]?).getD 0
theorem Kq (es:List EdgeD):∀(l:List Int) (s:Int) (out O:List Int),Bu es s out l=some O->O.length=out.length+l.length
 |[],_,out,O,h=>by simp [Bu] at h;subst h;rfl
 |e::r,s,out,O,h=>by
  unfold Bu at h
  split at h
  ·have:=Kq es r _ _ O h
   simp at this ⊢;omega
  ·cases h
theorem Sp {g:GD} {s:Int} {l O:List Int} (h:Cu g s l=some O):O.length=l.length+1:=by
 unfold Cu at h
 split at h
 ·have:=Kq _ _ _ _ _ h
  simp at this;omega
 ·cases h
def isB (g:GD) (s t:Int) (l:List Int):Bool:=match Cu g s l with|some O=>((O[O.length-1]?).getD 0==t)|none=>false
theorem Aj6 (g:GD) (ao bo:Option Addr) (cap cb:Nat) (s t:Int) (l:List Int) (w:World) (hl:g.es.length<=9223372036854775807) (hll:l.length<=1099511627776) (hc:Cel w ao (Ax g.es)) (hd:Cel w bo (l.map Aj)):
  Calls Tryz.prog 45 #[.agg #[.int .i64 g.n,.slice ao g.es.length cap],.int .i64 s,.int .i64 t,.slice bo l.length cb] w fun e w'=>e=.returned (.bool (isB g s t l))/\Below w.heap.size w w':=by
 have HC:=Bi5 hc;have HD:=Bi5 hd;clear hc hd;have X1:=Bi5 (fun W h1 h2=>Qk g ao bo cap cb s l W hl hll h1 h2)
 cases hr:Cu g s l with
 |none=>
  have HR:=Bi5 (show isB g s t l=false by unfold isB;rw [hr]);rw [hr] at X1;generalize isB g s t l=r at*
  go_enter Tryz.func45,Tryz.ntmps45
  go_wp2_with (go_at_call 46;refine (X1.out _ (HC.out.go (by repeat (first|exact Below.refl _ _|refine Below.al ?_ _|refine Below.dr ?_ _|refine Below.drew ?_|assumption|(refine Below.st ?_ (by assumption))))) (HD.out.go (by repeat (first|exact Below.refl _ _|refine Below.al ?_ _|refine Below.dr ?_ _|refine Below.drew ?_|assumption|(refine Below.st ?_ (by assumption)))))).mono ?_;rintro e w1 ⟨a1,p1,rfl,hc1,hb1,-⟩;simp only [Option.isSome_none])
  go_ret
  exact ⟨by rw [HR.out];rfl,by repeat (first|exact Below.refl _ _|refine Below.al ?_ _|refine Below.dr ?_ _|refine Below.drew ?_|assumption|(refine Below.st ?_ (by assumption)))⟩
 |some O=>
  have hO:=Sp hr;have HR:=Bi5 (show isB g s t l=((O[O.length-1]?).getD 0==t) by unfold isB;rw [hr]);rw [hr] at X1;clear hr;generalize isB g s t l=r at*;have h1:1<=O.length:=by omega
  have h2:O.length<=1099511627777:=by omega
  clear hO
  go_enter Tryz.func45,Tryz.ntmps45
  go_wp2_with fail
  refine (X1.out _ (HC.out.go (by repeat (first|exact Below.refl _ _|refine Below.al ?_ _|refine Below.dr ?_ _|refine Below.drew ?_|assumption|(refine Below.st ?_ (by assumption))))) (HD.out.go (by repeat (first|exact Below.refl _ _|refine Below.al ?_ _|refine Below.dr ?_ _|refine Below.drew ?_|assumption|(refine Below.st ?_ (by assumption)))))).mono ?_;rintro e w1 ⟨a1,p1,rfl,hc1,hb1,-⟩;have HB1:=Bi5 hb1;have hx:∃x,O[O.length-1]? =some x:=⟨_,Bj0 (by omega)⟩;obtain ⟨x,hx⟩:=hx;have hcell:∃b1 o1,a1=some ⟨b1,o1,none⟩/\w1.cell? ⟨b1,o1+(O.length-1),none⟩=some (.int .i64 x):=by
   obtain ⟨b',o',e',h'⟩:=hc1 (O.length-1) (.int .i64 x) (by simp [hx]);exact ⟨b',o',e',h'⟩
  obtain ⟨b1,o1,rfl,hcell⟩:=hcell;have HX:=Bi5 hx;clear hx hc1 hb1;simp only [Bl0,Option.isSome_some]
  go_wp2
  go_ret
  exact ⟨by rw [HR.out,HX.out];rfl,by have:=HB1.out;repeat (first|exact Below.refl _ _|refine Below.al ?_ _|refine Below.dr ?_ _|refine Below.drew ?_|assumption|(refine Below.st ?_ (by assumption)))⟩
end
end Go.Proofs.YteaaapdjplbljaaGreat
