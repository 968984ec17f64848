/- Parts; no condition. -/
import Derived.Test.YteaaapdjplbljaaGreatVb40
set_option linter.unusedVariables false
set_option linter.unusedSimpArgs false
set_option linter.unnecessarySimpa false
set_option maxRecDepth 100000
set_option maxHeartbeats 8000000
namespace Go.Proofs.YteaaapdjplbljaaGreat
section
namespace Vi
open Go Go.Proofs Go.RowKit Go.Shelf Hp Ch Ad Ro Dj
def orF (a b:Int):Int:=if a=0 then b else a
theorem Ar6 (b:Nat) (x y:Int) (w:World) (h0:w.cell? ⟨b,0,none⟩=some (.int .i64 x)) (h1:w.cell? ⟨b,1,none⟩=some (.int .i64 y)):
  Calls Tryz.prog 77 #[.slice (some ⟨b,0,none⟩) 2 2] w fun e w'=>e=.returned (.int .i64 (orF x y))/\w'=w:=by
 unfold orF
 by_cases hx:x=0
 ·subst hx
  rw [if_pos rfl]
  by_cases hy:y=0
  ·subst hy
   go_enter Tryz.func77,Tryz.ntmps77
   go_wp2
   refine wp_loop_rounds 3 ?_;rw [rounds_succ]
   go_wp2
   rw [rounds_succ]
   go_wp2
   rw [rounds_succ]
   go_wp2
   go_ret
   exact ⟨rfl,rfl⟩
  ·have hy2:(y != 0)=true:=by simpa using hy
   clear hy
   go_enter Tryz.func77,Tryz.ntmps77
   go_wp2
   refine wp_loop_rounds 2 ?_;rw [rounds_succ]
   go_wp2
   rw [rounds_succ]
   go_wp2
   go_ret
   exact ⟨rfl,rfl⟩
 ·rw [if_neg hx]
  have hx2:(x != 0)=true:=by simpa using hx
  clear hx
  go_enter Tryz.func77,Tryz.ntmps77
  go_wp2
  refine wp_loop_rounds 1 ?_;rw [rounds_succ]
  go_wp2
  go_ret
  exact ⟨rfl,rfl⟩
theorem Bf8 (B n:Nat) (es:List EdgeD) (ao:Option Addr) (cap:Nat) (v:Int) (w:World) (h0:w.cell? ⟨B,0,none⟩=some (.int .i64 (n:Int))) (h1:w.cell? ⟨B,1,none⟩=some (.slice ao es.length cap)):
  Calls Tryz.prog 74 (#[Ai v]++#[.pointer (some ⟨B,0,none⟩)]) w fun e w'=>e=.returned (.bool (Eg n v))/\Below w.heap.size w w':=by
 have HN:=Bm0 (Hq ⟨(n:Int),es⟩ ao cap v w);have HV:=Bm0 (show (!Cz (⟨(n:Int),es⟩:GD).n v)=Eg n v by
  unfold Cz Eg
  by_cases h:v<0
  ·simp [h]
  ·by_cases h':(n:Int)<=v<;>simp [h,h']<;>omega)
 generalize Cz (⟨(n:Int),es⟩:GD).n v=r at*;rw [<-HV.out];clear HV
 go_enter Tryz.func74,Tryz.ntmps74
 go_wp2_with (go_at_call 75;refine HN.out.mono ?_;rintro e w1 ⟨rfl,hb1⟩;(have HB1:=Bm0 hb1);clear hb1)
 go_ret
 exact ⟨rfl,HB1.out⟩
def ByIs (n:Nat) (es:List EdgeD) (s v t V:Int) (l:List Int) (x c k:Int):Prop:=
 (k=0/\V=v/\∃l1 l2 x1 x2,Ew n es s v l1 x1 0/\Ew n es v t l2 x2 0/\l=l1++l2/\x=x1+x2/\c=(l1.length:Int))\/
 (k≠0/\V=0/\l=[]/\x=0/\c=0/\((k=7/\¬(Ac n s/\Ac n v/\Ac n t))\/(k=9/\Ac n s/\Ac n v/\Ac n t/\((∀e,¬Way0 (Am es) Any s v e)\/∀e,¬Way0 (Am es) Any v t e))))
def Fl (V:Int) (la:Option Addr) (m c:Nat) (x q:Int):Value:=.agg #[.int .i64 V,.slice la m c,.int .u64 x,.int .i64 q]
def Mj (n:Nat) (es:List EdgeD) (s v t:Int) (w:World) (e:Ending) (w':World):Prop:=
 ∃(la:Option Addr) (l:List Int) (lc:Nat) (V x c k:Int),e=.returned (.tuple #[Fl V la l.length lc x c,.int .i64 k])/\Cel w' la (l.map Ai)/\Below w.heap.size w w'/\ByIs n es s v t V l x c k/\∀y,la=some y->w.heap.size<=y.block
def byR (L b1:Nat) (v:Int) (a1:Option Addr) (c1:Nat) (l1:List Int) (x1:Int) (g2:Value) (lj:List Int) (x:Int):Nat->Value->World->Prop
 |0,u,_=>u=.int .i64 v
 |1,u,_=>u=.agg #[.slice a1 l1.length c1,.int .u64 x1]
 |2,u,_=>u=g2
 |3,u,w=>∃a c,u=.agg #[.slice a lj.length c,.int .u64 x]/\Cel w a (lj.map Ai)/\∀y,a=some y->L<=y.block
 |4,u,_=>u=.pointer (some ⟨b1,0,none⟩)
 |5,u,_=>u=.slice a1 l1.length c1
 |6,u,_=>u=.int .i64 (l1.length:Int)
 |_,u,w=>∃a c,u=Fl v a lj.length c x (l1.length:Int)/\Cel w a (lj.map Ai)/\∀y,a=some y->L<=y.block
theorem Bk0 {L b1:Nat} {v:Int} {a1:Option Addr} {c1:Nat} {l1:List Int} {x1:Int} {g2:Value} {lj:List Int} {x:Int}:∀i u w' w'',Below w'.heap.size w' w''->byR L b1 v a1 c1 l1 x1 g2 lj x i u w'->byR L b1 v a1 c1 l1 x1 g2 lj x i u w''
 |0,_,_,_,_,h=>h
 |1,_,_,_,_,h=>h
 |2,_,_,_,_,h=>h
 |3,_,_,_,hb,⟨a,c,e,h,r⟩=>⟨a,c,e,h.go hb,r⟩
 |4,_,_,_,_,h=>h
 |5,_,_,_,_,h=>h
 |6,_,_,_,_,h=>h
 |_+7,_,_,_,hb,⟨a,c,e,h,r⟩=>⟨a,c,e,h.go hb,r⟩
theorem Mg {W:World} {C:Nat} {u0 u1 u2 u3:Value} {T:TypeId} (h:W.heap[C]? =some (.cells #[u0,u1,u2,u3] T (0,0))):W.cell? ⟨C,0,none⟩=some u0/\W.cell? ⟨C,1,none⟩=some u1/\W.cell? ⟨C,2,none⟩=some u2/\W.cell? ⟨C,3,none⟩=some u3/\∀j,W.frozen? ⟨C,j,none⟩=false:=by
 refine ⟨?_,?_,?_,?_,fun j=>?_⟩<;>simp [World.cell?,World.frozen?,h]
theorem Ar7 (w:World) (x y z:Int) (T:TypeId):Cel (w.alloc (Obj.cells #[.int .i64 x,.int .i64 y,.int .i64 z] T)) (some ⟨w.heap.size,0,none⟩) ([x,y,z].map Ai):=fun i u hu=>by
 refine ⟨w.heap.size,0,rfl,?_⟩
 match i with
 |0=>cases hu;go_simp
 |1=>cases hu;go_simp
 |2=>cases hu;go_simp
 |i+3=>simp at hu
theorem Eu {w:World} {B:Nat} {v0 v1 v2 v3:Value} (u0 u1 u2 u3:Value) (h0:w.cell? ⟨B,0,none⟩=some v0) (h1:w.cell? ⟨B,1,none⟩=some v1) (h2:w.cell? ⟨B,2,none⟩=some v2) (h3:w.cell? ⟨B,3,none⟩=some v3):
  ((((w.setCell ⟨B,0,none⟩ u0).setCell ⟨B,1,none⟩ u1).setCell ⟨B,2,none⟩ u2).setCell ⟨B,3,none⟩ u3).cell? ⟨B,0,none⟩=some u0/\((((w.setCell ⟨B,0,none⟩ u0).setCell ⟨B,1,none⟩ u1).setCell ⟨B,2,none⟩ u2).setCell ⟨B,3,none⟩ u3).cell? ⟨B,1,none⟩=some u1/\
  ((((w.setCell ⟨B,0,none⟩ u0).setCell ⟨B,1,none⟩ u1).setCell ⟨B,2,none⟩ u2).setCell ⟨B,3,none⟩ u3).cell? ⟨B,2,none⟩=some u2/\((((w.setCell ⟨B,0,none⟩ u0).setCell ⟨B,1,none⟩ u1).setCell ⟨B,2,none⟩ u2).setCell ⟨B,3,none⟩ u3).cell? ⟨B,3,none⟩=some u3:=by
 refine ⟨?_,?_,?_,?_⟩
 ·rw [Bm8 _ _ _ _ (by simp),Bm8 _ _ _ _ (by simp),Bm8 _ _ _ _ (by simp)]
  exact Bm9 _ _ _ h0
 ·rw [Bm8 _ _ _ _ (by simp),Bm8 _ _ _ _ (by simp)]
  exact Bm9 (u:=v1) _ _ _ (by rw [Bm8 _ _ _ _ (by simp)];exact h1)
 ·rw [Bm8 _ _ _ _ (by simp)]
  exact Bm9 (u:=v2) _ _ _ (by rw [Bm8 _ _ _ _ (by simp),Bm8 _ _ _ _ (by simp)];exact h2)
 ·exact Bm9 (u:=v3) _ _ _ (by rw [Bm8 _ _ _ _ (by simp),Bm8 _ _ _ _ (by simp),Bm8 _ _ _ _ (by simp)];exact h3)
theorem Tk (w:World) (B:Nat) (u0 u1 u2 u3:Value):OffX (· =B) w ((((w.setCell ⟨B,0,none⟩ u0).setCell ⟨B,1,none⟩ u1).setCell ⟨B,2,none⟩ u2).setCell ⟨B,3,none⟩ u3):=
 ((((.set _ rfl:OffX (· =B) w (w.setCell ⟨B,0,none⟩ u0)).trans (.set _ rfl)).trans (.set _ rfl)).trans (.set _ rfl))
theorem Ba6 (n:Nat) (es:List EdgeD) (ao:Option Addr) (cap:Nat) (s v t:Int) (w:World) (hg:Ak ⟨(n:Int),es⟩=0) (hn:n<=50000) (hm:es.length<=50000) (hc:Cel w ao (Ay es)):
  Calls Tryz.prog 33 #[.agg #[.int .i64 (n:Int),.slice ao es.length cap],.int .i64 s,.int .i64 v,.int .i64 t] w (Mj n es s v t w):=by
 obtain ⟨W,hW⟩:∃W,W=(w.alloc (Obj.cells #[.int .i64 (n:Int),.slice ao es.length cap] 24)).alloc (Obj.cells #[.int .i64 0,.slice none 0 0,.int .u64 0,.int .i64 0] 63):=⟨_,rfl⟩;have hbw:Below w.heap.size w W:=by rw [hW];exact (Below.of_al _ _).al _
 have c0:W.cell? ⟨w.heap.size,0,none⟩=some (.int .i64 (n:Int)):=by rw [hW];go_simp
 have c1:W.cell? ⟨w.heap.size,1,none⟩=some (.slice ao es.length cap):=by rw [hW];go_simp
 have HRB:=Bm0 (show W.heap[w.heap.size+1]? =some (.cells #[.int .i64 0,.slice none 0 0,.int .u64 0,.int .i64 0] 63 (0,0)) by
  rw [hW];have e:w.heap.size+1=(w.alloc (Obj.cells #[.int .i64 (n:Int),.slice ao es.length cap] 24)).heap.size:=by simp
  rw [e]
  show ((w.alloc (Obj.cells #[.int .i64 (n:Int),.slice ao es.length cap] 24)).heap.push _)[_]? =_
  rw [Array.getElem?_push_size])
 have HRG:=Bm0 (Dr ⟨(n:Int),es⟩ ao cap W (show es.length<=9223372036854775807 by omega) (hc.go hbw));rw [hg] at HRG;simp only at HRG;have HPT:=Bm0 (fun (s t:Nat) (hs:s<n) (ht:t<n) U (hz:Below w.heap.size w U)=>Tt n s t es ao cap U hg hn hm hs ht (hc.go hz));have HE:=Bm0 (Si hg);have HW:=Bm0 hW;have HB:=Bm0 hbw;clear hW hbw hg hc
 go_enter Tryz.func33,Tryz.ntmps33
 go_upto_region 1 with (fail)
 rw [<-HW.out]
 go_upto_region 3 with (go_at_call 72;refine HRG.out.mono ?_;rintro e w1 ⟨rfl,hb1⟩;(have HB1:=Bm0 hb1);(have d0:=Bm1 hb1 c0);(have d1:=Bm1 hb1 c1);clear hb1)
 have HCF:=Bm0 (Hz 74 #[.pointer (some ⟨w.heap.size,0,none⟩)] (Eg n) (some ⟨w1.heap.size,0,none⟩) 3 [s,v,t] (w1.alloc (Obj.cells #[.int .i64 s,.int .i64 v,.int .i64 t] 3)) (enters_of Tryz.func74 (by kernel_rfl) rfl)
  (fun W' x hz _=>Bf8 w.heap.size n es ao cap x W' (Bm1 ((Below.of_al _ _).st hz) d0) (Bm1 ((Below.of_al _ _).st hz) d1)) (by simp) (Ar7 _ _ _ _ _))
 have HNO:=Bm0 (Bd8 (n:=n) (l:=[s,v,t]));generalize [s,v,t].any (Eg n)=r at*;simp only [Bn5,Bn6,Nat.reduceAdd] at HCF;have HRX:=Bm0 (fun W2 (hz:Below W.heap.size W W2)=>Mg ((hz.block _ (Bm7.1 HRB.out).1).trans HRB.out))
 cases r with
 |true=>
  have HN7:=Bm0 (show ¬(Ac n s/\Ac n v/\Ac n t) from fun h=>absurd (HNO.out.2 (fun x hx=>by
   simp only [Bp2,List.not_mem_nil,or_false] at hx
   rcases hx with rfl|rfl|rfl
   ·exact h.1
   ·exact h.2.1
   ·exact h.2.2)) (by decide))
  go_upto_region 4 with (go_at_call 73;refine HCF.out.mono ?_;rintro e w2 ⟨rfl,hb2⟩;(have HB2:=Bm0 (HB1.out.st ((Below.of_al _ _).st hb2)));clear hb2)
  obtain ⟨x0,x1,x2,x3,zz⟩:=HRX.out _ HB2.out;have z0:=zz 0;have z1:=zz 1;have z2:=zz 2;have z3:=zz 3
  go_wp2
  obtain ⟨r0,r1,r2,r3⟩:=Eu (.int .i64 0) (.slice none 0 0) (.int .u64 0) (.int .i64 0) x0 x1 x2 x3;refine bodyPost_ret (v:=.tuple #[Fl 0 none 0 0 0 0,.int .i64 7]) (by simp [results,Tryz.results33,go_sem,r0,r1,r2,r3];try rfl) rfl ?_;exact ⟨none,[],0,0,0,0,7,rfl,Cel.nil _ _,(HB.out.st HB2.out).trans ((Tk _ _ _ _ _ _).below (HB.out.st HB2.out).size (fun k e=>by have e2:k=w.heap.size+1:=e;omega)),.inr ⟨by decide,rfl,rfl,rfl,rfl,.inl ⟨rfl,HN7.out⟩⟩,fun y hy=>nomatch hy⟩
 |false=>
  have hnod:=HNO.out.1 rfl;have hsn:Ac n s:=hnod s (by simp);have hvn:Ac n v:=hnod v (by simp);have htn:Ac n t:=hnod t (by simp);obtain ⟨s,rfl⟩:∃q:Nat,s=(q:Int):=⟨s.toNat,by have:=hsn.1;omega⟩;obtain ⟨v,rfl⟩:∃q:Nat,v=(q:Int):=⟨v.toNat,by have:=hvn.1;omega⟩;obtain ⟨t,rfl⟩:∃q:Nat,t=(q:Int):=⟨t.toNat,by have:=htn.1;omega⟩;have hs:s<n:=by have:=hsn.2;omega
  have hv:v<n:=by have:=hvn.2;omega
  have ht:t<n:=by have:=htn.2;omega
  have HND:=Bm0 (And.intro hsn (And.intro hvn htn));clear hnod hsn hvn htn HNO;unfold Ku Eh at HPT
  go_upto_region 6 with (first
   |(go_at_call 73;refine HCF.out.mono ?_;rintro e w2 ⟨rfl,hb2⟩;(have HB2:=Bm0 (HB1.out.st ((Below.of_al _ _).st hb2)));(have e0:=Bm1 ((Below.of_al _ _).st hb2) d0);(have e1:=Bm1 ((Below.of_al _ _).st hb2) d1);clear hb2)
   |(go_at_call 76;refine (HPT.out s v hs hv _ (HB.out.st HB2.out)).mono ?_;rintro e w3 ⟨a1,l1,lc1,x1,k1,rfl,h1,h2,h3,h4⟩;(have HC1:=Bm0 h1);(have HB3:=Bm0 (HB2.out.st h2));(have HR1:=Bm0 h3);(have f0:=Bm1 h2 e0);(have f1:=Bm1 h2 e1);clear h1 h2 h3 h4))
  obtain ⟨W3,hW3⟩:∃W3,W3=w3.alloc (Obj.cells #[.slice a1 l1.length lc1,.int .u64 x1] 39):=⟨_,rfl⟩;rw [<-hW3];have hb3:Below w3.heap.size w3 W3:=by rw [hW3];exact Below.of_al _ _
  have HB3':=Bm0 (HB3.out.st hb3);have HC13:=Bm0 (HC1.out.go hb3);have g0:=Bm1 hb3 f0;have g1:=Bm1 hb3 f1;have b0:W3.cell? ⟨w3.heap.size,0,none⟩=some (.slice a1 l1.length lc1):=by rw [hW3];go_simp
  have b1:W3.cell? ⟨w3.heap.size,1,none⟩=some (.int .u64 x1):=by rw [hW3];go_simp
  clear hW3 hb3 f0 f1 e0 e1 d0 d1 c0 c1
  go_upto_region 7 with (go_at_call 76;refine (HPT.out v t hv ht _ (HB.out.st HB3'.out)).mono ?_;rintro e w5 ⟨a2,l2,lc2,x2,k2,rfl,h1,h2,h3,h4⟩;(have HC2:=Bm0 h1);(have HB5:=Bm0 (HB3'.out.st h2));(have HR2:=Bm0 h3);(have HC15:=Bm0 (HC13.out.go h2));(have q0:=Bm1 h2 b0);(have q1:=Bm1 h2 b1);clear h1 h2 h3 h4)
  obtain ⟨W5,hW5⟩:∃W5,W5=w5.alloc (Obj.cells #[.slice a2 l2.length lc2,.int .u64 x2] 39):=⟨_,rfl⟩;rw [<-hW5];have hb5:Below w5.heap.size w5 W5:=by rw [hW5];exact Below.of_al _ _
  have HB5':=Bm0 (HB5.out.st hb5);have HC17:=Bm0 (HC15.out.go hb5);have HC27:=Bm0 (HC2.out.go hb5);have p0:=Bm1 hb5 q0;have p1:=Bm1 hb5 q1;have m0:W5.cell? ⟨w5.heap.size,0,none⟩=some (.slice a2 l2.length lc2):=by rw [hW5];go_simp
  have m1:W5.cell? ⟨w5.heap.size,1,none⟩=some (.int .u64 x2):=by rw [hW5];go_simp
  clear hW5 hb5 q0 q1 b0 b1 g0 g1;have HOR:=Bm0 (Ar6 W5.heap.size k1 k2 (W5.alloc (Obj.cells #[.int .i64 k1,.int .i64 k2] 31)) (by go_simp) (by go_simp))
  by_cases hk:k1=0/\k2=0
  ·obtain ⟨rfl,rfl⟩:=hk
   rw [show orF 0 0=0 from rfl] at HOR
   go_upto_region 9 with (go_at_call 77;refine HOR.out.mono ?_;rintro e w6 ⟨rfl,rfl⟩)
   obtain ⟨W6,hW6⟩:∃W6,W6=W5.alloc (Obj.cells #[.int .i64 0,.int .i64 0] 31):=⟨_,rfl⟩;rw [<-hW6];have hb6:Below W5.heap.size W5 W6:=by rw [hW6];exact Below.of_al _ _
   have HB6:=Bm0 (HB5'.out.st hb6);have HC18:=Bm0 (HC17.out.go hb6);have HC28:=Bm0 (HC27.out.go hb6);have b0:=Bm1 hb6 p0;have b1:=Bm1 hb6 p1;have g0:=Bm1 hb6 m0;have g1:=Bm1 hb6 m1;have hA:∀u v w,Am es u v w->Ac n u/\Ac n v/\1<=w:=fun a b c h=>by
    have:=XD.ok HE.out a b c (Im (bk:=false).2 h);exact ⟨this.1,this.2.1,this.2.2.1⟩
   obtain ⟨hl1,hx10,hx11⟩:=Dt hA HR1.out;obtain ⟨hl2,hx20,hx21⟩:=Dt hA HR2.out;have hwr:IntKind.u64.wrap (x1+x2)=x1+x2:=by rw [Br2];omega
   have HJ:=Bm0 (fun U (hz:Below W6.heap.size W6 U)=>Bb8 a1 a2 lc1 lc2 l1 l2 x1 x2 U (by omega) (by omega) (HC18.out.go hz) (HC28.out.go hz));rw [hwr] at HJ;obtain ⟨lj,hlj⟩:∃lj,lj=l1++l2:=⟨_,rfl⟩;rw [<-hlj] at HJ;have HLJ:=Bm0 hlj;have HL6:=Bm0 (show w.heap.size+1<W6.heap.size from by
    have h1:=(Bm7.1 HRB.out).1;have h2:=HB6.out.size;omega)
   clear hlj hW6 hb6 p0 p1 m0 m1 hA hl1 hl2 hwr hx10 hx11 hx20 hx21;refine Fg 8 _ _ rfl rfl (byR W6.heap.size w3.heap.size (v:Int) a1 lc1 l1 x1 (.agg #[.slice a2 l2.length lc2,.int .u64 x2]) lj (x1+x2)) (by decide) (by kernel_rfl) (by kernel_rfl) (by kernel_rfl) (by kernel_rfl) Bk0 ?hop ?hend
   case hop=>
    refine ⟨?_,?_,?_,?_,?_,?_,?_,?_,trivial⟩
    ·intro act w' hbe hd ho K hK
     have g9:act.tmps.getD 2 undef=.int .i64 (v:Int):=ho 2 (by kernel_rfl);refine .inl ⟨Aa rfl,?_⟩;simp [Oper.wp,execOp,Oper.upon,go_sem,Act.eval,g9];exact hK _ w' (Below.refl _ _) rfl
    ·intro act w' hbe hd ho K hK
     have g9:act.tmps.getD 10 undef=.pointer (some ⟨w3.heap.size,0,none⟩):=ho 10 (by kernel_rfl);have c0:=Bm1 hbe b0;have c1:=Bm1 hbe b1;refine .inl ⟨Aa rfl,?_⟩;simp [Oper.wp,execOp,Oper.upon,go_sem,Act.eval,g9,c0,c1];exact hK _ w' (Below.refl _ _) rfl
    ·intro act w' hbe hd ho K hK
     have g9:act.tmps.getD 12 undef=.pointer (some ⟨w5.heap.size,0,none⟩):=ho 12 (by kernel_rfl);have c0:=Bm1 hbe g0;have c1:=Bm1 hbe g1;refine .inl ⟨Aa rfl,?_⟩;simp [Oper.wp,execOp,Oper.upon,go_sem,Act.eval,g9,c0,c1];exact hK _ w' (Below.refl _ _) rfl
    ·intro act w' hbe hd ho K hK
     have e1:act.tmps.getD 48 undef=.agg #[.slice a1 l1.length lc1,.int .u64 x1]:=hd 1 (by rfl);have e2:act.tmps.getD 49 undef=.agg #[.slice a2 l2.length lc2,.int .u64 x2]:=hd 2 (by rfl);refine .inl ⟨Aa rfl,?_⟩;simp [Oper.wp,execOp,Oper.upon,go_sem,Act.eval,e1,e2];refine (HJ.out w' hbe).mono ?_;rintro e w7 ⟨a,c,rfl,h1,h2,h3⟩;exact hK _ w7 h2 ⟨a,c,rfl,h1,fun y hy=>Bm4 hbe.size (h3 y hy)⟩
    ·intro act w' hbe hd ho K hK
     have g9:act.tmps.getD 10 undef=.pointer (some ⟨w3.heap.size,0,none⟩):=ho 10 (by kernel_rfl);refine .inl ⟨Aa rfl,?_⟩;simp [Oper.wp,execOp,Oper.upon,go_sem,Act.eval,g9];exact hK _ w' (Below.refl _ _) rfl
    ·intro act w' hbe hd ho K hK
     have e4:act.tmps.getD 51 undef=.pointer (some ⟨w3.heap.size,0,none⟩):=hd 4 (by rfl);have c0:=Bm1 hbe b0;refine .inl ⟨Aa rfl,?_⟩;simp [Oper.wp,execOp,Oper.upon,go_sem,Act.eval,e4,c0];exact hK _ w' (Below.refl _ _) rfl
    ·intro act w' hbe hd ho K hK
     have e5:act.tmps.getD 52 undef=.slice a1 l1.length lc1:=hd 5 (by rfl);refine .inl ⟨Aa rfl,?_⟩;simp [Oper.wp,execOp,Oper.upon,go_sem,Act.eval,e5];exact hK _ w' (Below.refl _ _) rfl
    ·intro act w' hbe hd ho K hK
     have e0:act.tmps.getD 47 undef=.int .i64 (v:Int):=hd 0 (by rfl);obtain ⟨a,c,e3,h1,h2⟩:∃a c,act.tmps.getD 50 undef=.agg #[.slice a lj.length c,.int .u64 (x1+x2)]/\Cel w' a (lj.map Ai)/\∀y,a=some y->W6.heap.size<=y.block:=hd 3 (by rfl);have e6:act.tmps.getD 53 undef=.int .i64 (l1.length:Int):=hd 6 (by rfl);have z0:=(Bp5 (xs:=act.tmps) (i:=47) (d:=undef)).symm.trans e0;have z3:=(Bp5 (xs:=act.tmps) (i:=50) (d:=undef)).symm.trans e3;have z6:=(Bp5 (xs:=act.tmps) (i:=53) (d:=undef)).symm.trans e6;refine .inl ⟨Aa rfl,?_⟩;simp [Oper.wp,execOp,Oper.upon,go_sem,Act.eval,e0,e3,e6,z0,z3,z6];exact hK _ w' (Below.refl _ _) ⟨a,c,rfl,h1,h2⟩
   case hend=>
    intro vs act w7 hb7 hR hon hoff hact;obtain ⟨a,c,e7,h1,h2⟩:=hR 7 (by decide);have q54:act.tmps.getD 54 undef=Fl (v:Int) a lj.length c (x1+x2) (l1.length:Int):=(hon 7 (by decide)).trans e7;have q8:act.tmps.getD 8 undef=.pointer (some ⟨w.heap.size+1,0,none⟩):=hoff 8 (by kernel_rfl);obtain ⟨x0,x1',x2',x3,zz⟩:=HRX.out _ (HB6.out.st hb7);have z0:=zz 0;have z1:=zz 1;have z2:=zz 2;have z3:=zz 3;unfold Fl at q54;simp only [Dx];simp [Oper.wp,execOp,Oper.upon,go_sem,Act.eval,q8,q54,x0,x1',x2',x3,z0,z1,z2,z3];rw [hact];simp only [Al,Ae,Bo2,Bo1,Bo6,Bo5,Act.put,Bn5,Bn6,Nat.reduceAdd,Bo0,Bo3,Bo4];have HC7:=Bm0 h1;have HN7:=Bm0 h2;have HB7:=Bm0 (HB.out.st (HB6.out.st hb7));obtain ⟨r0,r1,r2,r3⟩:=Eu (.int .i64 (v:Int)) (.slice a lj.length c) (.int .u64 (x1+x2)) (.int .i64 (l1.length:Int)) x0 x1' x2' x3;clear hR hon hoff hact q54 q8 e7 h1 h2 hb7 b0 b1 g0 g1 zz;generalize vs 0=u0;generalize vs 1=u1;generalize vs 2=u2;generalize vs 3=u3;generalize vs 4=u4;generalize vs 5=u5;generalize vs 6=u6;generalize vs 7=u7
    go_wp2
    refine bodyPost_ret (v:=.tuple #[Fl (v:Int) a lj.length c (x1+x2) (l1.length:Int),.int .i64 0]) (by simp [results,Tryz.results33,go_sem,r0,r1,r2,r3];try rfl) rfl ?_;have ho:=Tk w7 (w.heap.size+1) (.int .i64 (v:Int)) (.slice a lj.length c) (.int .u64 (x1+x2)) (.int .i64 (l1.length:Int));refine ⟨a,lj,c,(v:Int),x1+x2,(l1.length:Int),0,rfl,fun i u hu=>?_,HB7.out.trans (ho.below HB7.out.size (fun k e=>by have e2:k=w.heap.size+1:=e;omega)),.inl ⟨rfl,rfl,l1,l2,x1,x2,HR1.out,HR2.out,HLJ.out,rfl,rfl⟩,fun y hy=>by have:=HN7.out y hy;have:=HL6.out;omega⟩;obtain ⟨b,o,e,h8⟩:=HC7.out i u hu;have hl:=HN7.out _ e;exact ⟨b,o,e,ho.cell h8 (fun e2=>by have e3:b=w.heap.size+1:=e2;have:=HL6.out;simp only at hl;omega)⟩
  ·have hk2:(orF k1 k2 != 0)=true:=by
    unfold orF
    by_cases h1:k1=0
    ·rw [if_pos h1]
     simp;exact fun h2=>hk ⟨h1,h2⟩
    ·rw [if_neg h1]
     simpa using h1
   have HNW:=Bm0 (show (∀e,¬Way0 (Am es) Any (s:Int) (v:Int) e)\/∀e,¬Way0 (Am es) Any (v:Int) (t:Int) e by
    rcases HR1.out with ⟨h1,_⟩|⟨_,_,_,h1|h1|h1⟩
    ·rcases HR2.out with ⟨h2,_⟩|⟨_,_,_,h2|h2|h2⟩
     ·exact absurd ⟨h1,h2⟩ hk
     ·exact absurd ⟨h1,h2.1⟩ hk
     ·exact .inr h2.2.2.2.2
     ·exact absurd HND.out.2 h2.2.2
    ·rcases HR2.out with ⟨h2,_⟩|⟨_,_,_,h2|h2|h2⟩
     ·exact absurd ⟨h1.1,h2⟩ hk
     ·exact absurd ⟨h1.1,h2.1⟩ hk
     ·exact .inr h2.2.2.2.2
     ·exact absurd HND.out.2 h2.2.2
    ·exact .inl h1.2.2.2.2
    ·exact absurd ⟨HND.out.1,HND.out.2.1⟩ h1.2.2)
   generalize orF k1 k2=kk at*;clear hk;obtain ⟨x0,x1',x2',x3,zz⟩:=HRX.out _ (HB5'.out.st (Below.of_al _ (Obj.cells #[.int .i64 k1,.int .i64 k2] 31)));have z0:=zz 0;have z1:=zz 1;have z2:=zz 2;have z3:=zz 3
   go_wp2_with (go_at_call 77;refine HOR.out.mono ?_;rintro e w6 ⟨rfl,rfl⟩)
   obtain ⟨r0,r1,r2,r3⟩:=Eu (.int .i64 0) (.slice none 0 0) (.int .u64 0) (.int .i64 0) x0 x1' x2' x3;have HB6:=Bm0 (HB.out.st (HB5'.out.st (Below.of_al _ (Obj.cells #[.int .i64 k1,.int .i64 k2] 31))));refine bodyPost_ret (v:=.tuple #[Fl 0 none 0 0 0 0,.int .i64 9]) (by simp [results,Tryz.results33,go_sem,r0,r1,r2,r3];try rfl) rfl ?_;exact ⟨none,[],0,0,0,0,9,rfl,Cel.nil _ _,HB6.out.trans ((Tk _ _ _ _ _ _).below HB6.out.size (fun k e=>by have e2:k=w.heap.size+1:=e;omega)),.inr ⟨by decide,rfl,rfl,rfl,rfl,.inr ⟨rfl,HND.out.1,HND.out.2.1,HND.out.2.2,HNW.out⟩⟩,fun y hy=>nomatch hy⟩
end Vi
end
section
namespace Vi
open Go Go.Proofs Go.RowKit Go.Shelf
structure KeepA (L n:Nat) (xs:List Value) (m:Nat) (ys:List Value) (E:TypeId) (w w':World):Prop where
 bel:Below L w w'
 row:∀v,w.ownsRow L E 1 v n xs->w'.ownsRow L E 1 v n xs
 full:∀v,w.ownsRow L E 1 v (n+m) (xs++ys)->w'.ownsRow L E 1 v (n+m) (xs++ys)
 lit:∀g,w.ownsRow L E 1 (.slice (some ⟨g,0,none⟩) 0 0) 0 []->w'.ownsRow L E 1 (.slice (some ⟨g,0,none⟩) 0 0) 0 []
 oth:∀(b:Nat) (o:Obj),w.heap[b]? =some o->(∀c,o≠Obj.cells c E (0,0))->w'.heap[b]? =some o
theorem KeepA.of_below {L n m:Nat} {xs ys:List Value} {E:TypeId} {w w':World} (h:Below w.heap.size w w') (hL:L<=w.heap.size):KeepA L n xs m ys E w w':=
 ⟨h.mono hL,fun _ k=>Ag k h,fun _ k=>Ag k h,fun _ k=>Ag k h,fun b o k _=>(h.block b (Bm7.1 k).1).trans k⟩
theorem Ma {w:World} {L g n cap:Nat} {E:TypeId} {xs:List Value} (h:w.ownsRow L E 1 (.slice (some ⟨g,0,none⟩) n cap) n xs):∃cur,w.heap[g]? =some (.cells cur E (0,0))/\L<=g/\n<=cap/\cap<=maxLen/\cur.size=cap/\cur.toList.take n=xs:=by
 rcases h.2 with ⟨e,_⟩|⟨g',cap',cur,e,h1,h2,h3,h4,h5,h6⟩
 ·cases e
 ·cases e
  exact ⟨cur,h2,h1,h3,h4,by simpa using h5,by simpa using h6⟩
theorem Ao {w:World} {L n:Nat} {E:TypeId} {v:Value} {xs:List Value} (h:w.ownsRow L E 1 v n xs):v=.slice none 0 0\/∃g cap,v=.slice (some ⟨g,0,none⟩) n cap:=by
 rcases h.2 with ⟨e,_⟩|⟨g',cap',cur,e,_⟩
 ·exact .inl e
 ·exact .inr ⟨g',cap',e⟩
theorem Av6 {w:World} {L g n m cap:Nat} {E:TypeId} {xs ys:List Value} (h:w.ownsRow L E 1 (.slice (some ⟨g,0,none⟩) (n+m) cap) (n+m) (xs++ys)) (hx:xs.length=n):w.ownsRow L E 1 (.slice (some ⟨g,0,none⟩) n cap) n xs:=by
 obtain ⟨cur,h1,h2,h3,h4,h5,h6⟩:=Ma h;refine ⟨by simpa using hx,.inr ⟨g,cap,cur,rfl,h2,h1,by omega,h4,by simpa using h5,?_⟩⟩;have h7:=congrArg (List.take n) h6;rw [List.take_take,Nat.min_eq_left (by omega),List.take_left' hx] at h7
 simpa using h7
theorem Mr {P:Program} {w:World} (t ty:TypeId) (L:Nat) (E:TypeId) (z:Value) (bytes:Nat) (hE:Gm P E z 1 bytes) (ht:P.underlying t=some (.slice E))
  (ao:Option Addr) (n cap:Nat) (xs:List Value) (hown:w.ownsRow L E 1 (.slice ao n cap) n xs) (bo:Option Addr) (m c:Nat) (news:List Value) (hnews:Cel w bo news) (h1:∀u∈news,u.oneCell'=true)
  (hl:news.length=m/\n+m<=9223372036854775807/\(n+m)*bytes<=140737488355328/\L<=w.heap.size):
  ∃ao' cap' w',(Builtin.append_ #[t,t] ty #[.slice ao n cap,.slice bo m c]).run P w=.ok (.slice ao' (n+m) cap') w'/\w'.ownsRow L E 1 (.slice ao' (n+m) cap') (n+m) (xs++news)/\KeepA L n xs m news E w w'/\(cap=0->Below w.heap.size w w'):=by
 obtain ⟨hE,hz1,hz2⟩:=hE;obtain ⟨i,hi,hz,hsz,hby⟩:=info_parts hE;obtain ⟨l1,l2,l3,l5⟩:=hl
 by_cases hm:m=0
 ·subst hm
  have hn:news=[]:=List.length_eq_zero_iff.1 l1;subst hn;refine ⟨ao,cap,w,?_,by simpa using hown,.of_below (Below.refl _ _) l5,fun _=>Below.refl _ _⟩
  rcases hown.2 with ⟨e,rfl⟩|⟨g,cap',cur,e,_,_,hnc,_⟩
  ·cases e
   cases bo<;>simp [Builtin.append_,run_underlying ht,sizeOf,typeInfo,hi,Builtin.lenOf,Builtin.firstCells,loadCells,loadCellsFrom,storeCells]
  ·cases e
   cases bo<;>simp [Builtin.append_,run_underlying ht,sizeOf,typeInfo,hi,Builtin.lenOf,Builtin.firstCells,hnc,storeCells,loadCells,loadCellsFrom]
 ·have hh:∃u,news[0]? =some u:=⟨_,Bm5 (by omega)⟩
  obtain ⟨u,hu⟩:=hh;obtain ⟨b,o,rfl,_⟩:=hnews 0 u hu;have hn2:∀j u,news[j]? =some u->w.cell? ((⟨b,o,none⟩:Addr).add j)=some u:=fun j u hj=>by
   obtain ⟨b',o',e,h⟩:=hnews j u hj
   cases e
   rw [Addr.add_lit];exact h
  rcases Ao hown with e|⟨g,cap2,e⟩
  ·cases e
   obtain ⟨g,cap',w',hr,ho,hg,_,_⟩:=run_append_lies w t ty L E i z 1 bytes ht hi hz hsz hby hz1 hz2 (.slice none 0 0) 0 xs hown ⟨b,o,none⟩ m c news (by omega) hn2 h1 (by omega) (by unfold maxLen;omega) l3 l5 _ rfl;exact ⟨_,cap',w',hr,ho,.of_below ((Below.refl _ w).grown hg (Bm2 _) (fun k hk=>nomatch hk)) l5,fun _=>(Below.refl _ w).grown hg (Bm2 _) (fun k hk=>nomatch hk)⟩
  ·cases e
   obtain ⟨cur,k1,k2,k3,k4,k5,k6⟩:=Ma hown;have hxl:xs.length=n:=by have:=hown.1;omega
   by_cases hroom:n+m<=cap
   ·obtain ⟨w',hr,ho,hg⟩:=run_append_fits (P:=P) w L t ty E i 1 ht hi hsz g n cap xs hown ⟨b,o,none⟩ m c news (by omega) hn2 h1 hroom
    have hoff:∀k,k<w.heap.size->k≠g->w'.heap[k]? =w.heap[k]?:=fun k hk hne=>hg.block k hk (fun e=>hne (Bo9 e));refine ⟨_,cap,w',hr,ho,⟨(Below.refl _ w).grown hg l5 (fun k hk=>by cases hk;exact k2),fun v hv=>?_,fun v hv=>?_,fun g9 hv=>?_,fun b9 o9 h9 hne=>?_⟩,fun e=>by omega⟩
    ·rcases Ao hv with e|⟨g9,c9,e⟩
     ·subst e
      exact ⟨hv.1,.inl (hv.2.elim id (fun ⟨_,_,_,e,_⟩=>nomatch e))⟩
     ·subst e
      obtain ⟨cur9,q1,q2,q3,q4,q5,q6⟩:=Ma hv
      by_cases hgg:g9=g
      ·subst hgg
       rw [k1] at q1
       cases q1
       rw [show c9=cap by omega];exact Av6 ho hxl
      ·refine Aj hv fun k hk=>?_
       cases hk
       exact hoff _ (Bm7.1 q1).1 hgg
    ·rcases Ao hv with e|⟨g9,c9,e⟩
     ·subst e
      rcases hv.2 with ⟨_,h9⟩|⟨_,_,_,e,_⟩
      ·omega
      ·cases e
     ·subst e
      obtain ⟨cur9,q1,q2,q3,q4,q5,q6⟩:=Ma hv
      by_cases hgg:g9=g
      ·subst hgg
       rw [k1] at q1
       cases q1
       rw [show c9=cap by omega];exact ho
      ·refine Aj hv fun k hk=>?_
       cases hk
       exact hoff _ (Bm7.1 q1).1 hgg
    ·obtain ⟨cur9,q1,q2,q3,q4,q5,q6⟩:=Ma hv
     by_cases hgg:g9=g
     ·subst hgg
      rw [k1] at q1
      cases q1
      omega
     ·refine Aj hv fun k hk=>?_
      cases hk
      exact hoff _ (Bm7.1 q1).1 hgg
    ·refine (hoff b9 (Bm7.1 h9).1 (fun e=>?_)).trans h9
     subst e;rw [k1] at h9;exact hne cur (Bo9 h9).symm
   ·obtain ⟨v',w',hr,ho,hg⟩:=run_append_arg_grows (P:=P) w t ty E i z 1 bytes ht hi hz hsz hby hz1 hz2 ⟨g,0,none⟩ n cap xs (by omega) (fun j u hj=>by
      have hjn:j<n:=by have:=(Bn3.1 hj).1;omega
      rw [Addr.add_lit,Nat.zero_add,hown.cellAt j (by omega)];exact hj) ⟨b,o,none⟩ m c news (by omega) hn2 (by omega) (by unfold maxLen;omega) l3
    rcases Ao ho with e|⟨g9,c9,e⟩
    ·subst e
     have:=ho.2
     rcases this with ⟨_,h9⟩|⟨_,_,_,e,_⟩
     ·omega
     ·cases e
    ·subst e
     exact ⟨_,c9,w',hr,⟨ho.1,ho.2.imp id (fun ⟨x1,x2,x3,x4,x5,x6⟩=>⟨x1,x2,x3,x4,Bm4 l5 x5,x6⟩)⟩,.of_below ((Below.refl _ w).grown hg (Bm2 _) (fun k hk=>nomatch hk)) l5,fun _=>(Below.refl _ w).grown hg (Bm2 _) (fun k hk=>nomatch hk)⟩
section
variable {a:Act} {P:Program} {Q:Exit->Act->World->Prop} {w:World}
theorem Te {id:Nat} {l:List Oper} (n:Nat) (st:Oper) (rest:List Oper) (hst:l=l.take n++st::rest) (hln:(l.take n).length=n) (R:Nat->Value->World->Prop) (m:Nat) (hmn:m<n) (N:World->World->Prop) (hN:∀w' w'',N w' w''->Below w.heap.size w' w'')
  (hm:P.follows .mixedOrders=true) (hB:Ps (l.take n) a.tmps.size=true) (hS:My l n st=true) (hR9:Xx n rest=true)
  (hmono:∀i v w' w'',Below w'.heap.size w' w''->R i v w'->R i v w'') (hmN:∀i v w' w'',i≠m->N w' w''->R i v w'->R i v w'')
  (hop:Bs (fun i o=>∀(act:Act) w',Below w.heap.size w w'->(∀j,Bx l i j=true->R j (act.tmps.getD (Ae l j) undef) w')->(∀t,Hb l n t=true->act.tmps.getD t undef=a.tmps.getD t undef)->
   ∀K:Act->World->Prop,(∀v w'',(if i=m then N w' w'' else Below w'.heap.size w' w'')->R i v w''->K (act.put o.dst v) w'')->(No l act o true/\o.wp P act w' K Q)\/(No l act o false/\K (act.put o.dst undef) w')) 0 (l.take n))
  (hend:∀(vs:Nat->Value) act w',Below w.heap.size w w'->(∀i,i<n->R i (vs i) w')->(∀j,j<n->act.tmps.getD (Ae l j) undef=vs j)->(∀t,Hb l n t=true->act.tmps.getD t undef=a.tmps.getD t undef)->act=Al a (Ae l) vs n->Dx P Q (st::rest) act w'):(Code.region id l.toArray true).wp P Q a w:=
 Iq n st rest hst hln R (fun i w' w''=>if i=m then N w' w'' else Below w'.heap.size w' w'') m hmn (fun _ w w'=>Below w.heap.size w w') hm hB hS hR9 (Below.refl _ w).drew
  (fun i _ w' w'' h1 _ h2=>by
   by_cases e:i=m
   ·rw [if_pos e] at h2
    exact Below.trans h1 (hN _ _ h2)
   ·rw [if_neg e] at h2
    exact Below.st h1 h2)
  (fun i j v _ w' w'' hij _ h3 hr=>by
   by_cases e:i=m
   ·rw [if_pos e] at h3
    exact hmN j v _ _ (fun k=>hij (e.trans k.symm)) h3 hr
   ·rw [if_neg e] at h3
    exact hmono j v _ _ h3 hr)
  (Mb (fun _ _ h act w' _ _ h2=>h act w' h2) 0 _ hop) hend
end
end Vi
end
end Go.Proofs.YteaaapdjplbljaaGreat
