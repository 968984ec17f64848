/- Parts; no condition. -/
import Derived.Test.YteaaapdjplbljaaGreatVa42
set_option linter.unusedVariables false
set_option linter.unusedSimpArgs false
set_option linter.unnecessarySimpa false
set_option maxRecDepth 100000
set_option maxHeartbeats 8000000
namespace Go.Proofs.YteaaapdjplbljaaGreat
namespace Vi
open Go Go.Proofs Go.RowKit Go.Shelf Hp Ch Ad Ro Dj
def Yi (f:Nat->Bool) (c m:Nat):Value:=.tuple #[.int .i64 (Fo f c:Int),.int .i64 (Ay f c (m-c):Int)]
theorem Bb8 {n:Nat} {es:List EdgeD} {l:List Int} {ao bo:Option Addr} {cap cb:Nat} (hg:Aj ⟨(n:Int),es⟩=0) (hm:es.length<=50000) (hll:l.length<=1000000) (hl:∀e∈l,0<=e/\e<(es.length:Int)) (U:World) (hc:Cel U ao (Ar es)) (hd:Cel U bo (l.map Ai)):
  Calls Tryz.prog 83 #[.agg #[.int .i64 (n:Int),.slice ao es.length cap],.slice bo l.length cb] U fun e w'=>∃oo oc,e=.returned (.slice oo (l.length+1) oc)/\Cel w' oo ((Cb es 0 l).map Bi)/\Below U.heap.size U w':=by
 have h:=Zz ⟨(n:Int),es⟩ ao bo cap cb l U (by show es.length<=_;omega) (by omega) hc hd;rw [Jr (g:=⟨(n:Int),es⟩) (Kr (g:=⟨(n:Int),es⟩) hg hl)] at h;refine h.mono ?_;rintro e w' ⟨oo,oc,rfl,h1,h2,_⟩;refine ⟨oo,oc,?_,h1,h2⟩;rw [Bl8,Cg]
theorem Mk {n:Nat} {es:List EdgeD} {bk:Bool} {s:Nat} {l:List Int} {w:World} {b:Nat} (hE:EOK n es) (hn:n<=50000) (h:FarL es bk n (s:Int) l) (ho:Cel w (some ⟨b,0,none⟩) (l.map Bi)):RowW w (some ⟨b,0,none⟩) l n 4611686018427387904:=
 ⟨ho,h.1,fun x hx=>by
  obtain ⟨v,hv,rfl⟩:=List.getElem_of_mem hx;have h9:=h.farV hE hn (v:=v) (by rw [<-h.1];exact hv);have hgx:gD l (v:Int)=l[v]:=by unfold gD;rw [Bk7,Bj9,Bj8 hv];rfl
  rw [hgx] at h9
  rcases h9 with ⟨_,h1,h2⟩|⟨h1,_⟩
  ·omega
  ·rw [h1];decide⟩
theorem Xt {n:Nat} {es:List EdgeD} {l:List Int} {w:World} {oo:Option Addr} (hE:EOK n es) (hl:∀e∈l,0<=e/\e<(es.length:Int)) (hll:l.length<=1000000) (h:Cel w oo ((Cb es 0 l).map Bi)):RowW w oo (Cb es 0 l) (l.length+1) 4611686018427387904:=
 ⟨h,Cg _ _ _,fun x hx=>by
  obtain ⟨k,hk,rfl⟩:=List.getElem_of_mem hx;have h9:=Qa es l 0 (fun e he=>by
   have h1:=hl e he;have hj:e.toNat<es.length:=by omega
   have h2:=hE es[e.toNat] (Bk5 hj);have h3:wt es e=es[e.toNat].w:=by unfold wt;rw [Bj9,Bj8 hj];rfl
   rw [h3];exact ⟨h2.2.2.1,h2.2.2.2⟩) k _ (Bj8 hk)
  rw [Cg] at hk;have:(k:Int)*4294967296<=1000000*4294967296:=by omega
  omega⟩
theorem Jo (n s t:Nat) (es:List EdgeD) (ao la:Option Addr) (cap lc:Nat) (V W c:Int) (l:List Int) (w:World) (Vy Wy cy ky:Int) (ly fa fb:List Int) (hg:Aj ⟨(n:Int),es⟩=0) (hn:n<=50000) (hm:es.length<=50000) (hs:s<n) (ht:t<n) (hc:Cel w ao (Ar es)) (hl:Cel w la (l.map Ai)) (hll:l.length<=1000000)
  (hy:ByIs n es (s:Int) V (t:Int) Vy ly Wy cy ky) (hfa:FarL es false n (s:Int) fa) (hfb:FarL es true n (t:Int) fb):
  Calls Tryz.prog 36 #[.agg #[.int .i64 (n:Int),.slice ao es.length cap],.int .i64 (s:Int),.int .i64 (t:Int),Cw V la l.length lc W c] w fun e w'=>
   e=.returned (if ky=0/\cy=c/\(⟨ly,Wy⟩:RtD)=⟨l,W⟩ then Yi (onB es l fa fb (Cb es 0 l) W) c.toNat l.length else .tuple #[.int .i64 0,.int .i64 0])/\Below w.heap.size w w':=by
 obtain ⟨W1,hW1⟩:∃W1,W1=(w.alloc (Obj.cells #[.int .i64 (n:Int),.slice ao es.length cap] 24)).alloc (Obj.cells #[.int .i64 V,.slice la l.length lc,.int .u64 W,.int .i64 c] 63):=⟨_,rfl⟩;have hb1:Below w.heap.size w W1:=by rw [hW1];exact (Below.of_al _ _).al _
 have c0:W1.cell? ⟨w.heap.size,0,none⟩=some (.int .i64 (n:Int)):=by rw [hW1];go_simp
 have c1:W1.cell? ⟨w.heap.size,1,none⟩=some (.slice ao es.length cap):=by rw [hW1];go_simp
 have y0:W1.cell? ⟨w.heap.size+1,0,none⟩=some (.int .i64 V):=by rw [hW1];go_simp
 have y1:W1.cell? ⟨w.heap.size+1,1,none⟩=some (.slice la l.length lc):=by rw [hW1];go_simp
 have y2:W1.cell? ⟨w.heap.size+1,2,none⟩=some (.int .u64 W):=by rw [hW1];go_simp
 have y3:W1.cell? ⟨w.heap.size+1,3,none⟩=some (.int .i64 c):=by rw [hW1];go_simp
 have HE:=Bj3 (Jz hg);have hA:∀u v w,Am es u v w->Ac n u/\Ac n v/\1<=w:=fun a b c h=>by
  have:=XD.ok HE.out a b c (Gj (bk:=false).2 h);exact ⟨this.1,this.2.1,this.2.2.1⟩
 have HBY:=Bj3 (show Calls Tryz.prog 33 #[.agg #[.int .i64 (n:Int),.slice ao es.length cap],.int .i64 (s:Int),.int .i64 V,.int .i64 (t:Int)] W1 fun e w'=>∃l2 c2,e=.returned (.tuple #[.agg #[.int .i64 Vy,.slice l2 ly.length c2,.int .u64 Wy,.int .i64 cy],.int .i64 ky])/\Cel w' l2 (ly.map Ai)/\Below W1.heap.size W1 w' from
  (Sr n es ao cap (s:Int) V (t:Int) W1 hg hn hm (hc.go hb1)).mono (by
   rintro e w' ⟨l2,l',c2,V',x',cc',k',rfl,h1,h2,h3,_⟩;obtain ⟨rfl,rfl,rfl,rfl,rfl⟩:=hy.uniq hA h3;exact ⟨l2,c2,rfl,h1,h2⟩))
 have HSM:=Bj3 (fun U l2 c2 (h1:Cel U l2 (ly.map Ai)) (h2:Cel U la (l.map Ai)) (h3:ly.length<=9223372036854775807)=>Az4 l2 la c2 lc ly l Wy W U h3 (by omega) h1 h2);have HLY:=Bj3 (show ly.length<=9223372036854775807 by
  rcases hy with ⟨_,_,l1,l2,x1,x2,r1,r2,rfl,_⟩|⟨_,_,rfl,_⟩
  ·have h1:=(Ba hA r1).1
   have h2:=(Ba hA r2).1;rw [Bm3];omega
  ·simp)
 have HCZ:=Bj3 (Aq0 ⟨ly,Wy⟩ ⟨l,W⟩);have HAF:=Bj3 (fun U (hz:Below w.heap.size w U)=>(Qg n es ao cap s false U hg HE.out hs hn hm (hc.go hz)).mono (R':=fun e w'=>∃b,e=.returned (.tuple #[.slice (some ⟨b,0,none⟩) n n,.int .i64 0])/\RowW w' (some ⟨b,0,none⟩) fa n 4611686018427387904/\Below U.heap.size U w') (by
  rintro e w' ⟨b,l',rfl,h1,h2,h3⟩;obtain rfl:=Vc hfa h3;obtain ⟨a9,c9,e9,h9⟩:=Cel.of_owns h1
  cases e9
  exact ⟨b,rfl,Mk HE.out hn h3 h9,h2⟩))
 have HAT:=Bj3 (fun U (hz:Below w.heap.size w U)=>(Qg n es ao cap t true U hg HE.out ht hn hm (hc.go hz)).mono (R':=fun e w'=>∃b,e=.returned (.tuple #[.slice (some ⟨b,0,none⟩) n n,.int .i64 0])/\RowW w' (some ⟨b,0,none⟩) fb n 4611686018427387904/\Below U.heap.size U w') (by
  rintro e w' ⟨b,l',rfl,h1,h2,h3⟩;obtain rfl:=Vc hfb h3;obtain ⟨a9,c9,e9,h9⟩:=Cel.of_owns h1
  cases e9
  exact ⟨b,rfl,Mk HE.out hn h3 h9,h2⟩))
 have HOF:=Bj3 (fun U (hz:Below w.heap.size w U) (hh:∀e∈l,0<=e/\e<(es.length:Int))=>Bb8 (cap:=cap) (cb:=lc) hg hm hll hh U (hc.go hz) (hl.go hz));have HC:=Bj3 hc;have HL:=Bj3 hl;have HLL:=Bj3 hll;have HB1:=Bj3 hb1;have HW1:=Bj3 hW1;have HYY:=Bj3 hy;have HA:=Bj3 hA;unfold Ec at HAF HAT;unfold gV at HAF HAT;unfold Cw;clear hW1 hb1 hc hl hy hA hg hfa hfb hll
 by_cases hk:ky=0
 ·subst hk
  by_cases hcc:cy=c
  ·subst hcc
   by_cases hr:(⟨ly,Wy⟩:RtD)=⟨l,W⟩
   ·rw [if_pos ⟨rfl,rfl,hr⟩]
    rw [decide_eq_true hr] at HCZ;obtain ⟨rfl,rfl⟩:ly=l/\Wy=W:=by cases hr;exact ⟨rfl,rfl⟩
    clear hr;simp only at HCZ;rw [HCZ.out] at HSM;have hy2:V=Vy/\∃l1 l2 x1 x2,Bk n es (s:Int) V l1 x1 0/\Bk n es V (t:Int) l2 x2 0/\ly=l1++l2/\Wy=x1+x2/\cy=(l1.length:Int):=by
     rcases HYY.out with ⟨_,h1,h2⟩|⟨h,_⟩
     ·exact ⟨h1.symm,h2⟩
     ·exact absurd rfl h
    obtain ⟨rfl,l1,l2,x1,x2,r1,r2,hlj,hWW,rfl⟩:=hy2;have hmem:=Ag7 HA.out r1 r2;rw [<-hlj] at hmem;have HME:=Bj3 hmem;obtain ⟨hl1,hx10,hx11⟩:=Ba HA.out r1;obtain ⟨hl2,hx20,hx21⟩:=Ba HA.out r2;have hWb:0<=Wy/\Wy<=4611686018427387904:=by omega
    obtain ⟨m,hmm⟩:∃m,m=ly.length:=⟨_,rfl⟩;have hcm:l1.length<=m:=by rw [hmm,hlj,Bm3];omega
    rw [Bk7];have HWB:=Bj3 hWb;have HMM:=Bj3 hmm;have hm1:m<=1000000:=by have:=HLL.out;omega
    clear hlj hWW r1 r2 hmem hl1 hl2 hx10 hx11 hx20 hx21 hWb HYY hmm;generalize l1.length=cn at*;obtain ⟨F,hF⟩:∃F,F=onB es ly fa fb (Cb es 0 ly) Wy:=⟨_,rfl⟩;rw [<-hF];have HFF:=Bj3 hF;clear hF;have HPV:=Bj3 (show Yi F cn ly.length=.tuple #[.int .i64 (Fo F cn:Int),.int .i64 (Ay F cn (m-cn):Int)] by rw [HMM.out];rfl)
    go_enter Tryz.func36,Tryz.ntmps36
    go_upto_region 1 with (fail)
    rw [<-HW1.out]
    go_upto_region 2 with (go_at_call 33;refine HBY.out.mono ?_;rintro e w2 ⟨l9,c9,rfl,h1,h2⟩;(have HC2:=Bj3 h1);(have HB2:=Bj3 h2);(have d0:=Bj4 h2 c0);(have d1:=Bj4 h2 c1);(have d2:=Bj4 h2 y1);(have d3:=Bj4 h2 y2);(have d4:=Bj4 h2 y3);clear h1 h2)
    obtain ⟨W2,hW2⟩:∃W2,W2=w2.alloc (Obj.cells #[.int .i64 V,.slice l9 ly.length c9,.int .u64 Wy,.int .i64 (cn:Int)] 63):=⟨_,rfl⟩;rw [<-hW2];have hb2:Below w2.heap.size w2 W2:=by rw [hW2];exact Below.of_al _ _
    have HBW2:=Bj3 (HB2.out.st hb2);have HCW2:=Bj3 (HC2.out.go hb2);have e0:=Bj4 hb2 d0;have e1:=Bj4 hb2 d1;have e2:=Bj4 hb2 d2;have e3:=Bj4 hb2 d3;have e4:=Bj4 hb2 d4;have z1:W2.cell? ⟨w2.heap.size,1,none⟩=some (.slice l9 ly.length c9):=by rw [hW2];go_simp
    have z2:W2.cell? ⟨w2.heap.size,2,none⟩=some (.int .u64 Wy):=by rw [hW2];go_simp
    have z3:W2.cell? ⟨w2.heap.size,3,none⟩=some (.int .i64 (cn:Int)):=by rw [hW2];go_simp
    have HLW2:=Bj3 (HL.out.go (HB1.out.st HBW2.out));clear hW2 hb2 d0 d1 d2 d3 d4 y0 y1 y2 y3 c0 c1
    go_upto_region 5 with (first
     |(go_at_call 81;refine (HSM.out _ _ _ HCW2.out HLW2.out HLY.out).mono ?_;rintro e w3 ⟨rfl,hb3⟩;(have HB3:=Bj3 (HBW2.out.st hb3));(have p0:=Bj4 hb3 e0);(have p1:=Bj4 hb3 e1);(have p2:=Bj4 hb3 e2);(have p3:=Bj4 hb3 e3);(have p4:=Bj4 hb3 e4);clear hb3)
     |(go_at_call 82;refine (HAF.out _ (HB1.out.st HB3.out)).mono ?_;rintro e w4 ⟨b4,rfl,h1,h2⟩;(have HR4:=Bj3 h1);(have HB4:=Bj3 (HB3.out.st h2));(have f0:=Bj4 h2 p0);(have f1:=Bj4 h2 p1);(have f2:=Bj4 h2 p2);(have f3:=Bj4 h2 p3);(have f4:=Bj4 h2 p4);clear h1 h2))
    obtain ⟨W4,hW4⟩:∃W4,W4=w4.alloc (Obj.cells #[.slice (some ⟨b4,0,none⟩) n n] 60):=⟨_,rfl⟩;rw [<-hW4];have hb4:Below w4.heap.size w4 W4:=by rw [hW4];exact Below.of_al _ _
    have HBW4:=Bj3 (HB4.out.st hb4);have HRW4:=Bj3 (HR4.out.go hb4);have g0:=Bj4 hb4 f0;have g1:=Bj4 hb4 f1;have g2:=Bj4 hb4 f2;have g3:=Bj4 hb4 f3;have g4:=Bj4 hb4 f4;have g5:W4.cell? ⟨w4.heap.size,0,none⟩=some (.slice (some ⟨b4,0,none⟩) n n):=by rw [hW4];go_simp
    clear hW4 hb4 f0 f1 f2 f3 f4 p0 p1 p2 p3 p4 e0 e1 e2 e3 e4 z1 z2 z3
    go_upto_region 6 with (go_at_call 82;refine (HAT.out _ (HB1.out.st HBW4.out)).mono ?_;rintro e w5 ⟨b5,rfl,h1,h2⟩;(have HR5:=Bj3 h1);(have HB5:=Bj3 (HBW4.out.st h2));(have HR45:=Bj3 (HRW4.out.go h2));(have f0:=Bj4 h2 g0);(have f1:=Bj4 h2 g1);(have f2:=Bj4 h2 g2);(have f3:=Bj4 h2 g3);(have f4:=Bj4 h2 g4);(have f5:=Bj4 h2 g5);clear h1 h2)
    obtain ⟨W5,hW5⟩:∃W5,W5=w5.alloc (Obj.cells #[.slice (some ⟨b5,0,none⟩) n n] 60):=⟨_,rfl⟩;rw [<-hW5];have hb5:Below w5.heap.size w5 W5:=by rw [hW5];exact Below.of_al _ _
    have HBW5:=Bj3 (HB5.out.st hb5);have HRW45:=Bj3 (HR45.out.go hb5);have HRW5:=Bj3 (HR5.out.go hb5);have p0:=Bj4 hb5 f0;have p1:=Bj4 hb5 f1;have p2:=Bj4 hb5 f2;have p3:=Bj4 hb5 f3;have p4:=Bj4 hb5 f4;have p5:=Bj4 hb5 f5;have p6:W5.cell? ⟨w5.heap.size,0,none⟩=some (.slice (some ⟨b5,0,none⟩) n n):=by rw [hW5];go_simp
    clear hW5 hb5 f0 f1 f2 f3 f4 f5 g0 g1 g2 g3 g4 g5
    go_upto_region 7 with (go_at_call 83;refine (HOF.out _ (HB1.out.st HBW5.out) HME.out).mono ?_;rintro e w6 ⟨oo,oc,rfl,h1,h2⟩;(have HO6:=Bj3 h1);(have HB6:=Bj3 (HBW5.out.st h2));(have HR46:=Bj3 (HRW45.out.go h2));(have HR56:=Bj3 (HRW5.out.go h2));(have f0:=Bj4 h2 p0);(have f1:=Bj4 h2 p1);(have f2:=Bj4 h2 p2);(have f3:=Bj4 h2 p3);(have f4:=Bj4 h2 p4);(have f5:=Bj4 h2 p5);(have f6:=Bj4 h2 p6);clear h1 h2)
    obtain ⟨Wz,hWz⟩:∃Wz,Wz=w6.alloc (Obj.cells #[.slice oo (ly.length+1) oc] 60):=⟨_,rfl⟩;rw [<-hWz];have hb6:Below w6.heap.size w6 Wz:=by rw [hWz];exact Below.of_al _ _
    have HBZ:=Bj3 (HB1.out.st (HB6.out.st hb6));have HRF:=Bj3 (HR46.out.go hb6);have HRT:=Bj3 (HR56.out.go hb6);have HRO:=Bj3 (Xt HE.out HME.out HLL.out (HO6.out.go hb6));have g0:=Bj4 hb6 f0;have g1:=Bj4 hb6 f1;have x1:=Bj4 hb6 f2;have x2:=Bj4 hb6 f3;have x3:=Bj4 hb6 f4;have g5:=Bj4 hb6 f5;have g6:=Bj4 hb6 f6;have g7:Wz.cell? ⟨w6.heap.size,0,none⟩=some (.slice oo (ly.length+1) oc):=by rw [hWz];go_simp
    clear hWz hb6 f0 f1 f2 f3 f4 f5 f6 p0 p1 p2 p3 p4 p5 p6;have HON:=Bj3 (show ∀k,k<m->∀U,Below Wz.heap.size Wz U->Calls Tryz.prog 84 #[.int .i64 (k:Int),.pointer (some ⟨w.heap.size,0,none⟩),.pointer (some ⟨w.heap.size+1,0,none⟩),.pointer (some ⟨w4.heap.size,0,none⟩),.pointer (some ⟨w6.heap.size,0,none⟩),.pointer (some ⟨w5.heap.size,0,none⟩)] U fun e w'=>e=.returned (.bool (F k))/\Below U.heap.size U w' from fun k hk U hz=>by
     have hk2:k<ly.length:=by rw [<-HMM.out];exact hk
     have hj:=HME.out ly[k] (Bk5 hk2);rw [HFF.out];exact Bf9 w.heap.size (w.heap.size+1) w4.heap.size w6.heap.size w5.heap.size n k ly[k].toNat 0 0 lc n n oc cap es ao la (some ⟨b4,0,none⟩) (some ⟨b5,0,none⟩) oo ly fa fb (Cb es 0 ly) Wy U (Bj4 hz g0) (Bj4 hz g1) (HC.out.go (HBZ.out.st hz)) (Bj4 hz x1) (Bj4 hz x2) (HL.out.go (HBZ.out.st hz)) (Bj4 hz g5) (Bj4 hz g7) (Bj4 hz g6) (HRF.out.go hz) (HRT.out.go hz) (HRO.out.go hz) HE.out hk2 (by rw [Bj8 hk2,Bo0 hj.1]) (by omega) HWB.out HLL.out)
    rw [<-HMM.out] at x1;clear g0 g1 g5 g6 g7
    go_wp2
    go_loopg [8] cn (fun gg v8 wr=>∃low:Nat,low<=cn/\cn-low<=gg/\v8=.int .i64 (low:Int)/\Aside (Fo F cn=low+Fo F (cn-low))/\Aside (Below Wz.heap.size Wz wr))
    case atStart=>exact ⟨0,by omega,by omega,rfl,(show Fo F cn=0+Fo F (cn-0) by simp),Below.refl _ _⟩
    case round=>
     obtain ⟨low,hh1,hh2,rfl,HH,HBr⟩:=hrel
     by_cases hlt:low<cn
     ·have hlt2:(low:Int)<(cn:Int):=by omega
      have hh0:(0:Int)<=(low:Int):=by omega
      have HO1:=Bj3 (HON.out (cn-low-1) (by omega) wr HBr.out);rw [show ((cn-low-1:Nat):Int)=(cn:Int)-(low:Int)-1 by omega] at HO1;have g3:=Bj4 HBr.out x3
      cases hf:F (cn-low-1) with
      |true=>
       have HF:=Bj3 hf;rw [hf] at HO1;clear hf
       go_wp2_with (go_at_call 84;refine HO1.out.mono ?_;rintro e w9 ⟨rfl,hb9⟩;(have HB9:=Bj3 (HBr.out.st hb9));clear hb9)
       go_roundg (cn-(low+1))
       case measure=>omega
       case rel=>
        refine ⟨low+1,by omega,by omega,by go_num,?_,HB9.out⟩
        show Fo F cn=(low+1)+Fo F (cn-(low+1))
        have h9:=HH.out;rw [show cn-low=(cn-low-1)+1 by omega,Yq HF.out] at h9;rw [h9,show cn-(low+1)=cn-low-1 by omega];omega
      |false=>
       rw [hf] at HO1;have HLR:=Bj3 (show Fo F cn=low by
        have h9:=HH.out;rw [show cn-low=(cn-low-1)+1 by omega,Ai3 hf] at h9;exact h9)
       clear hf
       go_wp2_with (go_at_call 84;refine HO1.out.mono ?_;rintro e w9 ⟨rfl,hb9⟩;(have HBR:=Bj3 (HBr.out.st hb9));clear hb9)
       go_loopg [9] m (fun gg v9 wr=>∃hi:Nat,cn+hi<=m/\m-cn-hi<=gg/\v9=.int .i64 (hi:Int)/\Aside (Ay F cn (m-cn)=hi+Ay F (cn+hi) (m-cn-hi))/\Aside (Below Wz.heap.size Wz wr))
       case atStart=>exact ⟨0,by omega,by omega,rfl,(show Ay F cn (m-cn)=0+Ay F (cn+0) (m-cn-0) by simp),HBR.out⟩
       case round=>
        obtain ⟨hi,hh1,hh2,rfl,HH,HBs⟩:=hrel;clear HBR
        by_cases hlt:cn+hi<m
        ·have hlt2:(cn:Int)+(hi:Int)<(m:Int):=by omega
         have hh0:(0:Int)<=(hi:Int):=by omega
         have HO1:=Bj3 (HON.out (cn+hi) hlt wr HBs.out);rw [show ((cn+hi:Nat):Int)=(cn:Int)+(hi:Int) by omega] at HO1;have g1:=Bj4 HBs.out x1;have g3:=Bj4 HBs.out x3
         cases hf:F (cn+hi) with
         |true=>
          have HF:=Bj3 hf;rw [hf] at HO1;clear hf
          go_wp2_with (go_at_call 84;refine HO1.out.mono ?_;rintro e w9 ⟨rfl,hb9⟩;(have HB9:=Bj3 (HBs.out.st hb9));clear hb9)
          go_roundg (m-cn-(hi+1))
          case measure=>omega
          case rel=>
           refine ⟨hi+1,by omega,by omega,by go_num,?_,HB9.out⟩
           show Ay F cn (m-cn)=(hi+1)+Ay F (cn+(hi+1)) (m-cn-(hi+1))
           have h9:=HH.out;rw [show m-cn-hi=(m-cn-(hi+1))+1 by omega,Kk HF.out] at h9;rw [h9,show cn+(hi+1)=cn+hi+1 by omega];omega
         |false=>
          have HF:=Bj3 hf;rw [hf] at HO1;have HR:=Bj3 (show Ay F cn (m-cn)=hi by
           have h9:=HH.out;rw [show m-cn-hi=(m-cn-(hi+1))+1 by omega,Mv hf] at h9;exact h9)
          clear hf
          go_wp2_with (go_at_call 84;refine HO1.out.mono ?_;rintro e w9 ⟨rfl,hb9⟩;(have HB9:=Bj3 (HBs.out.st hb9));clear hb9)
          refine bodyPost_ret (v:=.tuple #[.int .i64 (low:Int),.int .i64 (hi:Int)]) (by simp [results,Tryz.results36,go_sem];try rfl) rfl ?_;exact ⟨by rw [HPV.out,HLR.out,HR.out],HBZ.out.st HB9.out⟩
        ·have HR:=Bj3 (show Ay F cn (m-cn)=hi by
          have h9:=HH.out;rw [show m-cn-hi=0 by omega] at h9;exact h9)
         have hlt2:¬(cn:Int)+(hi:Int)<(m:Int):=by omega
         have g1:=Bj4 HBs.out x1;have g3:=Bj4 HBs.out x3
         go_wp2
         refine bodyPost_ret (v:=.tuple #[.int .i64 (low:Int),.int .i64 (hi:Int)]) (by simp [results,Tryz.results36,go_sem];try rfl) rfl ?_;exact ⟨by rw [HPV.out,HLR.out,HR.out],HBZ.out.st HBs.out⟩
     ·have HLR:=Bj3 (show Fo F cn=low by
       have h9:=HH.out;rw [show cn-low=0 by omega] at h9;exact h9)
      have hlt2:¬(low:Int)<(cn:Int):=by omega
      have g3:=Bj4 HBr.out x3;have HBR:=Bj3 HBr.out
      go_wp2
      go_loopg [9] m (fun gg v9 wr=>∃hi:Nat,cn+hi<=m/\m-cn-hi<=gg/\v9=.int .i64 (hi:Int)/\Aside (Ay F cn (m-cn)=hi+Ay F (cn+hi) (m-cn-hi))/\Aside (Below Wz.heap.size Wz wr))
      case atStart=>exact ⟨0,by omega,by omega,rfl,(show Ay F cn (m-cn)=0+Ay F (cn+0) (m-cn-0) by simp),HBR.out⟩
      case round=>
       obtain ⟨hi,hh1,hh2,rfl,HH,HBs⟩:=hrel;clear HBR
       by_cases hlt:cn+hi<m
       ·have hlt2:(cn:Int)+(hi:Int)<(m:Int):=by omega
        have hh0:(0:Int)<=(hi:Int):=by omega
        have HO1:=Bj3 (HON.out (cn+hi) hlt wr HBs.out);rw [show ((cn+hi:Nat):Int)=(cn:Int)+(hi:Int) by omega] at HO1;have g1:=Bj4 HBs.out x1;have g3:=Bj4 HBs.out x3
        cases hf:F (cn+hi) with
        |true=>
         have HF:=Bj3 hf;rw [hf] at HO1;clear hf
         go_wp2_with (go_at_call 84;refine HO1.out.mono ?_;rintro e w9 ⟨rfl,hb9⟩;(have HB9:=Bj3 (HBs.out.st hb9));clear hb9)
         go_roundg (m-cn-(hi+1))
         case measure=>omega
         case rel=>
          refine ⟨hi+1,by omega,by omega,by go_num,?_,HB9.out⟩
          show Ay F cn (m-cn)=(hi+1)+Ay F (cn+(hi+1)) (m-cn-(hi+1))
          have h9:=HH.out;rw [show m-cn-hi=(m-cn-(hi+1))+1 by omega,Kk HF.out] at h9;rw [h9,show cn+(hi+1)=cn+hi+1 by omega];omega
        |false=>
         have HF:=Bj3 hf;rw [hf] at HO1;have HR:=Bj3 (show Ay F cn (m-cn)=hi by
          have h9:=HH.out;rw [show m-cn-hi=(m-cn-(hi+1))+1 by omega,Mv hf] at h9;exact h9)
         clear hf
         go_wp2_with (go_at_call 84;refine HO1.out.mono ?_;rintro e w9 ⟨rfl,hb9⟩;(have HB9:=Bj3 (HBs.out.st hb9));clear hb9)
         refine bodyPost_ret (v:=.tuple #[.int .i64 (low:Int),.int .i64 (hi:Int)]) (by simp [results,Tryz.results36,go_sem];try rfl) rfl ?_;exact ⟨by rw [HPV.out,HLR.out,HR.out],HBZ.out.st HB9.out⟩
       ·have HR:=Bj3 (show Ay F cn (m-cn)=hi by
         have h9:=HH.out;rw [show m-cn-hi=0 by omega] at h9;exact h9)
        have hlt2:¬(cn:Int)+(hi:Int)<(m:Int):=by omega
        have g1:=Bj4 HBs.out x1;have g3:=Bj4 HBs.out x3
        go_wp2
        refine bodyPost_ret (v:=.tuple #[.int .i64 (low:Int),.int .i64 (hi:Int)]) (by simp [results,Tryz.results36,go_sem];try rfl) rfl ?_;exact ⟨by rw [HPV.out,HLR.out,HR.out],HBZ.out.st HBs.out⟩
   ·rw [if_neg (fun h=>hr h.2.2)]
    rw [decide_eq_false hr] at HCZ;simp only at HCZ;rw [HCZ.out] at HSM;clear hr
    go_enter Tryz.func36,Tryz.ntmps36
    go_upto_region 1 with (fail)
    rw [<-HW1.out]
    go_upto_region 2 with (go_at_call 33;refine HBY.out.mono ?_;rintro e w2 ⟨l9,c9,rfl,h1,h2⟩;(have HC2:=Bj3 h1);(have HB2:=Bj3 h2);(have d0:=Bj4 h2 c0);(have d1:=Bj4 h2 c1);(have d2:=Bj4 h2 y1);(have d3:=Bj4 h2 y2);(have d4:=Bj4 h2 y3);clear h1 h2)
    obtain ⟨W2,hW2⟩:∃W2,W2=w2.alloc (Obj.cells #[.int .i64 Vy,.slice l9 ly.length c9,.int .u64 Wy,.int .i64 cy] 63):=⟨_,rfl⟩;rw [<-hW2];have hb2:Below w2.heap.size w2 W2:=by rw [hW2];exact Below.of_al _ _
    have HBW2:=Bj3 (HB2.out.st hb2);have HCW2:=Bj3 (HC2.out.go hb2);have e0:=Bj4 hb2 d0;have e1:=Bj4 hb2 d1;have e2:=Bj4 hb2 d2;have e3:=Bj4 hb2 d3;have e4:=Bj4 hb2 d4;have z1:W2.cell? ⟨w2.heap.size,1,none⟩=some (.slice l9 ly.length c9):=by rw [hW2];go_simp
    have z2:W2.cell? ⟨w2.heap.size,2,none⟩=some (.int .u64 Wy):=by rw [hW2];go_simp
    have z3:W2.cell? ⟨w2.heap.size,3,none⟩=some (.int .i64 cy):=by rw [hW2];go_simp
    have HLW2:=Bj3 (HL.out.go (HB1.out.st HBW2.out));clear hW2 hb2 d0 d1 d2 d3 d4 y0 y1 y2 y3 c0 c1
    go_wp2_with (go_at_call 81;refine (HSM.out _ _ _ HCW2.out HLW2.out HLY.out).mono ?_;rintro e w3 ⟨rfl,hb3⟩;(have HB3:=Bj3 hb3);clear hb3)
    refine bodyPost_ret (v:=.tuple #[.int .i64 0,.int .i64 0]) (by simp [results,Tryz.results36,go_sem];try rfl) rfl ?_;exact ⟨rfl,HB1.out.st (HBW2.out.st HB3.out)⟩
  ·rw [if_neg (fun h=>hcc h.2.1)]
   have hc2:(cy != c)=true:=by simpa using hcc
   clear hcc
   go_enter Tryz.func36,Tryz.ntmps36
   go_upto_region 1 with (fail)
   rw [<-HW1.out]
   go_upto_region 2 with (go_at_call 33;refine HBY.out.mono ?_;rintro e w2 ⟨l9,c9,rfl,h1,h2⟩;(have HC2:=Bj3 h1);(have HB2:=Bj3 h2);(have d0:=Bj4 h2 c0);(have d1:=Bj4 h2 c1);(have d2:=Bj4 h2 y1);(have d3:=Bj4 h2 y2);(have d4:=Bj4 h2 y3);clear h1 h2)
   obtain ⟨W2,hW2⟩:∃W2,W2=w2.alloc (Obj.cells #[.int .i64 Vy,.slice l9 ly.length c9,.int .u64 Wy,.int .i64 cy] 63):=⟨_,rfl⟩;rw [<-hW2];have hb2:Below w2.heap.size w2 W2:=by rw [hW2];exact Below.of_al _ _
   have HBW2:=Bj3 (HB2.out.st hb2);have HCW2:=Bj3 (HC2.out.go hb2);have e0:=Bj4 hb2 d0;have e1:=Bj4 hb2 d1;have e2:=Bj4 hb2 d2;have e3:=Bj4 hb2 d3;have e4:=Bj4 hb2 d4;have z1:W2.cell? ⟨w2.heap.size,1,none⟩=some (.slice l9 ly.length c9):=by rw [hW2];go_simp
   have z2:W2.cell? ⟨w2.heap.size,2,none⟩=some (.int .u64 Wy):=by rw [hW2];go_simp
   have z3:W2.cell? ⟨w2.heap.size,3,none⟩=some (.int .i64 cy):=by rw [hW2];go_simp
   have HLW2:=Bj3 (HL.out.go (HB1.out.st HBW2.out));clear hW2 hb2 d0 d1 d2 d3 d4 y0 y1 y2 y3 c0 c1
   go_wp2
   refine bodyPost_ret (v:=.tuple #[.int .i64 0,.int .i64 0]) (by simp [results,Tryz.results36,go_sem];try rfl) rfl ?_;exact ⟨rfl,HB1.out.st HBW2.out⟩
 ·rw [if_neg (fun h=>hk h.1)]
  have hk2:(ky != 0)=true:=by simpa using hk
  clear hk
  go_enter Tryz.func36,Tryz.ntmps36
  go_upto_region 1 with (fail)
  rw [<-HW1.out]
  go_upto_region 2 with (go_at_call 33;refine HBY.out.mono ?_;rintro e w2 ⟨l9,c9,rfl,h1,h2⟩;(have HC2:=Bj3 h1);(have HB2:=Bj3 h2);(have d0:=Bj4 h2 c0);(have d1:=Bj4 h2 c1);(have d2:=Bj4 h2 y1);(have d3:=Bj4 h2 y2);(have d4:=Bj4 h2 y3);clear h1 h2)
  obtain ⟨W2,hW2⟩:∃W2,W2=w2.alloc (Obj.cells #[.int .i64 Vy,.slice l9 ly.length c9,.int .u64 Wy,.int .i64 cy] 63):=⟨_,rfl⟩;rw [<-hW2];have hb2:Below w2.heap.size w2 W2:=by rw [hW2];exact Below.of_al _ _
  have HBW2:=Bj3 (HB2.out.st hb2);have HCW2:=Bj3 (HC2.out.go hb2);have e0:=Bj4 hb2 d0;have e1:=Bj4 hb2 d1;have e2:=Bj4 hb2 d2;have e3:=Bj4 hb2 d3;have e4:=Bj4 hb2 d4;have z1:W2.cell? ⟨w2.heap.size,1,none⟩=some (.slice l9 ly.length c9):=by rw [hW2];go_simp
  have z2:W2.cell? ⟨w2.heap.size,2,none⟩=some (.int .u64 Wy):=by rw [hW2];go_simp
  have z3:W2.cell? ⟨w2.heap.size,3,none⟩=some (.int .i64 cy):=by rw [hW2];go_simp
  have HLW2:=Bj3 (HL.out.go (HB1.out.st HBW2.out));clear hW2 hb2 d0 d1 d2 d3 d4 y0 y1 y2 y3 c0 c1
  go_wp2
  refine bodyPost_ret (v:=.tuple #[.int .i64 0,.int .i64 0]) (by simp [results,Tryz.results36,go_sem];try rfl) rfl ?_;exact ⟨rfl,HB1.out.st HBW2.out⟩
end Vi
end Go.Proofs.YteaaapdjplbljaaGreat
