/- Parts; no condition. -/
import Derived.Test.YteaaapdjplbljaaGreatVa48
import Derived.ProofKit
import Derived.OpenShut
import Derived.ShutString
import Derived.SizedLaws
import Derived.SliceStrings
import Derived.Lib.SmallJoins
import Derived.Deep.Slices
import Derived.Deep.SlicePairs
import Derived.Deep.Strs
set_option linter.unusedVariables false
set_option linter.unusedSimpArgs false
set_option linter.unnecessarySimpa false
set_option maxRecDepth 100000
set_option maxHeartbeats 8000000
namespace Go.Proofs.YteaaapdjplbljaaGreat
section
namespace Vi
open Go Go.Proofs Go.RowKit Go.Shelf Hp Ch Ad Ro Dj
theorem Bh3 {n:Nat} {es:List EdgeD} (hg:Aj ⟨(n:Int),es⟩=0):∀u v w,Am es u v w->Ac n u/\Ac n v/\1<=w:=fun a b c h=>by
 have:=XD.ok (Jz hg) a b c (Gj (bk:=false).2 h);exact ⟨this.1,this.2.1,this.2.2.1⟩
theorem Ak1 {n:Nat} {es:List EdgeD} {ao:Option Addr} {w:World} (s v t:Int) (hg:Aj ⟨(n:Int),es⟩=0) (hn:n<=50000) (hm:es.length<=50000) (hc:Cel w ao (Ar es)):∃V l x c k,ByIs n es s v t V l x c k:=by
 obtain ⟨_,_,_,⟨_,l,_,V,x,c,k,_,_,_,hy,_⟩,_⟩:=Sr n es ao 0 s v t w hg hn hm hc [];exact ⟨V,l,x,c,k,hy⟩
theorem Nb {n s:Nat} {es:List EdgeD} {ao:Option Addr} {w:World} (bk:Bool) (hs:s<n) (hg:Aj ⟨(n:Int),es⟩=0) (hn:n<=50000) (hm:es.length<=50000) (hc:Cel w ao (Ar es)):∃fa,FarL es bk n (s:Int) fa:=by
 obtain ⟨_,_,_,⟨_,l,_,_,_,h⟩,_⟩:=Qg n es ao 0 s bk w hg (Jz hg) hs hn hm hc [];exact ⟨l,h⟩
theorem Wd (n:Nat) (es:List EdgeD) (ao la:Option Addr) (cap lc:Nat) (s t:Int) (w:World) (hg:Aj ⟨(n:Int),es⟩=0) (hn:n<=50000) (hm:es.length<=50000) (hc:Cel w ao (Ar es)):
  Calls Tryz.prog 36 #[.agg #[.int .i64 (n:Int),.slice ao es.length cap],.int .i64 s,.int .i64 t,Cw 0 la 0 lc 0 0] w fun e w'=>e=.returned (.tuple #[.int .i64 0,.int .i64 0])/\Below w.heap.size w w':=by
 obtain ⟨V,l,x,c,k,hy⟩:=Ak1 s 0 t hg hn hm hc
 by_cases hk:k=0
 ·subst hk
  obtain ⟨hs,ht⟩:Ac n s/\Ac n t:=by
   rcases hy with ⟨_,_,l1,l2,x1,x2,r1,r2,_⟩|⟨h,_⟩
   ·rcases r1 with ⟨_,a,_⟩|⟨h,_⟩
    ·rcases r2 with ⟨_,_,b,_⟩|⟨h,_⟩
     ·exact ⟨a,b⟩
     ·exact absurd rfl h
    ·exact absurd rfl h
   ·exact absurd rfl h
  obtain ⟨s,rfl⟩:∃q:Nat,s=(q:Int):=⟨s.toNat,by have:=hs.1;omega⟩;obtain ⟨t,rfl⟩:∃q:Nat,t=(q:Int):=⟨t.toNat,by have:=ht.1;omega⟩;have hsn:s<n:=by have:=hs.2;omega
  have htn:t<n:=by have:=ht.2;omega
  obtain ⟨fa,hfa⟩:=Nb false hsn hg hn hm hc;obtain ⟨fb,hfb⟩:=Nb true htn hg hn hm hc;have h:=Jo n s t es ao la cap lc 0 0 0 [] w V x c 0 l fa fb hg hn hm hsn htn hc (Cel.nil _ _) (by simp) hy hfa hfb;refine h.mono ?_;rintro e w' ⟨rfl,hb⟩;refine ⟨?_,hb⟩
  split
  ·rfl
  ·rfl
 ·exact Ab8 n es ao la cap lc 0 s t 0 0 0 w hg hn hm hc hy hk
theorem Zv (g:GD) (ao:Option Addr) (cap:Nat) (s v t q:Int) (w:World) (hc:Cel w ao (Ar g.es)):
  Calls Tryz.prog 6 #[.agg #[.int .i64 g.n,.slice ao g.es.length cap],.int .i64 s,.int .i64 v,.int .i64 t,.int .i64 q] w fun e w'=>e=.returned (.bool true)/\Below w.heap.size w w':=by
 obtain ⟨gn,es⟩:=g;simp only at hc ⊢;obtain ⟨V,hV⟩:∃V,V=w.alloc (Obj.cells #[.int .i64 gn,.slice ao es.length cap] 24):=⟨_,rfl⟩;have hbV:Below w.heap.size w V:=by rw [hV];exact Below.of_al _ _
 have c0:V.cell? ⟨w.heap.size,0,none⟩=some (.int .i64 gn):=by rw [hV];go_simp
 have c1:V.cell? ⟨w.heap.size,1,none⟩=some (.slice ao es.length cap):=by rw [hV];go_simp
 have HLI:=Bj3 (Ar4 ⟨gn,es⟩ ao cap V);have HAL:=Bj3 Zt;have HB:=Bj3 hbV;have HV:=Bj3 hV;have HC:=Bj3 hc;simp only at HLI;clear hV hbV
 by_cases hli:((decide (gn<=100)||decide (4096<gn))&&decide ((es.length:Int)<=300))=true
 ·rw [hli] at HLI
  have hm:es.length<=300:=by simp at hli;omega
  have hn1:gn<=100\/4096<gn:=by simp at hli;omega
  clear hli
  by_cases hmid:30<gn/\gn<=4096
  ·obtain ⟨h1,h2⟩:=hmid
   clear hc
   go_enter Tryz.func6,Tryz.ntmps6
   go_upto_region 1 with (fail)
   rw [<-HV.out]
   go_wp2_with (first
    |(go_at_call 31;refine HLI.out.mono ?_;rintro e w1 ⟨rfl,hb1⟩;(have HB1:=Bj3 hb1);(have d0:=Bj4 hb1 c0);clear hb1)
    |(go_at_call 32;refine (HAL.out _).mono ?_;rintro e w2 ⟨rfl,hb2⟩;(have HB2:=Bj3 hb2);clear hb2))
   go_ret
   exact ⟨rfl,HB.out.st (HB1.out.st HB2.out)⟩
  ·by_cases hg:Aj ⟨gn,es⟩=0
   ·have hn2:=Py hg
    obtain ⟨n,rfl⟩:∃n:Nat,gn=(n:Int):=⟨gn.toNat,by simp only at hn2;omega⟩;have hn:n<=30:=by simp only at hn2;omega
    have hni:(n:Int)<=30:=by omega
    have hA:=Bh3 hg;obtain ⟨V0,l,x,c,k,hy⟩:=Ak1 s v t hg (by omega) (by omega) hc;have HBY:=Bj3 (fun U (hz:Below w.heap.size w U)=>(show Calls Tryz.prog 33 #[.agg #[.int .i64 (n:Int),.slice ao es.length cap],.int .i64 s,.int .i64 v,.int .i64 t] U fun e w'=>∃la lc,e=.returned (.tuple #[.agg #[.int .i64 V0,.slice la l.length lc,.int .u64 x,.int .i64 c],.int .i64 k])/\Cel w' la (l.map Ai)/\Below U.heap.size U w' from
     (Sr n es ao cap s v t U hg (by omega) (by omega) (hc.go hz)).mono (by
      rintro e w' ⟨l2,l',c2,V',x',cc',k',rfl,h1,h2,h3,_⟩;obtain ⟨rfl,rfl,rfl,rfl,rfl⟩:=hy.uniq hA h3;exact ⟨l2,c2,rfl,h1,h2⟩)))
    have HRB:=Bj3 (fun U (hz:Below w.heap.size w U)=>(show Calls Tryz.prog 34 #[.agg #[.int .i64 (n:Int),.slice ao es.length cap],.int .i64 s,.int .i64 v,.int .i64 t] U fun e w'=>∃la lc,e=.returned (.tuple #[.agg #[.int .i64 V0,.slice la l.length lc,.int .u64 x,.int .i64 c],.int .i64 k])/\Cel w' la (l.map Ai)/\Below U.heap.size U w' from
     (Al8 n es ao cap s v t U hg (by omega) hm (hc.go hz)).mono (by
      rintro e w' ⟨l2,l',c2,V',x',cc',k',rfl,h1,h2,h3,_⟩;obtain ⟨rfl,rfl,rfl,rfl,rfl⟩:=hy.uniq hA h3;exact ⟨l2,c2,rfl,h1,h2⟩)))
    have hll:l.length<=1000000:=by
     rcases hy with ⟨_,_,l1,l2,x1,x2,r1,r2,rfl,_⟩|⟨_,_,rfl,_⟩
     ·have h1:=(Ba hA r1).1
      have h2:=(Ba hA r2).1;rw [Bm3];omega
     ·simp
    have HSM:=Bj3 (fun U la lb lc ld (h1:Cel U la (l.map Ai)) (h2:Cel U lb (l.map Ai))=>Qq V0 x c la lb lc ld l U hll h1 h2);unfold Cw at HSM
    go_enter Tryz.func6,Tryz.ntmps6
    go_upto_region 1 with (fail)
    rw [<-HV.out]
    go_upto_region 4 with (first
     |(go_at_call 31;refine HLI.out.mono ?_;rintro e w0 ⟨rfl,hb0⟩;(have HB0:=Bj3 (HB.out.st hb0));(have d0:=Bj4 hb0 c0);(have d1:=Bj4 hb0 c1);clear hb0)
     |(go_at_call 33;refine (HBY.out _ HB0.out).mono ?_;rintro e w1 ⟨la,lc,rfl,h1,h2⟩;(have HCA:=Bj3 h1);(have HB1:=Bj3 (HB0.out.st h2));(have e0:=Bj4 h2 d0);(have e1:=Bj4 h2 d1);clear h1 h2))
    obtain ⟨W1,hW1⟩:∃W1,W1=w1.alloc (Obj.cells #[.int .i64 V0,.slice la l.length lc,.int .u64 x,.int .i64 c] 63):=⟨_,rfl⟩;rw [<-hW1];have hb1:Below w1.heap.size w1 W1:=by rw [hW1];exact Below.of_al _ _
    have HB1':=Bj3 (HB1.out.st hb1);have HCA1:=Bj3 (HCA.out.go hb1);have f0:=Bj4 hb1 e0;have f1:=Bj4 hb1 e1;have g0:W1.cell? ⟨w1.heap.size,0,none⟩=some (.int .i64 V0):=by rw [hW1];go_simp
    have g1:W1.cell? ⟨w1.heap.size,1,none⟩=some (.slice la l.length lc):=by rw [hW1];go_simp
    have g2:W1.cell? ⟨w1.heap.size,2,none⟩=some (.int .u64 x):=by rw [hW1];go_simp
    have g3:W1.cell? ⟨w1.heap.size,3,none⟩=some (.int .i64 c):=by rw [hW1];go_simp
    clear hW1 hb1 d0 d1 e0 e1
    go_upto_region 5 with (go_at_call 34;refine (HRB.out _ HB1'.out).mono ?_;rintro e w2 ⟨lb,ld,rfl,h1,h2⟩;(have HCB:=Bj3 h1);(have HCA1':=Bj3 (HCA1.out.go h2));(have HB2x:=Bj3 (HB1'.out.st h2));(have e0:=Bj4 h2 f0);(have e1:=Bj4 h2 f1);(have m0:=Bj4 h2 g0);(have m1:=Bj4 h2 g1);(have m2:=Bj4 h2 g2);(have m3:=Bj4 h2 g3);clear h1 h2)
    obtain ⟨W2,hW2⟩:∃W2,W2=w2.alloc (Obj.cells #[.int .i64 V0,.slice lb l.length ld,.int .u64 x,.int .i64 c] 66):=⟨_,rfl⟩;rw [<-hW2];have hb2:Below w2.heap.size w2 W2:=by rw [hW2];exact Below.of_al _ _
    have HB2:=Bj3 (HB2x.out.st hb2);have HCA2:=Bj3 (HCA1'.out.go hb2);have HCB2:=Bj3 (HCB.out.go hb2);have p0:=Bj4 hb2 e0;have p1:=Bj4 hb2 e1;have q0:=Bj4 hb2 m0;have q1:=Bj4 hb2 m1;have q2:=Bj4 hb2 m2;have q3:=Bj4 hb2 m3;have r0:W2.cell? ⟨w2.heap.size,0,none⟩=some (.int .i64 V0):=by rw [hW2];go_simp
    have r1:W2.cell? ⟨w2.heap.size,1,none⟩=some (.slice lb l.length ld):=by rw [hW2];go_simp
    have r2:W2.cell? ⟨w2.heap.size,2,none⟩=some (.int .u64 x):=by rw [hW2];go_simp
    have r3:W2.cell? ⟨w2.heap.size,3,none⟩=some (.int .i64 c):=by rw [hW2];go_simp
    have hkk:(k != k)=false:=by simp
    clear hW2 hb2 e0 e1 m0 m1 m2 m3 f0 f1 g0 g1 g2 g3
    by_cases hk:k=0
    ·subst hk
     have hy2:V0=v/\∃l1 l2 x1 x2,Bk n es s v l1 x1 0/\Bk n es v t l2 x2 0/\l=l1++l2/\x=x1+x2/\c=(l1.length:Int):=by
      rcases hy with ⟨_,h1,h2⟩|⟨h,_⟩
      ·exact ⟨h1,h2⟩
      ·exact absurd rfl h
     obtain ⟨rfl,l1,l2,x1,x2,rr1,rr2,hlj,hxx,hcc⟩:=hy2;have hmem:=Ag7 hA rr1 rr2;have hsum:=Ba5 hA rr1 rr2;rw [<-hlj] at hmem hsum;rw [<-hxx] at hsum;obtain ⟨hl1,hx10,hx11⟩:=Ba hA rr1;obtain ⟨hl2,hx20,hx21⟩:=Ba hA rr2;have hWb:0<=x/\x<=4611686018427387904:=by omega
     have hs:Ac n s:=by
      rcases rr1 with ⟨_,a,_⟩|⟨h,_⟩
      ·exact a
      ·exact absurd rfl h
     have ht:Ac n t:=by
      rcases rr2 with ⟨_,_,a,_⟩|⟨h,_⟩
      ·exact a
      ·exact absurd rfl h
     obtain ⟨s,rfl⟩:∃q:Nat,s=(q:Int):=⟨s.toNat,by have:=hs.1;omega⟩;obtain ⟨t,rfl⟩:∃q:Nat,t=(q:Int):=⟨t.toNat,by have:=ht.1;omega⟩;have hsn:s<n:=by have:=hs.2;omega
     have htn:t<n:=by have:=ht.2;omega
     obtain ⟨fa,hfa⟩:=Nb false hsn hg (by omega) (by omega) hc;obtain ⟨fb,hfb⟩:=Nb true htn hg (by omega) (by omega) hc;have hcm:l1.length<=l.length:=by rw [hlj,Bm3];omega
     obtain ⟨lo,hlo⟩:∃lo:Int,lo=(Fo (onB es l fa fb (Cb es 0 l) x) l1.length:Int):=⟨_,rfl⟩;obtain ⟨hi,hhi⟩:∃hi:Int,hi=(Ay (onB es l fa fb (Cb es 0 l) x) l1.length (l.length-l1.length):Int):=⟨_,rfl⟩;have hpl:Yi (onB es l fa fb (Cb es 0 l) x) l1.length l.length=.tuple #[.int .i64 lo,.int .i64 hi]:=by rw [hlo,hhi];rfl
     have HPL:=Bj3 (fun la lc U (hz:Below w.heap.size w U) (h1:Cel U la (l.map Ai))=>(show Calls Tryz.prog 36 #[.agg #[.int .i64 (n:Int),.slice ao es.length cap],.int .i64 (s:Int),.int .i64 (t:Int),.agg #[.int .i64 V0,.slice la l.length lc,.int .u64 x,.int .i64 c]] U fun e w'=>e=.returned (.tuple #[.int .i64 lo,.int .i64 hi])/\Below U.heap.size U w' from
      (Jo n s t es ao la cap lc V0 x c l U V0 x c 0 l fa fb hg (by omega) (by omega) hsn htn (hc.go hz) h1 hll hy hfa hfb).mono (by
       rintro e w' ⟨rfl,h9⟩;rw [if_pos ⟨rfl,rfl,rfl⟩,hcc,Bk7,hpl];exact ⟨rfl,h9⟩)))
     have HRP:=Bj3 (fun la lc U (hz:Below w.heap.size w U) (h1:Cel U la (l.map Ai))=>(show Calls Tryz.prog 37 #[.agg #[.int .i64 (n:Int),.slice ao es.length cap],.int .i64 (s:Int),.int .i64 (t:Int),.agg #[.int .i64 V0,.slice la l.length lc,.int .u64 x,.int .i64 c]] U fun e w'=>e=.returned (.tuple #[.int .i64 lo,.int .i64 hi])/\Below U.heap.size U w' by
      have h:=Qv n s t l1.length es ao la cap lc V0 x l U fa fb hg (by omega) hm hsn htn (hc.go hz) h1 hll hmem hsum hWb hcm hfa hfb;rw [hpl,<-hcc] at h;exact h))
     have HPQ:=Bj3 (fun la lc U (hz:Below w.heap.size w U) (h1:Cel U la (l.map Ai))=>(show Calls Tryz.prog 36 #[.agg #[.int .i64 (n:Int),.slice ao es.length cap],.int .i64 (s:Int),.int .i64 (t:Int),.agg #[.int .i64 V0,.slice la l.length lc,.int .u64 x,.int .i64 q]] U fun e w'=>e=.returned (if q=c then .tuple #[.int .i64 lo,.int .i64 hi] else .tuple #[.int .i64 0,.int .i64 0])/\Below U.heap.size U w' from
      (Jo n s t es ao la cap lc V0 x q l U V0 x c 0 l fa fb hg (by omega) (by omega) hsn htn (hc.go hz) h1 hll hy hfa hfb).mono (by
       rintro e w' ⟨rfl,h9⟩;refine ⟨?_,h9⟩
       by_cases hq:q=c
       ·rw [if_pos ⟨rfl,hq.symm,rfl⟩,if_pos hq,hq,hcc,Bk7,hpl]
       ·rw [if_neg (fun h=>hq h.2.1.symm),if_neg hq])))
     have hlo2:(lo==lo)=true:=by simp
     have hhi2:(hi==hi)=true:=by simp
     clear hy hg hc hA rr1 rr2 hlj hxx hcc hmem hsum hl1 hx10 hx11 hl2 hx20 hx21 hWb hs ht hfa hfb hcm hlo hhi hpl HBY HRB
     go_upto_region 8 with (first
      |(go_at_call 35;refine (HSM.out _ _ _ _ _ HCA2.out HCB2.out).mono ?_;rintro e w3 ⟨rfl,hb3⟩;(have HB3:=Bj3 (HB2.out.st hb3));(have HCA3:=Bj3 (HCA2.out.go hb3));(have HCB3:=Bj3 (HCB2.out.go hb3));(have j0:=Bj4 hb3 p0);(have j1:=Bj4 hb3 p1);(have j2:=Bj4 hb3 q0);(have j3:=Bj4 hb3 q1);(have j4:=Bj4 hb3 q2);(have j5:=Bj4 hb3 q3);(have j6:=Bj4 hb3 r0);(have j7:=Bj4 hb3 r1);(have j8:=Bj4 hb3 r2);(have j9:=Bj4 hb3 r3);clear hb3)
      |(go_at_call 36;refine (HPL.out _ _ _ HB3.out HCA3.out).mono ?_;rintro e w4 ⟨rfl,hb4⟩;(have HB4:=Bj3 (HB3.out.st hb4));(have HCA4:=Bj3 (HCA3.out.go hb4));(have HCB4:=Bj3 (HCB3.out.go hb4));(have k0:=Bj4 hb4 j0);(have k1:=Bj4 hb4 j1);(have k2:=Bj4 hb4 j2);(have k3:=Bj4 hb4 j3);(have k4:=Bj4 hb4 j4);(have k5:=Bj4 hb4 j5);(have k6:=Bj4 hb4 j6);(have k7:=Bj4 hb4 j7);(have k8:=Bj4 hb4 j8);(have k9:=Bj4 hb4 j9);clear hb4))
     clear p0 p1 q0 q1 q2 q3 r0 r1 r2 r3 j0 j1 j2 j3 j4 j5 j6 j7 j8 j9
     go_upto_region 12 with (go_at_call 37;refine (HRP.out _ _ _ HB4.out HCB4.out).mono ?_;rintro e w5 ⟨rfl,hb5⟩;(have HB5:=Bj3 (HB4.out.st hb5));(have HCA5:=Bj3 (HCA4.out.go hb5));(have f0:=Bj4 hb5 k0);(have f1:=Bj4 hb5 k1);(have f2:=Bj4 hb5 k2);(have f3:=Bj4 hb5 k3);(have f4:=Bj4 hb5 k4);(have f5:=Bj4 hb5 k5);clear hb5)
     obtain ⟨W6,hW6⟩:∃W6,W6=w5.alloc (Obj.cells #[.int .i64 V0,.slice la l.length lc,.int .u64 x,.int .i64 c] 63):=⟨_,rfl⟩;rw [<-hW6];have hb6:Below w5.heap.size w5 W6:=by rw [hW6];exact Below.of_al _ _
     have HCA6:=Bj3 (HCA5.out.go hb6);have HB6:=Bj3 (HB5.out.st hb6);have i0:=Bj4 hb6 f0;have i1:=Bj4 hb6 f1;have i5:=Bj4 hb6 f5;have m0:W6.cell? ⟨w5.heap.size,0,none⟩=some (.int .i64 V0):=by rw [hW6];go_simp
     have m1:W6.cell? ⟨w5.heap.size,1,none⟩=some (.slice la l.length lc):=by rw [hW6];go_simp
     have m2:W6.cell? ⟨w5.heap.size,2,none⟩=some (.int .u64 x):=by rw [hW6];go_simp
     have m3:W6.cell? ⟨w5.heap.size,3,none⟩=some (.int .i64 c):=by rw [hW6];go_simp
     have n3:W6.frozen? ⟨w5.heap.size,3,none⟩=false:=by rw [hW6];go_simp
     have HL5:=Bj3 (And.intro (Bk3 _ _ f0) (Bk3 _ _ f5));clear hW6 hb6 f0 f1 f2 f3 f4 f5 k0 k1 k2 k3 k4 k5 k6 k7 k8 k9
     go_upto_region 13 with fail
     obtain ⟨W7,hW7⟩:∃W7,W7=W6.setCell ⟨w5.heap.size,3,none⟩ (.int .i64 q):=⟨_,rfl⟩;rw [<-hW7];have ho7:OffX (· =w5.heap.size) W6 W7:=by rw [hW7];exact .set _ rfl
     have hlw:=HL5.out;simp only at hlw;have HB7:=Bj3 (HB6.out.trans (ho7.below HB6.out.size (fun k e=>by have e2:k=w5.heap.size:=e;omega)));have HCA7:=Bj3 (show Cel W7 la (l.map Ai) from fun i u hu=>by
      obtain ⟨b,o,e,h8⟩:=HCA6.out i u hu;obtain ⟨b',o',e',h8'⟩:=HCA5.out i u hu;rw [e] at e'
      cases e'
      have hbl:=Bk3 _ _ h8';exact ⟨b,o,e,ho7.cell h8 (fun e2=>by have e3:b=w5.heap.size:=e2;simp only at hbl;omega)⟩)
     have x0:=ho7.cell i0 (fun e=>by have e2:w.heap.size=w5.heap.size:=e;omega);have x1:=ho7.cell i1 (fun e=>by have e2:w.heap.size=w5.heap.size:=e;omega);have x5:=ho7.cell i5 (fun e=>by have e2:w1.heap.size=w5.heap.size:=e;omega);have u0:W7.cell? ⟨w5.heap.size,0,none⟩=some (.int .i64 V0):=by rw [hW7,Bk1 _ _ _ _ (by simp)];exact m0
     have u1:W7.cell? ⟨w5.heap.size,1,none⟩=some (.slice la l.length lc):=by rw [hW7,Bk1 _ _ _ _ (by simp)];exact m1
     have u2:W7.cell? ⟨w5.heap.size,2,none⟩=some (.int .u64 x):=by rw [hW7,Bk1 _ _ _ _ (by simp)];exact m2
     have u3:W7.cell? ⟨w5.heap.size,3,none⟩=some (.int .i64 q):=by rw [hW7];exact Bk2 _ _ _ m3
     clear hW7 ho7 i0 i1 i5 m0 m1 m2 m3 n3 hlw
     by_cases hq:q=c
     ·subst hq
      have HPR:=Bj3 (fun la lc U (hz:Below w.heap.size w U) (h1:Cel U la (l.map Ai))=>(HPQ.out la lc U hz h1));simp only [if_true] at HPR;have hqq:(q==q)=true:=by simp
      go_wp2_with (first
       |(go_at_call 36;refine (HPR.out _ _ _ HB7.out HCA7.out).mono ?_;rintro e w8 ⟨rfl,hb8⟩;(have HB8:=Bj3 (HB7.out.st hb8));(have y5:=Bj4 hb8 x5);clear hb8)
       |(go_at_call 32;refine (HAL.out _).mono ?_;rintro e w9 ⟨rfl,hb9⟩;(have HB9:=Bj3 (HB8.out.st hb9));clear hb9))
      go_ret
      exact ⟨rfl,HB9.out⟩
     ·have HPR:=Bj3 (fun la lc U (hz:Below w.heap.size w U) (h1:Cel U la (l.map Ai))=>(HPQ.out la lc U hz h1))
      simp only [if_neg hq] at HPR;have hqq:(q==c)=false:=by rw [beq_eq_false_iff_ne];exact hq
      clear hq
      go_wp2_with (first
       |(go_at_call 36;refine (HPR.out _ _ _ HB7.out HCA7.out).mono ?_;rintro e w8 ⟨rfl,hb8⟩;(have HB8:=Bj3 (HB7.out.st hb8));(have y5:=Bj4 hb8 x5);clear hb8)
       |(go_at_call 32;refine (HAL.out _).mono ?_;rintro e w9 ⟨rfl,hb9⟩;(have HB9:=Bj3 (HB8.out.st hb9));clear hb9))
      go_ret
      exact ⟨rfl,HB9.out⟩
    ·obtain ⟨rfl,rfl,rfl,rfl⟩:V0=0/\l=[]/\x=0/\c=0:=by
      rcases hy with ⟨h,_⟩|⟨_,h1,h2,h3,h4,_⟩
      ·exact absurd h hk
      ·exact ⟨h1,h2,h3,h4⟩
     have HPZ:=Bj3 (fun la lc U (hz:Below w.heap.size w U)=>Wd n es ao la cap lc s t U hg (by omega) (by omega) (hc.go hz));unfold Cw at HPZ;have hk2:(k != 0)=true:=by simpa using hk
     clear hk hy hg hc hA
     go_wp2_with (first
      |(go_at_call 35;refine (HSM.out _ _ _ _ _ HCA2.out HCB2.out).mono ?_;rintro e w3 ⟨rfl,hb3⟩;(have HB3:=Bj3 (HB2.out.st hb3));(have j0:=Bj4 hb3 p0);(have j1:=Bj4 hb3 p1);(have j2:=Bj4 hb3 q0);(have j3:=Bj4 hb3 q1);(have j4:=Bj4 hb3 q2);(have j5:=Bj4 hb3 q3);clear hb3)
      |(go_at_call 36;refine (HPZ.out _ _ _ HB3.out).mono ?_;rintro e w4 ⟨rfl,hb4⟩;(have HB4:=Bj3 (HB3.out.st hb4));clear hb4)
      |(go_at_call 32;refine (HAL.out _).mono ?_;rintro e w5 ⟨rfl,hb5⟩;(have HB5:=Bj3 (HB4.out.st hb5));clear hb5))
     go_ret
     exact ⟨rfl,HB5.out⟩
   ·have HBY:=Bj3 (fun U (hz:Below w.heap.size w U)=>(show Calls Tryz.prog 33 #[.agg #[.int .i64 gn,.slice ao es.length cap],.int .i64 s,.int .i64 v,.int .i64 t] U fun e w'=>∃la lc,e=.returned (.tuple #[.agg #[.int .i64 0,.slice la 0 lc,.int .u64 0,.int .i64 0],.int .i64 1])/\Cel w' la (([]:List Int).map Ai)/\Below U.heap.size U w' from
     (Ay6 gn es ao cap s v t U hg (by omega) (hc.go hz)).mono (by
      rintro e w' ⟨rfl,h2⟩;exact ⟨none,0,rfl,Cel.nil _ _,h2⟩)))
    have HRB:=Bj3 (fun U (hz:Below w.heap.size w U)=>(show Calls Tryz.prog 34 #[.agg #[.int .i64 gn,.slice ao es.length cap],.int .i64 s,.int .i64 v,.int .i64 t] U fun e w'=>∃la lc,e=.returned (.tuple #[.agg #[.int .i64 0,.slice la 0 lc,.int .u64 0,.int .i64 0],.int .i64 1])/\Cel w' la (([]:List Int).map Ai)/\Below U.heap.size U w' from
     (Al7 gn es ao cap s v t U hg (by omega) (hc.go hz)).mono (by
      rintro e w' ⟨rfl,h2⟩;exact ⟨none,0,rfl,Cel.nil _ _,h2⟩)))
    have HSM:=Bj3 (fun U la lb lc ld (h1:Cel U la (([]:List Int).map Ai)) (h2:Cel U lb (([]:List Int).map Ai))=>Qq 0 0 0 la lb lc ld [] U (by simp) h1 h2);unfold Cw at HSM;simp only [Bk9] at HSM;have HPZ:=Bj3 (fun la lc U (hz:Below w.heap.size w U)=>Yh gn es ao la cap lc 0 s t 0 0 0 U hg (by omega) (hc.go hz));unfold Cw at HPZ;clear hg hc
    by_cases h30:30<gn
    ·have h31:¬gn<=4096:=fun h=>hmid ⟨h30,h⟩
     clear hmid
     go_enter Tryz.func6,Tryz.ntmps6
     go_upto_region 1 with (fail)
     rw [<-HV.out]
     go_upto_region 4 with (first
      |(go_at_call 31;refine HLI.out.mono ?_;rintro e w0 ⟨rfl,hb0⟩;(have HB0:=Bj3 (HB.out.st hb0));(have d0:=Bj4 hb0 c0);(have d1:=Bj4 hb0 c1);clear hb0)
      |(go_at_call 33;refine (HBY.out _ HB0.out).mono ?_;rintro e w1 ⟨la,lc,rfl,h1,h2⟩;(have HCA:=Bj3 h1);(have HB1:=Bj3 (HB0.out.st h2));(have e0:=Bj4 h2 d0);(have e1:=Bj4 h2 d1);clear h1 h2))
     obtain ⟨W1,hW1⟩:∃W1,W1=w1.alloc (Obj.cells #[.int .i64 0,.slice la 0 lc,.int .u64 0,.int .i64 0] 63):=⟨_,rfl⟩;rw [<-hW1];have hb1:Below w1.heap.size w1 W1:=by rw [hW1];exact Below.of_al _ _
     have HB1':=Bj3 (HB1.out.st hb1);have HCA1:=Bj3 (HCA.out.go hb1);have f0:=Bj4 hb1 e0;have f1:=Bj4 hb1 e1;have g0:W1.cell? ⟨w1.heap.size,0,none⟩=some (.int .i64 0):=by rw [hW1];go_simp
     have g1:W1.cell? ⟨w1.heap.size,1,none⟩=some (.slice la 0 lc):=by rw [hW1];go_simp
     have g2:W1.cell? ⟨w1.heap.size,2,none⟩=some (.int .u64 0):=by rw [hW1];go_simp
     have g3:W1.cell? ⟨w1.heap.size,3,none⟩=some (.int .i64 0):=by rw [hW1];go_simp
     clear hW1 hb1 d0 d1 e0 e1
     go_upto_region 5 with (go_at_call 34;refine (HRB.out _ HB1'.out).mono ?_;rintro e w2 ⟨lb,ld,rfl,h1,h2⟩;(have HCB:=Bj3 h1);(have HCA1':=Bj3 (HCA1.out.go h2));(have HB2x:=Bj3 (HB1'.out.st h2));(have e0:=Bj4 h2 f0);(have e1:=Bj4 h2 f1);(have m0:=Bj4 h2 g0);(have m1:=Bj4 h2 g1);(have m2:=Bj4 h2 g2);(have m3:=Bj4 h2 g3);clear h1 h2)
     obtain ⟨W2,hW2⟩:∃W2,W2=w2.alloc (Obj.cells #[.int .i64 0,.slice lb 0 ld,.int .u64 0,.int .i64 0] 66):=⟨_,rfl⟩;rw [<-hW2];have hb2:Below w2.heap.size w2 W2:=by rw [hW2];exact Below.of_al _ _
     have HB2:=Bj3 (HB2x.out.st hb2);have HCA2:=Bj3 (HCA1'.out.go hb2);have HCB2:=Bj3 (HCB.out.go hb2);have p0:=Bj4 hb2 e0;have p1:=Bj4 hb2 e1;have q0:=Bj4 hb2 m0;have q1:=Bj4 hb2 m1;have q2:=Bj4 hb2 m2;have q3:=Bj4 hb2 m3;have r0:W2.cell? ⟨w2.heap.size,0,none⟩=some (.int .i64 0):=by rw [hW2];go_simp
     have r1:W2.cell? ⟨w2.heap.size,1,none⟩=some (.slice lb 0 ld):=by rw [hW2];go_simp
     have r2:W2.cell? ⟨w2.heap.size,2,none⟩=some (.int .u64 0):=by rw [hW2];go_simp
     have r3:W2.cell? ⟨w2.heap.size,3,none⟩=some (.int .i64 0):=by rw [hW2];go_simp
     have hkk:((1:Int) != (1:Int))=false:=by simp
     clear hW2 hb2 e0 e1 m0 m1 m2 m3 f0 f1 g0 g1 g2 g3
     go_wp2_with (first
      |(go_at_call 35;refine (HSM.out _ _ _ _ _ HCA2.out HCB2.out).mono ?_;rintro e w3 ⟨rfl,hb3⟩;(have HB3:=Bj3 (HB2.out.st hb3));(have j0:=Bj4 hb3 p0);(have j1:=Bj4 hb3 p1);(have j2:=Bj4 hb3 q0);(have j3:=Bj4 hb3 q1);(have j4:=Bj4 hb3 q2);(have j5:=Bj4 hb3 q3);clear hb3)
      |(go_at_call 36;refine (HPZ.out _ _ _ HB3.out).mono ?_;rintro e w4 ⟨rfl,hb4⟩;(have HB4:=Bj3 (HB3.out.st hb4));clear hb4)
      |(go_at_call 32;refine (HAL.out _).mono ?_;rintro e w5 ⟨rfl,hb5⟩;(have HB5:=Bj3 (HB4.out.st hb5));clear hb5))
     go_ret
     exact ⟨rfl,HB5.out⟩
    ·have h31:gn<=30:=by omega
     clear hmid
     go_enter Tryz.func6,Tryz.ntmps6
     go_upto_region 1 with (fail)
     rw [<-HV.out]
     go_upto_region 4 with (first
      |(go_at_call 31;refine HLI.out.mono ?_;rintro e w0 ⟨rfl,hb0⟩;(have HB0:=Bj3 (HB.out.st hb0));(have d0:=Bj4 hb0 c0);(have d1:=Bj4 hb0 c1);clear hb0)
      |(go_at_call 33;refine (HBY.out _ HB0.out).mono ?_;rintro e w1 ⟨la,lc,rfl,h1,h2⟩;(have HCA:=Bj3 h1);(have HB1:=Bj3 (HB0.out.st h2));(have e0:=Bj4 h2 d0);(have e1:=Bj4 h2 d1);clear h1 h2))
     obtain ⟨W1,hW1⟩:∃W1,W1=w1.alloc (Obj.cells #[.int .i64 0,.slice la 0 lc,.int .u64 0,.int .i64 0] 63):=⟨_,rfl⟩;rw [<-hW1];have hb1:Below w1.heap.size w1 W1:=by rw [hW1];exact Below.of_al _ _
     have HB1':=Bj3 (HB1.out.st hb1);have HCA1:=Bj3 (HCA.out.go hb1);have f0:=Bj4 hb1 e0;have f1:=Bj4 hb1 e1;have g0:W1.cell? ⟨w1.heap.size,0,none⟩=some (.int .i64 0):=by rw [hW1];go_simp
     have g1:W1.cell? ⟨w1.heap.size,1,none⟩=some (.slice la 0 lc):=by rw [hW1];go_simp
     have g2:W1.cell? ⟨w1.heap.size,2,none⟩=some (.int .u64 0):=by rw [hW1];go_simp
     have g3:W1.cell? ⟨w1.heap.size,3,none⟩=some (.int .i64 0):=by rw [hW1];go_simp
     clear hW1 hb1 d0 d1 e0 e1
     go_upto_region 5 with (go_at_call 34;refine (HRB.out _ HB1'.out).mono ?_;rintro e w2 ⟨lb,ld,rfl,h1,h2⟩;(have HCB:=Bj3 h1);(have HCA1':=Bj3 (HCA1.out.go h2));(have HB2x:=Bj3 (HB1'.out.st h2));(have e0:=Bj4 h2 f0);(have e1:=Bj4 h2 f1);(have m0:=Bj4 h2 g0);(have m1:=Bj4 h2 g1);(have m2:=Bj4 h2 g2);(have m3:=Bj4 h2 g3);clear h1 h2)
     obtain ⟨W2,hW2⟩:∃W2,W2=w2.alloc (Obj.cells #[.int .i64 0,.slice lb 0 ld,.int .u64 0,.int .i64 0] 66):=⟨_,rfl⟩;rw [<-hW2];have hb2:Below w2.heap.size w2 W2:=by rw [hW2];exact Below.of_al _ _
     have HB2:=Bj3 (HB2x.out.st hb2);have HCA2:=Bj3 (HCA1'.out.go hb2);have HCB2:=Bj3 (HCB.out.go hb2);have p0:=Bj4 hb2 e0;have p1:=Bj4 hb2 e1;have q0:=Bj4 hb2 m0;have q1:=Bj4 hb2 m1;have q2:=Bj4 hb2 m2;have q3:=Bj4 hb2 m3;have r0:W2.cell? ⟨w2.heap.size,0,none⟩=some (.int .i64 0):=by rw [hW2];go_simp
     have r1:W2.cell? ⟨w2.heap.size,1,none⟩=some (.slice lb 0 ld):=by rw [hW2];go_simp
     have r2:W2.cell? ⟨w2.heap.size,2,none⟩=some (.int .u64 0):=by rw [hW2];go_simp
     have r3:W2.cell? ⟨w2.heap.size,3,none⟩=some (.int .i64 0):=by rw [hW2];go_simp
     have hkk:((1:Int) != (1:Int))=false:=by simp
     clear hW2 hb2 e0 e1 m0 m1 m2 m3 f0 f1 g0 g1 g2 g3
     go_wp2_with (first
      |(go_at_call 35;refine (HSM.out _ _ _ _ _ HCA2.out HCB2.out).mono ?_;rintro e w3 ⟨rfl,hb3⟩;(have HB3:=Bj3 (HB2.out.st hb3));(have j0:=Bj4 hb3 p0);(have j1:=Bj4 hb3 p1);(have j2:=Bj4 hb3 q0);(have j3:=Bj4 hb3 q1);(have j4:=Bj4 hb3 q2);(have j5:=Bj4 hb3 q3);clear hb3)
      |(go_at_call 36;refine (HPZ.out _ _ _ HB3.out).mono ?_;rintro e w4 ⟨rfl,hb4⟩;(have HB4:=Bj3 (HB3.out.st hb4));clear hb4)
      |(go_at_call 32;refine (HAL.out _).mono ?_;rintro e w5 ⟨rfl,hb5⟩;(have HB5:=Bj3 (HB4.out.st hb5));clear hb5))
     go_ret
     exact ⟨rfl,HB5.out⟩
 ·have hli2:((decide (gn<=100)||decide (4096<gn))&&decide ((es.length:Int)<=300))=false:=by simpa using hli
  rw [hli2] at HLI;clear hli hli2 hc
  go_enter Tryz.func6,Tryz.ntmps6
  go_upto_region 1 with (fail)
  rw [<-HV.out]
  go_wp2_with (first
   |(go_at_call 31;refine HLI.out.mono ?_;rintro e w1 ⟨rfl,hb1⟩;(have HB1:=Bj3 hb1);clear hb1)
   |(go_at_call 32;refine (HAL.out _).mono ?_;rintro e w2 ⟨rfl,hb2⟩;(have HB2:=Bj3 hb2);clear hb2))
  go_ret
  exact ⟨rfl,HB.out.st (HB1.out.st HB2.out)⟩
end Vi
end
section
open Go.ChangeShapes Go.WideShapes Go.ChangeAt Go.RowKit
open Go.ChangeMaps (open_string shut_string)
section
variable {H:Type} {enc:TypeId×Value->H} {P:Program} {w:World}
theorem Qo {n:Int} (h:(Lit.int .i64 n).wf=true):-9223372036854775808<=n/\n<=9223372036854775807:=by
 simp [Lit.wf,IntKind.min,IntKind.max,IntKind.signed,IntKind.bits] at h;omega
end
end
section
open Go.ChangeShapes Go.WideShapes Go.ChangeAt Go.RowKit Go.Deep
instance:Inhabited EdgeD:=⟨⟨0,0,0⟩⟩
section
variable {H:Type} {enc:TypeId×Value->H} {P:Program} {w:World}
theorem At6 {t e:TypeId} {f0 f1 f2:Field} {fuel:Nat} {v:Value} {x:DataW H×List MemPlace} (ht:P.underlying t=some (.slice e)) (he:P.underlying e=some (.struct #[f0,f1,f2]))
  (hi:P.underlying f0.type=some (.int .i64)) (hu:P.underlying f2.type=some (.int .u64)) (ce:P.cellsOf e=3) (ho:(f0.offset,f1.offset,f2.offset,f1.type)=(0,1,2,f0.type)) (hcs:(P.cellsOf f0.type,P.cellsOf f2.type)=(1,1))
  (h:DataW.trod enc P w 0 (fun _=>true) true fuel t [v]=some x):
  ∃(ao:Option Addr) (cap:Nat) (es:List EdgeD),v=.slice ao es.length cap/\Cel w ao (Ar es)/\es.length<=9223372036854775807/\∀y∈es,(Lit.int .i64 y.f).wf=true/\(Lit.int .i64 y.t).wf=true/\(Lit.int .u64 y.w).wf=true:=by
 simp only [Prod.mk.injEq] at ho hcs;obtain ⟨o0,o1,o2,t1⟩:=ho;obtain ⟨c0,c2⟩:=hcs
 rcases open_slice ht h with ⟨hcs,_⟩|⟨a,len,cap,m,n,D,Pl,hcs,_,hl,hm,hmm,_,hx⟩
 ·simp at hcs
  subst hcs;exact ⟨none,0,[],rfl,Cel.nil _ _,by simp,by simp⟩
 ·simp at hcs
  subst hcs;have hmc:m=cap:=by rw [hmm];rfl
  have each:∀i,i<len->∃y:EdgeD,w.cell? (a.add (i*3))=some (.int .i64 y.f)/\w.cell? (a.add (i*3+1))=some (.int .i64 y.t)/\w.cell? (a.add (i*3+2))=some (.int .u64 y.w)/\
    (Lit.int .i64 y.f).wf=true/\(Lit.int .i64 y.t).wf=true/\(Lit.int .u64 y.w).wf=true:=by
   intro i hil;obtain ⟨cs',h1,h2⟩:=hx i (by omega);rw [ce] at h1;obtain ⟨_,hlen,hcell⟩:=World.cells?_some h1;obtain ⟨xs,k,hk,hxy,_,hxl,hf⟩:=DataW.trod_struct he h2
   match xs,hxl,cs',hlen,hf,hcell with
   |[y0,y1,y2],_,[v0,v1,v2],_,hf,hcell=>
    have g0:=hf 0 f0 rfl;have g1:=hf 1 f1 rfl;have g2:=hf 2 f2 rfl;simp [o0,o1,o2,c0,c2,t1] at g0 g1 g2;have e0:=hcell 0 (by omega);have e1:=hcell 1 (by omega);have e2:=hcell 2 (by omega);rw [add_add] at e0 e1 e2;simp at e0 e1 e2;obtain ⟨a0,q0,_,w0⟩:=DataW.trod_int hi g0;obtain ⟨a1,q1,_,w1⟩:=DataW.trod_int hi g1;obtain ⟨a2,q2,_,w2⟩:=DataW.trod_int hu g2;simp at q0 q1 q2;subst q0 q1 q2;exact ⟨⟨a0,a1,a2⟩,e0,e1,e2,w0,w1,w2⟩
  obtain ⟨q,hq⟩:=choose_lt each;have hes:((List.range len).map q).length=len:=by simp
  refine ⟨some a,cap,(List.range len).map q,by rw [hes],?_,by rw [hes];unfold maxLen at hm;omega,?_⟩
  ·intro i u hu
   have hlt:i<len*3:=by
    have:=(Bk6.1 hu).1;rw [Jy,hes] at this;exact this
   have hd:i / 3<len:=by omega
   obtain ⟨r0,r1,r2,_,_,_⟩:=hq (i / 3) hd;obtain ⟨s0,s1,s2⟩:=Sc ((List.range len).map q) (i / 3) (by simpa using hd);simp only [List.getElem_map,List.getElem_range] at s0 s1 s2;have hcl:w.cell? (a.add i)=some u:=by
    have hm3:i=i / 3*3\/i=i / 3*3+1\/i=i / 3*3+2:=by omega
    rcases hm3 with e|e|e
    ·rw [e] at hu ⊢
     rw [s0] at hu
     cases hu
     exact r0
    ·rw [e] at hu ⊢
     rw [s1] at hu
     cases hu
     exact r1
    ·rw [e] at hu ⊢
     rw [s2] at hu
     cases hu
     exact r2
   have h0:=(hq 0 (by omega)).1;obtain ⟨b,o,s⟩:=a
   cases s with
   |none=>exact ⟨b,o,rfl,by rw [Addr.add_lit] at hcl;exact hcl⟩
   |some sp=>
    have:w.cell? ((⟨b,o,some sp⟩:Addr).add (0*3))=none:=by
     unfold World.cell? Addr.add;rw [if_pos rfl]
     split<;>simp
    rw [this] at h0
    cases h0
  ·intro y hy
   obtain ⟨i,hi,rfl⟩:=List.mem_map.1 hy;exact (hq i (by simpa using hi)).2.2.2
end
end
end Go.Proofs.YteaaapdjplbljaaGreat
