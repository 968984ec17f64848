/- Parts; no condition. -/
import Derived.Test.YteaaapdjplbljaaGreatVb46
import Derived.Test.YteaaapdjplbljaaGreatVb47
set_option linter.unusedVariables false
set_option linter.unusedSimpArgs false
set_option linter.unnecessarySimpa false
set_option maxRecDepth 100000
set_option maxHeartbeats 8000000
namespace Go.Proofs.YteaaapdjplbljaaGreat
namespace Vi
open Go Go.Proofs Go.RowKit Go.Shelf Hp Ch Ad Ro Dj
theorem Xa (g:GD) (ao:Option Addr) (cap:Nat) (h1 s1:Int) (ro:Option Addr) (r:List Int) (rc:Nat) (s t:Int) (w:World) (hc:Cel w ao (Ay g.es)) (hr:Cel w ro (r.map Ai)):
  Calls Tryz.prog 7 #[.agg #[.int .i64 g.n,.slice ao g.es.length cap],.agg #[.int .i64 h1,.int .i64 s1,.slice ro r.length rc],.int .i64 s,.int .i64 t] w fun e w'=>e=.returned (.bool true)/\Below w.heap.size w w':=by
 obtain ⟨V,hV⟩:∃V,V=(w.alloc (Obj.cells #[.int .i64 g.n,.slice ao g.es.length cap] 24)).alloc (Obj.cells #[.int .i64 h1,.int .i64 s1,.slice ro r.length rc] 27):=⟨_,rfl⟩;have hbV:Below w.heap.size w V:=by rw [hV];exact (Below.of_al _ _).al _
 have HQ:=Bm0 (show QB1 V w.heap.size g ao cap h1 s1 ro r rc by rw [hV];constructor<;>go_simp);have HAL:=Bm0 Zw;have HLI:=Bm0 (Yo g.n g.es ao cap V);have HB:=Bm0 hbV;have HV:=Bm0 hV;obtain ⟨p0,p1,p2,p3,p4⟩:=HQ.out;have HCS:=Bm0 (And.intro (hc.go hbV) (hr.go hbV));clear hbV hV hc hr
 cases hl:Mx g.n g.es with
 |false=>
  rw [hl] at HLI;clear hl
  go_enter Tryz.func7,Tryz.ntmps7
  go_upto_region 1 with (fail)
  rw [<-HV.out]
  go_wp2_with (first
   |(go_at_call 11;refine HLI.out.mono ?_;rintro e w1 ⟨rfl,hb1⟩;(have HB1:=Bm0 (HB.out.st hb1));clear hb1)
   |(go_at_call 32;refine (HAL.out _).mono ?_;rintro e w2 ⟨rfl,hb2⟩;(have HB2:=Bm0 (HB1.out.st hb2));clear hb2))
  go_ret
  exact ⟨rfl,HB2.out⟩
 |true=>
  obtain ⟨hg,hes⟩:=Tn hl;have HG:=Bm0 hg;rw [hl] at HLI;clear hl hg
  by_cases hr6:(60:Int)<(r.length:Int)
  ·go_enter Tryz.func7,Tryz.ntmps7
   go_upto_region 1 with (fail)
   rw [<-HV.out]
   go_wp2_with (first
    |(go_at_call 11;refine HLI.out.mono ?_;rintro e w1 ⟨rfl,hb1⟩;(have HB1:=Bm0 (HB.out.st hb1));(have k4:=Bm1 hb1 p4);clear hb1)
    |(go_at_call 32;refine (HAL.out _).mono ?_;rintro e w2 ⟨rfl,hb2⟩;(have HB2:=Bm0 (HB1.out.st hb2));clear hb2))
   go_ret
   exact ⟨rfl,HB2.out⟩
  ·have HBA:=Bm0 (fun W (hz:Below V.heap.size V W)=>Vh g ao ro cap rc h1 s1 r W (HCS.out.1.go hz) (HCS.out.2.go hz) (fun k=>by have:=HG.out k;omega) (by omega) (by omega))
   have HZ:=Bm0 (fun k:Cg g h1 s1 r=0=>Zr k);generalize Cg g h1 s1 r=k1 at*
   by_cases e1:k1=0
   ·subst e1
    have hgz:=HZ.out rfl;have hn:=HG.out hgz;have hgn:=Ke hgz;obtain ⟨n,hnn⟩:∃n:Nat,g.n=(n:Int):=⟨g.n.toNat,by omega⟩;obtain ⟨gn,es⟩:=g;simp only at hnn hn hes;subst hnn;have hn12:n<=12:=by omega
    have hes40:es.length<=40:=by omega
    have HGZ:=Bm0 hgz;have HA:=Bm0 (Bk1 hgz);clear hgz HZ
    go_enter Tryz.func7,Tryz.ntmps7
    go_upto_region 1 with (fail)
    rw [<-HV.out]
    go_upto_region 3 with (go_at_call 11;refine HLI.out.mono ?_;rintro e w1 ⟨rfl,hb1⟩;(have HB1:=Bm0 hb1);(obtain ⟨x0,x1,x2,x3,x4⟩:=HQ.out.go hb1);clear hb1)
    go_upto_region 4 with (go_at_call 13;refine (HBA.out _ HB1.out).mono ?_;rintro e w2 hp2;(obtain ⟨hb,R,S,po,rfl,hbh,hb2⟩:=hp2.good rfl HGZ.out hn);(have HH:=Bm0 (show BH w2 hb n es R S po from hbh));(have HB2:=Bm0 (HB1.out.st hb2));(have z0:=Bm1 hb2 x0);(have z1:=Bm1 hb2 x1);clear hb2 hp2 hbh)
    clear x0 x1 x2 x3 x4 p0 p1 p2 p3 p4;have HN1:=Bm0 (Jh hb n es R S po s t w2 HH.out);have HN2:=Bm0 (fun W (hz:Below w2.heap.size w2 W)=>Am1 hb n es R S po s t W (HH.out.go hz) HGZ.out (Bm4 hes40 (by decide)));have HHI:=Bm0 (fun W (hz:Below w2.heap.size w2 W)=>Lj hb n es R S _ _ W (HH.out.go hz).mem (by omega));have HRL:=Bm0 HH.out.ok.len;have HN3:=Bm0 (fun (ra:Option Addr) (rq:Nat) W (hz:Below V.heap.size V W) (hR:Cel W ra (R.map Ai))=>Ud n es R S po ao ra cap rq s t W HGZ.out HH.out.ok hn12 hes40 (HCS.out.1.go hz) hR);have HN4:=Bm0 (fun (ra:Option Addr) (rq:Nat) W (hz:Below V.heap.size V W) (hR:Cel W ra (R.map Ai))=>Vx n es R S po ao ra cap rq s t W HGZ.out HH.out.ok hn12 hes40 (HCS.out.1.go hz) hR);unfold Jz at HN1 HN3;unfold Sx at HN2 HN4;unfold Pg at HHI
    go_upto_region 5 with (go_at_call 38;refine HN1.out.mono ?_;rintro e w3 ⟨a3,c3,L,k,rfl,q1,q2,q3⟩;(have HC3:=Bm0 q1);(have HB3:=Bm0 q2);(have HI3:=Bm0 q3);(have y0:=Bm1 q2 z0);(have y1:=Bm1 q2 z1);clear q1 q2 q3)
    go_upto_region 6 with (go_at_call 39;refine (HN2.out _ HB3.out).mono ?_;rintro e w4 ⟨a4,c4,xs,k',rfl,q1,q2,q3,L',q4,ys,q5,q6⟩;(obtain ⟨rfl,rfl⟩:=q4.uniq HI3.out);(have HC4:=Bm0 q1);(have HE4:=Bm0 q2);(have HB4:=Bm0 (HB3.out.st q3));(have HC34:=Bm0 (HC3.out.go q3));(have HY4:=Bm0 q5);(have HX4:=Bm0 q6);(have x0:=Bm1 q3 y0);(have x1:=Bm1 q3 y1);clear q1 q2 q3 q4 q5 q6)
    have HLL:=Bm0 (show (L'.length:Int)<=12 by
     rcases HI3.out with ⟨_,_,_,_,_,h,_⟩|⟨_,h,_⟩
     ·omega
     ·rw [h];simp)
    clear z0 z1 y0 y1
    go_upto_region 9 with (go_at_call 40;refine (HHI.out _ HB4.out).mono ?_;rintro e w5 ⟨ar,q1,b1,q2,rfl,k1,k2,hb5,kf1,kf2⟩;(have HR5:=Bm0 k1);(have HB5:=Bm0 hb5);(have y0:=Bm1 hb5 x0);(have y1:=Bm1 hb5 x1);clear k1 k2 hb5 kf1 kf2)
    obtain ⟨W5,hW5⟩:∃W5,W5=w5.alloc (Obj.cells #[.slice ar R.length q1,.slice b1 S.length q2] 81):=⟨_,rfl⟩;rw [<-hW5];have hb55:Below w5.heap.size w5 W5:=by rw [hW5];exact Below.of_al _ _
    have i0:W5.cell? ⟨w5.heap.size,0,none⟩=some (.slice ar R.length q1):=by rw [hW5];go_simp
    have j0:=Bm1 hb55 y0;have j1:=Bm1 hb55 y1;have HR6:=Bm0 (HR5.out.go hb55);have HB45:=Bm0 (HB5.out.st hb55);have HBV:=Bm0 (HB2.out.st (HB4.out.st HB45.out));have hlb:((R.length:Int) != (n:Int))=false:=by have:=HRL.out;simp;omega
    clear hW5 hb55 x0 x1 y0 y1 HHI HR5 HB5
    go_upto_region 12 with (go_at_call 41;refine (HN3.out ar q1 _ HBV.out HR6.out).mono ?_;rintro e w6 ⟨a6,c6,L6,k6,rfl,q1',q2',q3'⟩;(obtain ⟨rfl,rfl⟩:=HI3.out.uniq q3');(have HC6:=Bm0 q1');(have HB6:=Bm0 q2');(have HI6:=Bm0 q3');(have x0:=Bm1 q2' j0);(have x1:=Bm1 q2' j1);(have x2:=Bm1 q2' i0);clear q1' q2' q3')
    have HB46:=Bm0 (HB45.out.st HB6.out);have HBV6:=Bm0 (HBV.out.st HB6.out);have HR7:=Bm0 (HR6.out.go HB6.out);clear i0 j0 j1 hlb
    go_upto_region 13 with (go_at_call 42;refine (HN4.out ar q1 _ HBV6.out HR7.out).mono ?_;rintro e w7 ⟨a7,c7,xs7,k7,rfl,q1',q2',q3',L7,q4',ys7,q5',q6'⟩;(obtain ⟨rfl,rfl⟩:=HI3.out.uniq q4');(have HC7:=Bm0 q1');(have HE7:=Bm0 q2');(have HB7:=Bm0 q3');(have HALL:=Bm0 (show AllV xs xs7 by rw [HX4.out,q6'];exact Am7 (HY4.out.all HA.out q5')));(have HLN:=Bm0 (show xs7.length=xs.length from HALL.out.len.symm));rw [HLN.out];clear q1' q2' q3' q4' q5' q6' x0 x1 x2)
    have HB47:=Bm0 (HB46.out.st HB7.out);have HXL:=Bm0 (show ∀x∈xs,x.es.length<=1000000 from fun x hx=>by
     rw [HX4.out] at hx;obtain ⟨v,_,hv⟩:=Bf7 HY4.out ((Ty _).1 hx);have:=Bf6 HA.out hv;omega)
    have HLX:=Bm0 (show xs.length<=12 by rw [HX4.out,He,HY4.out.1];have:=HLL.out;omega);have HSM:=Bm0 (show Calls Tryz.prog 25 #[.slice a3 L'.length c3,.slice a6 L'.length c6] w7 (fun e w'=>e=.returned (.bool true)/\Below w7.heap.size w7 w') from (Mq a3 a6 c3 c6 L' L' w7 (by have:=HLL.out;omega) (by have:=HLL.out;omega) (HC34.out.go HB47.out) (HC6.out.go HB7.out)).mono (by rintro e w' ⟨rfl,nq,rfl⟩;exact ⟨by simp,Below.of_dr _ _⟩));have HC47:=Bm0 (HC4.out.go HB47.out);have hkk:(k' != k')=false:=by simp
    have hll:((xs.length:Int) != (xs.length:Int))=false:=by simp
    go_upto_region 15 with (go_at_call 25;refine HSM.out.mono ?_;rintro e w8 ⟨rfl,hb8⟩;(have HB8:=Bm0 hb8);clear hb8)
    clear hkk hll;have HBW:=Bm0 HB47.out;have HB28:=Bm0 (HBV6.out.st (HB7.out.st HB8.out));clear HN1 HN2 HN3 HN4 HSM HC3 HC34 HC6 HR6 HR7 HB3 HB4 HB45 HB46 HB47 HBV HBV6 HB6 HRL HI3 HI6
    go_wp2
    go_loopg [20] xs.length (fun gg v20 wr=>∃i:Nat,i<=xs.length/\xs.length-i<=gg/\v20=.int .i64 i/\Aside (Below w8.heap.size w8 wr))
    case atStart=>exact ⟨0,Bm3 _,by omega,rfl,Below.refl _ _⟩
    case round=>
     obtain ⟨i,hi,hgg,rfl,HBr⟩:=hrel;have hxl:=HLX.out
     by_cases hlt:i<xs.length
     ·have hlt2:(i:Int)<(xs.length:Int):=by omega
      have hi0:(0:Int)<=(i:Int):=by omega
      have h7:i<xs7.length:=by rw [HLN.out];exact hlt
      have hbr:=HB8.out.st HBr.out;obtain ⟨mb,mo,rfl,m0,m1,m2,m3⟩:=Cel.via (HC47.out.go hbr) hlt;obtain ⟨nb,no,rfl,n0,n1,n2,n3⟩:=Cel.via (HC7.out.go hbr) h7;obtain ⟨e1,e2,e3,e4⟩:=HALL.out.get i hlt h7;have hx:=(HE4.out _ (Bn2 hlt)).go (HBW.out.st hbr);have hy:=(HE7.out _ (Bn2 h7)).go hbr;have hxl1:=HXL.out _ (Bn2 hlt);rw [<-e1] at n0;rw [<-e2] at n1 hy;rw [<-e3] at n2;rw [<-e4] at n3;clear e1 e2 e3 e4;generalize xs7[i]=y at*;generalize xs[i]=x at*;obtain ⟨xv,xo,xc,xe,xw,xq⟩:=x;obtain ⟨yv,yo,yc,ye,yw,yq⟩:=y;simp only at m0 m1 m2 m3 n0 n1 n2 n3 hx hy hxl1;have HSV:=Bm0 (fun p=>Ab4 xv xw xq xo yo xc yc xe (ext wr p) hxl1 (hx.go (Ah wr p)) (hy.go (Ah wr p)));unfold Fl at HSV;have e0:=fun p=>Ab p m0;have e1:=fun p=>Ab p m1;have e2:=fun p=>Ab p m2;have e3:=fun p=>Ab p m3;have e4:=fun p=>Ab p n0;have e5:=fun p=>Ab p n1;have e6:=fun p=>Ab p n2;have e7:=fun p=>Ab p n3;clear hx hy hbr m0 m1 m2 m3 n0 n1 n2 n3 hxl1 hi h7
      go_upto_region 18 with fail
      refine Af (by kernel_rfl) (by kernel_rfl) ?_
      repeat (go_big_quiet_step ((go_at_call 35;exact Calls.ext_of (HSV.out _))))
      refine wpQuiet_nil ?_;rintro _ ⟨pa,rfl⟩;have HBa:=Bm0 (Ah wr pa);generalize ext wr pa=wa at HBa ⊢;clear e0 e1 e2 e3 e4 e5 e6 e7
      go_wp2
      go_roundg (xs.length-(i+1))
      case measure=>omega
      case rel=>exact ⟨i+1,by omega,Bm2 _,by go_num,HBr.out.st HBa.out⟩
     ·obtain rfl:i=xs.length:=by omega
      go_wp2_with (go_at_call 32;refine (HAL.out _).mono ?_;rintro e w9 ⟨rfl,hb9⟩;(have HB9:=Bm0 (HBr.out.st hb9));clear hb9)
      go_ret
      exact ⟨rfl,HB.out.st (HB28.out.st HB9.out)⟩
   ·have HE:=Bm0 e1
    have hk1:(k1 != 0)=true:=by simpa using e1
    clear e1
    go_enter Tryz.func7,Tryz.ntmps7
    go_upto_region 1 with (fail)
    rw [<-HV.out]
    go_wp2_with (first
     |(go_at_call 11;refine HLI.out.mono ?_;rintro e w1 ⟨rfl,hb1⟩;(have HB1:=Bm0 hb1);(obtain ⟨x0,x1,x2,x3,x4⟩:=HQ.out.go hb1);clear hb1)
     |(go_at_call 13;refine (HBA.out _ HB1.out).mono ?_;rintro e w2 hp2;(obtain ⟨rfl,hb2⟩:=hp2.nil HE.out);(have HB2:=Bm0 (HB1.out.st hb2));clear hb2 hp2)
     |(go_at_call 38;refine (Pk _ _ _).mono ?_;rintro e w3 ⟨rfl,hb3⟩;(have HB3:=Bm0 (HB2.out.st hb3));clear hb3)
     |(go_at_call 39;refine (Am0 _ _ _).mono ?_;rintro e w4 ⟨rfl,hb4⟩;(have HB4:=Bm0 (HB3.out.st hb4));clear hb4)
     |(go_at_call 32;refine (HAL.out _).mono ?_;rintro e w6 ⟨rfl,hb6⟩;(have HB6:=Bm0 (HB4.out.st hb6));clear hb6))
    go_ret
    exact ⟨rfl,HB.out.st HB6.out⟩
end Vi
end Go.Proofs.YteaaapdjplbljaaGreat
