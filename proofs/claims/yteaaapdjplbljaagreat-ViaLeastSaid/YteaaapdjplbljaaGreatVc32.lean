/- Parts; no condition. -/
import Derived.Test.YteaaapdjplbljaaGreatVc31
set_option linter.unusedVariables false
set_option linter.unusedSimpArgs false
set_option linter.unnecessarySimpa false
set_option maxRecDepth 100000
set_option maxHeartbeats 8000000
namespace Go.Proofs.YteaaapdjplbljaaGreat
open Go Go.Proofs Go.RowKit Go.Shelf Hp Ch
theorem Ac2 (x:LB) (B fb n:Nat) (f:List Int) (w:World) (hb:w.cell? ⟨B,0,none⟩=some (.slice (some ⟨fb,0,none⟩) n n)) (hc:Cel w (some ⟨fb,0,none⟩) (f.map Bz)) (hl:f.length=n) (hv:Aa n x.v):
  Calls Tryz.prog 146 (#[Im x]++#[.pointer (some ⟨B,0,none⟩)]) w fun e w'=>e=.returned (.bool (decide (gD f x.v<x.d)))/\Below w.heap.size w w':=by
 obtain ⟨xv,xd,xb⟩:=x;obtain ⟨v0,v1⟩:=hv;simp only at v0 v1 ⊢;obtain ⟨v,rfl⟩:∃v:Nat,xv=v:=⟨xv.toNat,by omega⟩;have hvl:v<n:=by omega
 have hg:w.cell? ⟨fb,v,none⟩=some (.int .u64 (gD f (v:Int))):=by
  obtain ⟨b,o,e,h1⟩:=hc v (.int .u64 (gD f (v:Int))) (by
   rw [Bk4,Bj0 (by omega)];unfold gD;rw [Bj9,Bj1,Bj0 (by omega)];rfl)
  cases e
  rw [Nat.zero_add] at h1;exact h1
 generalize gD f (v:Int)=g at*;obtain ⟨W,hW⟩:∃W,W=w.alloc (Obj.cells #[.int .i64 (v:Int),.int .u64 xd,.int .i64 xb] 150):=⟨_,rfl⟩;have hbw:Below w.heap.size w W:=by rw [hW];exact Below.of_al _ _
 have c0:W.cell? ⟨w.heap.size,0,none⟩=some (.int .i64 (v:Int)):=by rw [hW];go_simp
 have c1:W.cell? ⟨w.heap.size,1,none⟩=some (.int .u64 xd):=by rw [hW];go_simp
 have e0:=fun p=>Ac p c0;have e1:=fun p=>Ac p c1;have cB:=Bi6 hbw hb;have cG:=Bi6 hbw hg;have e2:=fun p=>Ac p cB;have e3:=fun p=>Ac p cG;have HW:=Bi5 hW;have HB:=Bi5 hbw;unfold Im;clear hW hbw hb hc hg hl
 go_enter Tryz.func146,Tryz.ntmps146
 go_upto_region 1 with (fail)
 rw [<-HW.out];refine Ag (by kernel_rfl) (by kernel_rfl) ?_
 repeat (go_big_quiet_step (fail))
 refine wpQuiet_nil ?_;rintro _ ⟨pq,rfl⟩;have HBq:=Bi5 (Ah W pq);generalize ext W pq=wq at HBq ⊢
 go_wp2
 go_ret
 exact ⟨rfl,HB.out.st HBq.out⟩
theorem Am7 (hb n:Nat) (es:List EdgeD) (R:List Int) (S:List SC) (O I:List (List Int)) (l:List LB) (ao:Option Addr) (cap:Nat) (a:LB) (back:Bool) (w:World) (hh:HierM w hb n es R S O I) (hends:∀x∈S,Aa n x.f/\Aa n x.t/\0<=x.w/\x.w<=1152921504606846976)
  (hc:Cel w ao (Ao l)) (hl:l.length<=1000000) (hd:∀x∈l,0<=x.d/\x.d<=1152921504606846976):
  Calls Tryz.prog 147 #[.agg #[.pointer (some ⟨hb,0,none⟩),.bool back],.slice ao l.length cap,Im a] w fun e w'=>e=.returned (.int .i64 (El R S (Ev l) back a.v a.d))/\Below w.heap.size w w':=by
 obtain ⟨W,hW⟩:∃W,W=(w.alloc (Obj.cells #[.pointer (some ⟨hb,0,none⟩),.bool back] 228)).alloc (Obj.cells #[.int .i64 a.v,.int .u64 a.d,.int .i64 a.b] 150):=⟨_,rfl⟩;have hbw:Below w.heap.size w W:=by rw [hW];exact (Below.of_al _ _).al _
 have c0:W.cell? ⟨w.heap.size,0,none⟩=some (.pointer (some ⟨hb,0,none⟩)):=by rw [hW];go_simp
 have c1:W.cell? ⟨w.heap.size,1,none⟩=some (.bool back):=by rw [hW];go_simp
 have c2:W.cell? ⟨w.heap.size+1,0,none⟩=some (.int .i64 a.v):=by rw [hW];go_simp
 have c3:W.cell? ⟨w.heap.size+1,1,none⟩=some (.int .u64 a.d):=by rw [hW];go_simp
 have HH:=Bi5 (hh.go hbw);have HC:=Bi5 (hc.go hbw);have HEN:=Bi5 hends;have HD:=Bi5 hd;have HSZ:=Bi5 (Wn hb n es R S O I W (hh.go hbw));have HW:=Bi5 hW;have HB0:=Bi5 hbw;have hsl:=hh.small.2.1;have hsl2:(S.length:Int)<=1000000:=by omega
 obtain ⟨res,hres⟩:∃res,res=El R S (Ev l) back a.v a.d:=⟨_,rfl⟩;have HRE:=Bi5 hres;rw [<-hres];unfold Im;clear hh hc hends hd hW hbw hres
 go_enter Tryz.func147,Tryz.ntmps147
 go_upto_region 1 with (fail)
 rw [<-HW.out]
 go_wp2_with (go_at_call 201;refine HSZ.out.mono ?_;rintro e w1 ⟨rfl,rfl⟩)
 go_loopg [17] S.length (fun gg v17 wr=>∃k:Nat,k<=S.length/\S.length-k<=gg/\v17=.int .i64 k/\Aside (Below W.heap.size W wr)/\Aside (∀j (h:j<S.length),j<k->Pj R (Ev l) back a.v a.d S[j]=false))
 case atStart=>exact ⟨0,Bi8 _,by omega,rfl,Below.refl _ _,fun j _ h=>absurd h (Nat.not_lt_zero _)⟩
 case round=>
  obtain ⟨k,hk,hgg,rfl,HB,HN⟩:=hrel
  by_cases hlt:k<S.length
  ·have hlt3:(k:Int)<(S.length:Int):=by omega
   have hk0:(0:Int)<=(k:Int):=by omega
   have HS1:=Bi5 (Lv hb n es R S O I wr (HH.out.go HB.out) k hlt);obtain ⟨⟨p0,p1⟩,⟨q0,q1⟩,w0,w1⟩:=HEN.out _ (Bj7 hlt);have HHT:=Bi5 (fun h:Pj R (Ev l) back a.v a.d S[k]=true=>Am9 hlt h (fun j hj=>HN.out j (by omega) hj));have HHF:=Bi5 (fun h:Pj R (Ev l) back a.v a.d S[k]=false=>(fun j (h1:j<S.length) (h2:j<k+1)=>(by
    by_cases e:j=k
    ·subst e;exact h
    ·exact HN.out j h1 (by omega):Pj R (Ev l) back a.v a.d S[j]=false)))
   generalize S[k]=x at*;obtain ⟨xf,xt,xw,xe,xa,xb⟩:=x;simp only [scV] at p0 p1 q0 q1 w0 w1 HS1;obtain ⟨fn,rfl⟩:∃fn:Nat,xf=fn:=⟨xf.toNat,by omega⟩;obtain ⟨tn,rfl⟩:∃tn:Nat,xt=tn:=⟨xt.toNat,by omega⟩;have hfn:fn<n:=by omega
   have htn:tn<n:=by omega
   have b0:=Bi6 HB.out c0;have b1:=Bi6 HB.out c1;have b2:=Bi6 HB.out c2;have b3:=Bi6 HB.out c3
   go_upto_region 5 with (go_at_call 202;refine HS1.out.mono ?_;rintro e w2 ⟨rfl,hb2⟩;(have d0:=Bi6 hb2 b0);(have d1:=Bi6 hb2 b1);(have d2:=Bi6 hb2 b2);(have d3:=Bi6 hb2 b3);(have HB2:=Bi5 (HB.out.st hb2));clear hb2)
   obtain ⟨W5,hW5⟩:∃W5,W5=w2.alloc (Obj.cells #[.int .i64 (fn:Int),.int .i64 (tn:Int),.int .u64 xw,.int .i64 xe,.int .i64 xa,.int .i64 xb] 187):=⟨_,rfl⟩;rw [<-hW5];have hb25:Below w2.heap.size w2 W5:=by rw [hW5];exact Below.of_al _ _
   have s0:W5.cell? ⟨w2.heap.size,0,none⟩=some (.int .i64 (fn:Int)):=by rw [hW5];go_simp
   have s1:W5.cell? ⟨w2.heap.size,1,none⟩=some (.int .i64 (tn:Int)):=by rw [hW5];go_simp
   have s2:W5.cell? ⟨w2.heap.size,2,none⟩=some (.int .u64 xw):=by rw [hW5];go_simp
   have HB5:=Bi5 (HB2.out.st hb25);have g0:=Bi6 hb25 d0;have g1:=Bi6 hb25 d1;have g2:=Bi6 hb25 d2;have g3:=Bi6 hb25 d3;have x0:=fun p=>Ac p s0;have x1:=fun p=>Ac p s1;clear hb25 hW5 d0 d1 d2 d3 b0 b1 b2 b3 c0 c1 c2 c3 HS1 HSZ HW HN;refine Ag (by kernel_rfl) (by kernel_rfl) ?_
   repeat (go_big_quiet_step (fail))
   refine wpQuiet_nil ?_;rintro _ ⟨pa,rfl⟩;have HBa:=Bi5 (Ah W5 pa);generalize ext W5 pa=wa at HBa ⊢;have r0:=Bi6 HBa.out g0;have r1:=Bi6 HBa.out g1;have r2:=Bi6 HBa.out g2;have r3:=Bi6 HBa.out g3;have r4:=Bi6 HBa.out s2;have HB6:=Bi5 (HB5.out.st HBa.out);clear x0 x1 g0 g1 g2 g3 s0 s1 s2 HB5 HB2
   cases back with
   |false=>
    have HE:=Bi5 (show Pj R (Ev l) false a.v a.d ⟨(fn:Int),(tn:Int),xw,xe,xa,xb⟩=(decide ((tn:Int)=a.v)&&decide (rAt R (fn:Int)<rAt R (tn:Int))&&(match Ev l (fn:Int) with|some e=>decide (e+xw=a.d)|none=>false)) from rfl);have HR1:=Bi5 (fun p=>Jy hb n es R S O I (ext wa p) (HH.out.go (HB6.out.st (Ah wa p))) fn hfn);have HR2:=Bi5 (fun p=>Jy hb n es R S O I (ext wa p) (HH.out.go (HB6.out.st (Ah wa p))) tn htn);have HFI:=Bi5 (fun W' (hz:Below W.heap.size W W')=>Yi l ao cap (fn:Int) W' (HC.out.go hz) hl);have HLN:=Bi5 (fun h=>Qz (l:=l) (u:=(fn:Int)) h);have HLS:=Bi5 (fun h=>Qy (l:=l) (u:=(fn:Int)) h);generalize rAt R (fn:Int)=rf at*;generalize rAt R (tn:Int)=rt at*;have y0:=fun p=>Ac p r0;have y2:=fun p=>Ac p r2
    go_upto_region 8 with (fail)
    by_cases he:(tn:Int)=a.v
    ·have hnb:((tn:Int) != a.v)=false:=by simp [he]
     by_cases hrk:rt<=rf
     ·have HF2:=Bi5 (HHF.out (by rw [HE.out,decide_eq_false (show ¬rf<rt by omega),Bool.and_false,Bool.false_and]))
      clear HHT HHF HE HLN HLS HFI he;refine Ag (by kernel_rfl) (by kernel_rfl) ?_
      repeat (go_big_quiet_step (first
       |(go_at_call_of 203 (#[.pointer (some ⟨hb,0,none⟩),.int .i64 (fn:Int)]:Array Value);exact Calls.ext_of_same (HR1.out _))
       |(go_at_call_of 203 (#[.pointer (some ⟨hb,0,none⟩),.int .i64 (tn:Int)]:Array Value);exact Calls.ext_of_same (HR2.out _))))
      refine wpQuiet_nil ?_;rintro _ ⟨pc,rfl⟩;have HBc:=Bi5 (Ah wa pc);generalize ext wa pc=wc at HBc ⊢;clear y0 y2 r0 r1 r2 r3 r4
      go_wp2
      go_roundg (S.length-(k+1))
      case measure=>omega
      case rel=>exact ⟨k+1,by omega,Bi7 _,by go_num,HB6.out.st HBc.out,HF2.out⟩
     ·have hd1:decide (rf<rt)=true:=decide_eq_true (by omega)
      have hd2:decide ((tn:Int)=a.v)=true:=decide_eq_true he;rw [hd1,hd2,Bool.true_and,Bool.true_and] at HE;clear hd1 hd2 he;refine Ag (by kernel_rfl) (by kernel_rfl) ?_
      repeat (go_big_quiet_step (first
       |(go_at_call_of 203 (#[.pointer (some ⟨hb,0,none⟩),.int .i64 (fn:Int)]:Array Value);exact Calls.ext_of_same (HR1.out _))
       |(go_at_call_of 203 (#[.pointer (some ⟨hb,0,none⟩),.int .i64 (tn:Int)]:Array Value);exact Calls.ext_of_same (HR2.out _))))
      refine wpQuiet_nil ?_;rintro _ ⟨pc,rfl⟩;have HBc:=Bi5 (Ah wa pc);generalize ext wa pc=wc at HBc ⊢;have k3:=Bi6 HBc.out r3;have k4:=Bi6 HBc.out r4;have HBd:=Bi5 (HB6.out.st HBc.out);clear y0 y2 r0 r1 r2 r3 r4 hrk HR1 HR2
      cases hi:Ie l (fn:Int) with
      |false=>
       have HF2:=Bi5 (HHF.out (by rw [HE.out,HLN.out hi]));rw [hi] at HFI;clear HHT HHF HE HLN HLS hi;generalize Gz l (fn:Int)=y at*;obtain ⟨yv,yd,yb⟩:=y;simp only [Im] at HFI
       go_wp2_with (go_at_call 204;refine (HFI.out _ HBd.out).mono ?_;rintro e w7 ⟨rfl,hb7⟩;(have HB7:=Bi5 (HBd.out.st hb7));clear hb7)
       go_roundg (S.length-(k+1))
       case measure=>omega
       case rel=>exact ⟨k+1,by omega,Bi7 _,by go_num,HB7.out.st (Below.of_al _ _),HF2.out⟩
      |true=>
       obtain ⟨h1,h2,-⟩:=HLS.out hi;rw [h1] at HE;rw [hi] at HFI;obtain ⟨e0,e1⟩:=HD.out _ h2;clear HLN HLS h1 h2 hi;generalize Gz l (fn:Int)=y at*;obtain ⟨yv,yd,yb⟩:=y;simp only [Im] at HFI;simp only at e0 e1 HE
       by_cases hs:yd+xw=a.d
       ·have HT2:=Bi5 (HHT.out (by rw [HE.out];exact decide_eq_true hs))
        clear HHT HHF HE;have hsb:(yd+xw==a.d)=true:=by simp [hs]
        clear hs
        go_wp2_with (go_at_call 204;refine (HFI.out _ HBd.out).mono ?_;rintro e w7 ⟨rfl,hb7⟩;(have HB7:=Bi5 (HBd.out.st hb7));(have k37:=Bi6 hb7 k3);(have k47:=Bi6 hb7 k4);(have j3:=Bi6 (Below.of_al w7 (Obj.cells #[.int .i64 yv,.int .u64 yd,.int .i64 yb] 150)) k37);(have j4:=Bi6 (Below.of_al w7 (Obj.cells #[.int .i64 yv,.int .u64 yd,.int .i64 yb] 150)) k47);clear hb7 k37 k47)
        go_ret
        exact ⟨by rw [HRE.out,HT2.out];rfl,HB0.out.st (HB7.out.st (Below.of_al _ _))⟩
       ·have HF2:=Bi5 (HHF.out (by rw [HE.out];exact decide_eq_false hs))
        clear HHT HHF HE;have hsb:(yd+xw==a.d)=false:=by simp [hs]
        clear hs
        go_wp2_with (go_at_call 204;refine (HFI.out _ HBd.out).mono ?_;rintro e w7 ⟨rfl,hb7⟩;(have HB7:=Bi5 (HBd.out.st hb7));(have k37:=Bi6 hb7 k3);(have k47:=Bi6 hb7 k4);(have j3:=Bi6 (Below.of_al w7 (Obj.cells #[.int .i64 yv,.int .u64 yd,.int .i64 yb] 150)) k37);(have j4:=Bi6 (Below.of_al w7 (Obj.cells #[.int .i64 yv,.int .u64 yd,.int .i64 yb] 150)) k47);clear hb7 k37 k47)
        go_roundg (S.length-(k+1))
        case measure=>omega
        case rel=>exact ⟨k+1,by omega,Bi7 _,by go_num,HB7.out.st (Below.of_al _ _),HF2.out⟩
    ·have hnb:((tn:Int) != a.v)=true:=by simp [he]
     have HF2:=Bi5 (HHF.out (by rw [HE.out,decide_eq_false he,Bool.false_and,Bool.false_and]));clear HHT HHF HE HLN HLS HFI HR1 HR2;refine Ag (by kernel_rfl) (by kernel_rfl) ?_
     repeat (go_big_quiet_step (fail))
     refine wpQuiet_nil ?_;rintro _ ⟨pc,rfl⟩;have HBc:=Bi5 (Ah wa pc);generalize ext wa pc=wc at HBc ⊢;clear y0 y2 r0 r1 r2 r3 r4
     go_wp2
     go_roundg (S.length-(k+1))
     case measure=>omega
     case rel=>exact ⟨k+1,by omega,Bi7 _,by go_num,HB6.out.st HBc.out,HF2.out⟩
   |true=>
    have HE:=Bi5 (show Pj R (Ev l) true a.v a.d ⟨(fn:Int),(tn:Int),xw,xe,xa,xb⟩=(decide ((fn:Int)=a.v)&&decide (rAt R (tn:Int)<rAt R (fn:Int))&&(match Ev l (tn:Int) with|some e=>decide (e+xw=a.d)|none=>false)) from rfl);have HR1:=Bi5 (fun p=>Jy hb n es R S O I (ext wa p) (HH.out.go (HB6.out.st (Ah wa p))) tn htn);have HR2:=Bi5 (fun p=>Jy hb n es R S O I (ext wa p) (HH.out.go (HB6.out.st (Ah wa p))) fn hfn);have HFI:=Bi5 (fun W' (hz:Below W.heap.size W W')=>Yi l ao cap (tn:Int) W' (HC.out.go hz) hl);have HLN:=Bi5 (fun h=>Qz (l:=l) (u:=(tn:Int)) h);have HLS:=Bi5 (fun h=>Qy (l:=l) (u:=(tn:Int)) h);generalize rAt R (tn:Int)=rf at*;generalize rAt R (fn:Int)=rt at*;have y0:=fun p=>Ac p r0;have y2:=fun p=>Ac p r2
    go_upto_region 8 with (fail)
    by_cases he:(fn:Int)=a.v
    ·have hnb:((fn:Int) != a.v)=false:=by simp [he]
     by_cases hrk:rt<=rf
     ·have HF2:=Bi5 (HHF.out (by rw [HE.out,decide_eq_false (show ¬rf<rt by omega),Bool.and_false,Bool.false_and]))
      clear HHT HHF HE HLN HLS HFI he;refine Ag (by kernel_rfl) (by kernel_rfl) ?_
      repeat (go_big_quiet_step (first
       |(go_at_call_of 203 (#[.pointer (some ⟨hb,0,none⟩),.int .i64 (tn:Int)]:Array Value);exact Calls.ext_of_same (HR1.out _))
       |(go_at_call_of 203 (#[.pointer (some ⟨hb,0,none⟩),.int .i64 (fn:Int)]:Array Value);exact Calls.ext_of_same (HR2.out _))))
      refine wpQuiet_nil ?_;rintro _ ⟨pc,rfl⟩;have HBc:=Bi5 (Ah wa pc);generalize ext wa pc=wc at HBc ⊢;clear y0 y2 r0 r1 r2 r3 r4
      go_wp2
      go_roundg (S.length-(k+1))
      case measure=>omega
      case rel=>exact ⟨k+1,by omega,Bi7 _,by go_num,HB6.out.st HBc.out,HF2.out⟩
     ·have hd1:decide (rf<rt)=true:=decide_eq_true (by omega)
      have hd2:decide ((fn:Int)=a.v)=true:=decide_eq_true he;rw [hd1,hd2,Bool.true_and,Bool.true_and] at HE;clear hd1 hd2 he;refine Ag (by kernel_rfl) (by kernel_rfl) ?_
      repeat (go_big_quiet_step (first
       |(go_at_call_of 203 (#[.pointer (some ⟨hb,0,none⟩),.int .i64 (tn:Int)]:Array Value);exact Calls.ext_of_same (HR1.out _))
       |(go_at_call_of 203 (#[.pointer (some ⟨hb,0,none⟩),.int .i64 (fn:Int)]:Array Value);exact Calls.ext_of_same (HR2.out _))))
      refine wpQuiet_nil ?_;rintro _ ⟨pc,rfl⟩;have HBc:=Bi5 (Ah wa pc);generalize ext wa pc=wc at HBc ⊢;have k3:=Bi6 HBc.out r3;have k4:=Bi6 HBc.out r4;have HBd:=Bi5 (HB6.out.st HBc.out);clear y0 y2 r0 r1 r2 r3 r4 hrk HR1 HR2
      cases hi:Ie l (tn:Int) with
      |false=>
       have HF2:=Bi5 (HHF.out (by rw [HE.out,HLN.out hi]));rw [hi] at HFI;clear HHT HHF HE HLN HLS hi;generalize Gz l (tn:Int)=y at*;obtain ⟨yv,yd,yb⟩:=y;simp only [Im] at HFI
       go_wp2_with (go_at_call 204;refine (HFI.out _ HBd.out).mono ?_;rintro e w7 ⟨rfl,hb7⟩;(have HB7:=Bi5 (HBd.out.st hb7));clear hb7)
       go_roundg (S.length-(k+1))
       case measure=>omega
       case rel=>exact ⟨k+1,by omega,Bi7 _,by go_num,HB7.out.st (Below.of_al _ _),HF2.out⟩
      |true=>
       obtain ⟨h1,h2,-⟩:=HLS.out hi;rw [h1] at HE;rw [hi] at HFI;obtain ⟨e0,e1⟩:=HD.out _ h2;clear HLN HLS h1 h2 hi;generalize Gz l (tn:Int)=y at*;obtain ⟨yv,yd,yb⟩:=y;simp only [Im] at HFI;simp only at e0 e1 HE
       by_cases hs:yd+xw=a.d
       ·have HT2:=Bi5 (HHT.out (by rw [HE.out];exact decide_eq_true hs))
        clear HHT HHF HE;have hsb:(yd+xw==a.d)=true:=by simp [hs]
        clear hs
        go_wp2_with (go_at_call 204;refine (HFI.out _ HBd.out).mono ?_;rintro e w7 ⟨rfl,hb7⟩;(have HB7:=Bi5 (HBd.out.st hb7));(have k37:=Bi6 hb7 k3);(have k47:=Bi6 hb7 k4);(have j3:=Bi6 (Below.of_al w7 (Obj.cells #[.int .i64 yv,.int .u64 yd,.int .i64 yb] 150)) k37);(have j4:=Bi6 (Below.of_al w7 (Obj.cells #[.int .i64 yv,.int .u64 yd,.int .i64 yb] 150)) k47);clear hb7 k37 k47)
        go_ret
        exact ⟨by rw [HRE.out,HT2.out];rfl,HB0.out.st (HB7.out.st (Below.of_al _ _))⟩
       ·have HF2:=Bi5 (HHF.out (by rw [HE.out];exact decide_eq_false hs))
        clear HHT HHF HE;have hsb:(yd+xw==a.d)=false:=by simp [hs]
        clear hs
        go_wp2_with (go_at_call 204;refine (HFI.out _ HBd.out).mono ?_;rintro e w7 ⟨rfl,hb7⟩;(have HB7:=Bi5 (HBd.out.st hb7));(have k37:=Bi6 hb7 k3);(have k47:=Bi6 hb7 k4);(have j3:=Bi6 (Below.of_al w7 (Obj.cells #[.int .i64 yv,.int .u64 yd,.int .i64 yb] 150)) k37);(have j4:=Bi6 (Below.of_al w7 (Obj.cells #[.int .i64 yv,.int .u64 yd,.int .i64 yb] 150)) k47);clear hb7 k37 k47)
        go_roundg (S.length-(k+1))
        case measure=>omega
        case rel=>exact ⟨k+1,by omega,Bi7 _,by go_num,HB7.out.st (Below.of_al _ _),HF2.out⟩
    ·have hnb:((fn:Int) != a.v)=true:=by simp [he]
     have HF2:=Bi5 (HHF.out (by rw [HE.out,decide_eq_false he,Bool.false_and,Bool.false_and]));clear HHT HHF HE HLN HLS HFI HR1 HR2;refine Ag (by kernel_rfl) (by kernel_rfl) ?_
     repeat (go_big_quiet_step (fail))
     refine wpQuiet_nil ?_;rintro _ ⟨pc,rfl⟩;have HBc:=Bi5 (Ah wa pc);generalize ext wa pc=wc at HBc ⊢;clear y0 y2 r0 r1 r2 r3 r4
     go_wp2
     go_roundg (S.length-(k+1))
     case measure=>omega
     case rel=>exact ⟨k+1,by omega,Bi7 _,by go_num,HB6.out.st HBc.out,HF2.out⟩
  ·obtain rfl:k=S.length:=by omega
   have HE:=Bi5 (Am8 (fun j h=>HN.out j h h))
   go_wp2
   go_ret
   exact ⟨by rw [HRE.out,HE.out];rfl,HB0.out.st HB.out⟩
end Go.Proofs.YteaaapdjplbljaaGreat
