/- Parts; no condition. -/
import Derived.Test.YteaaapdjplbljaaGreatVa46
set_option linter.unusedVariables false
set_option linter.unusedSimpArgs false
set_option linter.unnecessarySimpa false
set_option maxRecDepth 100000
set_option maxHeartbeats 8000000
namespace Go.Proofs.YteaaapdjplbljaaGreat
section
open Go Go.Proofs Go.RowKit Go.Shelf Hp Ch
theorem Ae2 (x:LB) (B fb n:Nat) (f:List Int) (w:World) (hb:w.cell? ⟨B,0,none⟩=some (.slice (some ⟨fb,0,none⟩) n n)) (hc:Cel w (some ⟨fb,0,none⟩) (f.map Bi)) (hl:f.length=n) (hv:Ac n x.v):
  Calls Tryz.prog 146 (#[Ja x]++#[.pointer (some ⟨B,0,none⟩)]) w fun e w'=>e=.returned (.bool (decide (gD f x.v<x.d)))/\Below w.heap.size w w':=by
 obtain ⟨xv,xd,xb⟩:=x;obtain ⟨v0,v1⟩:=hv;simp only at v0 v1 ⊢;obtain ⟨v,rfl⟩:∃v:Nat,xv=v:=⟨xv.toNat,by omega⟩;have hvl:v<n:=by omega
 have hg:w.cell? ⟨fb,v,none⟩=some (.int .u64 (gD f (v:Int))):=by
  obtain ⟨b,o,e,h1⟩:=hc v (.int .u64 (gD f (v:Int))) (by
   rw [Bl2,Bj8 (by omega)];unfold gD;rw [Bk7,Bj9,Bj8 (by omega)];rfl)
  cases e
  rw [Nat.zero_add] at h1;exact h1
 generalize gD f (v:Int)=g at*;obtain ⟨W,hW⟩:∃W,W=w.alloc (Obj.cells #[.int .i64 (v:Int),.int .u64 xd,.int .i64 xb] 150):=⟨_,rfl⟩;have hbw:Below w.heap.size w W:=by rw [hW];exact Below.of_al _ _
 have c0:W.cell? ⟨w.heap.size,0,none⟩=some (.int .i64 (v:Int)):=by rw [hW];go_simp
 have c1:W.cell? ⟨w.heap.size,1,none⟩=some (.int .u64 xd):=by rw [hW];go_simp
 have e0:=fun p=>Ab p c0;have e1:=fun p=>Ab p c1;have cB:=Bj4 hbw hb;have cG:=Bj4 hbw hg;have e2:=fun p=>Ab p cB;have e3:=fun p=>Ab p cG;have HW:=Bj3 hW;have HB:=Bj3 hbw;unfold Ja;clear hW hbw hb hc hg hl
 go_enter Tryz.func146,Tryz.ntmps146
 go_upto_region 1 with (fail)
 rw [<-HW.out];refine Af (by kernel_rfl) (by kernel_rfl) ?_
 repeat (go_big_quiet_step (fail))
 refine wpQuiet_nil ?_;rintro _ ⟨pq,rfl⟩;have HBq:=Bj3 (Ah W pq);generalize ext W pq=wq at HBq ⊢
 go_wp2
 go_ret
 exact ⟨rfl,HB.out.st HBq.out⟩
theorem Ao1 (hb n:Nat) (es:List EdgeD) (R:List Int) (S:List SC) (O I:List (List Int)) (l:List LB) (ao:Option Addr) (cap:Nat) (a:LB) (back:Bool) (w:World) (hh:HierM w hb n es R S O I) (hends:∀x∈S,Ac n x.f/\Ac n x.t/\0<=x.w/\x.w<=1152921504606846976)
  (hc:Cel w ao (Ao l)) (hl:l.length<=1000000) (hd:∀x∈l,0<=x.d/\x.d<=1152921504606846976):
  Calls Tryz.prog 147 #[.agg #[.pointer (some ⟨hb,0,none⟩),.bool back],.slice ao l.length cap,Ja a] w fun e w'=>e=.returned (.int .i64 (Eu R S (Fe l) back a.v a.d))/\Below w.heap.size w w':=by
 obtain ⟨W,hW⟩:∃W,W=(w.alloc (Obj.cells #[.pointer (some ⟨hb,0,none⟩),.bool back] 228)).alloc (Obj.cells #[.int .i64 a.v,.int .u64 a.d,.int .i64 a.b] 150):=⟨_,rfl⟩;have hbw:Below w.heap.size w W:=by rw [hW];exact (Below.of_al _ _).al _
 have c0:W.cell? ⟨w.heap.size,0,none⟩=some (.pointer (some ⟨hb,0,none⟩)):=by rw [hW];go_simp
 have c1:W.cell? ⟨w.heap.size,1,none⟩=some (.bool back):=by rw [hW];go_simp
 have c2:W.cell? ⟨w.heap.size+1,0,none⟩=some (.int .i64 a.v):=by rw [hW];go_simp
 have c3:W.cell? ⟨w.heap.size+1,1,none⟩=some (.int .u64 a.d):=by rw [hW];go_simp
 have HH:=Bj3 (hh.go hbw);have HC:=Bj3 (hc.go hbw);have HEN:=Bj3 hends;have HD:=Bj3 hd;have HSZ:=Bj3 (Xp hb n es R S O I W (hh.go hbw));have HW:=Bj3 hW;have HB0:=Bj3 hbw;have hsl:=hh.small.2.1;have hsl2:(S.length:Int)<=1000000:=by omega
 obtain ⟨res,hres⟩:∃res,res=Eu R S (Fe l) back a.v a.d:=⟨_,rfl⟩;have HRE:=Bj3 hres;rw [<-hres];unfold Ja;clear hh hc hends hd hW hbw hres
 go_enter Tryz.func147,Tryz.ntmps147
 go_upto_region 1 with (fail)
 rw [<-HW.out]
 go_wp2_with (go_at_call 201;refine HSZ.out.mono ?_;rintro e w1 ⟨rfl,rfl⟩)
 go_loopg [17] S.length (fun gg v17 wr=>∃k:Nat,k<=S.length/\S.length-k<=gg/\v17=.int .i64 k/\Aside (Below W.heap.size W wr)/\Aside (∀j (h:j<S.length),j<k->Pu R (Fe l) back a.v a.d S[j]=false))
 case atStart=>exact ⟨0,Bj6 _,by omega,rfl,Below.refl _ _,fun j _ h=>absurd h (Nat.not_lt_zero _)⟩
 case round=>
  obtain ⟨k,hk,hgg,rfl,HB,HN⟩:=hrel
  by_cases hlt:k<S.length
  ·have hlt3:(k:Int)<(S.length:Int):=by omega
   have hk0:(0:Int)<=(k:Int):=by omega
   have HS1:=Bj3 (Mi hb n es R S O I wr (HH.out.go HB.out) k hlt);obtain ⟨⟨p0,p1⟩,⟨q0,q1⟩,w0,w1⟩:=HEN.out _ (Bk5 hlt);have HHT:=Bj3 (fun h:Pu R (Fe l) back a.v a.d S[k]=true=>Ao3 hlt h (fun j hj=>HN.out j (by omega) hj));have HHF:=Bj3 (fun h:Pu R (Fe l) back a.v a.d S[k]=false=>(fun j (h1:j<S.length) (h2:j<k+1)=>(by
    by_cases e:j=k
    ·subst e;exact h
    ·exact HN.out j h1 (by omega):Pu R (Fe l) back a.v a.d S[j]=false)))
   generalize S[k]=x at*;obtain ⟨xf,xt,xw,xe,xa,xb⟩:=x;simp only [scV] at p0 p1 q0 q1 w0 w1 HS1;obtain ⟨fn,rfl⟩:∃fn:Nat,xf=fn:=⟨xf.toNat,by omega⟩;obtain ⟨tn,rfl⟩:∃tn:Nat,xt=tn:=⟨xt.toNat,by omega⟩;have hfn:fn<n:=by omega
   have htn:tn<n:=by omega
   have b0:=Bj4 HB.out c0;have b1:=Bj4 HB.out c1;have b2:=Bj4 HB.out c2;have b3:=Bj4 HB.out c3
   go_upto_region 5 with (go_at_call 202;refine HS1.out.mono ?_;rintro e w2 ⟨rfl,hb2⟩;(have d0:=Bj4 hb2 b0);(have d1:=Bj4 hb2 b1);(have d2:=Bj4 hb2 b2);(have d3:=Bj4 hb2 b3);(have HB2:=Bj3 (HB.out.st hb2));clear hb2)
   obtain ⟨W5,hW5⟩:∃W5,W5=w2.alloc (Obj.cells #[.int .i64 (fn:Int),.int .i64 (tn:Int),.int .u64 xw,.int .i64 xe,.int .i64 xa,.int .i64 xb] 187):=⟨_,rfl⟩;rw [<-hW5];have hb25:Below w2.heap.size w2 W5:=by rw [hW5];exact Below.of_al _ _
   have s0:W5.cell? ⟨w2.heap.size,0,none⟩=some (.int .i64 (fn:Int)):=by rw [hW5];go_simp
   have s1:W5.cell? ⟨w2.heap.size,1,none⟩=some (.int .i64 (tn:Int)):=by rw [hW5];go_simp
   have s2:W5.cell? ⟨w2.heap.size,2,none⟩=some (.int .u64 xw):=by rw [hW5];go_simp
   have HB5:=Bj3 (HB2.out.st hb25);have g0:=Bj4 hb25 d0;have g1:=Bj4 hb25 d1;have g2:=Bj4 hb25 d2;have g3:=Bj4 hb25 d3;have x0:=fun p=>Ab p s0;have x1:=fun p=>Ab p s1;clear hb25 hW5 d0 d1 d2 d3 b0 b1 b2 b3 c0 c1 c2 c3 HS1 HSZ HW HN;refine Af (by kernel_rfl) (by kernel_rfl) ?_
   repeat (go_big_quiet_step (fail))
   refine wpQuiet_nil ?_;rintro _ ⟨pa,rfl⟩;have HBa:=Bj3 (Ah W5 pa);generalize ext W5 pa=wa at HBa ⊢;have r0:=Bj4 HBa.out g0;have r1:=Bj4 HBa.out g1;have r2:=Bj4 HBa.out g2;have r3:=Bj4 HBa.out g3;have r4:=Bj4 HBa.out s2;have HB6:=Bj3 (HB5.out.st HBa.out);clear x0 x1 g0 g1 g2 g3 s0 s1 s2 HB5 HB2
   cases back with
   |false=>
    have HE:=Bj3 (show Pu R (Fe l) false a.v a.d ⟨(fn:Int),(tn:Int),xw,xe,xa,xb⟩=(decide ((tn:Int)=a.v)&&decide (rAt R (fn:Int)<rAt R (tn:Int))&&(match Fe l (fn:Int) with|some e=>decide (e+xw=a.d)|none=>false)) from rfl);have HR1:=Bj3 (fun p=>Kj hb n es R S O I (ext wa p) (HH.out.go (HB6.out.st (Ah wa p))) fn hfn);have HR2:=Bj3 (fun p=>Kj hb n es R S O I (ext wa p) (HH.out.go (HB6.out.st (Ah wa p))) tn htn);have HFI:=Bj3 (fun W' (hz:Below W.heap.size W W')=>Zi l ao cap (fn:Int) W' (HC.out.go hz) hl);have HLN:=Bj3 (fun h=>Ru (l:=l) (u:=(fn:Int)) h);have HLS:=Bj3 (fun h=>Rt (l:=l) (u:=(fn:Int)) h);generalize rAt R (fn:Int)=rf at*;generalize rAt R (tn:Int)=rt at*;have y0:=fun p=>Ab p r0;have y2:=fun p=>Ab p r2
    go_upto_region 8 with (fail)
    by_cases he:(tn:Int)=a.v
    ·have hnb:((tn:Int) != a.v)=false:=by simp [he]
     by_cases hrk:rt<=rf
     ·have HF2:=Bj3 (HHF.out (by rw [HE.out,decide_eq_false (show ¬rf<rt by omega),Bool.and_false,Bool.false_and]))
      clear HHT HHF HE HLN HLS HFI he;refine Af (by kernel_rfl) (by kernel_rfl) ?_
      repeat (go_big_quiet_step (first
       |(go_at_call_of 203 (#[.pointer (some ⟨hb,0,none⟩),.int .i64 (fn:Int)]:Array Value);exact Calls.ext_of_same (HR1.out _))
       |(go_at_call_of 203 (#[.pointer (some ⟨hb,0,none⟩),.int .i64 (tn:Int)]:Array Value);exact Calls.ext_of_same (HR2.out _))))
      refine wpQuiet_nil ?_;rintro _ ⟨pc,rfl⟩;have HBc:=Bj3 (Ah wa pc);generalize ext wa pc=wc at HBc ⊢;clear y0 y2 r0 r1 r2 r3 r4
      go_wp2
      go_roundg (S.length-(k+1))
      case measure=>omega
      case rel=>exact ⟨k+1,by omega,Bj5 _,by go_num,HB6.out.st HBc.out,HF2.out⟩
     ·have hd1:decide (rf<rt)=true:=decide_eq_true (by omega)
      have hd2:decide ((tn:Int)=a.v)=true:=decide_eq_true he;rw [hd1,hd2,Bool.true_and,Bool.true_and] at HE;clear hd1 hd2 he;refine Af (by kernel_rfl) (by kernel_rfl) ?_
      repeat (go_big_quiet_step (first
       |(go_at_call_of 203 (#[.pointer (some ⟨hb,0,none⟩),.int .i64 (fn:Int)]:Array Value);exact Calls.ext_of_same (HR1.out _))
       |(go_at_call_of 203 (#[.pointer (some ⟨hb,0,none⟩),.int .i64 (tn:Int)]:Array Value);exact Calls.ext_of_same (HR2.out _))))
      refine wpQuiet_nil ?_;rintro _ ⟨pc,rfl⟩;have HBc:=Bj3 (Ah wa pc);generalize ext wa pc=wc at HBc ⊢;have k3:=Bj4 HBc.out r3;have k4:=Bj4 HBc.out r4;have HBd:=Bj3 (HB6.out.st HBc.out);clear y0 y2 r0 r1 r2 r3 r4 hrk HR1 HR2
      cases hi:Iq l (fn:Int) with
      |false=>
       have HF2:=Bj3 (HHF.out (by rw [HE.out,HLN.out hi]));rw [hi] at HFI;clear HHT HHF HE HLN HLS hi;generalize Hi l (fn:Int)=y at*;obtain ⟨yv,yd,yb⟩:=y;simp only [Ja] at HFI
       go_wp2_with (go_at_call 204;refine (HFI.out _ HBd.out).mono ?_;rintro e w7 ⟨rfl,hb7⟩;(have HB7:=Bj3 (HBd.out.st hb7));clear hb7)
       go_roundg (S.length-(k+1))
       case measure=>omega
       case rel=>exact ⟨k+1,by omega,Bj5 _,by go_num,HB7.out.st (Below.of_al _ _),HF2.out⟩
      |true=>
       obtain ⟨h1,h2,-⟩:=HLS.out hi;rw [h1] at HE;rw [hi] at HFI;obtain ⟨e0,e1⟩:=HD.out _ h2;clear HLN HLS h1 h2 hi;generalize Hi l (fn:Int)=y at*;obtain ⟨yv,yd,yb⟩:=y;simp only [Ja] at HFI;simp only at e0 e1 HE
       by_cases hs:yd+xw=a.d
       ·have HT2:=Bj3 (HHT.out (by rw [HE.out];exact decide_eq_true hs))
        clear HHT HHF HE;have hsb:(yd+xw==a.d)=true:=by simp [hs]
        clear hs
        go_wp2_with (go_at_call 204;refine (HFI.out _ HBd.out).mono ?_;rintro e w7 ⟨rfl,hb7⟩;(have HB7:=Bj3 (HBd.out.st hb7));(have k37:=Bj4 hb7 k3);(have k47:=Bj4 hb7 k4);(have j3:=Bj4 (Below.of_al w7 (Obj.cells #[.int .i64 yv,.int .u64 yd,.int .i64 yb] 150)) k37);(have j4:=Bj4 (Below.of_al w7 (Obj.cells #[.int .i64 yv,.int .u64 yd,.int .i64 yb] 150)) k47);clear hb7 k37 k47)
        go_ret
        exact ⟨by rw [HRE.out,HT2.out];rfl,HB0.out.st (HB7.out.st (Below.of_al _ _))⟩
       ·have HF2:=Bj3 (HHF.out (by rw [HE.out];exact decide_eq_false hs))
        clear HHT HHF HE;have hsb:(yd+xw==a.d)=false:=by simp [hs]
        clear hs
        go_wp2_with (go_at_call 204;refine (HFI.out _ HBd.out).mono ?_;rintro e w7 ⟨rfl,hb7⟩;(have HB7:=Bj3 (HBd.out.st hb7));(have k37:=Bj4 hb7 k3);(have k47:=Bj4 hb7 k4);(have j3:=Bj4 (Below.of_al w7 (Obj.cells #[.int .i64 yv,.int .u64 yd,.int .i64 yb] 150)) k37);(have j4:=Bj4 (Below.of_al w7 (Obj.cells #[.int .i64 yv,.int .u64 yd,.int .i64 yb] 150)) k47);clear hb7 k37 k47)
        go_roundg (S.length-(k+1))
        case measure=>omega
        case rel=>exact ⟨k+1,by omega,Bj5 _,by go_num,HB7.out.st (Below.of_al _ _),HF2.out⟩
    ·have hnb:((tn:Int) != a.v)=true:=by simp [he]
     have HF2:=Bj3 (HHF.out (by rw [HE.out,decide_eq_false he,Bool.false_and,Bool.false_and]));clear HHT HHF HE HLN HLS HFI HR1 HR2;refine Af (by kernel_rfl) (by kernel_rfl) ?_
     repeat (go_big_quiet_step (fail))
     refine wpQuiet_nil ?_;rintro _ ⟨pc,rfl⟩;have HBc:=Bj3 (Ah wa pc);generalize ext wa pc=wc at HBc ⊢;clear y0 y2 r0 r1 r2 r3 r4
     go_wp2
     go_roundg (S.length-(k+1))
     case measure=>omega
     case rel=>exact ⟨k+1,by omega,Bj5 _,by go_num,HB6.out.st HBc.out,HF2.out⟩
   |true=>
    have HE:=Bj3 (show Pu R (Fe l) true a.v a.d ⟨(fn:Int),(tn:Int),xw,xe,xa,xb⟩=(decide ((fn:Int)=a.v)&&decide (rAt R (tn:Int)<rAt R (fn:Int))&&(match Fe l (tn:Int) with|some e=>decide (e+xw=a.d)|none=>false)) from rfl);have HR1:=Bj3 (fun p=>Kj hb n es R S O I (ext wa p) (HH.out.go (HB6.out.st (Ah wa p))) tn htn);have HR2:=Bj3 (fun p=>Kj hb n es R S O I (ext wa p) (HH.out.go (HB6.out.st (Ah wa p))) fn hfn);have HFI:=Bj3 (fun W' (hz:Below W.heap.size W W')=>Zi l ao cap (tn:Int) W' (HC.out.go hz) hl);have HLN:=Bj3 (fun h=>Ru (l:=l) (u:=(tn:Int)) h);have HLS:=Bj3 (fun h=>Rt (l:=l) (u:=(tn:Int)) h);generalize rAt R (tn:Int)=rf at*;generalize rAt R (fn:Int)=rt at*;have y0:=fun p=>Ab p r0;have y2:=fun p=>Ab p r2
    go_upto_region 8 with (fail)
    by_cases he:(fn:Int)=a.v
    ·have hnb:((fn:Int) != a.v)=false:=by simp [he]
     by_cases hrk:rt<=rf
     ·have HF2:=Bj3 (HHF.out (by rw [HE.out,decide_eq_false (show ¬rf<rt by omega),Bool.and_false,Bool.false_and]))
      clear HHT HHF HE HLN HLS HFI he;refine Af (by kernel_rfl) (by kernel_rfl) ?_
      repeat (go_big_quiet_step (first
       |(go_at_call_of 203 (#[.pointer (some ⟨hb,0,none⟩),.int .i64 (tn:Int)]:Array Value);exact Calls.ext_of_same (HR1.out _))
       |(go_at_call_of 203 (#[.pointer (some ⟨hb,0,none⟩),.int .i64 (fn:Int)]:Array Value);exact Calls.ext_of_same (HR2.out _))))
      refine wpQuiet_nil ?_;rintro _ ⟨pc,rfl⟩;have HBc:=Bj3 (Ah wa pc);generalize ext wa pc=wc at HBc ⊢;clear y0 y2 r0 r1 r2 r3 r4
      go_wp2
      go_roundg (S.length-(k+1))
      case measure=>omega
      case rel=>exact ⟨k+1,by omega,Bj5 _,by go_num,HB6.out.st HBc.out,HF2.out⟩
     ·have hd1:decide (rf<rt)=true:=decide_eq_true (by omega)
      have hd2:decide ((fn:Int)=a.v)=true:=decide_eq_true he;rw [hd1,hd2,Bool.true_and,Bool.true_and] at HE;clear hd1 hd2 he;refine Af (by kernel_rfl) (by kernel_rfl) ?_
      repeat (go_big_quiet_step (first
       |(go_at_call_of 203 (#[.pointer (some ⟨hb,0,none⟩),.int .i64 (tn:Int)]:Array Value);exact Calls.ext_of_same (HR1.out _))
       |(go_at_call_of 203 (#[.pointer (some ⟨hb,0,none⟩),.int .i64 (fn:Int)]:Array Value);exact Calls.ext_of_same (HR2.out _))))
      refine wpQuiet_nil ?_;rintro _ ⟨pc,rfl⟩;have HBc:=Bj3 (Ah wa pc);generalize ext wa pc=wc at HBc ⊢;have k3:=Bj4 HBc.out r3;have k4:=Bj4 HBc.out r4;have HBd:=Bj3 (HB6.out.st HBc.out);clear y0 y2 r0 r1 r2 r3 r4 hrk HR1 HR2
      cases hi:Iq l (tn:Int) with
      |false=>
       have HF2:=Bj3 (HHF.out (by rw [HE.out,HLN.out hi]));rw [hi] at HFI;clear HHT HHF HE HLN HLS hi;generalize Hi l (tn:Int)=y at*;obtain ⟨yv,yd,yb⟩:=y;simp only [Ja] at HFI
       go_wp2_with (go_at_call 204;refine (HFI.out _ HBd.out).mono ?_;rintro e w7 ⟨rfl,hb7⟩;(have HB7:=Bj3 (HBd.out.st hb7));clear hb7)
       go_roundg (S.length-(k+1))
       case measure=>omega
       case rel=>exact ⟨k+1,by omega,Bj5 _,by go_num,HB7.out.st (Below.of_al _ _),HF2.out⟩
      |true=>
       obtain ⟨h1,h2,-⟩:=HLS.out hi;rw [h1] at HE;rw [hi] at HFI;obtain ⟨e0,e1⟩:=HD.out _ h2;clear HLN HLS h1 h2 hi;generalize Hi l (tn:Int)=y at*;obtain ⟨yv,yd,yb⟩:=y;simp only [Ja] at HFI;simp only at e0 e1 HE
       by_cases hs:yd+xw=a.d
       ·have HT2:=Bj3 (HHT.out (by rw [HE.out];exact decide_eq_true hs))
        clear HHT HHF HE;have hsb:(yd+xw==a.d)=true:=by simp [hs]
        clear hs
        go_wp2_with (go_at_call 204;refine (HFI.out _ HBd.out).mono ?_;rintro e w7 ⟨rfl,hb7⟩;(have HB7:=Bj3 (HBd.out.st hb7));(have k37:=Bj4 hb7 k3);(have k47:=Bj4 hb7 k4);(have j3:=Bj4 (Below.of_al w7 (Obj.cells #[.int .i64 yv,.int .u64 yd,.int .i64 yb] 150)) k37);(have j4:=Bj4 (Below.of_al w7 (Obj.cells #[.int .i64 yv,.int .u64 yd,.int .i64 yb] 150)) k47);clear hb7 k37 k47)
        go_ret
        exact ⟨by rw [HRE.out,HT2.out];rfl,HB0.out.st (HB7.out.st (Below.of_al _ _))⟩
       ·have HF2:=Bj3 (HHF.out (by rw [HE.out];exact decide_eq_false hs))
        clear HHT HHF HE;have hsb:(yd+xw==a.d)=false:=by simp [hs]
        clear hs
        go_wp2_with (go_at_call 204;refine (HFI.out _ HBd.out).mono ?_;rintro e w7 ⟨rfl,hb7⟩;(have HB7:=Bj3 (HBd.out.st hb7));(have k37:=Bj4 hb7 k3);(have k47:=Bj4 hb7 k4);(have j3:=Bj4 (Below.of_al w7 (Obj.cells #[.int .i64 yv,.int .u64 yd,.int .i64 yb] 150)) k37);(have j4:=Bj4 (Below.of_al w7 (Obj.cells #[.int .i64 yv,.int .u64 yd,.int .i64 yb] 150)) k47);clear hb7 k37 k47)
        go_roundg (S.length-(k+1))
        case measure=>omega
        case rel=>exact ⟨k+1,by omega,Bj5 _,by go_num,HB7.out.st (Below.of_al _ _),HF2.out⟩
    ·have hnb:((fn:Int) != a.v)=true:=by simp [he]
     have HF2:=Bj3 (HHF.out (by rw [HE.out,decide_eq_false he,Bool.false_and,Bool.false_and]));clear HHT HHF HE HLN HLS HFI HR1 HR2;refine Af (by kernel_rfl) (by kernel_rfl) ?_
     repeat (go_big_quiet_step (fail))
     refine wpQuiet_nil ?_;rintro _ ⟨pc,rfl⟩;have HBc:=Bj3 (Ah wa pc);generalize ext wa pc=wc at HBc ⊢;clear y0 y2 r0 r1 r2 r3 r4
     go_wp2
     go_roundg (S.length-(k+1))
     case measure=>omega
     case rel=>exact ⟨k+1,by omega,Bj5 _,by go_num,HB6.out.st HBc.out,HF2.out⟩
  ·obtain rfl:k=S.length:=by omega
   have HE:=Bj3 (Ao2 (fun j h=>HN.out j h h))
   go_wp2
   go_ret
   exact ⟨by rw [HRE.out,HE.out];rfl,HB0.out.st HB.out⟩
end
section
open Go Go.Proofs Go.RowKit Go.Shelf Hp Ch
theorem Sh:∀(l:List LB) (i:Nat) (q:LB) (b:Int),l[i]? =some q->(Ao l).set (i*3+2) (.int .i64 b)=Ao (l.set i ⟨q.v,q.d,b⟩)
 |[],i,q,b,h=>by simp at h
 |x::l,0,q,b,h=>by cases h;rfl
 |x::l,i+1,q,b,h=>by
  rw [show (i+1)*3+2=i*3+2+1+1+1 by omega]
  show _=_::_::_::Ao (l.set i _)
  rw [<-Sh l i q b (by simpa using h)];rfl
def Vl (es:List EdgeD) (n:Nat) (R:List Int) (S:List SC) (ro:List Int) (back:Bool) (s:Nat) (w:World) (e:Ending) (w':World):Prop:=
 ∃(ao:Option Addr) (cap:Nat) (l:List LB),e=.returned (.tuple #[.slice ao l.length cap,.int .i64 0])/\Cel w' ao (Ao l)/\Below w.heap.size w w'/\ExIs (Ca back (Am es)) (rk ro) (s:Int) l/\(∀a∈l,a.b=Eu R S (Fe l) back a.v a.d)/\l.length<=n/\∀a∈l,Ac n a.v/\0<=a.d/\a.d<=211106232532992
theorem Ba3 (R:List Int) (S:List SC) (back:Bool) (l:List LB):∀a∈withB R S back l,a.b=Eu R S (Fe (withB R S back l)) back a.v a.d:=by
 have hl:Fe (withB R S back l)=Fe l:=Of (by simp [withB,Function.comp_def]);intro a ha;rw [hl];unfold withB at ha;obtain ⟨y,_,rfl⟩:=List.mem_map.1 ha;rfl
theorem Vd (hb n:Nat) (es:List EdgeD) (R:List Int) (S:List SC) (ro:List Int) (back:Bool) (s:Nat) (w:World) (hh:HierM w hb n es R S (An R S n S.length).1 (An R S n S.length).2) (hok:HierOK es n R S ro) (hn:n<=12) (hs:s<n):
  Calls Tryz.prog 88 #[.pointer (some ⟨hb,0,none⟩),.int .i64 (s:Int),.bool back] w (Vl es n R S ro back s w):=by
 have HH:=Bj3 (fun W (hz:Below w.heap.size w W)=>hh.same (fun k hk=>hz.block k hk));have HSA:=Bj3 (Kd hb n es R S ro s back w hh hok hn hs);have HSW:=Bj3 (fun l ao cap W (hz:Below w.heap.size w W) hc hsp hl=>Al2 hb n es R S ro back s l ao cap W (hh.go hz) hok hn hs hc hsp hl);have HOK:=Bj3 hok;unfold Hu at HSA;unfold Oz at HSW;clear hh hok
 go_enter Tryz.func88,Tryz.ntmps88
 go_upto_region 4 with (go_at_call 123;refine HSA.out.mono ?_;rintro e w1 ⟨ao,cap,l,rfl,h1,h2,h3,h4,h5,h6⟩;(have HC1:=Bj3 h1);(have HB1:=Bj3 h2);(have HS1:=Bj3 h3);(have HL1:=Bj3 (And.intro h4 h5));(have HO1:=Bj3 h6);clear h1 h2 h3 h4 h5 h6)
 go_upto_region 5 with (go_at_call 144;refine (HSW.out l ao cap w1 HB1.out HC1.out HS1.out HL1.out.1).mono ?_;rintro e w2 ⟨fb,f,rfl,h1,h2,h3,h4,h5⟩;(have HF2:=Bj3 h1);(have HFL:=Bj3 h2);(have HFB:=Bj3 h3);(have HB2:=Bj3 h4);(have HFV:=Bj3 h5);clear h1 h2 h3 h4 h5)
 obtain ⟨W3,hW3⟩:∃W3,W3=w2.alloc (Obj.cells #[.slice (some ⟨fb,0,none⟩) n n] 60):=⟨_,rfl⟩;rw [<-hW3];have hb23:Below w2.heap.size w2 W3:=by rw [hW3];exact Below.of_al _ _
 have cB:W3.cell? ⟨w2.heap.size,0,none⟩=some (.slice (some ⟨fb,0,none⟩) n n):=by rw [hW3];go_simp
 have hL:=Lx HOK.out HS1.out hs hn;have hrow:∀k,(Value.slice ao l.length cap).ownBlock=some k->k<w1.heap.size:=fun k e=>(HO1.out.lt k e).2;have HDEL:=Bj3 (Ae5 w.heap.size #[.pointer (some ⟨w2.heap.size,0,none⟩)] (fun a=>decide (gD f a.v<a.d)) l ao cap W3 (Ag (Ag HO1.out HB2.out) hb23) (fun W x ho hx=>by
  have hs2:=HB2.out.size;have hfb:=HFB.out;refine Ae2 x w2.heap.size fb n f W (ho.cell cB (fun e=>by have h9:w2.heap.size<w1.heap.size:=hrow _ e;omega)) ?_ HFL.out (hL x hx).1;exact Ez (HF2.out.go hb23) ho (n:=n) (c:=n) (fun k hk e=>by cases hk;have h9:fb<w1.heap.size:=hrow _ e;omega)) (by have:=HL1.out.1;omega))
 have hex:=Ap3 (HOK.out.hierB back) (fun v=>by unfold rk;omega) HS1.out HL1.out.2 (fun x hx=>⟨(hL x hx).1,by have:=(hL x hx).2.2;unfold FAR;omega⟩) HFV.out;have HEX:=Bj3 hex;have HSUB:=Bj3 (show ∀a∈Si f l,Ac n a.v/\0<=a.d/\a.d<=211106232532992 from fun a ha=>hL a (List.mem_filter.1 ha).1);have HLEN:=Bj3 (show (Si f l).length<=n from Bj7 (List.length_filter_le _ _) HL1.out.1);have HB3:=Bj3 ((HB1.out.st HB2.out).st hb23);have HRW:=Bj3 (fun k (e:(Value.slice ao l.length cap).ownBlock=some k)=>And.intro (HO1.out.lt k e).1 (show k<W3.heap.size from by have h1:=hrow k e;have h2:=HB2.out.size;have h3:=hb23.size;omega));unfold Tf at HDEL;rw [show l.filter (fun a=>!decide (gD f a.v<a.d))=Si f l from rfl] at HDEL;clear hW3 hL hrow hex hb23 cB HSA HSW HC1 HB1 HS1 HL1 HO1 HF2 HFL HFB HB2 HFV;generalize Si f l=out at*
 go_upto_region 7 with (go_at_call 145;refine HDEL.out.mono ?_;rintro e w4 ⟨rfl,h1,h2⟩;(have HO4:=Bj3 h1);(have HF4:=Bj3 h2);clear h1 h2)
 obtain ⟨W5,hW5⟩:∃W5,W5=w4.alloc (Obj.cells #[.pointer (some ⟨hb,0,none⟩),.bool back] 228):=⟨_,rfl⟩;rw [<-hW5];have hb45:Below w4.heap.size w4 W5:=by rw [hW5];exact Below.of_al _ _
 have c0:W5.cell? ⟨w4.heap.size,0,none⟩=some (.pointer (some ⟨hb,0,none⟩)):=by rw [hW5];go_simp
 have c1:W5.cell? ⟨w4.heap.size,1,none⟩=some (.bool back):=by rw [hW5];go_simp
 have hrow4:∀k,(Value.slice ao out.length cap).ownBlock=some k->w.heap.size<=k/\k≠w4.heap.size:=fun k e=>by
  have h1:=HRW.out k (by cases ao<;>exact e);have h2:=HF4.out.size;omega
 have HRO:=Bj3 hrow4;have hbl4:Below w.heap.size w w4:=HB3.out.trans (HF4.out.below HB3.out.size (fun k e=>(HRW.out k e).1));have HO5:=Bj3 (show W5.ownsRow w.heap.size 150 3 (.slice ao out.length cap) out.length (Ao (Gg R S back out 0)) by rw [Am6];exact Ag HO4.out hb45);have HB5:=Bj3 (hbl4.st hb45);have HCW:=Bj3 (And.intro c0 c1);have hl2:(out.length:Int)<=12:=by have:=HLEN.out;omega
 clear hW5 hb45 c0 c1 hrow4 hbl4 HO4 HF4 HB3 HRW HDEL
 go_wp2
 go_loopg [34] out.length (fun gg v34 wr=>∃k:Nat,k<=out.length/\out.length-k<=gg/\v34=.int .i64 k/\Aside (wr.ownsRow w.heap.size 150 3 (.slice ao out.length cap) out.length (Ao (Gg R S back out k)))/\Aside (Below w.heap.size w wr)/\Aside (wr.cell? ⟨w4.heap.size,0,none⟩=some (.pointer (some ⟨hb,0,none⟩))/\wr.cell? ⟨w4.heap.size,1,none⟩=some (.bool back)))
 case atStart=>exact ⟨0,Bj6 _,by omega,rfl,HO5.out,HB5.out,HCW.out⟩
 case round=>
  clear HO5 HB5 HCW;obtain ⟨k,hk,hgg,rfl,HO,HB,HX⟩:=hrel
  by_cases hlt:k<out.length
  ·have hlt3:(k:Int)<(out.length:Int):=by omega
   have hk0:(0:Int)<=(k:Int):=by omega
   have hml:(Gg R S back out k).length=out.length:=Yn;obtain ⟨g,cg,e⟩:=Ap HO.out (by omega)
   cases e
   obtain ⟨x0,x1,x2⟩:=Fx (Gg R S back out k) k (by omega);have hmk:(Gg R S back out k)[k]'(by omega)=out[k]:=Bm2 ((Bj8 (by omega)).symm.trans (Yo hlt));rw [hmk] at x0 x1 x2;have y0:=(HO.out.cellAt (k*3) (by omega)).trans x0;have y1:=(HO.out.cellAt (k*3+1) (by omega)).trans x1;have y2:=(HO.out.cellAt (k*3+2) (by omega)).trans x2;have zf:=HO.out.frozenAt (k*3+2);obtain ⟨ao9,cap9,e9,hce⟩:=Cel.of_owns HO.out
   cases e9
   have HFI:=Bj3 (fun p=>Ao1 hb n es R S (An R S n S.length).1 (An R S n S.length).2 (Gg R S back out k) (some ⟨g,0,none⟩) cap out[k] back (ext wr p) (HH.out _ (HB.out.st (Ah wr p))) (fun x hx=>by
     have h1:=HOK.out.ends x hx;have h2:=HOK.out.big x hx;have h3:=Zq hn;exact ⟨h1.1,h1.2.1,by omega,by omega⟩) (hce.go (Ah wr p)) (by omega) (fun x hx=>by
     have hv:(x.v,x.d)∈out.map (fun a=>(a.v,a.d)):=by rw [<-Ai1 R S back out k];exact List.mem_map.2 ⟨x,hx,rfl⟩
     obtain ⟨y,hy,e⟩:=List.mem_map.1 hv;have h1:=HSUB.out y hy;have e2:y.d=x.d:=(Prod.mk.inj e).2;omega))
   rw [Of (Ai1 R S back out k)] at HFI;have HST:=Bj3 (show (Ao (Gg R S back out k)).set (k*3+2) (.int .i64 (Eu R S (Fe out) back out[k].v out[k].d))=Ao (Gg R S back out (k+1)) by rw [Sh _ k out[k] _ (Yo hlt),Au9 hlt]);obtain ⟨c0,c1⟩:=HX.out;rw [hml] at HFI;clear x0 x1 x2 hce hmk HX;generalize out[k]=a at*;obtain ⟨av,ad,ab⟩:=a;simp only [Ja] at y0 y1 y2 HFI HST;generalize Eu R S (Fe out) back av ad=r at*;have e0:=fun p=>Ab p c0;have e1:=fun p=>Ab p c1;have e2:=fun p=>Ab p y0;have e3:=fun p=>Ab p y1;have e4:=fun p=>Ab p y2
   go_upto_region 10 with (fail)
   refine Gb 11 (by kernel_rfl) (by kernel_rfl) ?_;simp only [List.take_succ_cons,List.take_zero,List.drop_succ_cons,List.drop_zero]
   repeat (go_big_quiet_step ((go_at_call 147;exact Calls.ext_of (HFI.out _))))
   refine wpQuiet_nil ?_;rintro _ ⟨p5,rfl⟩;have HB5:=Bj3 (Ah wr p5);generalize ext wr p5=w5 at HB5 ⊢;have z5:=(HB5.out.frozen (p:=⟨g,k*3+2,none⟩) (Bk3 _ _ y2)).trans zf;have q5:=Bj4 HB5.out y2;have HO6:=Bj3 (show (w5.setCell ⟨g,k*3+2,none⟩ (.int .i64 r)).ownsRow w.heap.size 150 3 (.slice (some ⟨g,0,none⟩) out.length cap) out.length (Ao (Gg R S back out (k+1))) by
    have h9:=((Ag HO.out HB5.out).stored (k*3+2) (.int .i64 r)).1;rw [HST.out] at h9;exact h9)
   have hgb:=HRO.out g rfl;have HB6:=Bj3 (show Below w.heap.size w (w5.setCell ⟨g,k*3+2,none⟩ (.int .i64 r)) from (HB.out.st HB5.out).setCell hgb.1 _);have HX6:=Bj3 (show (w5.setCell ⟨g,k*3+2,none⟩ (.int .i64 r)).cell? ⟨w4.heap.size,0,none⟩=some (.pointer (some ⟨hb,0,none⟩))/\(w5.setCell ⟨g,k*3+2,none⟩ (.int .i64 r)).cell? ⟨w4.heap.size,1,none⟩=some (.bool back) from
    ⟨(Bm0 (a:=⟨w4.heap.size,0,none⟩) (Below.heap_setCell _ _ _ _ (fun e=>hgb.2 e.symm))).trans (Bj4 HB5.out c0),(Bm0 (a:=⟨w4.heap.size,1,none⟩) (Below.heap_setCell _ _ _ _ (fun e=>hgb.2 e.symm))).trans (Bj4 HB5.out c1)⟩)
   clear e0 e1 e2 e3 e4 y0 y1 y2 c0 c1 zf HFI hgb
   go_wp2
   go_roundg (out.length-(k+1))
   case measure=>omega
   case rel=>exact ⟨k+1,by omega,Bj5 _,by go_num,HO6.out,HB6.out,HX6.out⟩
  ·obtain rfl:k=out.length:=by omega
   have hO:=HO.out;rw [Av0] at hO;obtain ⟨ao9,cap9,e9,hce⟩:=Cel.of_owns hO
   cases e9
   have HC9:=Bj3 hce;have HL9:=Bj3 (Kb R S back out);clear hO hce
   go_wp2
   refine bodyPost_ret (v:=.tuple #[.slice ao out.length cap,.int .i64 0]) (by simp [results,Tryz.results88,go_sem];try rfl) rfl ?_;exact ⟨ao,cap,withB R S back out,by rw [HL9.out],HC9.out,HB.out,HEX.out.withB R S back,Ba3 R S back out,by rw [HL9.out];exact HLEN.out,fun a ha=>by
    unfold withB at ha;obtain ⟨y,hy,rfl⟩:=List.mem_map.1 ha;exact HSUB.out y hy⟩
end
section
open Go Go.Proofs Go.RowKit Go.Shelf Hp Ch
end
end Go.Proofs.YteaaapdjplbljaaGreat
