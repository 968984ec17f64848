/- Walk of package upward: the first shortcut by which a label is come to; which labels are exact. Walk of package upward: Exact. The shortcuts by which a peak is come to are a way, in plain Lean. What unpack.Way gives is a way, in plain Lean. -/
import Derived.Test.YtkdomobedfhhgaaGreatProg
import Derived.Test.YtkdomobedfhhgaaGreatRm07
import Derived.Test.YtkdomobedfhhgaaGreatRm10
import Derived.Test.YtkdomobedfhhgaaGreatQm33
import Derived.Test.YtkdomobedfhhgaaGreatQm31
import Derived.Test.YtkdomobedfhhgaaGreatRm09
import Derived.Test.YtkdomobedfhhgaaGreatRm05
set_option linter.unusedVariables false
set_option linter.unusedSimpArgs false
set_option linter.unnecessarySimpa false
section
namespace Go.Proofs.YtkdomobedfhhgaaGreat
open Go Go.Proofs Go.RowKit Go.Shelf Go.Proofs.YtkdomobedfhhgaaGreat.Hp Go.Proofs.YtkdomobedfhhgaaGreat.Ch
set_option maxRecDepth 100000 in
set_option maxHeartbeats 1000000 in
theorem exact1_any (x:LB) (B fb n:Nat) (f:List Int) (w:World) (hb:w.cell? ⟨B,0,none⟩=some (.slice (some ⟨fb,0,none⟩) n n)) (hc:Cel w (some ⟨fb,0,none⟩) (f.map encW)) (hl:f.length=n) (hv:nodeN n x.v):
  Calls Tryz.prog 86 (#[encL x]++#[.pointer (some ⟨B,0,none⟩)]) w fun e w'=>e=.returned (.bool (decide (gD f x.v<x.d)))∧Below w.heap.size w w':=by
 obtain ⟨xv,xd,xb⟩:=x
 obtain ⟨v0,v1⟩:=hv
 simp only at v0 v1 ⊢
 obtain ⟨v,rfl⟩:∃v:Nat,xv=v:=⟨xv.toNat,by omega⟩
 have hvl:v<n:=by omega
 have hg:w.cell? ⟨fb,v,none⟩=some (.int .u64 (gD f (v:Int))):=by
  obtain ⟨b,o,e,h1⟩:=hc v (.int .u64 (gD f (v:Int))) (by
   rw [List.getElem?_map,List.getElem?_eq_getElem (by omega)]
   unfold gD
   rw [Int.toNat_natCast,List.getD_eq_getElem?_getD,List.getElem?_eq_getElem (by omega)]
   rfl)
  cases e
  rw [Nat.zero_add] at h1
  exact h1
 generalize gD f (v:Int)=g at*
 obtain ⟨W,hW⟩:∃W,W=w.alloc (Obj.cells #[.int .i64 (v:Int),.int .u64 xd,.int .i64 xb] 64):=⟨_,rfl⟩
 have hbw:Below w.heap.size w W:=by rw [hW];exact Below.of_al _ _
 have c0:W.cell? ⟨w.heap.size,0,none⟩=some (.int .i64 (v:Int)):=by rw [hW];go_simp
 have c1:W.cell? ⟨w.heap.size,1,none⟩=some (.int .u64 xd):=by rw [hW];go_simp
 have e0:=fun p=>cell_ext p c0
 have e1:=fun p=>cell_ext p c1
 have cB:=cell_later hbw hb
 have cG:=cell_later hbw hg
 have e2:=fun p=>cell_ext p cB
 have e3:=fun p=>cell_ext p cG
 have HW:=Lib.hid hW
 have HB:=Lib.hid hbw
 unfold encL
 clear hW hbw hb hc hg hl
 go_enter Tryz.func86,Tryz.ntmps86
 go_upto_region 1 with (fail)
 rw [←HW.out]
 refine wp_region_ext (by kernel_rfl) (by kernel_rfl) ?_
 repeat (go_big_quiet_step (fail))
 refine wpQuiet_nil ?_
 rintro _ ⟨pq,rfl⟩
 have HBq:=Lib.hid (below_ext W pq)
 generalize ext W pq=wq at HBq ⊢
 go_wp2
 go_ret
 exact ⟨rfl,HB.out.st HBq.out⟩
set_option maxRecDepth 100000 in
set_option maxHeartbeats 4000000 in
theorem first_any (hb n:Nat) (es:List EdgeD) (R:List Int) (S:List SC) (O I:List (List Int)) (l:List LB) (ao:Option Addr) (cap:Nat) (a:LB) (back:Bool) (w:World) (hh:HierM w hb n es R S O I) (hends:∀x∈S,nodeN n x.f∧nodeN n x.t∧0≤x.w∧x.w≤1152921504606846976)
  (hc:Cel w ao (flatB l)) (hl:l.length≤1000000) (hd:∀x∈l,0≤x.d∧x.d≤1152921504606846976):
  Calls Tryz.prog 87 #[.agg #[.pointer (some ⟨hb,0,none⟩),.bool back],.slice ao l.length cap,encL a] w fun e w'=>e=.returned (.int .i64 (firstS R S (labF l) back a.v a.d))∧Below w.heap.size w w':=by
 obtain ⟨W,hW⟩:∃W,W=(w.alloc (Obj.cells #[.pointer (some ⟨hb,0,none⟩),.bool back] 137)).alloc (Obj.cells #[.int .i64 a.v,.int .u64 a.d,.int .i64 a.b] 64):=⟨_,rfl⟩
 have hbw:Below w.heap.size w W:=by rw [hW];exact (Below.of_al _ _).al _
 have c0:W.cell? ⟨w.heap.size,0,none⟩=some (.pointer (some ⟨hb,0,none⟩)):=by rw [hW];go_simp
 have c1:W.cell? ⟨w.heap.size,1,none⟩=some (.bool back):=by rw [hW];go_simp
 have c2:W.cell? ⟨w.heap.size+1,0,none⟩=some (.int .i64 a.v):=by rw [hW];go_simp
 have c3:W.cell? ⟨w.heap.size+1,1,none⟩=some (.int .u64 a.d):=by rw [hW];go_simp
 have HH:=Lib.hid (hh.go hbw)
 have HC:=Lib.hid (hc.go hbw)
 have HEN:=Lib.hid hends
 have HD:=Lib.hid hd
 have HSZ:=Lib.hid (size_any hb n es R S O I W (hh.go hbw))
 have HW:=Lib.hid hW
 have HB0:=Lib.hid hbw
 have hsl:=hh.small.2.1
 have hsl2:(S.length:Int)≤1000000:=by omega
 obtain ⟨res,hres⟩:∃res,res=firstS R S (labF l) back a.v a.d:=⟨_,rfl⟩
 have HRE:=Lib.hid hres
 rw [←hres]
 unfold encL
 clear hh hc hends hd hW hbw hres
 go_enter Tryz.func87,Tryz.ntmps87
 go_upto_region 1 with (fail)
 rw [←HW.out]
 go_wp2_with (go_at_call 48;refine HSZ.out.mono ?_;rintro e w1 ⟨rfl,rfl⟩)
 go_loopg [17] S.length (fun gg v17 wr=>∃k:Nat,k≤S.length∧S.length-k≤gg∧v17=.int .i64 k∧Aside (Below W.heap.size W wr)∧Aside (∀j (h:j<S.length),j<k→hitS R (labF l) back a.v a.d S[j]=false))
 case atStart=>exact ⟨0,Nat.zero_le _,by omega,rfl,Below.refl _ _,fun j _ h=>absurd h (Nat.not_lt_zero _)⟩
 case round=>
  obtain ⟨k,hk,hgg,rfl,HB,HN⟩:=hrel
  by_cases hlt:k<S.length
  ·have hlt3:(k:Int)<(S.length:Int):=by omega
   have hk0:(0:Int)≤(k:Int):=by omega
   have HS1:=Lib.hid (shortcut_any hb n es R S O I wr (HH.out.go HB.out) k hlt)
   obtain ⟨⟨p0,p1⟩,⟨q0,q1⟩,w0,w1⟩:=HEN.out _ (List.getElem_mem hlt)
   have HHT:=Lib.hid (fun h:hitS R (labF l) back a.v a.d S[k]=true=>firstS_at hlt h (fun j hj=>HN.out j (by omega) hj))
   have HHF:=Lib.hid (fun h:hitS R (labF l) back a.v a.d S[k]=false=>(fun j (h1:j<S.length) (h2:j<k+1)=>(by
    by_cases e:j=k
    ·subst e;exact h
    ·exact HN.out j h1 (by omega):hitS R (labF l) back a.v a.d S[j]=false)))
   generalize S[k]=x at*
   obtain ⟨xf,xt,xw,xe,xa,xb⟩:=x
   simp only [scV] at p0 p1 q0 q1 w0 w1 HS1
   obtain ⟨fn,rfl⟩:∃fn:Nat,xf=fn:=⟨xf.toNat,by omega⟩
   obtain ⟨tn,rfl⟩:∃tn:Nat,xt=tn:=⟨xt.toNat,by omega⟩
   have hfn:fn<n:=by omega
   have htn:tn<n:=by omega
   have b0:=cell_later HB.out c0
   have b1:=cell_later HB.out c1
   have b2:=cell_later HB.out c2
   have b3:=cell_later HB.out c3
   go_upto_region 5 with (go_at_call 40;refine HS1.out.mono ?_;rintro e w2 ⟨rfl,hb2⟩;(have d0:=cell_later hb2 b0);(have d1:=cell_later hb2 b1);(have d2:=cell_later hb2 b2);(have d3:=cell_later hb2 b3);(have HB2:=Lib.hid (HB.out.st hb2));clear hb2)
   obtain ⟨W5,hW5⟩:∃W5,W5=w2.alloc (Obj.cells #[.int .i64 (fn:Int),.int .i64 (tn:Int),.int .u64 xw,.int .i64 xe,.int .i64 xa,.int .i64 xb] 79):=⟨_,rfl⟩
   rw [←hW5]
   have hb25:Below w2.heap.size w2 W5:=by rw [hW5];exact Below.of_al _ _
   have s0:W5.cell? ⟨w2.heap.size,0,none⟩=some (.int .i64 (fn:Int)):=by rw [hW5];go_simp
   have s1:W5.cell? ⟨w2.heap.size,1,none⟩=some (.int .i64 (tn:Int)):=by rw [hW5];go_simp
   have s2:W5.cell? ⟨w2.heap.size,2,none⟩=some (.int .u64 xw):=by rw [hW5];go_simp
   have HB5:=Lib.hid (HB2.out.st hb25)
   have g0:=cell_later hb25 d0
   have g1:=cell_later hb25 d1
   have g2:=cell_later hb25 d2
   have g3:=cell_later hb25 d3
   have x0:=fun p=>cell_ext p s0
   have x1:=fun p=>cell_ext p s1
   clear hb25 hW5 d0 d1 d2 d3 b0 b1 b2 b3 c0 c1 c2 c3 HS1 HSZ HW HN
   refine wp_region_ext (by kernel_rfl) (by kernel_rfl) ?_
   repeat (go_big_quiet_step (fail))
   refine wpQuiet_nil ?_
   rintro _ ⟨pa,rfl⟩
   have HBa:=Lib.hid (below_ext W5 pa)
   generalize ext W5 pa=wa at HBa ⊢
   have r0:=cell_later HBa.out g0
   have r1:=cell_later HBa.out g1
   have r2:=cell_later HBa.out g2
   have r3:=cell_later HBa.out g3
   have r4:=cell_later HBa.out s2
   have HB6:=Lib.hid (HB5.out.st HBa.out)
   clear x0 x1 g0 g1 g2 g3 s0 s1 s2 HB5 HB2
   cases back with
   |false=>
    have HE:=Lib.hid (show hitS R (labF l) false a.v a.d ⟨(fn:Int),(tn:Int),xw,xe,xa,xb⟩=(decide ((tn:Int)=a.v)&&decide (rAt R (fn:Int)<rAt R (tn:Int))&&(match labF l (fn:Int) with|some e=>decide (e+xw=a.d)|none=>false)) from rfl)
    have HR1:=Lib.hid (fun p=>hrank_any hb n es R S O I (ext wa p) (HH.out.go (HB6.out.st (below_ext wa p))) fn hfn)
    have HR2:=Lib.hid (fun p=>hrank_any hb n es R S O I (ext wa p) (HH.out.go (HB6.out.st (below_ext wa p))) tn htn)
    have HFI:=Lib.hid (fun W' (hz:Below W.heap.size W W')=>find_any l ao cap (fn:Int) W' (HC.out.go hz) hl)
    have HLN:=Lib.hid (fun h=>labIs_none (l:=l) (u:=(fn:Int)) h)
    have HLS:=Lib.hid (fun h=>labIs_some (l:=l) (u:=(fn:Int)) h)
    generalize rAt R (fn:Int)=rf at*
    generalize rAt R (tn:Int)=rt at*
    have y0:=fun p=>cell_ext p r0
    have y2:=fun p=>cell_ext p r2
    go_upto_region 8 with (fail)
    by_cases he:(tn:Int)=a.v
    ·have hnb:((tn:Int) != a.v)=false:=by simp [he]
     by_cases hrk:rt≤rf
     ·have HF2:=Lib.hid (HHF.out (by rw [HE.out,decide_eq_false (show ¬rf<rt by omega),Bool.and_false,Bool.false_and]))
      clear HHT HHF HE HLN HLS HFI he
      refine wp_region_ext (by kernel_rfl) (by kernel_rfl) ?_
      repeat (go_big_quiet_step (first
       |(go_at_call_of 53 (#[.pointer (some ⟨hb,0,none⟩),.int .i64 (fn:Int)]:Array Value);exact Calls.ext_of_same (HR1.out _))
       |(go_at_call_of 53 (#[.pointer (some ⟨hb,0,none⟩),.int .i64 (tn:Int)]:Array Value);exact Calls.ext_of_same (HR2.out _))))
      refine wpQuiet_nil ?_
      rintro _ ⟨pc,rfl⟩
      have HBc:=Lib.hid (below_ext wa pc)
      generalize ext wa pc=wc at HBc ⊢
      clear y0 y2 r0 r1 r2 r3 r4
      go_wp2
      go_roundg (S.length-(k+1))
      case measure=>omega
      case rel=>exact ⟨k+1,by omega,Nat.le_refl _,by go_num,HB6.out.st HBc.out,HF2.out⟩
     ·have hd1:decide (rf<rt)=true:=decide_eq_true (by omega)
      have hd2:decide ((tn:Int)=a.v)=true:=decide_eq_true he
      rw [hd1,hd2,Bool.true_and,Bool.true_and] at HE
      clear hd1 hd2 he
      refine wp_region_ext (by kernel_rfl) (by kernel_rfl) ?_
      repeat (go_big_quiet_step (first
       |(go_at_call_of 53 (#[.pointer (some ⟨hb,0,none⟩),.int .i64 (fn:Int)]:Array Value);exact Calls.ext_of_same (HR1.out _))
       |(go_at_call_of 53 (#[.pointer (some ⟨hb,0,none⟩),.int .i64 (tn:Int)]:Array Value);exact Calls.ext_of_same (HR2.out _))))
      refine wpQuiet_nil ?_
      rintro _ ⟨pc,rfl⟩
      have HBc:=Lib.hid (below_ext wa pc)
      generalize ext wa pc=wc at HBc ⊢
      have k3:=cell_later HBc.out r3
      have k4:=cell_later HBc.out r4
      have HBd:=Lib.hid (HB6.out.st HBc.out)
      clear y0 y2 r0 r1 r2 r3 r4 hrk HR1 HR2
      cases hi:labIs l (fn:Int) with
      |false=>
       have HF2:=Lib.hid (HHF.out (by rw [HE.out,HLN.out hi]))
       rw [hi] at HFI
       clear HHT HHF HE HLN HLS hi
       generalize labAt l (fn:Int)=y at*
       obtain ⟨yv,yd,yb⟩:=y
       simp only [encL] at HFI
       go_wp2_with (go_at_call 31;refine (HFI.out _ HBd.out).mono ?_;rintro e w7 ⟨rfl,hb7⟩;(have HB7:=Lib.hid (HBd.out.st hb7));clear hb7)
       go_roundg (S.length-(k+1))
       case measure=>omega
       case rel=>exact ⟨k+1,by omega,Nat.le_refl _,by go_num,HB7.out.st (Below.of_al _ _),HF2.out⟩
      |true=>
       obtain ⟨h1,h2,-⟩:=HLS.out hi
       rw [h1] at HE
       rw [hi] at HFI
       obtain ⟨e0,e1⟩:=HD.out _ h2
       clear HLN HLS h1 h2 hi
       generalize labAt l (fn:Int)=y at*
       obtain ⟨yv,yd,yb⟩:=y
       simp only [encL] at HFI
       simp only at e0 e1 HE
       by_cases hs:yd+xw=a.d
       ·have HT2:=Lib.hid (HHT.out (by rw [HE.out];exact decide_eq_true hs))
        clear HHT HHF HE
        have hsb:(yd+xw==a.d)=true:=by simp [hs]
        clear hs
        go_wp2_with (go_at_call 31;refine (HFI.out _ HBd.out).mono ?_;rintro e w7 ⟨rfl,hb7⟩;(have HB7:=Lib.hid (HBd.out.st hb7));(have k37:=cell_later hb7 k3);(have k47:=cell_later hb7 k4);(have j3:=cell_later (Below.of_al w7 (Obj.cells #[.int .i64 yv,.int .u64 yd,.int .i64 yb] 64)) k37);(have j4:=cell_later (Below.of_al w7 (Obj.cells #[.int .i64 yv,.int .u64 yd,.int .i64 yb] 64)) k47);clear hb7 k37 k47)
        go_ret
        exact ⟨by rw [HRE.out,HT2.out];rfl,HB0.out.st (HB7.out.st (Below.of_al _ _))⟩
       ·have HF2:=Lib.hid (HHF.out (by rw [HE.out];exact decide_eq_false hs))
        clear HHT HHF HE
        have hsb:(yd+xw==a.d)=false:=by simp [hs]
        clear hs
        go_wp2_with (go_at_call 31;refine (HFI.out _ HBd.out).mono ?_;rintro e w7 ⟨rfl,hb7⟩;(have HB7:=Lib.hid (HBd.out.st hb7));(have k37:=cell_later hb7 k3);(have k47:=cell_later hb7 k4);(have j3:=cell_later (Below.of_al w7 (Obj.cells #[.int .i64 yv,.int .u64 yd,.int .i64 yb] 64)) k37);(have j4:=cell_later (Below.of_al w7 (Obj.cells #[.int .i64 yv,.int .u64 yd,.int .i64 yb] 64)) k47);clear hb7 k37 k47)
        go_roundg (S.length-(k+1))
        case measure=>omega
        case rel=>exact ⟨k+1,by omega,Nat.le_refl _,by go_num,HB7.out.st (Below.of_al _ _),HF2.out⟩
    ·have hnb:((tn:Int) != a.v)=true:=by simp [he]
     have HF2:=Lib.hid (HHF.out (by rw [HE.out,decide_eq_false he,Bool.false_and,Bool.false_and]))
     clear HHT HHF HE HLN HLS HFI HR1 HR2
     refine wp_region_ext (by kernel_rfl) (by kernel_rfl) ?_
     repeat (go_big_quiet_step (fail))
     refine wpQuiet_nil ?_
     rintro _ ⟨pc,rfl⟩
     have HBc:=Lib.hid (below_ext wa pc)
     generalize ext wa pc=wc at HBc ⊢
     clear y0 y2 r0 r1 r2 r3 r4
     go_wp2
     go_roundg (S.length-(k+1))
     case measure=>omega
     case rel=>exact ⟨k+1,by omega,Nat.le_refl _,by go_num,HB6.out.st HBc.out,HF2.out⟩
   |true=>
    have HE:=Lib.hid (show hitS R (labF l) true a.v a.d ⟨(fn:Int),(tn:Int),xw,xe,xa,xb⟩=(decide ((fn:Int)=a.v)&&decide (rAt R (tn:Int)<rAt R (fn:Int))&&(match labF l (tn:Int) with|some e=>decide (e+xw=a.d)|none=>false)) from rfl)
    have HR1:=Lib.hid (fun p=>hrank_any hb n es R S O I (ext wa p) (HH.out.go (HB6.out.st (below_ext wa p))) tn htn)
    have HR2:=Lib.hid (fun p=>hrank_any hb n es R S O I (ext wa p) (HH.out.go (HB6.out.st (below_ext wa p))) fn hfn)
    have HFI:=Lib.hid (fun W' (hz:Below W.heap.size W W')=>find_any l ao cap (tn:Int) W' (HC.out.go hz) hl)
    have HLN:=Lib.hid (fun h=>labIs_none (l:=l) (u:=(tn:Int)) h)
    have HLS:=Lib.hid (fun h=>labIs_some (l:=l) (u:=(tn:Int)) h)
    generalize rAt R (tn:Int)=rf at*
    generalize rAt R (fn:Int)=rt at*
    have y0:=fun p=>cell_ext p r0
    have y2:=fun p=>cell_ext p r2
    go_upto_region 8 with (fail)
    by_cases he:(fn:Int)=a.v
    ·have hnb:((fn:Int) != a.v)=false:=by simp [he]
     by_cases hrk:rt≤rf
     ·have HF2:=Lib.hid (HHF.out (by rw [HE.out,decide_eq_false (show ¬rf<rt by omega),Bool.and_false,Bool.false_and]))
      clear HHT HHF HE HLN HLS HFI he
      refine wp_region_ext (by kernel_rfl) (by kernel_rfl) ?_
      repeat (go_big_quiet_step (first
       |(go_at_call_of 53 (#[.pointer (some ⟨hb,0,none⟩),.int .i64 (tn:Int)]:Array Value);exact Calls.ext_of_same (HR1.out _))
       |(go_at_call_of 53 (#[.pointer (some ⟨hb,0,none⟩),.int .i64 (fn:Int)]:Array Value);exact Calls.ext_of_same (HR2.out _))))
      refine wpQuiet_nil ?_
      rintro _ ⟨pc,rfl⟩
      have HBc:=Lib.hid (below_ext wa pc)
      generalize ext wa pc=wc at HBc ⊢
      clear y0 y2 r0 r1 r2 r3 r4
      go_wp2
      go_roundg (S.length-(k+1))
      case measure=>omega
      case rel=>exact ⟨k+1,by omega,Nat.le_refl _,by go_num,HB6.out.st HBc.out,HF2.out⟩
     ·have hd1:decide (rf<rt)=true:=decide_eq_true (by omega)
      have hd2:decide ((fn:Int)=a.v)=true:=decide_eq_true he
      rw [hd1,hd2,Bool.true_and,Bool.true_and] at HE
      clear hd1 hd2 he
      refine wp_region_ext (by kernel_rfl) (by kernel_rfl) ?_
      repeat (go_big_quiet_step (first
       |(go_at_call_of 53 (#[.pointer (some ⟨hb,0,none⟩),.int .i64 (tn:Int)]:Array Value);exact Calls.ext_of_same (HR1.out _))
       |(go_at_call_of 53 (#[.pointer (some ⟨hb,0,none⟩),.int .i64 (fn:Int)]:Array Value);exact Calls.ext_of_same (HR2.out _))))
      refine wpQuiet_nil ?_
      rintro _ ⟨pc,rfl⟩
      have HBc:=Lib.hid (below_ext wa pc)
      generalize ext wa pc=wc at HBc ⊢
      have k3:=cell_later HBc.out r3
      have k4:=cell_later HBc.out r4
      have HBd:=Lib.hid (HB6.out.st HBc.out)
      clear y0 y2 r0 r1 r2 r3 r4 hrk HR1 HR2
      cases hi:labIs l (tn:Int) with
      |false=>
       have HF2:=Lib.hid (HHF.out (by rw [HE.out,HLN.out hi]))
       rw [hi] at HFI
       clear HHT HHF HE HLN HLS hi
       generalize labAt l (tn:Int)=y at*
       obtain ⟨yv,yd,yb⟩:=y
       simp only [encL] at HFI
       go_wp2_with (go_at_call 31;refine (HFI.out _ HBd.out).mono ?_;rintro e w7 ⟨rfl,hb7⟩;(have HB7:=Lib.hid (HBd.out.st hb7));clear hb7)
       go_roundg (S.length-(k+1))
       case measure=>omega
       case rel=>exact ⟨k+1,by omega,Nat.le_refl _,by go_num,HB7.out.st (Below.of_al _ _),HF2.out⟩
      |true=>
       obtain ⟨h1,h2,-⟩:=HLS.out hi
       rw [h1] at HE
       rw [hi] at HFI
       obtain ⟨e0,e1⟩:=HD.out _ h2
       clear HLN HLS h1 h2 hi
       generalize labAt l (tn:Int)=y at*
       obtain ⟨yv,yd,yb⟩:=y
       simp only [encL] at HFI
       simp only at e0 e1 HE
       by_cases hs:yd+xw=a.d
       ·have HT2:=Lib.hid (HHT.out (by rw [HE.out];exact decide_eq_true hs))
        clear HHT HHF HE
        have hsb:(yd+xw==a.d)=true:=by simp [hs]
        clear hs
        go_wp2_with (go_at_call 31;refine (HFI.out _ HBd.out).mono ?_;rintro e w7 ⟨rfl,hb7⟩;(have HB7:=Lib.hid (HBd.out.st hb7));(have k37:=cell_later hb7 k3);(have k47:=cell_later hb7 k4);(have j3:=cell_later (Below.of_al w7 (Obj.cells #[.int .i64 yv,.int .u64 yd,.int .i64 yb] 64)) k37);(have j4:=cell_later (Below.of_al w7 (Obj.cells #[.int .i64 yv,.int .u64 yd,.int .i64 yb] 64)) k47);clear hb7 k37 k47)
        go_ret
        exact ⟨by rw [HRE.out,HT2.out];rfl,HB0.out.st (HB7.out.st (Below.of_al _ _))⟩
       ·have HF2:=Lib.hid (HHF.out (by rw [HE.out];exact decide_eq_false hs))
        clear HHT HHF HE
        have hsb:(yd+xw==a.d)=false:=by simp [hs]
        clear hs
        go_wp2_with (go_at_call 31;refine (HFI.out _ HBd.out).mono ?_;rintro e w7 ⟨rfl,hb7⟩;(have HB7:=Lib.hid (HBd.out.st hb7));(have k37:=cell_later hb7 k3);(have k47:=cell_later hb7 k4);(have j3:=cell_later (Below.of_al w7 (Obj.cells #[.int .i64 yv,.int .u64 yd,.int .i64 yb] 64)) k37);(have j4:=cell_later (Below.of_al w7 (Obj.cells #[.int .i64 yv,.int .u64 yd,.int .i64 yb] 64)) k47);clear hb7 k37 k47)
        go_roundg (S.length-(k+1))
        case measure=>omega
        case rel=>exact ⟨k+1,by omega,Nat.le_refl _,by go_num,HB7.out.st (Below.of_al _ _),HF2.out⟩
    ·have hnb:((fn:Int) != a.v)=true:=by simp [he]
     have HF2:=Lib.hid (HHF.out (by rw [HE.out,decide_eq_false he,Bool.false_and,Bool.false_and]))
     clear HHT HHF HE HLN HLS HFI HR1 HR2
     refine wp_region_ext (by kernel_rfl) (by kernel_rfl) ?_
     repeat (go_big_quiet_step (fail))
     refine wpQuiet_nil ?_
     rintro _ ⟨pc,rfl⟩
     have HBc:=Lib.hid (below_ext wa pc)
     generalize ext wa pc=wc at HBc ⊢
     clear y0 y2 r0 r1 r2 r3 r4
     go_wp2
     go_roundg (S.length-(k+1))
     case measure=>omega
     case rel=>exact ⟨k+1,by omega,Nat.le_refl _,by go_num,HB6.out.st HBc.out,HF2.out⟩
  ·obtain rfl:k=S.length:=by omega
   have HE:=Lib.hid (firstS_no (fun j h=>HN.out j h h))
   go_wp2
   go_ret
   exact ⟨by rw [HRE.out,HE.out];rfl,HB0.out.st HB.out⟩
end Go.Proofs.YtkdomobedfhhgaaGreat
end
section
namespace Go.Proofs.YtkdomobedfhhgaaGreat
open Go Go.Proofs Go.RowKit Go.Shelf Go.Proofs.YtkdomobedfhhgaaGreat.Hp Go.Proofs.YtkdomobedfhhgaaGreat.Ch
theorem flatB_setb:∀(l:List LB) (i:Nat) (q:LB) (b:Int),l[i]? =some q→(flatB l).set (i*3+2) (.int .i64 b)=flatB (l.set i ⟨q.v,q.d,b⟩)
 |[],i,q,b,h=>by simp at h
 |x::l,0,q,b,h=>by cases h;rfl
 |x::l,i+1,q,b,h=>by
  rw [show (i+1)*3+2=i*3+2+1+1+1 by omega]
  show _=_::_::_::flatB (l.set i _)
  rw [←flatB_setb l i q b (by simpa using h)]
  rfl
def ExactPost (es:List EdgeD) (n:Nat) (R:List Int) (S:List SC) (ro:List Int) (back:Bool) (s:Nat) (w:World) (e:Ending) (w':World):Prop:=
 ∃(ao:Option Addr) (cap:Nat) (l:List LB),e=.returned (.tuple #[.slice ao l.length cap,.int .i64 0])∧Cel w' ao (flatB l)∧Below w.heap.size w w'∧ExIs (relB back (arcG es)) (rk ro) (s:Int) l∧(∀a∈l,a.b=firstS R S (labF l) back a.v a.d)∧l.length≤n∧∀a∈l,nodeN n a.v∧0≤a.d∧a.d≤211106232532992
theorem withB_b (R:List Int) (S:List SC) (back:Bool) (l:List LB):∀a∈withB R S back l,a.b=firstS R S (labF (withB R S back l)) back a.v a.d:=by
 have hl:labF (withB R S back l)=labF l:=labF_cong (by simp [withB,Function.comp_def])
 intro a ha
 rw [hl]
 unfold withB at ha
 obtain ⟨y,_,rfl⟩:=List.mem_map.1 ha
 rfl
set_option maxRecDepth 100000 in
set_option maxHeartbeats 4000000 in
theorem exact_any (hb n:Nat) (es:List EdgeD) (R:List Int) (S:List SC) (ro:List Int) (back:Bool) (s:Nat) (w:World) (hh:HierM w hb n es R S (rowsK R S n S.length).1 (rowsK R S n S.length).2) (hok:HierOK es n R S ro) (hn:n≤12) (hs:s<n):
  Calls Tryz.prog 33 #[.pointer (some ⟨hb,0,none⟩),.int .i64 (s:Int),.bool back] w (ExactPost es n R S ro back s w):=by
 have HH:=Lib.hid (fun W (hz:Below w.heap.size w W)=>hh.same (fun k hk=>hz.block k hk))
 have HSA:=Lib.hid (space_any hb n es R S ro s back w hh hok hn hs)
 have HSW:=Lib.hid (fun l ao cap W (hz:Below w.heap.size w W) hc hsp hl=>sweep_any hb n es R S ro back s l ao cap W (hh.go hz) hok hn hs hc hsp hl)
 have HOK:=Lib.hid hok
 unfold SpacePost at HSA
 unfold SweepPost at HSW
 clear hh hok
 go_enter Tryz.func33,Tryz.ntmps33
 go_upto_region 4 with (go_at_call 29;refine HSA.out.mono ?_;rintro e w1 ⟨ao,cap,l,rfl,h1,h2,h3,h4,h5,h6⟩;(have HC1:=Lib.hid h1);(have HB1:=Lib.hid h2);(have HS1:=Lib.hid h3);(have HL1:=Lib.hid (And.intro h4 h5));(have HO1:=Lib.hid h6);clear h1 h2 h3 h4 h5 h6)
 go_upto_region 5 with (go_at_call 84;refine (HSW.out l ao cap w1 HB1.out HC1.out HS1.out HL1.out.1).mono ?_;rintro e w2 ⟨fb,f,rfl,h1,h2,h3,h4,h5⟩;(have HF2:=Lib.hid h1);(have HFL:=Lib.hid h2);(have HFB:=Lib.hid h3);(have HB2:=Lib.hid h4);(have HFV:=Lib.hid h5);clear h1 h2 h3 h4 h5)
 obtain ⟨W3,hW3⟩:∃W3,W3=w2.alloc (Obj.cells #[.slice (some ⟨fb,0,none⟩) n n] 41):=⟨_,rfl⟩
 rw [←hW3]
 have hb23:Below w2.heap.size w2 W3:=by rw [hW3];exact Below.of_al _ _
 have cB:W3.cell? ⟨w2.heap.size,0,none⟩=some (.slice (some ⟨fb,0,none⟩) n n):=by rw [hW3];go_simp
 have hL:=labsOK HOK.out HS1.out hs hn
 have hrow:∀k,(Value.slice ao l.length cap).ownBlock=some k→k<w1.heap.size:=fun k e=>(HO1.out.lt k e).2
 have HDEL:=Lib.hid (delLab_any w.heap.size #[.pointer (some ⟨w2.heap.size,0,none⟩)] (fun a=>decide (gD f a.v<a.d)) l ao cap W3 (hp_owns_go (hp_owns_go HO1.out HB2.out) hb23) (fun W x ho hx=>by
  have hs2:=HB2.out.size
  have hfb:=HFB.out
  refine exact1_any x w2.heap.size fb n f W (ho.cell cB (fun e=>by have h9:w2.heap.size<w1.heap.size:=hrow _ e;omega)) ?_ HFL.out (hL x hx).1
  exact cel_off (HF2.out.go hb23) ho (n:=n) (c:=n) (fun k hk e=>by cases hk;have h9:fb<w1.heap.size:=hrow _ e;omega)) (by have:=HL1.out.1;omega))
 have hex:=exactL_is (HOK.out.hierB back) (fun v=>by unfold rk;omega) HS1.out HL1.out.2 (fun x hx=>⟨(hL x hx).1,by have:=(hL x hx).2.2;unfold FAR;omega⟩) HFV.out
 have HEX:=Lib.hid hex
 have HSUB:=Lib.hid (show ∀a∈exactL f l,nodeN n a.v∧0≤a.d∧a.d≤211106232532992 from fun a ha=>hL a (List.mem_filter.1 ha).1)
 have HLEN:=Lib.hid (show (exactL f l).length≤n from Nat.le_trans (List.length_filter_le _ _) HL1.out.1)
 have HB3:=Lib.hid ((HB1.out.st HB2.out).st hb23)
 have HRW:=Lib.hid (fun k (e:(Value.slice ao l.length cap).ownBlock=some k)=>And.intro (HO1.out.lt k e).1 (show k<W3.heap.size from by have h1:=hrow k e;have h2:=HB2.out.size;have h3:=hb23.size;omega))
 unfold DelPostL at HDEL
 rw [show l.filter (fun a=>!decide (gD f a.v<a.d))=exactL f l from rfl] at HDEL
 clear hW3 hL hrow hex hb23 cB HSA HSW HC1 HB1 HS1 HL1 HO1 HF2 HFL HFB HB2 HFV
 generalize exactL f l=out at*
 go_upto_region 7 with (go_at_call 85;refine HDEL.out.mono ?_;rintro e w4 ⟨rfl,h1,h2⟩;(have HO4:=Lib.hid h1);(have HF4:=Lib.hid h2);clear h1 h2)
 obtain ⟨W5,hW5⟩:∃W5,W5=w4.alloc (Obj.cells #[.pointer (some ⟨hb,0,none⟩),.bool back] 137):=⟨_,rfl⟩
 rw [←hW5]
 have hb45:Below w4.heap.size w4 W5:=by rw [hW5];exact Below.of_al _ _
 have c0:W5.cell? ⟨w4.heap.size,0,none⟩=some (.pointer (some ⟨hb,0,none⟩)):=by rw [hW5];go_simp
 have c1:W5.cell? ⟨w4.heap.size,1,none⟩=some (.bool back):=by rw [hW5];go_simp
 have hrow4:∀k,(Value.slice ao out.length cap).ownBlock=some k→w.heap.size≤k∧k≠w4.heap.size:=fun k e=>by
  have h1:=HRW.out k (by cases ao<;>exact e)
  have h2:=HF4.out.size
  omega
 have HRO:=Lib.hid hrow4
 have hbl4:Below w.heap.size w w4:=HB3.out.trans (HF4.out.below HB3.out.size (fun k e=>(HRW.out k e).1))
 have HO5:=Lib.hid (show W5.ownsRow w.heap.size 64 3 (.slice ao out.length cap) out.length (flatB (mixB R S back out 0)) by rw [mixB_zero];exact hp_owns_go HO4.out hb45)
 have HB5:=Lib.hid (hbl4.st hb45)
 have HCW:=Lib.hid (And.intro c0 c1)
 have hl2:(out.length:Int)≤12:=by have:=HLEN.out;omega
 clear hW5 hb45 c0 c1 hrow4 hbl4 HO4 HF4 HB3 HRW HDEL
 go_wp2
 go_loopg [34] out.length (fun gg v34 wr=>∃k:Nat,k≤out.length∧out.length-k≤gg∧v34=.int .i64 k∧Aside (wr.ownsRow w.heap.size 64 3 (.slice ao out.length cap) out.length (flatB (mixB R S back out k)))∧Aside (Below w.heap.size w wr)∧Aside (wr.cell? ⟨w4.heap.size,0,none⟩=some (.pointer (some ⟨hb,0,none⟩))∧wr.cell? ⟨w4.heap.size,1,none⟩=some (.bool back)))
 case atStart=>exact ⟨0,Nat.zero_le _,by omega,rfl,HO5.out,HB5.out,HCW.out⟩
 case round=>
  clear HO5 HB5 HCW
  obtain ⟨k,hk,hgg,rfl,HO,HB,HX⟩:=hrel
  by_cases hlt:k<out.length
  ·have hlt3:(k:Int)<(out.length:Int):=by omega
   have hk0:(0:Int)≤(k:Int):=by omega
   have hml:(mixB R S back out k).length=out.length:=mixB_len
   obtain ⟨g,cg,e⟩:=own_form HO.out (by omega)
   cases e
   obtain ⟨x0,x1,x2⟩:=flatB_get (mixB R S back out k) k (by omega)
   have hmk:(mixB R S back out k)[k]'(by omega)=out[k]:=Option.some.inj ((List.getElem?_eq_getElem (by omega)).symm.trans (mixB_get hlt))
   rw [hmk] at x0 x1 x2
   have y0:=(HO.out.cellAt (k*3) (by omega)).trans x0
   have y1:=(HO.out.cellAt (k*3+1) (by omega)).trans x1
   have y2:=(HO.out.cellAt (k*3+2) (by omega)).trans x2
   have zf:=HO.out.frozenAt (k*3+2)
   obtain ⟨ao9,cap9,e9,hce⟩:=Cel.of_owns HO.out
   cases e9
   have HFI:=Lib.hid (fun p=>first_any hb n es R S (rowsK R S n S.length).1 (rowsK R S n S.length).2 (mixB R S back out k) (some ⟨g,0,none⟩) cap out[k] back (ext wr p) (HH.out _ (HB.out.st (below_ext wr p))) (fun x hx=>by
     have h1:=HOK.out.ends x hx
     have h2:=HOK.out.big x hx
     have h3:=big12 hn
     exact ⟨h1.1,h1.2.1,by omega,by omega⟩) (hce.go (below_ext wr p)) (by omega) (fun x hx=>by
     have hv:(x.v,x.d)∈out.map (fun a=>(a.v,a.d)):=by rw [←mixB_vd R S back out k];exact List.mem_map.2 ⟨x,hx,rfl⟩
     obtain ⟨y,hy,e⟩:=List.mem_map.1 hv
     have h1:=HSUB.out y hy
     have e2:y.d=x.d:=(Prod.mk.inj e).2
     omega))
   rw [labF_cong (mixB_vd R S back out k)] at HFI
   have HST:=Lib.hid (show (flatB (mixB R S back out k)).set (k*3+2) (.int .i64 (firstS R S (labF out) back out[k].v out[k].d))=flatB (mixB R S back out (k+1)) by rw [flatB_setb _ k out[k] _ (mixB_get hlt),mixB_set hlt])
   obtain ⟨c0,c1⟩:=HX.out
   rw [hml] at HFI
   clear x0 x1 x2 hce hmk HX
   generalize out[k]=a at*
   obtain ⟨av,ad,ab⟩:=a
   simp only [encL] at y0 y1 y2 HFI HST
   generalize firstS R S (labF out) back av ad=r at*
   have e0:=fun p=>cell_ext p c0
   have e1:=fun p=>cell_ext p c1
   have e2:=fun p=>cell_ext p y0
   have e3:=fun p=>cell_ext p y1
   have e4:=fun p=>cell_ext p y2
   go_upto_region 10 with (fail)
   refine wp_region_ext_tail 11 (by kernel_rfl) (by kernel_rfl) ?_
   simp only [List.take_succ_cons,List.take_zero,List.drop_succ_cons,List.drop_zero]
   repeat (go_big_quiet_step ((go_at_call 87;exact Calls.ext_of (HFI.out _))))
   refine wpQuiet_nil ?_
   rintro _ ⟨p5,rfl⟩
   have HB5:=Lib.hid (below_ext wr p5)
   generalize ext wr p5=w5 at HB5 ⊢
   have z5:=(HB5.out.frozen (p:=⟨g,k*3+2,none⟩) (World.block_lt_of_cell? _ _ y2)).trans zf
   have q5:=cell_later HB5.out y2
   have HO6:=Lib.hid (show (w5.setCell ⟨g,k*3+2,none⟩ (.int .i64 r)).ownsRow w.heap.size 64 3 (.slice (some ⟨g,0,none⟩) out.length cap) out.length (flatB (mixB R S back out (k+1))) by
    have h9:=((hp_owns_go HO.out HB5.out).stored (k*3+2) (.int .i64 r)).1
    rw [HST.out] at h9
    exact h9)
   have hgb:=HRO.out g rfl
   have HB6:=Lib.hid (show Below w.heap.size w (w5.setCell ⟨g,k*3+2,none⟩ (.int .i64 r)) from (HB.out.st HB5.out).setCell hgb.1 _)
   have HX6:=Lib.hid (show (w5.setCell ⟨g,k*3+2,none⟩ (.int .i64 r)).cell? ⟨w4.heap.size,0,none⟩=some (.pointer (some ⟨hb,0,none⟩))∧(w5.setCell ⟨g,k*3+2,none⟩ (.int .i64 r)).cell? ⟨w4.heap.size,1,none⟩=some (.bool back) from
    ⟨(World.cell?_of_block (a:=⟨w4.heap.size,0,none⟩) (Below.heap_setCell _ _ _ _ (fun e=>hgb.2 e.symm))).trans (cell_later HB5.out c0),(World.cell?_of_block (a:=⟨w4.heap.size,1,none⟩) (Below.heap_setCell _ _ _ _ (fun e=>hgb.2 e.symm))).trans (cell_later HB5.out c1)⟩)
   clear e0 e1 e2 e3 e4 y0 y1 y2 c0 c1 zf HFI hgb
   go_wp2
   go_roundg (out.length-(k+1))
   case measure=>omega
   case rel=>exact ⟨k+1,by omega,Nat.le_refl _,by go_num,HO6.out,HB6.out,HX6.out⟩
  ·obtain rfl:k=out.length:=by omega
   have hO:=HO.out
   rw [mixB_all] at hO
   obtain ⟨ao9,cap9,e9,hce⟩:=Cel.of_owns hO
   cases e9
   have HC9:=Lib.hid hce
   have HL9:=Lib.hid (withB_len R S back out)
   clear hO hce
   go_wp2
   refine bodyPost_ret (v:=.tuple #[.slice ao out.length cap,.int .i64 0]) (by simp [results,Tryz.results33,go_sem];try rfl) rfl ?_
   exact ⟨ao,cap,withB R S back out,by rw [HL9.out],HC9.out,HB.out,HEX.out.withB R S back,withB_b R S back out,by rw [HL9.out];exact HLEN.out,fun a ha=>by
    unfold withB at ha
    obtain ⟨y,hy,rfl⟩:=List.mem_map.1 ha
    exact HSUB.out y hy⟩
end Go.Proofs.YtkdomobedfhhgaaGreat
end
section
namespace Go.Proofs.YtkdomobedfhhgaaGreat
open Go Go.Proofs Go.RowKit Go.Shelf Go.Proofs.YtkdomobedfhhgaaGreat.Hp Go.Proofs.YtkdomobedfhhgaaGreat.Ch
inductive PathL (S:List SC):Int→Int→Int→List Int→Prop
 |nil (u:Int):PathL S u u 0 []
 |cons {j:Nat} {v d:Int} {p:List Int} (hj:j<S.length):PathL S S[j].t v d p→PathL S S[j].f v (S[j].w+d) ((j:Int)::p)
variable {S:List SC}
theorem PathL.snoc {u m d:Int} {p:List Int} (h:PathL S u m d p) {j:Nat} (hj:j<S.length) (e:S[j].f=m):PathL S u S[j].t (d+S[j].w) (p++[(j:Int)]):=by
 induction h with
 |nil u=>rw [←e,Int.zero_add,←Int.add_zero S[j].w];exact .cons hj (.nil _)
 |cons hi _ ih=>rw [Int.add_assoc];exact .cons hi (ih e)
theorem PathL.trans {u m v d d':Int} {p p':List Int} (h:PathL S u m d p) (h':PathL S m v d' p'):PathL S u v (d+d') (p++p'):=by
 induction h with
 |nil u=>rw [Int.zero_add];exact h'
 |cons hi _ ih=>rw [Int.add_assoc];exact .cons hi (ih h')
theorem PathL.ge {u v d:Int} {p:List Int} (hS:∀x∈S,0≤x.w) (h:PathL S u v d p):0≤d:=by
 induction h with
 |nil u=>exact Int.le_refl _
 |cons hi _ ih=>have:=hS _ (List.getElem_mem hi);omega
theorem firstS_hit {R:List Int} {f:Int→Option Int} {back:Bool} {v d:Int} (h:firstS R S f back v d≠-1):∃j:Nat,∃hj:j<S.length,firstS R S f back v d=(j:Int)∧hitS R f back v d S[j]=true:=by
 unfold firstS at h ⊢
 cases hf:S.findIdx? (hitS R f back v d) with
 |none=>rw [hf] at h;exact absurd rfl h
 |some i=>
  rw [List.findIdx?_eq_some_iff_getElem] at hf
  obtain ⟨h1,h2,_⟩:=hf
  exact ⟨i,h1,rfl,h2⟩
theorem hitS_iff {R:List Int} {f:Int→Option Int} {back:Bool} {v d:Int} {x:SC} (h:hitS R f back v d x=true):toS back x=v∧rAt R (frS back x)<rAt R (toS back x)∧∃e,f (frS back x)=some e∧e+x.w=d:=by
 unfold hitS at h
 simp only [Bool.and_eq_true,decide_eq_true_eq] at h
 obtain ⟨⟨h1,h2⟩,h3⟩:=h
 refine ⟨h1,h2,?_⟩
 cases hf:f (if back then x.t else x.f) with
 |none=>rw [hf] at h3;cases h3
 |some e=>rw [hf] at h3;exact ⟨e,rfl,of_decide_eq_true h3⟩
def cntR (r:Int→Int) (l:List LB) (v:Int):Nat:=l.countP fun a=>decide (r a.v≤r v)
theorem cntR_lt {r:Int→Int} {l:List LB} {u v:Int} (h:r u<r v) {x:LB} (hx:x∈l) (e:x.v=v):cntR r l u<cntR r l v:=by
 refine countP_lt (fun a _ ha=>?_) hx ?_ ?_
 ·have:=of_decide_eq_true ha
  exact decide_eq_true (by omega)
 ·exact decide_eq_true (by rw [e];exact Int.le_refl _)
 ·exact decide_eq_false (by rw [e];omega)
theorem cntR_le (r:Int→Int) (l:List LB) (v:Int):cntR r l v≤l.length:=List.countP_le_length
section
variable {es:List EdgeD} {n:Nat} {R:List Int} {ro:List Int} {s:Nat} {back:Bool} {l:List LB}
theorem label_root (hok:HierOK es n R S ro) (hex:ExIs (relB back (arcG es)) (rk ro) (s:Int) l) (hb:∀a∈l,a.b=firstS R S (labF l) back a.v a.d) (hnode:∀a∈l,nodeN n a.v) {a:LB} (ha:a∈l) (h1:a.b= -1):a.v=(s:Int)∧a.d=0:=by
 have hH:=hok.hierB back
 have hp:=(hex.2 a.v a.d).1 ⟨a,ha,rfl,rfl⟩
 by_cases e:(s:Int)=a.v
 ·refine ⟨e.symm,?_⟩
  rw [←e] at hp
  exact hp.2.1.uniq (.self hH.pos _)
 ·exfalso
  obtain ⟨x,p,q,hd,h2,⟨i,y,h0,hy,hw,he⟩,hr,hx,_⟩:=hp.step hH e
  obtain ⟨hi,e1⟩:=List.getElem?_eq_some_iff.1 hy
  have hl:=(labF_spec hex.once x p).2 ((hex.2 x p).2 h2)
  have hft:frS back y=x∧toS back y=a.v:=by
   unfold frS toS
   cases back with
   |true=>exact ⟨he.1,he.2⟩
   |false=>exact ⟨he.1,he.2⟩
  have hhit:hitS R (labF l) back a.v a.d y=true:=by
   unfold hitS
   have h3:(if back then y.t else y.f)=x:=hft.1
   have h4:(if back then y.f else y.t)=a.v:=hft.2
   rw [h3,h4,hl,rAt_rk hok hx,rAt_rk hok (hnode a ha)]
   simp only [Bool.and_eq_true,decide_eq_true_eq]
   exact ⟨⟨trivial,hr⟩,by omega⟩
  have h5:=hb a ha
  rw [h1] at h5
  unfold firstS at h5
  cases hf:S.findIdx? (hitS R (labF l) back a.v a.d) with
  |none=>
   rw [List.findIdx?_eq_none_iff] at hf
   have:=hf y (by rw [←e1];exact List.getElem_mem hi)
   rw [hhit] at this
   cases this
  |some k=>rw [hf] at h5;simp at h5
theorem way_ok (hok:HierOK es n R S ro) (hex:ExIs (relB back (arcG es)) (rk ro) (s:Int) l) (hb:∀a∈l,a.b=firstS R S (labF l) back a.v a.d) (hnode:∀a∈l,nodeN n a.v):∀(left:Nat) (v:Int) (out:List Int),labIs l v=true→cntR (rk ro) l v≤left→
  ∃p,wayF S l back left v out=some (if back then out++p else p++out.reverse)∧(if back then PathL S v (s:Int) (labAt l v).d p else PathL S (s:Int) v (labAt l v).d p):=by
 intro left
 induction left with
 |zero=>
  intro v out hv hc
  obtain ⟨_,k2,k3⟩:=labIs_some hv
  have:0<cntR (rk ro) l v:=List.countP_pos_iff.2 ⟨_,k2,decide_eq_true (by rw [k3];exact Int.le_refl _)⟩
  omega
 |succ left ih=>
  intro v out hv hc
  obtain ⟨_,k2,k3⟩:=labIs_some hv
  conv=>enter [1,p,1];unfold wayF
  rw [hv]
  simp only [if_true]
  by_cases h1:(labAt l v).b= -1
  ·obtain ⟨e1,e2⟩:=label_root hok hex hb hnode k2 h1
   rw [k3] at e1
   refine ⟨[],?_,?_⟩
   ·rw [if_pos h1]
    cases back<;>simp
   ·rw [e1]
    have e3:(labAt l (s:Int)).d=0:=by rw [←e1];exact e2
    rw [e3]
    cases back
    ·exact .nil _
    ·exact .nil _
  ·rw [if_neg h1]
   have hbb:=hb _ k2
   obtain ⟨j,hj,e1,hhit⟩:=firstS_hit (by rw [←hbb];exact h1)
   obtain ⟨t1,t2,e,t3,t4⟩:=hitS_iff hhit
   rw [k3] at t1
   have hbj:(labAt l v).b=(j:Int):=by rw [hbb,e1]
   have hsc:S.getD (labAt l v).b.toNat scZ=S[j]:=by rw [hbj,Int.toNat_natCast,sc_at hj]
   rw [hsc,if_pos ⟨by rw [hbj];omega,by rw [hbj];omega,t1⟩]
   have hfi:labIs l (frS back S[j])=true:=by
    cases hi:labIs l (frS back S[j]) with
    |true=>rfl
    |false=>rw [labIs_none hi] at t3;cases t3
   obtain ⟨k4,k5,k6⟩:=labIs_some hfi
   rw [k4] at t3
   have he:=Option.some.inj t3
   have hends:=hok.ends _ (List.getElem_mem hj)
   have hnn:nodeN n (frS back S[j])∧nodeN n (toS back S[j]):=by
    unfold frS toS
    cases back with
    |true=>exact ⟨hends.2.1,hends.1⟩
    |false=>exact ⟨hends.1,hends.2.1⟩
   rw [rAt_rk hok hnn.1,rAt_rk hok hnn.2,t1] at t2
   have hlt:=cntR_lt (l:=l) t2 k2 k3
   obtain ⟨p,hp1,hp2⟩:=ih (frS back S[j]) (out++[(labAt l v).b]) hfi (by omega)
   cases back with
   |true=>
    simp only [if_true] at hp1 hp2 t1 ⊢
    refine ⟨(j:Int)::p,?_,?_⟩
    ·rw [hp1,hbj];simp
    ·rw [←t4,←he,Int.add_comm]
     have h9:=PathL.cons hj hp2
     have t1':S[j].f=v:=t1
     rw [t1'] at h9
     exact h9
   |false=>
    simp only [Bool.false_eq_true,if_false] at hp1 hp2 t1 ⊢
    refine ⟨p++[(j:Int)],?_,?_⟩
    ·rw [hp1,hbj];simp
    ·rw [←t4,←he]
     have h9:=hp2.snoc hj rfl
     have t1':S[j].t=v:=t1
     rw [t1'] at h9
     exact h9
end
end Go.Proofs.YtkdomobedfhhgaaGreat
end
section
namespace Go.Proofs.YtkdomobedfhhgaaGreat
open Go Go.Proofs Go.RowKit Go.Shelf Go.Proofs.YtkdomobedfhhgaaGreat.Hp Go.Proofs.YtkdomobedfhhgaaGreat.Ch
theorem PathL.pe {es:List EdgeD} {S:List SC} (hm:∀i (h:i<S.length),∃I,PE es S[i].f (unL S i) S[i].t S[i].w I) {u v d:Int} {p:List Int} (h:PathL S u v d p):(∀j∈p,inS S j=true)∧((p=[]∧u=v)∨∃e I,PE es u (unA S p) v e I):=by
 induction h with
 |nil u=>exact ⟨fun j hj=>(by cases hj),.inl ⟨rfl,rfl⟩⟩
 |cons hj h ih=>
  rename_i j v d p
  obtain ⟨I,hI⟩:=hm j hj
  refine ⟨fun i hi=>?_,.inr ?_⟩
  ·rcases List.mem_cons.1 hi with rfl|hi
   ·exact inS_iff.2 ⟨by omega,by omega⟩
   ·exact ih.1 i hi
  ·have e:unA S ((j:Int)::p)=unL S j++unA S p:=by
    show unL S _++_=_
    rw [Int.toNat_natCast]
    rfl
   rw [e]
   rcases ih.2 with ⟨rfl,rfl⟩|⟨x,I',h'⟩
   ·exact ⟨_,I,by show PE es _ (unL S j++[]) _ _ _;rw [List.append_nil];exact hI⟩
   ·exact ⟨_,_,.two hI h'⟩
theorem unM_le {S:List SC} {c:Nat}:∀(l:List Int),(∀v∈l,unW S v≤c)→unM S l≤c*l.length
 |[],_=>Nat.zero_le _
 |a::r,h=>by
  have h1:=h a (List.mem_cons_self ..)
  have h2:=unM_le r (fun v hv=>h v (List.mem_cons_of_mem _ hv))
  have e:unM S (a::r)=unW S a+unM S r:=by simp [unM]
  rw [e,List.length_cons,Nat.mul_add,Nat.mul_one]
  omega
theorem unA_len {S:List SC} {c:Nat}:∀(l:List Int),(∀v∈l,(unL S v.toNat).length≤c)→(unA S l).length≤c*l.length
 |[],_=>Nat.zero_le _
 |a::r,h=>by
  have h1:=h a (List.mem_cons_self ..)
  have h2:=unA_len r (fun v hv=>h v (List.mem_cons_of_mem _ hv))
  have e:unA S (a::r)=unL S a.toNat++unA S r:=rfl
  rw [e,List.length_append,List.length_cons,Nat.mul_add,Nat.mul_one]
  omega
theorem path_is {n:Nat} {es:List EdgeD} {R:List Int} {S:List SC} {ro:List Int} (hg:rightG ⟨n,es⟩=0) (hn:n≤12) (ho:HierOK es n R S ro) {s t d:Int} {p:List Int} (hs:nodeN n s) (h:PathL S s t d p) (hp:p.length≤24):
  p.all (inS S)=true∧unM S p≤200000∧(unA S p).length≤98304∧isB ⟨n,es⟩ s t (unA S p)=true:=by
 obtain ⟨_,_,_,hm⟩:=made_parts (madeR_built (g:=⟨n,es⟩) (n:=n) hg rfl ho (by omega))
 have hway:=made_way hm (fun x hx=>by
  have k1:=ho.ends x hx
  have k2:=ho.big x hx
  have k3:=big12 hn
  omega)
 have hsh:=(built_sh hg hn ho).2
 obtain ⟨h1,h2⟩:=h.pe (es:=es) (fun i hi=>by
  obtain ⟨I,h3,_⟩:=hway i hi
  have hx:S.getD i scZ=S[i]:=by rw [List.getD_eq_getElem?_getD,List.getElem?_eq_getElem hi];rfl
  rw [hx] at h3
  exact ⟨I,h3⟩)
 have hl:∀v∈p,(unL S v.toNat).length≤4096:=fun v hv=>by
  have:=inS_iff.1 (h1 v hv)
  exact (hsh v.toNat (by omega)).1
 have hu:nodeB (⟨n,es⟩:GD).n s=true:=by
  unfold nodeB
  simp only [Bool.and_eq_true,decide_eq_true_eq]
  exact hs
 refine ⟨List.all_eq_true.2 h1,?_,?_,?_⟩
 ·have:=unM_le (S:=S) (c:=8192) p (fun v hv=>by
   have:=hl v hv
   unfold unW
   split<;>omega)
  have h8:8192*p.length≤8192*24:=Nat.mul_le_mul_left _ hp
  omega
 ·have:=unA_len (S:=S) (c:=4096) p hl
  have h8:4096*p.length≤4096*24:=Nat.mul_le_mul_left _ hp
  omega
 ·rcases h2 with ⟨rfl,rfl⟩|⟨e,I,h3⟩
  ·unfold isB
   rw [nodesG_yes (edgesB_of hg (by intro e he;cases he)) hu]
   simp [unA,walkGo]
  ·exact h3.is (g:=⟨n,es⟩) hg hu
theorem meet_ways {n:Nat} {es:List EdgeD} {R:List Int} {S:List SC} {ro:List Int} {x y:Nat} {la lb:List LB} {d v:Int} (ho:HierOK es n R S ro) (hm:MeetAt (arcG es) (rk ro) x y d v)
  (ha:ExIs (relB false (arcG es)) (rk ro) (x:Int) la) (hb:ExIs (relB true (arcG es)) (rk ro) (y:Int) lb) (fa:∀a∈la,a.b=firstS R S (labF la) false a.v a.d) (fb:∀a∈lb,a.b=firstS R S (labF lb) true a.v a.d) (na:∀a∈la,nodeN n a.v) (nb:∀a∈lb,nodeN n a.v):
  ∃p q e,wayF S la false la.length v []=some p∧wayF S lb true lb.length v []=some q∧PathL S (x:Int) (y:Int) e (p++q):=by
 obtain ⟨a,b,_,hp,hq⟩:=hm
 obtain ⟨u,hu,e1,_⟩:=(ha.2 v a).2 hp
 obtain ⟨z,hz,e2,_⟩:=(hb.2 v b).2 hq
 have hi:labIs la v=true:=List.any_eq_true.2 ⟨u,hu,decide_eq_true e1⟩
 have hj:labIs lb v=true:=List.any_eq_true.2 ⟨z,hz,decide_eq_true e2⟩
 obtain ⟨p,h1,h2⟩:=way_ok ho ha fa na la.length v [] hi (cntR_le _ _ _)
 obtain ⟨q,h3,h4⟩:=way_ok ho hb fb nb lb.length v [] hj (cntR_le _ _ _)
 simp only [Bool.false_eq_true,if_false,List.reverse_nil,List.append_nil] at h1 h2
 simp only [if_true,List.nil_append] at h3 h4
 exact ⟨p,q,_,h1,h3,h2.trans h4⟩
end Go.Proofs.YtkdomobedfhhgaaGreat
end
