/- Package simple's law: each simple way that is told is one, weighs what is told, and is at its place. -/
import Derived.Test.YteaaapdjplbljaaProg
import Derived.Test.YteaaapdjplbljaaVa38
set_option linter.unusedVariables false
set_option linter.unusedSimpArgs false
set_option linter.unnecessarySimpa false
namespace Go.Proofs.Yteaaapdjplbljaa.Sm
open Go Go.Proofs Go.RowKit Go.Shelf Go.Proofs.Yteaaapdjplbljaa Go.Proofs.Yteaaapdjplbljaa.Ad Go.Proofs.Yteaaapdjplbljaa.Hp Go.Proofs.Yteaaapdjplbljaa.Ch
def light30 (g:GD):Bool:=(((decide (g.n≤100)||decide (4096<g.n))&&decide ((g.es.length:Int)≤300))&&(decide (g.n≤7)||decide (4096<g.n)))&&decide ((g.es.length:Int)≤22)
theorem light30_len {g:GD} (h:light30 g=true):g.es.length≤22:=by
 unfold light30 at h
 simp only [Bool.and_eq_true,decide_eq_true_eq] at h
 omega
set_option maxRecDepth 100000 in
set_option maxHeartbeats 4000000 in
theorem once_any (g:GD) (ao:Option Addr) (cap:Nat) (s t:Int) (w:World) (hc:Cel w ao (flat g.es)):
  Calls Try.prog 4 #[.agg #[.int .i64 g.n,.slice ao g.es.length cap],.int .i64 s,.int .i64 t] w fun e w'=>e=.returned (.bool true)∧Below w.heap.size w w':=by
 have HL:=Lib.hid (fun W=>light30_any g ao cap W)
 have HAL:=Lib.hid (fun W=>alive30_any W)
 obtain ⟨V,hV⟩:∃V,V=w.alloc (Obj.cells #[.int .i64 g.n,.slice ao g.es.length cap] 24):=⟨_,rfl⟩
 have HBV:=Lib.hid (show Below w.heap.size w V by rw [hV];exact Below.of_al _ _)
 have z0:V.cell? ⟨w.heap.size,0,none⟩=some (.int .i64 g.n):=by rw [hV];go_simp
 have z1:V.cell? ⟨w.heap.size,1,none⟩=some (.slice ao g.es.length cap):=by rw [hV];go_simp
 have HV:=Lib.hid hV
 have HC:=Lib.hid (hc.go HBV.out)
 clear hV hc
 have hll:=light30_len (g:=g)
 rw [show ((((decide (g.n≤100)||decide (4096<g.n))&&decide ((g.es.length:Int)≤300))&&(decide (g.n≤7)||decide (4096<g.n)))&&decide ((g.es.length:Int)≤22))=light30 g from rfl] at HL
 generalize light30 g=b at*
 cases b with
 |false=>
  go_enter Try.func4,Try.ntmps4
  go_upto_region 1 with (fail)
  rw [←HV.out]
  go_wp2_with (first
   |(go_at_call 5;refine (HL.out _).mono ?_;rintro e w1 ⟨rfl,hb1⟩;(have HB1:=Lib.hid (HBV.out.st hb1));clear hb1)
   |(go_at_call 6;refine (HAL.out _).mono ?_;rintro e w2 ⟨rfl,hb1⟩;(have HB2:=Lib.hid (HB1.out.st hb1));clear hb1))
  go_ret
  exact ⟨rfl,HB2.out⟩
 |true=>
  have hll:=hll rfl
  by_cases hk:whyS g s t=0
  ·obtain ⟨gn,es⟩:=g
   simp only at*
   obtain ⟨n,rfl⟩:∃n:Nat,gn=(n:Int):=⟨gn.toNat,by
    have:=rightG_bounds (whyS_ok hk).1
    simp only at this
    omega⟩
   have HA:=Lib.hid (fun W h=>all_anyS n es ao cap s t 60 W h (by omega) (by decide))
   have HEL:=Lib.hid (show es.length≤1000000 by omega)
   have HK:=Lib.hid hk
   by_cases hm:((allS n es s t).length:Int)≤max 60 0
   ·have HAS:=Lib.hid (fun (ts:List RtC) (is:Bool) (k:Int) (h:AllSIs n es s t 60 (ts.map (·.r)) is k)=>(by
     rcases h with ⟨h1,h2,-,-⟩|⟨-,h2,⟨-,h3,h4⟩|⟨h3,-,-⟩⟩
     ·exact absurd (h1.trans HK.out) h2
     ·exact ⟨h3,h2,by rw [h4];exact once_ok HK.out hm,by have:=congrArg List.length h4;rw [List.length_map,sortR_len] at this;omega⟩
     ·omega:is=true∧k=0∧OnceS n es s t 60 (ts.map (·.r))∧ts.length≤60))
    clear hk hm hll
    go_enter Try.func4,Try.ntmps4
    go_upto_region 1 with (fail)
    rw [←HV.out]
    go_wp2_with (first
     |(go_at_call 5;refine (HL.out _).mono ?_;rintro e w1 ⟨rfl,hb1⟩;(have z0:=cell_later hb1 z0);(have z1:=cell_later hb1 z1);(have HC1:=Lib.hid (HC.out.go hb1));(have HB1:=Lib.hid (HBV.out.st hb1));clear hb1)
     |(go_at_call 9;refine (HA.out _ HC1.out).mono ?_;rintro e w2 ⟨ta,tc,ts,is,k,rfl,q1,q2,q3,q4⟩;obtain ⟨rfl,rfl,q5,q6⟩:=HAS.out _ _ _ q4;(have z0:=cell_later q3 z0);(have z1:=cell_later q3 z1);(have HC2:=Lib.hid (HC1.out.go q3));(have HB2:=Lib.hid (HB1.out.st q3));(have Q1:=Lib.hid q1);(have Q2:=Lib.hid q2);(have Q5:=Lib.hid q5);(have Q6:=Lib.hid q6);clear q1 q2 q3 q4 q5 q6))
    clear HAS HA HL HC1 HB1 HC
    go_loopg [10] ts.length (fun kx s10 wr=>∃k:Nat,s10=.int .i64 k∧k≤ts.length∧ts.length-k≤kx∧Aside (Below w2.heap.size w2 wr))
    case atStart=>exact ⟨0,rfl,Nat.zero_le _,by omega,Below.refl _ _⟩
    case round=>
     obtain ⟨k,rfl,hk,hg,HW⟩:=hrel
     have HBwr:=Lib.hid HW.out
     by_cases hlt:k<ts.length
     ·have HLT:=Lib.hid hlt
      obtain ⟨b1,o1,hao,x0,x1⟩:=Q1.out.rt hlt
      have hmem:=List.mem_map_of_mem (f:=fun y:RtC=>y.r) (List.getElem_mem hlt)
      obtain ⟨hi1,hi2,hi3⟩:=Q5.out.is _ hmem
      have hxl:=Q5.out.len _ hmem
      have hrk:=Q5.out.rank k (by simpa using hlt)
      have hq2:=Q2.out ts[k] (List.getElem_mem hlt)
      rw [mapR_get hlt] at hrk
      have HRI:=Lib.hid (fun (j:Nat) (hj:k=j+1)=>(by
       subst hj
       have:=Q5.out.rise j (by simpa using hlt)
       rwa [mapR_get (show j<ts.length by omega),mapR_get hlt] at this:cmpR (ts[j]'(by omega)).r.w (ts[j]'(by omega)).r.es ts[k].r.w ts[k].r.es<0))
      generalize ts[k]=y at x0 x1 hi1 hi2 hi3 hxl hrk hq2 HRI
      have G0:=Lib.hid (fun W' (hb:Below w2.heap.size w2 W')=>cell_later hb z0)
      have G1:=Lib.hid (fun W' (hb:Below w2.heap.size w2 W')=>cell_later hb z1)
      have GC:=Lib.hid (fun W' (hb:Below w2.heap.size w2 W')=>HC2.out.go hb)
      have EC:=Lib.hid (fun W' (hb:Below w2.heap.size w2 W')=>hq2.1.go hb)
      have HW8:=Lib.hid (fun W h h'=>refWeight_any ⟨(n:Int),es⟩ ao y.ao cap y.cap y.r.es W (by have:=HEL.out;show es.length≤_;omega) (by omega) h h')
      have HRK:=Lib.hid (fun W h h'=>rank_any n es ao cap s t y.r.es y.ao y.cap 60 W h HEL.out (by decide) hxl h')
      have HIS:=Lib.hid (fun W h h'=>refIs_any ⟨(n:Int),es⟩ ao y.ao cap y.cap s t y.r.es W (by have:=HEL.out;show es.length≤_;omega) (by omega) h h')
      have HSI:=Lib.hid (fun W h h'=>refSimple_any ⟨(n:Int),es⟩ ao y.ao cap y.cap s y.r.es W (by have:=HEL.out;show es.length≤_;omega) (by omega) h h')
      rw [hi3] at HW8
      rw [hrk] at HRK
      rw [hi1] at HIS
      rw [hi2] at HSI
      simp only [Option.getD_some,Option.isSome_some] at HW8 HRK
      have EX0:=fun W' (hb:Below w2.heap.size w2 W')=>cell_later hb x0
      have EX1:=fun W' (hb:Below w2.heap.size w2 W')=>cell_later hb x1
      have HXL:=Lib.hid hxl
      clear hi1 hi2 hi3 hrk hq2 x0 x1 hmem hxl z0 z1
      subst hao
      cases k with
      |zero=>
       clear HRI
       simp only [Nat.zero_mul,Nat.add_zero,Nat.zero_add] at EX0 EX1
       have E0:=Lib.hid EX0
       have E1:=Lib.hid EX1
       clear EX0 EX1
       go_wp2
       have X0:=fun p=>E0.out _ (HBwr.out.st (below_ext wr p))
       have X1:=fun p=>E1.out _ (HBwr.out.st (below_ext wr p))
       have Y0:=fun p=>G0.out _ (HBwr.out.st (below_ext wr p))
       have Y1:=fun p=>G1.out _ (HBwr.out.st (below_ext wr p))
       have PG:=Lib.hid (fun p=>GC.out _ (HBwr.out.st (below_ext wr p)))
       have PE:=Lib.hid (fun p=>EC.out _ (HBwr.out.st (below_ext wr p)))
       refine wp_region_ext (by kernel_rfl) (by kernel_rfl) ?_
       repeat (go_big_quiet_step ((first|(go_at_call 10;exact Calls.ext_of (HW8.out _ (PG.out _) (PE.out _))))))
       refine wpQuiet_nil ?_
       rintro _ ⟨p5,rfl⟩
       have HB5:=Lib.hid (below_ext wr p5)
       generalize ext wr p5=w5 at HB5 ⊢
       clear X0 X1 Y0 Y1 PG PE
       have HBw5:=Lib.hid (HBwr.out.st HB5.out)
       go_wp2
       have X0:=fun p=>E0.out _ (HBw5.out.st (below_ext w5 p))
       have X1:=fun p=>E1.out _ (HBw5.out.st (below_ext w5 p))
       have Y0:=fun p=>G0.out _ (HBw5.out.st (below_ext w5 p))
       have Y1:=fun p=>G1.out _ (HBw5.out.st (below_ext w5 p))
       have PG:=Lib.hid (fun p=>GC.out _ (HBw5.out.st (below_ext w5 p)))
       have PE:=Lib.hid (fun p=>EC.out _ (HBw5.out.st (below_ext w5 p)))
       refine wp_region_ext (by kernel_rfl) (by kernel_rfl) ?_
       repeat (go_big_quiet_step ((first|(go_at_call 7;exact Calls.ext_of (HRK.out _ (PG.out _) (PE.out _))))))
       refine wpQuiet_nil ?_
       rintro _ ⟨p6,rfl⟩
       have HB6:=Lib.hid (below_ext w5 p6)
       generalize ext w5 p6=w6 at HB6 ⊢
       clear X0 X1 Y0 Y1 PG PE
       have HBw6:=Lib.hid (HBw5.out.st HB6.out)
       go_wp2
       have X0:=fun p=>E0.out _ (HBw6.out.st (below_ext w6 p))
       have X1:=fun p=>E1.out _ (HBw6.out.st (below_ext w6 p))
       have Y0:=fun p=>G0.out _ (HBw6.out.st (below_ext w6 p))
       have Y1:=fun p=>G1.out _ (HBw6.out.st (below_ext w6 p))
       have PG:=Lib.hid (fun p=>GC.out _ (HBw6.out.st (below_ext w6 p)))
       have PE:=Lib.hid (fun p=>EC.out _ (HBw6.out.st (below_ext w6 p)))
       refine wp_region_ext (by kernel_rfl) (by kernel_rfl) ?_
       repeat (go_big_quiet_step ((first|(go_at_call 11;exact Calls.ext_of (HIS.out _ (PG.out _) (PE.out _)))|(go_at_call 12;exact Calls.ext_of (HSI.out _ (PG.out _) (PE.out _))))))
       refine wpQuiet_nil ?_
       rintro _ ⟨p7,rfl⟩
       have HB7:=Lib.hid (below_ext w6 p7)
       generalize ext w6 p7=w7 at HB7 ⊢
       clear X0 X1 Y0 Y1 PG PE
       have HBw7:=Lib.hid (HBw6.out.st HB7.out)
       go_wp2
       go_roundg (ts.length-(0+1))
       case measure=>omega
       case rel=>exact ⟨0+1,by go_num,by omega,by omega,HBw7.out⟩
      |succ j=>
       have hj:j<ts.length:=by omega
       have q6:=Q6.out
       obtain ⟨b2,o2,hbo,u0,u1⟩:=Q1.out.rt hj
       cases hbo
       have hri:=HRI.out j rfl
       have hq3:=Q2.out ts[j] (List.getElem_mem hj)
       have hxl3:=Q5.out.len _ (List.mem_map_of_mem (f:=fun y:RtC=>y.r) (List.getElem_mem hj))
       clear HRI
       generalize ts[j]=v at u0 u1 hri hq3 hxl3
       have D0:=Lib.hid (fun W' (hb:Below w2.heap.size w2 W')=>cell_later hb u0)
       have D1:=Lib.hid (fun W' (hb:Below w2.heap.size w2 W')=>cell_later hb u1)
       have DC:=Lib.hid (fun W' (hb:Below w2.heap.size w2 W')=>hq3.1.go hb)
       have E0:=Lib.hid EX0
       have E1:=Lib.hid EX1
       have HCM:=Lib.hid (fun W h h'=>refCmp_any v.ao y.ao v.cap y.cap v.r.es y.r.es v.r.w y.r.w W (by omega) (by have:=HXL.out;omega) h h')
       generalize cmpR v.r.w v.r.es y.r.w y.r.es=cz at HCM hri
       have hcz:(decide (0≤cz))=false:=by simp;omega
       clear EX0 EX1 u0 u1 hq3 hxl3
       go_wp2
       have X0:=fun p=>E0.out _ (HBwr.out.st (below_ext wr p))
       have X1:=fun p=>E1.out _ (HBwr.out.st (below_ext wr p))
       have Y0:=fun p=>G0.out _ (HBwr.out.st (below_ext wr p))
       have Y1:=fun p=>G1.out _ (HBwr.out.st (below_ext wr p))
       have PG:=Lib.hid (fun p=>GC.out _ (HBwr.out.st (below_ext wr p)))
       have PE:=Lib.hid (fun p=>EC.out _ (HBwr.out.st (below_ext wr p)))
       refine wp_region_ext (by kernel_rfl) (by kernel_rfl) ?_
       repeat (go_big_quiet_step ((first|(go_at_call 10;exact Calls.ext_of (HW8.out _ (PG.out _) (PE.out _))))))
       refine wpQuiet_nil ?_
       rintro _ ⟨p5,rfl⟩
       have HB5:=Lib.hid (below_ext wr p5)
       generalize ext wr p5=w5 at HB5 ⊢
       clear X0 X1 Y0 Y1 PG PE
       have HBw5:=Lib.hid (HBwr.out.st HB5.out)
       go_wp2
       have X0:=fun p=>E0.out _ (HBw5.out.st (below_ext w5 p))
       have X1:=fun p=>E1.out _ (HBw5.out.st (below_ext w5 p))
       have Y0:=fun p=>G0.out _ (HBw5.out.st (below_ext w5 p))
       have Y1:=fun p=>G1.out _ (HBw5.out.st (below_ext w5 p))
       have PG:=Lib.hid (fun p=>GC.out _ (HBw5.out.st (below_ext w5 p)))
       have PE:=Lib.hid (fun p=>EC.out _ (HBw5.out.st (below_ext w5 p)))
       refine wp_region_ext (by kernel_rfl) (by kernel_rfl) ?_
       repeat (go_big_quiet_step ((first|(go_at_call 7;exact Calls.ext_of (HRK.out _ (PG.out _) (PE.out _))))))
       refine wpQuiet_nil ?_
       rintro _ ⟨p6,rfl⟩
       have HB6:=Lib.hid (below_ext w5 p6)
       generalize ext w5 p6=w6 at HB6 ⊢
       clear X0 X1 Y0 Y1 PG PE
       have HBw6:=Lib.hid (HBw5.out.st HB6.out)
       go_wp2
       have X0:=fun p=>E0.out _ (HBw6.out.st (below_ext w6 p))
       have X1:=fun p=>E1.out _ (HBw6.out.st (below_ext w6 p))
       have Y0:=fun p=>G0.out _ (HBw6.out.st (below_ext w6 p))
       have Y1:=fun p=>G1.out _ (HBw6.out.st (below_ext w6 p))
       have PG:=Lib.hid (fun p=>GC.out _ (HBw6.out.st (below_ext w6 p)))
       have PE:=Lib.hid (fun p=>EC.out _ (HBw6.out.st (below_ext w6 p)))
       have P0:=fun p=>D0.out _ (HBw6.out.st (below_ext w6 p))
       have P1:=fun p=>D1.out _ (HBw6.out.st (below_ext w6 p))
       have PD:=Lib.hid (fun p=>DC.out _ (HBw6.out.st (below_ext w6 p)))
       refine wp_region_ext (by kernel_rfl) (by kernel_rfl) ?_
       repeat (go_big_quiet_step ((first|(go_at_call 11;exact Calls.ext_of (HIS.out _ (PG.out _) (PE.out _)))|(go_at_call 12;exact Calls.ext_of (HSI.out _ (PG.out _) (PE.out _)))|(go_at_call 13;exact Calls.ext_of (HCM.out _ (PD.out _) (PE.out _))))))
       refine wpQuiet_nil ?_
       rintro _ ⟨p7,rfl⟩
       have HB7:=Lib.hid (below_ext w6 p7)
       generalize ext w6 p7=w7 at HB7 ⊢
       clear X0 X1 Y0 Y1 PG PE P0 P1 PD
       have HBw7:=Lib.hid (HBw6.out.st HB7.out)
       go_wp2
       go_roundg (ts.length-((j+1)+1))
       case measure=>omega
       case rel=>exact ⟨(j+1)+1,by go_num,by omega,by omega,HBw7.out⟩
     ·go_wp2_with (go_at_call 6;refine (HAL.out _).mono ?_;rintro e w3 ⟨rfl,hb1⟩)
      go_ret
      exact ⟨rfl,(HB2.out.st HBwr.out).st hb1⟩
   ·have HAS:=Lib.hid (fun (ts:List RtC) (is:Bool) (k:Int) (h:AllSIs n es s t 60 (ts.map (·.r)) is k)=>(by
     rcases h with ⟨h1,h2,-,-⟩|⟨-,h2,⟨h3,-,-⟩|⟨-,h3,h4⟩⟩
     ·exact absurd (h1.trans HK.out) h2
     ·exact absurd h3 hm
     ·exact ⟨h3,h2,List.map_eq_nil_iff.1 h4⟩:is=false∧k=0∧ts=[]))
    clear hk hm hll
    go_enter Try.func4,Try.ntmps4
    go_upto_region 1 with (fail)
    rw [←HV.out]
    go_wp2_with (first
     |(go_at_call 5;refine (HL.out _).mono ?_;rintro e w1 ⟨rfl,hb1⟩;(have z0:=cell_later hb1 z0);(have z1:=cell_later hb1 z1);(have HC1:=Lib.hid (HC.out.go hb1));(have HB1:=Lib.hid (HBV.out.st hb1));clear hb1)
     |(go_at_call 9;refine (HA.out _ HC1.out).mono ?_;rintro e w2 ⟨ta,tc,ts,is,k,rfl,q1,q2,q3,q4⟩;obtain ⟨rfl,rfl,rfl⟩:=HAS.out _ _ _ q4;(have HB2:=Lib.hid (HB1.out.st q3));clear q1 q2 q3 q4)
     |(go_at_call 6;refine (HAL.out _).mono ?_;rintro e w3 ⟨rfl,hb1⟩;(have HB3:=Lib.hid (HB2.out.st hb1));clear hb1))
    go_ret
    exact ⟨rfl,HB3.out⟩
  ·have HA:=Lib.hid (fun W h=>all_no g ao cap s t 60 W h (by omega) hk)
   generalize whyS g s t=kk at*
   have hk2:(kk != 0)=true:=by simpa using hk
   clear hk hll
   go_enter Try.func4,Try.ntmps4
   go_upto_region 1 with (fail)
   rw [←HV.out]
   go_wp2_with (first
    |(go_at_call 5;refine (HL.out _).mono ?_;rintro e w1 ⟨rfl,hb1⟩;(have z0:=cell_later hb1 z0);(have z1:=cell_later hb1 z1);(have HC1:=Lib.hid (HC.out.go hb1));(have HB1:=Lib.hid (HBV.out.st hb1));clear hb1)
    |(go_at_call 9;refine (HA.out _ HC1.out).mono ?_;rintro e w2 ⟨rfl,hb1⟩;(have HB2:=Lib.hid (HB1.out.st hb1));clear hb1)
    |(go_at_call 6;refine (HAL.out _).mono ?_;rintro e w3 ⟨rfl,hb1⟩;(have HB3:=Lib.hid (HB2.out.st hb1));clear hb1))
   go_ret
   exact ⟨rfl,HB3.out⟩
end Go.Proofs.Yteaaapdjplbljaa.Sm
