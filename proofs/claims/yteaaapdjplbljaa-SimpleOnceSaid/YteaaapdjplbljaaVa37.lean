/- Walks of package simple: the search in a row of routes, Rank; the law's own small ones. -/
import Derived.Test.YteaaapdjplbljaaProg
import Derived.Test.YteaaapdjplbljaaVa34
import Derived.Test.YteaaapdjplbljaaVa03
import Derived.Test.YteaaapdjplbljaaVa36
import Derived.Deep.LoopGhost
import Derived.Deep.RegionWith
import Derived.Deep.RegionHeld3
set_option linter.unusedVariables false
set_option linter.unusedSimpArgs false
set_option linter.unnecessarySimpa false
namespace Go.Proofs.Yteaaapdjplbljaa.Sm
open Go Go.Proofs Go.RowKit Go.Shelf Go.Proofs.Yteaaapdjplbljaa Go.Proofs.Yteaaapdjplbljaa.Ad Go.Proofs.Yteaaapdjplbljaa.Hp Go.Proofs.Yteaaapdjplbljaa.Ch
theorem countB {α:Type} (p:α→Bool):∀(l:List α) (i:Nat),i≤l.length→(∀t (h:t<l.length),t<i→p l[t]=true)→(∀t (h:t<l.length),i≤t→p l[t]=false)→l.countP p=i
 |[],i,hi,_,_=>by simp at hi;simp [hi]
 |a::r,0,_,_,h2=>by
  rw [List.countP_eq_zero]
  intro x hx
  obtain ⟨t,ht,rfl⟩:=List.getElem_of_mem hx
  rw [h2 t ht (Nat.zero_le _)]
  simp
 |a::r,i+1,hi,h1,h2=>by
  rw [List.countP_cons_of_pos (show p a=true from h1 0 (by simp) (Nat.succ_pos _)),countB p r i (by simpa using hi) (fun t ht h=>h1 (t+1) (by simpa using ht) (by omega)) (fun t ht h=>h2 (t+1) (by simpa using ht) (by omega))]
theorem leR_lt {a b x:RtD} (h1:leR a b) (h2:cmpR b.w b.es x.w x.es<0):cmpR a.w a.es x.w x.es<0:=by
 have h3:leR a x:=leR_trans h1 (Int.le_of_lt h2)
 rcases Int.lt_or_eq_of_le h3 with h|h
 ·exact h
 ·have h4:=cmpR_zero a x
  rw [h] at h4
  obtain rfl:a=x:=of_decide_eq_true h4.symm
  have h5:=cmpR_neg a.w a.es b.w b.es
  unfold leR at h1
  omega
set_option maxRecDepth 100000 in
set_option maxHeartbeats 4000000 in
theorem bsearch_any (ts:List RtC) (ao:Option Addr) (ca:Nat) (x:RtC) (w:World) (hla:ts.length≤1000000) (ha:Cel w ao (flatR ts)) (hta:Lie w ts) (hx:AtR x w) (hxl:x.r.es.length≤1000000) (hso:(ts.map (·.r)).Pairwise leR):
  Calls Try.prog 19 #[.slice ao ts.length ca,encRt x,.func (.func 20) #[] #[]] w fun e w'=>(∃b,e=.returned (.tuple #[.int .i64 (aheadR (ts.map (·.r)) x.r:Nat),.bool b]))∧Below w.heap.size w w':=by
 have HA:=Lib.hid ha
 have HTA:=Lib.hid hta
 have HX:=Lib.hid hx
 have HSO:=Lib.hid (fun i j (hi:i<ts.length) (hj:j<ts.length) (h:i≤j)=>(by
  rcases Nat.lt_or_eq_of_le h with h|h
  ·have:=List.pairwise_iff_getElem.1 hso i j (by simpa using hi) (by simpa using hj) h
   simpa using this
  ·subst h
   show cmpR _ _ _ _≤0
   rw [cmpR_self]
   exact Int.le_refl _:leR ts[i].r ts[j].r))
 obtain ⟨N,hN⟩:∃N,aheadR (ts.map (·.r)) x.r=N:=⟨_,rfl⟩
 have HN:=Lib.hid (fun i (hi:i≤ts.length) (h1:∀t (h:t<ts.length),t<i→cmpR ts[t].r.w ts[t].r.es x.r.w x.r.es<0) (h2:∀t (h:t<ts.length),i≤t→0≤cmpR ts[t].r.w ts[t].r.es x.r.w x.r.es)=>(by
  rw [←hN]
  refine countB _ _ _ (by simpa using hi) (fun t ht h=>?_) (fun t ht h=>?_)
  ·rw [mapR_get (by simpa using ht) ht];exact decide_eq_true (h1 t (by simpa using ht) h)
  ·rw [mapR_get (by simpa using ht) ht];exact decide_eq_false (by have:=h2 t (by simpa using ht) h;omega):N=i))
 rw [hN]
 clear ha hta hx hso hN
 have HXL:=Lib.hid hxl
 clear hxl
 obtain ⟨xa,xc,xr⟩:=x
 simp only [encRt] at HX HN HXL ⊢
 go_enter Try.func19,Try.ntmps19
 go_wp2
 obtain ⟨V,hV,c1,c2⟩:∃V,V=w.alloc (Obj.cells #[.slice xa xr.es.length xc,.int .u64 xr.w] 39)∧V.cell? ⟨w.heap.size,0,none⟩=some (.slice xa xr.es.length xc)∧V.cell? ⟨w.heap.size,1,none⟩=some (.int .u64 xr.w):=⟨_,rfl,by go_simp,by go_simp⟩
 rw [←hV]
 have HV:=Lib.hid (show Below w.heap.size w V by rw [hV];exact Below.of_al _ _)
 clear hV
 go_loopg [9,10] ts.length (fun kx s9 s10 wr=>∃lo hi:Nat,s9=.int .i64 lo∧s10=.int .i64 hi∧lo≤hi∧hi≤ts.length∧hi-lo≤kx∧Aside (Below V.heap.size V wr)∧
  Aside ((∀t (h:t<ts.length),t<lo→cmpR ts[t].r.w ts[t].r.es xr.w xr.es<0)∧(∀t (h:t<ts.length),hi≤t→0≤cmpR ts[t].r.w ts[t].r.es xr.w xr.es)))
 case atStart=>exact ⟨0,ts.length,rfl,rfl,Nat.zero_le _,Nat.le_refl _,by omega,Below.refl _ _,(⟨fun t _ ht=>absurd ht (Nat.not_lt_zero _),fun t h1 h2=>by omega⟩:_∧_)⟩
 case round=>
  obtain ⟨lo,hi,rfl,rfl,hlh,hin,hg,HW0,I⟩:=hrel
  have c1:=cell_later HW0.out c1
  have c2:=cell_later HW0.out c2
  have HW:=Lib.hid (HV.out.st HW0.out)
  have Y0:=fun p=>cell_ext p c1
  have Y1:=fun p=>cell_ext p c2
  by_cases hlt:lo<hi
  ·obtain ⟨md,hmd⟩:∃md,md=(lo+hi) / 2:=⟨_,rfl⟩
   have hm1:lo≤md∧md<hi:=by omega
   have hml:md<ts.length:=by omega
   obtain ⟨b1,o1,hao,x0,x1⟩:=(HA.out.go HW.out).rt hml
   have H1:=Lib.hid ((HTA.out.go HW.out) ts[md] (List.getElem_mem hml))
   have H2:=Lib.hid (show Cel wr xa (xr.es.map encI) from HX.out.go HW.out)
   have UP:=Lib.hid (fun (h:cmpR ts[md].r.w ts[md].r.es xr.w xr.es<0) t (ht:t<ts.length) (h2:t<md+1)=>leR_lt (HSO.out t md ht hml (by omega)) h)
   have DN:=Lib.hid (fun (h:¬cmpR ts[md].r.w ts[md].r.es xr.w xr.es<0) t (ht:t<ts.length) (h2:md≤t)=>Int.not_lt.1 fun h3=>h (leR_lt (HSO.out md t hml ht h2) h3))
   have II:=Lib.hid I.out
   clear I
   generalize ts[md]=y at x0 x1 H1 UP DN
   obtain ⟨ya,yc,yr⟩:=y
   simp only at x0 x1 H1 UP DN
   subst hao
   have HS:=Lib.hid (fun W h1 h2=>Cmp_any ya xa yc xc yr.es xr.es yr.w xr.w W (by have:=H1.out.2;omega) (by have:=HXL.out;omega) h1 h2)
   have X0:=fun p=>cell_ext p x0
   have X1:=fun p=>cell_ext p x1
   have XC:=Lib.hid (fun p=>H1.out.1.go (below_ext wr p))
   have XD:=Lib.hid (fun p=>H2.out.go (below_ext wr p))
   generalize cmpR yr.w yr.es xr.w xr.es=cz at*
   subst hmd
   by_cases hyx:cz<0
   ·go_wp2
    refine wp_region_ext (by kernel_rfl) (by kernel_rfl) ?_
    repeat (go_big_quiet_step ((first|(go_at_fn 20;exact Calls.ext_of (HS.out _ (XC.out _) (XD.out _)))|(go_at_call 20;exact Calls.ext_of (HS.out _ (XC.out _) (XD.out _))))))
    refine wpQuiet_nil ?_
    rintro _ ⟨p5,rfl⟩
    have HB5:=Lib.hid (below_ext wr p5)
    generalize ext wr p5=w5 at HB5 ⊢
    go_wp2
    go_roundg (hi-((lo+hi) / 2+1))
    case measure=>omega
    case rel=>
     exact ⟨(lo+hi) / 2+1,hi,by rw [show ((lo:Int)+(hi:Int)) / 2+1=(((lo+hi) / 2+1:Nat):Int) by omega],rfl,by omega,hin,Nat.le_refl _,HW0.out.st HB5.out,(⟨UP.out hyx,II.out.2⟩:_∧_)⟩
   ·go_wp2
    refine wp_region_ext (by kernel_rfl) (by kernel_rfl) ?_
    repeat (go_big_quiet_step ((first|(go_at_fn 20;exact Calls.ext_of (HS.out _ (XC.out _) (XD.out _)))|(go_at_call 20;exact Calls.ext_of (HS.out _ (XC.out _) (XD.out _))))))
    refine wpQuiet_nil ?_
    rintro _ ⟨p5,rfl⟩
    have HB5:=Lib.hid (below_ext wr p5)
    generalize ext wr p5=w5 at HB5 ⊢
    go_wp2
    go_roundg ((lo+hi) / 2-lo)
    case measure=>omega
    case rel=>
     exact ⟨lo,(lo+hi) / 2,rfl,by rw [show ((lo:Int)+(hi:Int)) / 2=(((lo+hi) / 2:Nat):Int) by omega],by omega,by omega,Nat.le_refl _,HW0.out.st HB5.out,(⟨II.out.1,DN.out hyx⟩:_∧_)⟩
  ·obtain rfl:hi=lo:=by omega
   obtain rfl:=HN.out hi hin I.out.1 I.out.2
   by_cases hn:N<ts.length
   ·obtain ⟨b1,o1,hao,x0,x1⟩:=(HA.out.go HW.out).rt hn
    have H1:=Lib.hid ((HTA.out.go HW.out) ts[N] (List.getElem_mem hn))
    have H2:=Lib.hid (show Cel wr xa (xr.es.map encI) from HX.out.go HW.out)
    clear I HN HSO
    generalize ts[N]=y at x0 x1 H1
    obtain ⟨ya,yc,yr⟩:=y
    simp only at x0 x1 H1
    subst hao
    have HS:=Lib.hid (fun W h1 h2=>Cmp_any ya xa yc xc yr.es xr.es yr.w xr.w W (by have:=H1.out.2;omega) (by have:=HXL.out;omega) h1 h2)
    have X0:=fun p=>cell_ext p x0
    have X1:=fun p=>cell_ext p x1
    have XC:=Lib.hid (fun p=>H1.out.1.go (below_ext wr p))
    have XD:=Lib.hid (fun p=>H2.out.go (below_ext wr p))
    go_wp2
    refine wp_region_ext (by kernel_rfl) (by kernel_rfl) ?_
    repeat (go_big_quiet_step ((first|(go_at_fn 20;exact Calls.ext_of (HS.out _ (XC.out _) (XD.out _)))|(go_at_call 20;exact Calls.ext_of (HS.out _ (XC.out _) (XD.out _))))))
    refine wpQuiet_nil ?_
    rintro _ ⟨p5,rfl⟩
    have HB5:=Lib.hid (below_ext wr p5)
    generalize ext wr p5=w5 at HB5 ⊢
    go_wp2
    go_ret2
    exact ⟨⟨_,rfl⟩,(HV.out.st HW0.out).st HB5.out⟩
   ·go_wp2
    refine wp_region_ext (by kernel_rfl) (by kernel_rfl) ?_
    repeat (go_big_quiet_step ((fail)))
    refine wpQuiet_nil ?_
    rintro _ ⟨p5,rfl⟩
    have HB5:=Lib.hid (below_ext wr p5)
    generalize ext wr p5=w5 at HB5 ⊢
    go_wp2
    go_ret2
    exact ⟨⟨_,rfl⟩,HW.out.st HB5.out⟩
def rankS (n:Nat) (es:List EdgeD) (s t:Int) (l:List Int) (most:Int):Int×Int:=
 if whyS ⟨(n:Int),es⟩ s t≠0 then (0,whyS ⟨(n:Int),es⟩ s t) else if (isB ⟨(n:Int),es⟩ s t l&&simpleB ⟨(n:Int),es⟩ s l)=false then (0,1) else
  if ((allS n es s t).length:Int)≤max most 0 then ((aheadR (sortR (allS n es s t)) ⟨l,(weightG ⟨(n:Int),es⟩ l).getD 0⟩:Nat),0) else (0,5)
set_option maxRecDepth 100000 in
set_option maxHeartbeats 4000000 in
theorem rank_any (n:Nat) (es:List EdgeD) (ao:Option Addr) (cap:Nat) (s t:Int) (l:List Int) (lo:Option Addr) (lc:Nat) (most:Int) (w:World) (hc:Cel w ao (flat es)) (hel:es.length≤1000000) (hmost:most≤1000) (hl:l.length≤1000000) (hd:Cel w lo (l.map encI)):
  Calls Try.prog 7 #[.agg #[.int .i64 (n:Int),.slice ao es.length cap],.int .i64 s,.int .i64 t,.slice lo l.length lc,.int .i64 most] w fun e w'=>e=.returned (.tuple #[.int .i64 (rankS n es s t l most).1,.int .i64 (rankS n es s t l most).2])∧Below w.heap.size w w':=by
 obtain ⟨V,hV⟩:∃V,V=w.alloc (Obj.cells #[.int .i64 (n:Int),.slice ao es.length cap] 24):=⟨_,rfl⟩
 have HBV:=Lib.hid (show Below w.heap.size w V by rw [hV];exact Below.of_al _ _)
 have z0:V.cell? ⟨w.heap.size,0,none⟩=some (.int .i64 (n:Int)):=by rw [hV];go_simp
 have z1:V.cell? ⟨w.heap.size,1,none⟩=some (.slice ao es.length cap):=by rw [hV];go_simp
 have HV:=Lib.hid hV
 have HC:=Lib.hid (hc.go HBV.out)
 have HD:=Lib.hid (hd.go HBV.out)
 clear hV
 have H1:=Lib.hid (fun W h=>check_any ⟨(n:Int),es⟩ ao cap s t W (by show es.length≤_;omega) h)
 have H2:=Lib.hid (fun W h h'=>Is_any ⟨(n:Int),es⟩ ao lo cap lc s t l W (by show es.length≤_;omega) (by omega) h h')
 have H3:=Lib.hid (fun W h h'=>Simple_any ⟨(n:Int),es⟩ ao lo cap lc s l W (by show es.length≤_;omega) (by omega) h h')
 have H4:=Lib.hid (fun W h=>all_anyS n es ao cap s t most W h hel hmost)
 have H5:=Lib.hid (fun W h h'=>Weight_any ⟨(n:Int),es⟩ ao lo cap lc l W (by show es.length≤_;omega) (by omega) h h')
 have H6:=Lib.hid (fun ts ta tc W a b c d e f=>bsearch_any ts ta tc ⟨lo,lc,⟨l,(weightG ⟨(n:Int),es⟩ l).getD 0⟩⟩ W a b c d e f)
 have HMO:=Lib.hid hmost
 have HLL:=Lib.hid hl
 unfold rankS
 dsimp only at H1 H2 H3 H5 H6
 clear hc hd hel hmost hl
 generalize isB ⟨(n:Int),es⟩ s t l=b1 at*
 generalize simpleB ⟨(n:Int),es⟩ s l=b2 at*
 by_cases hk:whyS ⟨(n:Int),es⟩ s t=0
 ·rw [if_neg (by rw [hk];simp)]
  rw [hk] at H1
  have HK:=Lib.hid hk
  clear hk
  by_cases hb:(b1&&b2)=false
  ·rw [if_pos hb]
   clear H4 H5 H6
   cases b1 with
   |false=>
    clear hb H3
    go_enter Try.func7,Try.ntmps7
    go_upto_region 1 with (fail)
    rw [←HV.out]
    go_wp2_with (first
     |(go_at_call 15;refine (H1.out _ HC.out).mono ?_;rintro e w1 ⟨rfl,hb1⟩;(have z0:=cell_later hb1 z0);(have z1:=cell_later hb1 z1);(have HC1:=Lib.hid (HC.out.go hb1));(have HD1:=Lib.hid (HD.out.go hb1));(have HB1:=Lib.hid (HBV.out.st hb1));clear hb1)
     |(go_at_call 16;refine (H2.out _ HC1.out HD1.out).mono ?_;rintro e w2 ⟨rfl,hb1⟩;(have z0:=cell_later hb1 z0);(have z1:=cell_later hb1 z1);(have HC2:=Lib.hid (HC1.out.go hb1));(have HD2:=Lib.hid (HD1.out.go hb1));(have HB2:=Lib.hid (HB1.out.st hb1));clear hb1))
    go_ret2
    exact ⟨rfl,HB2.out⟩
   |true=>
    obtain rfl:b2=false:=by simpa using hb
    clear hb
    go_enter Try.func7,Try.ntmps7
    go_upto_region 1 with (fail)
    rw [←HV.out]
    go_wp2_with (first
     |(go_at_call 15;refine (H1.out _ HC.out).mono ?_;rintro e w1 ⟨rfl,hb1⟩;(have z0:=cell_later hb1 z0);(have z1:=cell_later hb1 z1);(have HC1:=Lib.hid (HC.out.go hb1));(have HD1:=Lib.hid (HD.out.go hb1));(have HB1:=Lib.hid (HBV.out.st hb1));clear hb1)
     |(go_at_call 16;refine (H2.out _ HC1.out HD1.out).mono ?_;rintro e w2 ⟨rfl,hb1⟩;(have z0:=cell_later hb1 z0);(have z1:=cell_later hb1 z1);(have HC2:=Lib.hid (HC1.out.go hb1));(have HD2:=Lib.hid (HD1.out.go hb1));(have HB2:=Lib.hid (HB1.out.st hb1));clear hb1)
     |(go_at_call 17;refine (H3.out _ HC2.out HD2.out).mono ?_;rintro e w3 ⟨rfl,hb1⟩;(have z0:=cell_later hb1 z0);(have z1:=cell_later hb1 z1);(have HC3:=Lib.hid (HC2.out.go hb1));(have HD3:=Lib.hid (HD2.out.go hb1));(have HB3:=Lib.hid (HB2.out.st hb1));clear hb1))
    go_ret2
    exact ⟨rfl,HB3.out⟩
  ·rw [if_neg hb]
   obtain ⟨rfl,rfl⟩:b1=true∧b2=true:=by cases b1<;>cases b2<;>simp at hb ⊢
   clear hb
   by_cases hm:((allS n es s t).length:Int)≤max most 0
   ·rw [if_pos hm]
    have HAS:=Lib.hid (fun (ts:List RtC) (is:Bool) (k:Int) (h:AllSIs n es s t most (ts.map (·.r)) is k)=>(by
     rcases h with ⟨h1,h2,-,-⟩|⟨-,-,⟨-,h3,h4⟩|⟨h3,-,-⟩⟩
     ·exact absurd (h1.trans HK.out) h2
     ·exact ⟨h3,h4⟩
     ·omega:is=true∧ts.map (·.r)=sortR (allS n es s t)))
    have HMM:=Lib.hid hm
    clear hm
    go_enter Try.func7,Try.ntmps7
    go_upto_region 1 with (fail)
    rw [←HV.out]
    go_wp2_with (first
     |(go_at_call 15;refine (H1.out _ HC.out).mono ?_;rintro e w1 ⟨rfl,hb1⟩;(have z0:=cell_later hb1 z0);(have z1:=cell_later hb1 z1);(have HC1:=Lib.hid (HC.out.go hb1));(have HD1:=Lib.hid (HD.out.go hb1));(have HB1:=Lib.hid (HBV.out.st hb1));clear hb1)
     |(go_at_call 16;refine (H2.out _ HC1.out HD1.out).mono ?_;rintro e w2 ⟨rfl,hb1⟩;(have z0:=cell_later hb1 z0);(have z1:=cell_later hb1 z1);(have HC2:=Lib.hid (HC1.out.go hb1));(have HD2:=Lib.hid (HD1.out.go hb1));(have HB2:=Lib.hid (HB1.out.st hb1));clear hb1)
     |(go_at_call 17;refine (H3.out _ HC2.out HD2.out).mono ?_;rintro e w3 ⟨rfl,hb1⟩;(have z0:=cell_later hb1 z0);(have z1:=cell_later hb1 z1);(have HC3:=Lib.hid (HC2.out.go hb1));(have HD3:=Lib.hid (HD2.out.go hb1));(have HB3:=Lib.hid (HB2.out.st hb1));clear hb1)
     |(go_at_call 9;refine (H4.out _ HC3.out).mono ?_;rintro e w4 ⟨ta,tc,ts,is,k,rfl,q1,q2,q3,q4⟩;obtain ⟨rfl,q5⟩:=HAS.out _ _ _ q4;(have z0:=cell_later q3 z0);(have z1:=cell_later q3 z1);(have HC4:=Lib.hid (HC3.out.go q3));(have HD4:=Lib.hid (HD3.out.go q3));(have HB4:=Lib.hid (HB3.out.st q3));(have Q1:=Lib.hid q1);(have Q2:=Lib.hid q2);(have Q5:=Lib.hid q5);clear q1 q2 q3 q4 q5)
     |(go_at_call 18;refine (H5.out _ HC4.out HD4.out).mono ?_;rintro e w5 ⟨rfl,hb1⟩;(have HB5:=Lib.hid (HB4.out.st hb1));(have R1:=Lib.hid (Q1.out.go hb1));(have R2:=Lib.hid (show Lie w5 ts from fun y hy=>⟨(Q2.out y hy).1.go hb1,(Q2.out y hy).2⟩));(have HD5:=Lib.hid (HD4.out.go hb1));clear hb1)
     |(go_at_call 19;refine (H6.out ts ta tc _ (by have:=congrArg List.length Q5.out;rw [List.length_map,sortR_len] at this;have:=HMM.out;have:=HMO.out;omega) R1.out R2.out HD5.out HLL.out (by rw [Q5.out];exact sortR_srt _)).mono ?_;rintro e w6 ⟨⟨b,rfl⟩,hb1⟩;rw [Q5.out]))
    go_ret2
    exact ⟨rfl,HB5.out.st hb1⟩
   ·rw [if_neg hm]
    have HAS:=Lib.hid (fun (ts:List RtC) (is:Bool) (k:Int) (h:AllSIs n es s t most (ts.map (·.r)) is k)=>(by
     rcases h with ⟨h1,h2,-,-⟩|⟨-,-,⟨h3,-,-⟩|⟨-,h3,-⟩⟩
     ·exact absurd (h1.trans HK.out) h2
     ·exact absurd h3 hm
     ·exact h3:is=false))
    clear hm H5 H6
    go_enter Try.func7,Try.ntmps7
    go_upto_region 1 with (fail)
    rw [←HV.out]
    go_wp2_with (first
     |(go_at_call 15;refine (H1.out _ HC.out).mono ?_;rintro e w1 ⟨rfl,hb1⟩;(have z0:=cell_later hb1 z0);(have z1:=cell_later hb1 z1);(have HC1:=Lib.hid (HC.out.go hb1));(have HD1:=Lib.hid (HD.out.go hb1));(have HB1:=Lib.hid (HBV.out.st hb1));clear hb1)
     |(go_at_call 16;refine (H2.out _ HC1.out HD1.out).mono ?_;rintro e w2 ⟨rfl,hb1⟩;(have z0:=cell_later hb1 z0);(have z1:=cell_later hb1 z1);(have HC2:=Lib.hid (HC1.out.go hb1));(have HD2:=Lib.hid (HD1.out.go hb1));(have HB2:=Lib.hid (HB1.out.st hb1));clear hb1)
     |(go_at_call 17;refine (H3.out _ HC2.out HD2.out).mono ?_;rintro e w3 ⟨rfl,hb1⟩;(have z0:=cell_later hb1 z0);(have z1:=cell_later hb1 z1);(have HC3:=Lib.hid (HC2.out.go hb1));(have HD3:=Lib.hid (HD2.out.go hb1));(have HB3:=Lib.hid (HB2.out.st hb1));clear hb1)
     |(go_at_call 9;refine (H4.out _ HC3.out).mono ?_;rintro e w4 ⟨ta,tc,ts,is,k,rfl,q1,q2,q3,q4⟩;obtain rfl:=HAS.out _ _ _ q4;(have z0:=cell_later q3 z0);(have z1:=cell_later q3 z1);(have HC4:=Lib.hid (HC3.out.go q3));(have HD4:=Lib.hid (HD3.out.go q3));(have HB4:=Lib.hid (HB3.out.st q3));clear q1 q2 q3 q4))
    go_ret2
    exact ⟨rfl,HB4.out⟩
 ·rw [if_pos hk]
  generalize whyS ⟨(n:Int),es⟩ s t=kk at*
  clear H2 H3 H4 H5 H6
  have hk2:(kk != 0)=true:=by simpa using hk
  clear hk
  go_enter Try.func7,Try.ntmps7
  go_upto_region 1 with (fail)
  rw [←HV.out]
  go_wp2_with ((go_at_call 15;refine (H1.out _ HC.out).mono ?_;rintro e w1 ⟨rfl,hb1⟩))
  go_ret2
  exact ⟨rfl,HBV.out.st hb1⟩
end Go.Proofs.Yteaaapdjplbljaa.Sm
