/- The law UnpackRoutes. -/
import Derived.Test.YtkdomobedfhhgaaGreatProg
import Derived.Test.YtkdomobedfhhgaaGreatRm08
import Derived.Test.YtkdomobedfhhgaaGreatRm13
import Derived.Test.YtkdomobedfhhgaaGreatRm05
import Derived.Test.YtkdomobedfhhgaaGreatRm14
set_option linter.unusedVariables false
set_option linter.unusedSimpArgs false
set_option linter.unnecessarySimpa false
namespace Go.Proofs.YtkdomobedfhhgaaGreat
open Go Go.Proofs Go.RowKit Go.Shelf Go.Proofs.YtkdomobedfhhgaaGreat.Hp Go.Proofs.YtkdomobedfhhgaaGreat.Ch Go.Proofs.YtkdomobedfhhgaaGreat.Ro
set_option maxRecDepth 100000 in
set_option maxHeartbeats 2000000 in
theorem unWay_nil (s t:Int) (w:World):Calls Tryz.prog 66 #[.pointer none,.int .i64 s,.int .i64 t] w fun e w'=>e=.returned (.tuple #[.agg #[.slice none 0 0,.int .u64 0],.int .i64 1])∧Below w.heap.size w w':=by
 obtain ⟨W,hW⟩:∃W,W=w.alloc (Obj.cells #[.slice none 0 0,.int .u64 0] 111):=⟨_,rfl⟩
 have hbw:Below w.heap.size w W:=by rw [hW];exact Below.of_al _ _
 have HRB:=Lib.hid (show W.heap[w.heap.size]? =some (.cells #[.slice none 0 0,.int .u64 0] 111 (0,0)) by rw [hW];show (w.heap.push _)[w.heap.size]? =_;rw [Array.getElem?_push_size])
 have HRX:=Lib.hid (fun W2 (hz:Below W.heap.size W W2)=>Ad.two_cells ((hz.block _ (Array.getElem?_eq_some_iff.1 HRB.out).1).trans HRB.out))
 have HW:=Lib.hid hW
 have HB:=Lib.hid hbw
 clear hW hbw
 go_enter Tryz.func66,Tryz.ntmps66
 go_upto_region 1 with (fail)
 rw [←HW.out]
 go_wp2_with (go_at_call 19;refine (meet_nil _ _ _).mono ?_;rintro e w1 ⟨rfl,hb1⟩;(have HB1:=Lib.hid hb1);(obtain ⟨x0,x1,f0,f1⟩:=HRX.out _ hb1);clear hb1)
 obtain ⟨r0,r1⟩:=h2_read (.slice none 0 0) (.int .u64 0) x0 x1
 refine bodyPost_ret (v:=.tuple #[.agg #[.slice none 0 0,.int .u64 0],.int .i64 1]) (by simp [results,Tryz.results66,go_sem,r0,r1];try rfl) rfl ?_
 exact ⟨rfl,((HB.out.st HB1.out).setCell (Nat.le_refl _) _).setCell (Nat.le_refl _) _⟩
set_option maxRecDepth 100000 in
set_option maxHeartbeats 2000000 in
theorem unRoute_nil (s t:Int) (w:World):Calls Tryz.prog 65 #[.pointer none,.int .i64 s,.int .i64 t] w fun e w'=>e=.returned (.tuple #[.agg #[.slice none 0 0,.int .u64 0],.int .i64 1])∧Below w.heap.size w w':=by
 obtain ⟨W,hW⟩:∃W,W=(w.alloc (Obj.cells #[.int .i64 s] 3)).alloc (Obj.cells #[.slice none 0 0,.int .u64 0] 111):=⟨_,rfl⟩
 have hbw:Below w.heap.size w W:=by rw [hW];exact (Below.of_al _ _).al _
 have HRB:=Lib.hid (show W.heap[w.heap.size+1]? =some (.cells #[.slice none 0 0,.int .u64 0] 111 (0,0)) by
  rw [hW]
  have e:w.heap.size+1=(w.alloc (Obj.cells #[.int .i64 s] 3)).heap.size:=by simp
  rw [e]
  show ((w.alloc (Obj.cells #[.int .i64 s] 3)).heap.push _)[(w.alloc (Obj.cells #[.int .i64 s] 3)).heap.size]? =_
  rw [Array.getElem?_push_size])
 have HRX:=Lib.hid (fun W2 (hz:Below W.heap.size W W2)=>Ad.two_cells ((hz.block _ (Array.getElem?_eq_some_iff.1 HRB.out).1).trans HRB.out))
 have c4:W.cell? ⟨w.heap.size,0,none⟩=some (.int .i64 s):=by rw [hW];go_simp
 have HW:=Lib.hid hW
 have HB:=Lib.hid hbw
 clear hW hbw
 go_enter Tryz.func65,Tryz.ntmps65
 repeat go_step
 refine wp_scope_into 0 0 (fun _ _ _ _=>False) rfl ?_ ?_ ?_ ?_
 ·intro _ _ _ _ _ _ h
  exact h
 ·intro hcont
  clear hcont
  rw [←HW.out]
  go_wp2_with (go_at_call 17;refine (dist_nil _ _ _).mono ?_;rintro e w1 ⟨rfl,hb1⟩;(have HB1:=Lib.hid hb1);(obtain ⟨x0,x1,f0,f1⟩:=HRX.out _ hb1);clear hb1)
  simp only [jumps_ret]
  obtain ⟨r0,r1⟩:=h2_read (.slice none 0 0) (.int .u64 0) x0 x1
  refine bodyPost_ret (v:=.tuple #[.agg #[.slice none 0 0,.int .u64 0],.int .i64 1]) (by simp [results,Tryz.results65,go_sem,r0,r1];try rfl) rfl ?_
  exact ⟨rfl,((HB.out.st HB1.out).setCell (by show w.heap.size≤w.heap.size+1;omega) _).setCell (by show w.heap.size≤w.heap.size+1;omega) _⟩
 ·intro _ _ _ h
  exact h.elim
 ·intro _ _ _ _ _ h
  exact h.elim
set_option maxRecDepth 100000 in
set_option maxHeartbeats 4000000 in
theorem UnpackRoutes_any (g:GD) (ao:Option Addr) (cap:Nat) (h1 s1:Int) (ro:Option Addr) (r:List Int) (rc:Nat) (s t:Int) (w:World) (hc:Cel w ao (flat g.es)) (hr:Cel w ro (r.map encI)):
  Calls Tryz.prog 13 #[.agg #[.int .i64 g.n,.slice ao g.es.length cap],.agg #[.int .i64 h1,.int .i64 s1,.slice ro r.length rc],.int .i64 s,.int .i64 t] w fun e w'=>e=.returned (.bool true)∧Below w.heap.size w w':=by
 obtain ⟨V,hV⟩:∃V,V=(w.alloc (Obj.cells #[.int .i64 g.n,.slice ao g.es.length cap] 24)).alloc (Obj.cells #[.int .i64 h1,.int .i64 s1,.slice ro r.length rc] 27):=⟨_,rfl⟩
 have hbV:Below w.heap.size w V:=by rw [hV];exact (Below.of_al _ _).al _
 have HQ:=Lib.hid (show QB1 V w.heap.size g ao cap h1 s1 ro r rc by rw [hV];constructor<;>go_simp)
 have HAL:=Lib.hid alive24_any
 have HLI:=Lib.hid (light20_any g.n g.es ao cap V)
 have HB:=Lib.hid hbV
 have HV:=Lib.hid hV
 obtain ⟨p0,p1,p2,p3,p4⟩:=HQ.out
 have HCS:=Lib.hid (And.intro (hc.go hbV) (hr.go hbV))
 clear hbV hV hc hr
 cases hl:light20 g.n g.es with
 |false=>
  rw [hl] at HLI
  clear hl
  go_enter Tryz.func13,Tryz.ntmps13
  go_upto_region 1 with (fail)
  rw [←HV.out]
  go_wp2_with (first
   |(go_at_call 14;refine HLI.out.mono ?_;rintro e w1 ⟨rfl,hb1⟩;(have HB1:=Lib.hid (HB.out.st hb1));clear hb1)
   |(go_at_call 47;refine (HAL.out _).mono ?_;rintro e w2 ⟨rfl,hb2⟩;(have HB2:=Lib.hid (HB1.out.st hb2));clear hb2))
  go_ret
  exact ⟨rfl,HB2.out⟩
 |true=>
  obtain ⟨hg,hes⟩:=light20_small hl
  have HG:=Lib.hid hg
  rw [hl] at HLI
  clear hl hg
  by_cases hr6:(60:Int)<(r.length:Int)
  ·go_enter Tryz.func13,Tryz.ntmps13
   go_upto_region 1 with (fail)
   rw [←HV.out]
   go_wp2_with (first
    |(go_at_call 14;refine HLI.out.mono ?_;rintro e w1 ⟨rfl,hb1⟩;(have HB1:=Lib.hid (HB.out.st hb1));(have k4:=cell_later hb1 p4);clear hb1)
    |(go_at_call 47;refine (HAL.out _).mono ?_;rintro e w2 ⟨rfl,hb2⟩;(have HB2:=Lib.hid (HB1.out.st hb2));clear hb2))
   go_ret
   exact ⟨rfl,HB2.out⟩
  ·have HBA:=Lib.hid (fun W (hz:Below V.heap.size V W)=>built_any g ao ro cap rc h1 s1 r W (HCS.out.1.go hz) (HCS.out.2.go hz) (fun k=>by have:=HG.out k;omega) (by omega) (by omega))
   have HZ:=Lib.hid (fun k:buildB g h1 s1 r=0=>build_right k)
   generalize buildB g h1 s1 r=k1 at*
   by_cases e1:k1=0
   ·subst e1
    have hgz:=HZ.out rfl
    have hn:=HG.out hgz
    have hgn:=right_n hgz
    obtain ⟨n,hnn⟩:∃n:Nat,g.n=(n:Int):=⟨g.n.toNat,by omega⟩
    obtain ⟨gn,es⟩:=g
    simp only at hnn hn hes
    subst hnn
    have hn12:n≤12:=by omega
    have hes40:es.length≤40:=by omega
    have HGZ:=Lib.hid hgz
    clear hgz HZ
    go_enter Tryz.func13,Tryz.ntmps13
    go_upto_region 1 with (fail)
    rw [←HV.out]
    go_upto_region 3 with (go_at_call 14;refine HLI.out.mono ?_;rintro e w1 ⟨rfl,hb1⟩;(have HB1:=Lib.hid hb1);(obtain ⟨x0,x1,x2,x3,x4⟩:=HQ.out.go hb1);clear hb1)
    go_upto_region 4 with (go_at_call 16;refine (HBA.out _ HB1.out).mono ?_;rintro e w2 hp2;(obtain ⟨hb,R,S,po,rfl,hbh,hb2⟩:=hp2.good rfl HGZ.out hn);(have HH:=Lib.hid (show BH w2 hb n es R S po from hbh));(have HB2:=Lib.hid (HB1.out.st hb2));(have z0:=cell_later hb2 x0);(have z1:=cell_later hb2 x1);clear hb2 hp2 hbh)
    clear x0 x1 x2 x3 x4 p0 p1 p2 p3 p4
    have hA:∀u v w,arcG es u v w→nodeN n u∧nodeN n v∧1≤w∧w≤4294967296:=by
     rintro u v w ⟨x,hx,rfl,rfl,rfl⟩
     have:=(edges_ok HGZ.out (n:=n) rfl).ok x hx
     exact ⟨this.1,this.2.1,this.2.2.2⟩
    have HC2:=Lib.hid (HCS.out.1.go HB2.out)
    have HRT:=Lib.hid (fun W (hz:Below w2.heap.size w2 W)=>route_any hb n es R S po s t W (HH.out.go hz) HGZ.out hes40 hA)
    have HWY:=Lib.hid (fun W (hz:Below w2.heap.size w2 W)=>unWay_any hb n es R S po s t W (HH.out.go hz) HGZ.out hes40)
    have HPT:=Lib.hid (fun W (hz:Below w2.heap.size w2 W)=>refPath_any n es ao cap s t W HGZ.out hn12 hes40 (HC2.out.go hz))
    have HSAME:=Lib.hid (fun (l l2 l3:List Int) (x k y m z f:Int)=>routes_same (n:=n) (es:=es) (s:=s) (t:=t) (l:=l) (l2:=l2) (l3:=l3) (x:=x) (k:=k) (y:=y) (m:=m) (z:=z) (f:=f) (fun u v w h=>⟨(hA u v w h).1,(hA u v w h).2.1,(hA u v w h).2.2.1⟩))
    unfold RoutePost at HRT HPT
    unfold UyPost at HWY
    have HBV:=Lib.hid (HB.out.st HB2.out)
    clear HBA HLI HQ HCS HB1 HV hA
    go_upto_region 5 with (go_at_call 65;refine (HRT.out _ (Below.refl _ _)).mono ?_;rintro e w3 ⟨la,l,lc,x,k,rfl,k1,k2,k3,-⟩;(have HCL:=Lib.hid k1);(have HB3:=Lib.hid k2);(have HRI:=Lib.hid k3);clear k1 k2 k3)
    obtain ⟨W3,hW3⟩:∃W3,W3=w3.alloc (Obj.cells #[.slice la l.length lc,.int .u64 x] 111):=⟨_,rfl⟩
    rw [←hW3]
    have hb3:Below w3.heap.size w3 W3:=by rw [hW3];exact Below.of_al _ _
    have a0:W3.cell? ⟨w3.heap.size,0,none⟩=some (.slice la l.length lc):=by rw [hW3];go_simp
    have a1:W3.cell? ⟨w3.heap.size,1,none⟩=some (.int .u64 x):=by rw [hW3];go_simp
    have HB3:=Lib.hid (HB3.out.st hb3)
    have HCL:=Lib.hid (HCL.out.go hb3)
    have z0:=cell_later HB3.out z0
    have z1:=cell_later HB3.out z1
    clear hW3 hb3
    go_upto_region 6 with (go_at_call 66;refine (HWY.out _ HB3.out).mono ?_;rintro e w4 ⟨lb,l2,lc2,y,m,rfl,k1,k2,k3⟩;(have HCB:=Lib.hid k1);(have hb4:=k2);(have HUI:=Lib.hid k3);clear k1 k2 k3)
    obtain ⟨W4,hW4⟩:∃W4,W4=w4.alloc (Obj.cells #[.slice lb l2.length lc2,.int .u64 y] 111):=⟨_,rfl⟩
    rw [←hW4]
    have hb4':Below w4.heap.size w4 W4:=by rw [hW4];exact Below.of_al _ _
    have b0:W4.cell? ⟨w4.heap.size,0,none⟩=some (.slice lb l2.length lc2):=by rw [hW4];go_simp
    have b1:W4.cell? ⟨w4.heap.size,1,none⟩=some (.int .u64 y):=by rw [hW4];go_simp
    have a0:=cell_later (hb4.st hb4') a0
    have a1:=cell_later (hb4.st hb4') a1
    have z0:=cell_later (hb4.st hb4') z0
    have z1:=cell_later (hb4.st hb4') z1
    have HCL:=Lib.hid (HCL.out.go (hb4.st hb4'))
    have HB4:=Lib.hid (HB3.out.st (hb4.st hb4'))
    have HCB:=Lib.hid (HCB.out.go hb4')
    clear hW4 hb4 hb4'
    go_upto_region 9 with (go_at_call 67;refine (HPT.out _ HB4.out).mono ?_;rintro e w5 ⟨l3a,l3,lc3,x3,k3,rfl,k1,k2,k4,-⟩;(have HCP:=Lib.hid k1);(have hb5:=k2);(have HPI:=Lib.hid k4);clear k1 k2 k4)
    obtain ⟨W5,hW5⟩:∃W5,W5=w5.alloc (Obj.cells #[.slice l3a l3.length lc3,.int .u64 x3] 111):=⟨_,rfl⟩
    rw [←hW5]
    have hb5':Below w5.heap.size w5 W5:=by rw [hW5];exact Below.of_al _ _
    have c0:W5.cell? ⟨w5.heap.size,0,none⟩=some (.slice l3a l3.length lc3):=by rw [hW5];go_simp
    have c1:W5.cell? ⟨w5.heap.size,1,none⟩=some (.int .u64 x3):=by rw [hW5];go_simp
    have a0:=cell_later (hb5.st hb5') a0
    have a1:=cell_later (hb5.st hb5') a1
    have b0:=cell_later (hb5.st hb5') b0
    have b1:=cell_later (hb5.st hb5') b1
    have z0:=cell_later (hb5.st hb5') z0
    have z1:=cell_later (hb5.st hb5') z1
    have HCL:=Lib.hid (HCL.out.go (hb5.st hb5'))
    have HCB:=Lib.hid (HCB.out.go (hb5.st hb5'))
    have HCP:=Lib.hid (HCP.out.go hb5')
    have HB5:=Lib.hid (HB4.out.st (hb5.st hb5'))
    have HB25:=Lib.hid (HBV.out.st HB5.out)
    clear hW5 hb5 hb5'
    obtain ⟨rfl,rfl,rfl,rfl,rfl,hl12,hl2,hcase⟩:=HSAME.out _ _ _ _ _ _ _ _ _ HRI.out HUI.out HPI.out
    have hes41:es.length≤9223372036854775807:=by omega
    have hln:l.length≤1048576:=by omega
    have hl2n:l2.length≤1099511627776:=by omega
    have HCM:=Lib.hid (refCmp_any la l3a lc lc3 l l y y W5 hln hln HCL.out HCP.out)
    rw [cmpR_self] at HCM
    have hkk:(m != m)=false:=by simp
    have hxx:(y != y)=false:=by simp
    have HCASE:=Lib.hid hcase
    have HLN:=Lib.hid (And.intro hes41 hl2n)
    clear HRT HWY HPT HSAME HRI HUI HPI hcase hl12 hl2 hln hl2n hes41 HCL HCP
    go_upto_region 11 with (go_at_call 68;refine HCM.out.mono ?_;rintro e w6 ⟨rfl,hb6⟩;(have HB6:=Lib.hid (HB25.out.st hb6));(have q0:=cell_later hb6 b0);(have q1:=cell_later hb6 b1);(have q2:=cell_later hb6 c1);(have y0:=cell_later hb6 z0);(have y1:=cell_later hb6 z1);(have HIS:=Lib.hid (refIs_any ⟨(n:Int),es⟩ ao lb cap lc2 s t l2 w6 HLN.out.1 HLN.out.2 ((HC2.out.go HB5.out).go hb6) (HCB.out.go hb6)));clear hb6)
    clear a0 a1 b0 b1 c0 c1 z0 z1 HCM
    rcases HCASE.out with ⟨hm0,his⟩|⟨hm0,hl0⟩
    ·subst hm0
     have HIS2:=Lib.hid (his▸HIS.out)
     clear HIS HCASE his
     go_wp2_with (first
      |(go_at_call 51;refine HIS2.out.mono ?_;rintro e w7 ⟨rfl,hb7⟩;(have HB7:=Lib.hid (HB6.out.st hb7));clear hb7)
      |(go_at_call 47;refine (HAL.out _).mono ?_;rintro e w8 ⟨rfl,hb8⟩;(have HB8:=Lib.hid (HB7.out.st hb8));clear hb8))
     go_ret
     exact ⟨rfl,HB8.out⟩
    ·subst hl0
     have hm1:(m != 0)=true:=by simpa using hm0
     have hm2:(m==0)=false:=by simpa using hm0
     simp only [List.length_nil] at q0
     clear HIS HCASE hm0
     go_wp2_with (go_at_call 47;refine (HAL.out _).mono ?_;rintro e w8 ⟨rfl,hb8⟩;(have HB8:=Lib.hid (HB6.out.st hb8));clear hb8)
     go_ret
     exact ⟨rfl,HB8.out⟩
   ·have HE:=Lib.hid e1
    have hk1:(k1 != 0)=true:=by simpa using e1
    clear e1
    go_enter Tryz.func13,Tryz.ntmps13
    go_upto_region 1 with (fail)
    rw [←HV.out]
    go_upto_region 6 with (first
     |(go_at_call 14;refine HLI.out.mono ?_;rintro e w1 ⟨rfl,hb1⟩;(have HB1:=Lib.hid hb1);(obtain ⟨x0,x1,x2,x3,x4⟩:=HQ.out.go hb1);clear hb1)
     |(go_at_call 16;refine (HBA.out _ HB1.out).mono ?_;rintro e w2 hp2;(obtain ⟨rfl,hb2⟩:=hp2.nil HE.out);(have HB2:=Lib.hid (HB1.out.st hb2));clear hb2 hp2)
     |(go_at_call 65;refine (unRoute_nil _ _ _).mono ?_;rintro e w3 ⟨rfl,hb3⟩;(have HB3:=Lib.hid (HB2.out.st hb3));clear hb3)
     |(go_at_call 66;refine (unWay_nil _ _ _).mono ?_;rintro e w4 ⟨rfl,hb4⟩;(have HB4:=Lib.hid ((HB3.out.st (Below.of_al _ _)).st hb4));(have b11:w4.cell? ⟨w3.heap.size,0,none⟩=some (.slice none 0 0):=cell_later hb4 (by go_simp));clear hb4))
    obtain ⟨W5,hW5⟩:∃W5,W5=w4.alloc (Obj.cells #[.slice none 0 0,.int .u64 0] 111):=⟨_,rfl⟩
    rw [←hW5]
    have hb5:Below w4.heap.size w4 W5:=by rw [hW5];exact Below.of_al _ _
    have q11:=cell_later hb5 b11
    have q13:W5.cell? ⟨w4.heap.size,0,none⟩=some (.slice none 0 0):=by rw [hW5];go_simp
    have HB5:=Lib.hid (HB4.out.st hb5)
    clear hW5 hb5
    go_wp2_with (go_at_call 47;refine (HAL.out _).mono ?_;rintro e w6 ⟨rfl,hb6⟩;(have HB6:=Lib.hid (HB5.out.st hb6));clear hb6)
    go_ret
    exact ⟨rfl,HB.out.st HB6.out⟩
end Go.Proofs.YtkdomobedfhhgaaGreat
