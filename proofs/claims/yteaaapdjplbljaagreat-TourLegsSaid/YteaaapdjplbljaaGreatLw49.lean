/- The law TourLegs. -/
import Derived.Test.YteaaapdjplbljaaGreatProg
import Derived.Test.YteaaapdjplbljaaGreatLw47
import Derived.Test.YteaaapdjplbljaaGreatLw48
import Derived.Test.YteaaapdjplbljaaGreatLw44
import Derived.Test.YteaaapdjplbljaaGreatLw38
set_option linter.unusedVariables false
set_option linter.unusedSimpArgs false
set_option linter.unnecessarySimpa false
namespace Go.Proofs.YteaaapdjplbljaaGreat
open Go Go.Proofs Go.RowKit Go.Shelf Go.Proofs.YteaaapdjplbljaaGreat.Hp Go.Proofs.YteaaapdjplbljaaGreat.Ch Go.Proofs.YteaaapdjplbljaaGreat.Ro
def LegBad (k:Int) (gv:Value) (lo:Option Addr) (l:List Int) (lc:Nat) (w:World) (e:Ending) (w':World):Prop:=
 ∃(hv:Value) (f:Int),e=.returned (.tuple #[hv,.int .i64 f])∧Below w.heap.size w w'∧(∀W,Below w'.heap.size w' W→Calls Tryz.prog 60 #[hv,.slice lo l.length lc] W fun e W'=>e=.returned (.int .i64 k)∧Below W.heap.size W W')∧
  ∀W,Below w'.heap.size w' W→Calls Tryz.prog 16 #[gv,.int .i64 f,.slice lo l.length lc] W fun e W'=>e=.returned (.int .i64 k)∧Below W.heap.size W W'
set_option maxRecDepth 100000 in
set_option maxHeartbeats 4000000 in
theorem trLegs_bad (k:Int) (g:GD) (ao:Option Addr) (cap:Nat) (h1 s1:Int) (ro:Option Addr) (r:List Int) (rc:Nat) (lo:Option Addr) (l:List Int) (lc:Nat) (w V:World)
  (hV:V=(w.alloc (Obj.cells #[.int .i64 g.n,.slice ao g.es.length cap] 24)).alloc (Obj.cells #[.int .i64 h1,.int .i64 s1,.slice ro r.length rc] 27)) (hl:light20 g.n g.es=true) (hr6:¬(60:Int)<(r.length:Int)) (hf6:¬(12:Int)<(l.length:Int)) (hk:k≠0)
  (HBD:∀W,Below V.heap.size V W→Calls Tryz.prog 13 #[.agg #[.int .i64 g.n,.slice ao g.es.length cap],.agg #[.int .i64 h1,.int .i64 s1,.slice ro r.length rc]] W (LegBad k (.agg #[.int .i64 g.n,.slice ao g.es.length cap]) lo l lc W)):
  Calls Tryz.prog 3 #[.agg #[.int .i64 g.n,.slice ao g.es.length cap],.agg #[.int .i64 h1,.int .i64 s1,.slice ro r.length rc],.slice lo l.length lc] w fun e w'=>e=.returned (.bool true)∧Below w.heap.size w w':=by
 have hbV:Below w.heap.size w V:=by rw [hV];exact (Below.of_al _ _).al _
 have HQ:=Lib.hid (show QB1 V w.heap.size g ao cap h1 s1 ro r rc by rw [hV];constructor<;>go_simp)
 have HAL:=Lib.hid alive34_any
 have HLI:=Lib.hid (light20_any g.n g.es ao cap V)
 rw [hl] at HLI
 have HB:=Lib.hid hbV
 have HV:=Lib.hid hV
 obtain ⟨p0,p1,p2,p3,p4⟩:=HQ.out
 have hk1:(k != 0)=true:=by simpa using hk
 have HK:=Lib.hid hk
 have HBD:=Lib.hid HBD
 unfold LegBad at HBD
 clear hbV hV hl hk
 go_enter Tryz.func3,Tryz.ntmps3
 go_upto_region 1 with (fail)
 rw [←HV.out]
 go_upto_region 5 with (first
  |(go_at_call 11;refine HLI.out.mono ?_;rintro e w1 ⟨rfl,hb1⟩;(have HB1:=Lib.hid hb1);(obtain ⟨x0,x1,x2,x3,x4⟩:=HQ.out.go hb1);clear hb1)
  |(go_at_call 13;refine (HBD.out _ HB1.out).mono ?_;rintro e w2 ⟨hv,f,rfl,hb2,hof,hwy⟩;(have HB2:=Lib.hid (HB1.out.st hb2));(have HRI:=Lib.hid hof);(have HWY:=Lib.hid hwy);(have z0:=cell_later hb2 x0);(have z1:=cell_later hb2 x1);clear hb2 hof hwy)
  |(go_at_call 14;refine (legs_bad hv k HK.out l lo lc _ (HRI.out _ (Below.refl _ _))).mono ?_;rintro e w3 ⟨rfl,hb3⟩;(have HB3:=Lib.hid hb3);clear hb3))
 have y0:=cell_later HB3.out z0
 have y1:=cell_later HB3.out z1
 clear x0 x1 x2 x3 x4 p0 p1 p2 p3 p4 z0 z1
 have HWB:=Lib.hid (whole_bad hv k HK.out l lo lc w3 (fun W hz=>HRI.out W (HB3.out.st hz)))
 unfold WhPost at HWB
 go_upto_region 6 with (go_at_call 15;refine HWB.out.mono ?_;rintro e w4 ⟨a4,c4,out,x,f4,rfl,-,hb4,rfl,rfl,rfl⟩;(have HB4:=Lib.hid hb4);clear hb4)
 obtain ⟨W5,hW5⟩:∃W5,W5=w4.alloc (Obj.cells #[.slice a4 (wholeE []).length c4,.int .u64 (wholeW [])] 39):=⟨_,rfl⟩
 rw [←hW5]
 have hb5:Below w4.heap.size w4 W5:=by rw [hW5];exact Below.of_al _ _
 have r0:W5.cell? ⟨w4.heap.size,0,none⟩=some (.slice a4 0 c4):=by rw [hW5];go_simp;rfl
 have r1:W5.cell? ⟨w4.heap.size,1,none⟩=some (.int .u64 0):=by rw [hW5];go_simp;rfl
 have y0:=cell_later (HB4.out.st hb5) y0
 have y1:=cell_later (HB4.out.st hb5) y1
 have HB5:=Lib.hid (HB3.out.st (HB4.out.st hb5))
 have HB25:=Lib.hid (HB2.out.st HB5.out)
 clear hW5 hb5
 go_upto_region 7 with (go_at_call 16;refine (HWY.out _ HB5.out).mono ?_;rintro e w6 ⟨rfl,hb6⟩;(have HB6:=Lib.hid (HB25.out.st hb6));(have q0:=cell_later hb6 r0);(have q1:=cell_later hb6 r1);clear hb6)
 clear r0 r1 y0 y1
 go_wp2_with (go_at_call 12;refine (HAL.out _).mono ?_;rintro e w7 ⟨rfl,hb7⟩;(have HB7:=Lib.hid (HB6.out.st hb7));clear hb7)
 go_ret
 exact ⟨rfl,HB.out.st HB7.out⟩
def AgV (E:List Int) (Y:Int) (v:Value) (W:World):Prop:=∃(a:Option Addr) (c:Nat),v=.agg #[.slice a E.length c,.int .u64 Y]∧Cel W a (E.map encI)
def lgR (L9 L16:Value) (x f:Int) (rv:Value) (E:List Int) (Y:Int):Nat→Value→World→Prop
 |0,v,_=>v=L9
 |1,v,_|25,v,_=>v=L16
 |4,v,_|5,v,_|9,v,_|10,v,_=>v=.int .i64 x
 |14,v,_|15,v,_|19,v,_|20,v,_=>v=.int .i64 f
 |24,v,_=>v=rv
 |26,v,W=>AgV E Y v W
 |27,v,_=>v=.int .i64 0
 |_,v,_=>v=.bool true
theorem lgR_go {L9 L16:Value} {x f:Int} {rv:Value} {E:List Int} {Y:Int} (i:Nat) (v:Value) (w w':World) (hb:Below w.heap.size w w') (h:lgR L9 L16 x f rv E Y i v w):lgR L9 L16 x f rv E Y i v w':=by
 unfold lgR at h ⊢
 split at h
 case h_13=>
  obtain ⟨a,c,h1,h2⟩:=h
  exact ⟨a,c,h1,h2.go hb⟩
 all_goals exact h
set_option maxRecDepth 100000 in
set_option maxHeartbeats 8000000 in
theorem TourLegs_any (g:GD) (ao:Option Addr) (cap:Nat) (h1 s1:Int) (ro:Option Addr) (r:List Int) (rc:Nat) (lo:Option Addr) (l:List Int) (lc:Nat) (w:World) (hc:Cel w ao (flat g.es)) (hr:Cel w ro (r.map encI)) (hlc:Cel w lo (l.map encI)):
  Calls Tryz.prog 3 #[.agg #[.int .i64 g.n,.slice ao g.es.length cap],.agg #[.int .i64 h1,.int .i64 s1,.slice ro r.length rc],.slice lo l.length lc] w fun e w'=>e=.returned (.bool true)∧Below w.heap.size w w':=by
 obtain ⟨V,hV⟩:∃V,V=(w.alloc (Obj.cells #[.int .i64 g.n,.slice ao g.es.length cap] 24)).alloc (Obj.cells #[.int .i64 h1,.int .i64 s1,.slice ro r.length rc] 27):=⟨_,rfl⟩
 have hbV:Below w.heap.size w V:=by rw [hV];exact (Below.of_al _ _).al _
 have HQ:=Lib.hid (show QB1 V w.heap.size g ao cap h1 s1 ro r rc by rw [hV];constructor<;>go_simp)
 have HAL:=Lib.hid alive34_any
 have HLI:=Lib.hid (light20_any g.n g.es ao cap V)
 have HB:=Lib.hid hbV
 have HV:=Lib.hid hV
 obtain ⟨p0,p1,p2,p3,p4⟩:=HQ.out
 have HCS:=Lib.hid (And.intro (hc.go hbV) (hr.go hbV))
 have HFT:=Lib.hid (hlc.go hbV)
 clear hbV hV hc hr hlc
 cases hl:light20 g.n g.es with
 |false=>
  rw [hl] at HLI
  clear hl
  go_enter Tryz.func3,Tryz.ntmps3
  go_upto_region 1 with (fail)
  rw [←HV.out]
  go_wp2_with (first
   |(go_at_call 11;refine HLI.out.mono ?_;rintro e w1 ⟨rfl,hb1⟩;(have HB1:=Lib.hid (HB.out.st hb1));clear hb1)
   |(go_at_call 12;refine (HAL.out _).mono ?_;rintro e w2 ⟨rfl,hb2⟩;(have HB2:=Lib.hid (HB1.out.st hb2));clear hb2))
  go_ret
  exact ⟨rfl,HB2.out⟩
 |true=>
  obtain ⟨hg,hes⟩:=light20_small hl
  have HG:=Lib.hid hg
  rw [hl] at HLI
  clear hg
  by_cases hr6:(60:Int)<(r.length:Int)
  ·go_enter Tryz.func3,Tryz.ntmps3
   go_upto_region 1 with (fail)
   rw [←HV.out]
   go_wp2_with (first
    |(go_at_call 11;refine HLI.out.mono ?_;rintro e w1 ⟨rfl,hb1⟩;(have HB1:=Lib.hid (HB.out.st hb1));(have k4:=cell_later hb1 p4);clear hb1)
    |(go_at_call 12;refine (HAL.out _).mono ?_;rintro e w2 ⟨rfl,hb2⟩;(have HB2:=Lib.hid (HB1.out.st hb2));clear hb2))
   go_ret
   exact ⟨rfl,HB2.out⟩
  by_cases hf6:(12:Int)<(l.length:Int)
  ·go_enter Tryz.func3,Tryz.ntmps3
   go_upto_region 1 with (fail)
   rw [←HV.out]
   go_wp2_with (first
    |(go_at_call 11;refine HLI.out.mono ?_;rintro e w1 ⟨rfl,hb1⟩;(have HB1:=Lib.hid (HB.out.st hb1));(have k4:=cell_later hb1 p4);clear hb1)
    |(go_at_call 12;refine (HAL.out _).mono ?_;rintro e w2 ⟨rfl,hb2⟩;(have HB2:=Lib.hid (HB1.out.st hb2));clear hb2))
   go_ret
   exact ⟨rfl,HB2.out⟩
  have HBA:=Lib.hid (fun W (hz:Below V.heap.size V W)=>built_any g ao ro cap rc h1 s1 r W (HCS.out.1.go hz) (HCS.out.2.go hz) (fun k=>by have:=HG.out k;omega) (by omega) (by omega))
  have HZ:=Lib.hid (fun k:buildB g h1 s1 r=0=>build_right k)
  have hl12:l.length≤12:=by omega
  generalize buildB g h1 s1 r=k1 at*
  by_cases e1:k1=0
  ·subst e1
   have hgz:=HZ.out rfl
   have hn:=HG.out hgz
   have hgn:=right_n hgz
   obtain ⟨n,hnn⟩:∃n:Nat,g.n=(n:Int):=⟨g.n.toNat,by omega⟩
   obtain ⟨gn,es⟩:=g
   simp only at hnn hn hes
   subst hnn
   have hn12:n≤12:=by omega
   have hes40:es.length≤40:=by omega
   have HGZ:=Lib.hid hgz
   clear hgz HZ
   cases hno:l.any (outB n) with
   |true=>
    refine trLegs_bad 7 ⟨n,es⟩ ao cap h1 s1 ro r rc lo l lc w V HV.out hl hr6 hf6 (by decide) (fun W hz=>(HBA.out W hz).mono ?_)
    intro e w2 hp2
    obtain ⟨hb,R,S,po,rfl,hbh,hb2⟩:=hp2.good rfl HGZ.out hn
    refine ⟨_,_,rfl,hb2,fun W' hz'=>?_,fun W' hz'=>?_⟩
    ·exact trRight_off hb n es R S _ _ l lo lc W' ((show BH w2 hb n es R S po from hbh).go hz').mem (HFT.out.go ((hz.st hb2).st hz')) (by omega) hno
    ·have:=why34_ok n ao es.length cap lo lc l W' (HFT.out.go ((hz.st hb2).st hz')) (by omega)
     rw [hno] at this
     exact this
   |false=>
    have hnod:=outB_no.1 hno
    have HWY:=Lib.hid (fun W (hz:Below V.heap.size V W)=>why34_ok n ao es.length cap lo lc l W (HFT.out.go hz) (by omega))
    rw [hno] at HWY
    simp only [Bool.false_eq_true,if_false] at HWY
    have HND:=Lib.hid hnod
    have HL:=Lib.hid hl12
    clear hnod hno hl hl12
    go_enter Tryz.func3,Tryz.ntmps3
    go_upto_region 1 with (fail)
    rw [←HV.out]
    go_upto_region 4 with (first
     |(go_at_call 11;refine HLI.out.mono ?_;rintro e w1 ⟨rfl,hb1⟩;(have HB1:=Lib.hid hb1);(obtain ⟨x0,x1,x2,x3,x4⟩:=HQ.out.go hb1);clear hb1)
     |(go_at_call 13;refine (HBA.out _ HB1.out).mono ?_;rintro e w2 hp2;(obtain ⟨hb,R,S,po,rfl,hbh,hb2⟩:=hp2.good rfl HGZ.out hn);(have HH:=Lib.hid (show BH w2 hb n es R S po from hbh));(have HB2:=Lib.hid (HB1.out.st hb2));(have z0:=cell_later hb2 x0);(have z1:=cell_later hb2 x1);clear hb2 hp2 hbh))
    have hA:∀u v w,arcG es u v w→nodeN n u∧nodeN n v∧1≤w∧w≤4294967296:=by
     rintro u v w ⟨x,hx,rfl,rfl,rfl⟩
     have:=(edges_ok HGZ.out (n:=n) rfl).ok x hx
     exact ⟨this.1,this.2.1,this.2.2.2⟩
    have hA3:∀u v w,arcG es u v w→nodeN n u∧nodeN n v∧1≤w:=fun u v w h=>⟨(hA u v w h).1,(hA u v w h).2.1,(hA u v w h).2.2.1⟩
    have HLE:=Lib.hid (legs_any hb n es R S po l lo lc w2 HH.out (HFT.out.go HB2.out) (by have:=HL.out;omega) HND.out HGZ.out hes40 hA)
    have HWH:=Lib.hid (fun W (hz:Below w2.heap.size w2 W)=>whole_any hb n es R S po l lo lc W (HH.out.go hz) (HFT.out.go (HB2.out.st hz)) (by have:=HL.out;omega) HND.out HGZ.out hes40 hA)
    have HRL:=Lib.hid (fun W (hz:Below w2.heap.size w2 W)=>refLegs_any n es ao cap l lo lc W (HCS.out.1.go (HB2.out.st hz)) (HFT.out.go (HB2.out.st hz)) (by have:=HL.out;omega) HGZ.out hn12 hes40 hA3)
    have HUQ:=Lib.hid (fun (o1 o2:List RtD) (x y f k:Int) (h1:LegIs n es l o1 x f) (h2:LegIs n es l o2 y k)=>h1.uniq hA3 h2)
    have HBN:=Lib.hid (fun (o1:List RtD) (x f:Int) (h1:LegIs n es l o1 x f)=>legIs_bnd hA3 hn12 (by have:=HL.out;omega) h1)
    unfold LegPost at HLE HRL
    unfold WhPost at HWH
    clear x0 x1 x2 x3 x4 p0 p1 p2 p3 p4 hA hA3 HBA HQ HLI HCS
    go_upto_region 5 with (go_at_call 14;refine HLE.out.mono ?_;rintro e w3 ⟨v9,o1,x,f,rfl,k1,k2,k3⟩;(have HR1:=Lib.hid k1);(have HB3:=Lib.hid k2);(have HI1:=Lib.hid k3);clear k1 k2 k3)
    go_upto_region 6 with (go_at_call 15;refine (HWH.out _ HB3.out).mono ?_;rintro e w4 ⟨a2,c2,o2,x2,f2,rfl,k1,k2,k3⟩;(have HCE:=Lib.hid k1);(have HB4:=Lib.hid k2);(have HI2:=Lib.hid k3);clear k1 k2 k3)
    obtain ⟨rfl,rfl,rfl⟩:=HUQ.out _ _ _ _ _ _ HI1.out HI2.out
    obtain ⟨W5,hW5⟩:∃W5,W5=w4.alloc (Obj.cells #[.slice a2 (wholeE o1).length c2,.int .u64 (wholeW o1)] 39):=⟨_,rfl⟩
    rw [←hW5]
    have hb5:Below w4.heap.size w4 W5:=by rw [hW5];exact Below.of_al _ _
    have r0:W5.cell? ⟨w4.heap.size,0,none⟩=some (.slice a2 (wholeE o1).length c2):=by rw [hW5];go_simp
    have r1:W5.cell? ⟨w4.heap.size,1,none⟩=some (.int .u64 (wholeW o1)):=by rw [hW5];go_simp
    have HB5:=Lib.hid (HB3.out.st (HB4.out.st hb5))
    have z0:=cell_later HB5.out z0
    have z1:=cell_later HB5.out z1
    have HR1:=Lib.hid (HR1.out.go (HB4.out.st hb5))
    have HCE:=Lib.hid (HCE.out.go hb5)
    clear hW5 hb5 HWH HLE HI2
    generalize w4.heap.size=b5 at*
    go_upto_region 9 with (go_at_call 16;refine (HWY.out _ (HB2.out.st HB5.out)).mono ?_;rintro e w6 ⟨rfl,hb6⟩;(have HB6:=Lib.hid hb6);clear hb6)
    have z0:=cell_later HB6.out z0
    have z1:=cell_later HB6.out z1
    have r0:=cell_later HB6.out r0
    have r1:=cell_later HB6.out r1
    have HR1:=Lib.hid (HR1.out.go HB6.out)
    have HCE:=Lib.hid (HCE.out.go HB6.out)
    have HB6:=Lib.hid (HB5.out.st HB6.out)
    go_upto_region 10 with (go_at_call 17;refine (HRL.out _ HB6.out).mono ?_;rintro e w7 ⟨v16,o3,y,k,rfl,k1,k2,k3⟩;(have HR3:=Lib.hid k1);(have HB7:=Lib.hid k2);(have HI3:=Lib.hid k3);clear k1 k2 k3)
    obtain ⟨rfl,rfl,rfl⟩:=HUQ.out _ _ _ _ _ _ HI1.out HI3.out
    have r0:=cell_later HB7.out r0
    have r1:=cell_later HB7.out r1
    obtain ⟨a1,c1,t1,rfl,q1,q2,q3,-⟩:=HR1.out.go HB7.out
    obtain ⟨a6,c6,t6,rfl,q6,q7,q8,-⟩:=HR3.out
    have HCE:=Lib.hid (HCE.out.go HB7.out)
    have hbn:=HBN.out _ _ _ HI1.out
    have hwb:=whole_bnd hbn.2
    have ht1:t1.length≤15:=by have:=hbn.1;rw [←q1,List.length_map] at this;exact this
    have ht6:t6.length≤15:=by have:=hbn.1;rw [←q6,List.length_map] at this;exact this
    have HRS:=Lib.hid (fun W (hz:Below w7.heap.size w7 W)=>refRoutes_any t1 t6 a1 a6 c1 c6 W (by omega) (by omega) (q2.go hz) (q7.go hz) (q3.go hz) (q8.go hz))
    rw [q1,q6,decide_eq_true rfl] at HRS
    have HWR:=Lib.hid (fun W (hz:Below w7.heap.size w7 W)=>refWhole_any t6 a6 c6 W (q7.go hz) (q8.go hz) (by rw [q6];exact hbn))
    rw [q6] at HWR
    have hel:(wholeE o1).length≤180:=by
     have h9:=hwb.1
     have h10:=hbn.1
     have:12*o1.length≤12*15:=Nat.mul_le_mul_left _ h10
     omega
    obtain ⟨E,hE⟩:∃E,E=wholeE o1:=⟨_,rfl⟩
    obtain ⟨Y,hY⟩:∃Y,Y=wholeW o1:=⟨_,rfl⟩
    rw [←hE] at r0 HCE HWR hel
    rw [←hY] at r1 HWR
    have HCM:=Lib.hid (fun (a:Option Addr) (c:Nat) W (hz:Below w7.heap.size w7 W) (h:Cel W a (E.map encI))=>refCmp_any a2 a c2 c E E Y Y W (by omega) (by omega) (HCE.out.go hz) h)
    simp only [cmpR_self] at HCM
    have HB27:=Lib.hid (HB.out.st (HB2.out.st (HB6.out.st HB7.out)))
    clear hE hY q1 q2 q3 q6 q7 q8 hbn hwb ht1 ht6 hel HR1 HR3 HI1 HI3 HUQ HBN HRL z0 z1 HCE HB5 HB6 HB7 HB3 HB4 HWY HH
    refine wp_region_grows_g 34 rfl (lgR (.slice a1 t1.length c1) (.slice a6 t6.length c6) x f (.agg #[.slice a2 E.length c2,.int .u64 Y]) E Y) (by kernel_rfl) (by kernel_rfl) lgR_go ?hop3 ?hend3
    case hop3=>
     refine ⟨?_,?_,?_,?_,?_,?_,?_,?_,?_,?_,?_,?_,?_,?_,?_,?_,?_,?_,?_,?_,?_,?_,?_,?_,?_,?_,?_,?_,?_,?_,?_,?_,?_,?_,trivial⟩
     ·intro act w' hbe hd ho K hK
      have q0:act.tmps.getD 9 undef=.slice a1 t1.length c1:=ho 9 (by kernel_rfl)
      refine .inl ⟨goes_free rfl,?_⟩
      simp [Oper.wp,execOp,Oper.upon,go_sem,Act.eval,q0]
      exact hK _ w' (Below.refl _ _) rfl
     ·intro act w' hbe hd ho K hK
      have q0:act.tmps.getD 16 undef=.slice a6 t6.length c6:=ho 16 (by kernel_rfl)
      refine .inl ⟨goes_free rfl,?_⟩
      simp [Oper.wp,execOp,Oper.upon,go_sem,Act.eval,q0]
      exact hK _ w' (Below.refl _ _) rfl
     ·intro act w' hbe hd ho K hK
      have q0:act.tmps.getD 102 undef=.slice a1 t1.length c1:=hd 0 (by rfl)
      have q1:act.tmps.getD 103 undef=.slice a6 t6.length c6:=hd 1 (by rfl)
      refine .inl ⟨goes_free rfl,?_⟩
      simp [Oper.wp,execOp,Oper.upon,go_sem,Act.eval,q0,q1]
      refine (HRS.out w' hbe).mono ?_
      rintro e w8 ⟨rfl,k1⟩
      exact hK _ w8 k1 rfl
     ·intro act w' hbe hd ho K hK
      have q0:act.tmps.getD 104 undef=.bool true:=hd 2 (by rfl)
      refine .inl ⟨goes_free rfl,?_⟩
      simp [Oper.wp,execOp,Oper.upon,go_sem,Act.eval,q0]
      exact hK _ w' (Below.refl _ _) rfl
     ·intro act w' hbe hd ho K hK
      have gd:act.tmps.getD 105 undef=.bool true:=hd 3 (by rfl)
      have q0:act.tmps.getD 10 undef=.int .i64 x:=ho 10 (by kernel_rfl)
      refine .inl ⟨goes_yes 3 true rfl rfl gd,?_⟩
      simp [Oper.wp,execOp,Oper.upon,go_sem,Act.eval,q0]
      exact hK _ w' (Below.refl _ _) rfl
     ·intro act w' hbe hd ho K hK
      have gd:act.tmps.getD 105 undef=.bool true:=hd 3 (by rfl)
      have q0:act.tmps.getD 17 undef=.int .i64 x:=ho 17 (by kernel_rfl)
      refine .inl ⟨goes_yes 3 true rfl rfl gd,?_⟩
      simp [Oper.wp,execOp,Oper.upon,go_sem,Act.eval,q0]
      exact hK _ w' (Below.refl _ _) rfl
     ·intro act w' hbe hd ho K hK
      have gd:act.tmps.getD 105 undef=.bool true:=hd 3 (by rfl)
      have q0:act.tmps.getD 106 undef=.int .i64 x:=hd 4 (by rfl)
      have q1:act.tmps.getD 107 undef=.int .i64 x:=hd 5 (by rfl)
      refine .inl ⟨goes_yes 3 true rfl rfl gd,?_⟩
      simp [Oper.wp,execOp,Oper.upon,go_sem,Act.eval,q0,q1]
      exact hK _ w' (Below.refl _ _) rfl
     ·intro act w' hbe hd ho K hK
      have q0:act.tmps.getD 105 undef=.bool true:=hd 3 (by rfl)
      have q1:act.tmps.getD 108 undef=.bool true:=hd 6 (by rfl)
      refine .inl ⟨goes_free rfl,?_⟩
      simp [Oper.wp,execOp,Oper.upon,go_sem,Act.eval,q0,q1]
      exact hK _ w' (Below.refl _ _) rfl
     ·intro act w' hbe hd ho K hK
      have q0:act.tmps.getD 109 undef=.bool true:=hd 7 (by rfl)
      refine .inl ⟨goes_free rfl,?_⟩
      simp [Oper.wp,execOp,Oper.upon,go_sem,Act.eval,q0]
      exact hK _ w' (Below.refl _ _) rfl
     ·intro act w' hbe hd ho K hK
      have gd:act.tmps.getD 110 undef=.bool true:=hd 8 (by rfl)
      have q0:act.tmps.getD 13 undef=.int .i64 x:=ho 13 (by kernel_rfl)
      refine .inl ⟨goes_yes 8 true rfl rfl gd,?_⟩
      simp [Oper.wp,execOp,Oper.upon,go_sem,Act.eval,q0]
      exact hK _ w' (Below.refl _ _) rfl
     ·intro act w' hbe hd ho K hK
      have gd:act.tmps.getD 110 undef=.bool true:=hd 8 (by rfl)
      have q0:act.tmps.getD 17 undef=.int .i64 x:=ho 17 (by kernel_rfl)
      refine .inl ⟨goes_yes 8 true rfl rfl gd,?_⟩
      simp [Oper.wp,execOp,Oper.upon,go_sem,Act.eval,q0]
      exact hK _ w' (Below.refl _ _) rfl
     ·intro act w' hbe hd ho K hK
      have gd:act.tmps.getD 110 undef=.bool true:=hd 8 (by rfl)
      have q0:act.tmps.getD 111 undef=.int .i64 x:=hd 9 (by rfl)
      have q1:act.tmps.getD 112 undef=.int .i64 x:=hd 10 (by rfl)
      refine .inl ⟨goes_yes 8 true rfl rfl gd,?_⟩
      simp [Oper.wp,execOp,Oper.upon,go_sem,Act.eval,q0,q1]
      exact hK _ w' (Below.refl _ _) rfl
     ·intro act w' hbe hd ho K hK
      have q0:act.tmps.getD 110 undef=.bool true:=hd 8 (by rfl)
      have q1:act.tmps.getD 113 undef=.bool true:=hd 11 (by rfl)
      refine .inl ⟨goes_free rfl,?_⟩
      simp [Oper.wp,execOp,Oper.upon,go_sem,Act.eval,q0,q1]
      exact hK _ w' (Below.refl _ _) rfl
     ·intro act w' hbe hd ho K hK
      have q0:act.tmps.getD 114 undef=.bool true:=hd 12 (by rfl)
      refine .inl ⟨goes_free rfl,?_⟩
      simp [Oper.wp,execOp,Oper.upon,go_sem,Act.eval,q0]
      exact hK _ w' (Below.refl _ _) rfl
     ·intro act w' hbe hd ho K hK
      have gd:act.tmps.getD 115 undef=.bool true:=hd 13 (by rfl)
      have q0:act.tmps.getD 11 undef=.int .i64 f:=ho 11 (by kernel_rfl)
      refine .inl ⟨goes_yes 13 true rfl rfl gd,?_⟩
      simp [Oper.wp,execOp,Oper.upon,go_sem,Act.eval,q0]
      exact hK _ w' (Below.refl _ _) rfl
     ·intro act w' hbe hd ho K hK
      have gd:act.tmps.getD 115 undef=.bool true:=hd 13 (by rfl)
      have q0:act.tmps.getD 18 undef=.int .i64 f:=ho 18 (by kernel_rfl)
      refine .inl ⟨goes_yes 13 true rfl rfl gd,?_⟩
      simp [Oper.wp,execOp,Oper.upon,go_sem,Act.eval,q0]
      exact hK _ w' (Below.refl _ _) rfl
     ·intro act w' hbe hd ho K hK
      have gd:act.tmps.getD 115 undef=.bool true:=hd 13 (by rfl)
      have q0:act.tmps.getD 116 undef=.int .i64 f:=hd 14 (by rfl)
      have q1:act.tmps.getD 117 undef=.int .i64 f:=hd 15 (by rfl)
      refine .inl ⟨goes_yes 13 true rfl rfl gd,?_⟩
      simp [Oper.wp,execOp,Oper.upon,go_sem,Act.eval,q0,q1]
      exact hK _ w' (Below.refl _ _) rfl
     ·intro act w' hbe hd ho K hK
      have q0:act.tmps.getD 115 undef=.bool true:=hd 13 (by rfl)
      have q1:act.tmps.getD 118 undef=.bool true:=hd 16 (by rfl)
      refine .inl ⟨goes_free rfl,?_⟩
      simp [Oper.wp,execOp,Oper.upon,go_sem,Act.eval,q0,q1]
      exact hK _ w' (Below.refl _ _) rfl
     ·intro act w' hbe hd ho K hK
      have q0:act.tmps.getD 119 undef=.bool true:=hd 17 (by rfl)
      refine .inl ⟨goes_free rfl,?_⟩
      simp [Oper.wp,execOp,Oper.upon,go_sem,Act.eval,q0]
      exact hK _ w' (Below.refl _ _) rfl
     ·intro act w' hbe hd ho K hK
      have gd:act.tmps.getD 120 undef=.bool true:=hd 18 (by rfl)
      have q0:act.tmps.getD 14 undef=.int .i64 f:=ho 14 (by kernel_rfl)
      refine .inl ⟨goes_yes 18 true rfl rfl gd,?_⟩
      simp [Oper.wp,execOp,Oper.upon,go_sem,Act.eval,q0]
      exact hK _ w' (Below.refl _ _) rfl
     ·intro act w' hbe hd ho K hK
      have gd:act.tmps.getD 120 undef=.bool true:=hd 18 (by rfl)
      have q0:act.tmps.getD 18 undef=.int .i64 f:=ho 18 (by kernel_rfl)
      refine .inl ⟨goes_yes 18 true rfl rfl gd,?_⟩
      simp [Oper.wp,execOp,Oper.upon,go_sem,Act.eval,q0]
      exact hK _ w' (Below.refl _ _) rfl
     ·intro act w' hbe hd ho K hK
      have gd:act.tmps.getD 120 undef=.bool true:=hd 18 (by rfl)
      have q0:act.tmps.getD 121 undef=.int .i64 f:=hd 19 (by rfl)
      have q1:act.tmps.getD 122 undef=.int .i64 f:=hd 20 (by rfl)
      refine .inl ⟨goes_yes 18 true rfl rfl gd,?_⟩
      simp [Oper.wp,execOp,Oper.upon,go_sem,Act.eval,q0,q1]
      exact hK _ w' (Below.refl _ _) rfl
     ·intro act w' hbe hd ho K hK
      have q0:act.tmps.getD 120 undef=.bool true:=hd 18 (by rfl)
      have q1:act.tmps.getD 123 undef=.bool true:=hd 21 (by rfl)
      refine .inl ⟨goes_free rfl,?_⟩
      simp [Oper.wp,execOp,Oper.upon,go_sem,Act.eval,q0,q1]
      exact hK _ w' (Below.refl _ _) rfl
     ·intro act w' hbe hd ho K hK
      have q0:act.tmps.getD 124 undef=.bool true:=hd 22 (by rfl)
      refine .inl ⟨goes_free rfl,?_⟩
      simp [Oper.wp,execOp,Oper.upon,go_sem,Act.eval,q0]
      exact hK _ w' (Below.refl _ _) rfl
     ·intro act w' hbe hd ho K hK
      have gd:act.tmps.getD 125 undef=.bool true:=hd 23 (by rfl)
      have q0:act.tmps.getD 12 undef=.pointer (some ⟨b5,0,none⟩):=ho 12 (by kernel_rfl)
      have f0:=cell_later hbe r0
      have f1:=cell_later hbe r1
      refine .inl ⟨goes_yes 23 true rfl rfl gd,?_⟩
      simp [Oper.wp,execOp,Oper.upon,go_sem,Act.eval,q0,f0,f1]
      exact hK _ w' (Below.refl _ _) rfl
     ·intro act w' hbe hd ho K hK
      have gd:act.tmps.getD 125 undef=.bool true:=hd 23 (by rfl)
      have q0:act.tmps.getD 16 undef=.slice a6 t6.length c6:=ho 16 (by kernel_rfl)
      refine .inl ⟨goes_yes 23 true rfl rfl gd,?_⟩
      simp [Oper.wp,execOp,Oper.upon,go_sem,Act.eval,q0]
      exact hK _ w' (Below.refl _ _) rfl
     ·intro act w' hbe hd ho K hK
      have gd:act.tmps.getD 125 undef=.bool true:=hd 23 (by rfl)
      have q0:act.tmps.getD 127 undef=.slice a6 t6.length c6:=hd 25 (by rfl)
      refine .inl ⟨goes_yes 23 true rfl rfl gd,?_⟩
      simp [Oper.wp,execOp,Oper.upon,go_sem,Act.eval,q0]
      refine (HWR.out w' hbe).mono ?_
      rintro e w8 ⟨a7,c7,rfl,k1,k2⟩
      exact hK _ w8 k2 ⟨a7,c7,rfl,k1⟩
     ·intro act w' hbe hd ho K hK
      have gd:act.tmps.getD 125 undef=.bool true:=hd 23 (by rfl)
      have q0:act.tmps.getD 126 undef=.agg #[.slice a2 E.length c2,.int .u64 Y]:=hd 24 (by rfl)
      obtain ⟨a7,c7,e7,h7⟩:AgV E Y (act.tmps.getD 128 undef) w':=hd 26 (by rfl)
      refine .inl ⟨goes_yes 23 true rfl rfl gd,?_⟩
      simp [Oper.wp,execOp,Oper.upon,go_sem,Act.eval,q0,e7]
      refine (HCM.out a7 c7 w' hbe h7).mono ?_
      rintro e w8 ⟨rfl,k1⟩
      exact hK _ w8 k1 rfl
     ·intro act w' hbe hd ho K hK
      have gd:act.tmps.getD 125 undef=.bool true:=hd 23 (by rfl)
      have q0:act.tmps.getD 129 undef=.int .i64 0:=hd 27 (by rfl)
      refine .inl ⟨goes_yes 23 true rfl rfl gd,?_⟩
      simp [Oper.wp,execOp,Oper.upon,go_sem,Act.eval,q0]
      exact hK _ w' (Below.refl _ _) rfl
     ·intro act w' hbe hd ho K hK
      have q0:act.tmps.getD 125 undef=.bool true:=hd 23 (by rfl)
      have q1:act.tmps.getD 130 undef=.bool true:=hd 28 (by rfl)
      refine .inl ⟨goes_free rfl,?_⟩
      simp [Oper.wp,execOp,Oper.upon,go_sem,Act.eval,q0,q1]
      exact hK _ w' (Below.refl _ _) rfl
     ·intro act w' hbe hd ho K hK
      have q0:act.tmps.getD 131 undef=.bool true:=hd 29 (by rfl)
      refine .inl ⟨goes_free rfl,?_⟩
      simp [Oper.wp,execOp,Oper.upon,go_sem,Act.eval,q0]
      exact hK _ w' (Below.refl _ _) rfl
     ·intro act w' hbe hd ho K hK
      have gd:act.tmps.getD 132 undef=.bool true:=hd 30 (by rfl)
      refine .inl ⟨goes_yes 30 true rfl rfl gd,?_⟩
      simp [Oper.wp,execOp,Oper.upon,go_sem,Act.eval]
      refine (HAL.out w').mono ?_
      rintro e w8 ⟨rfl,k1⟩
      exact hK _ w8 k1 rfl
     ·intro act w' hbe hd ho K hK
      have q0:act.tmps.getD 132 undef=.bool true:=hd 30 (by rfl)
      have q1:act.tmps.getD 133 undef=.bool true:=hd 31 (by rfl)
      refine .inl ⟨goes_free rfl,?_⟩
      simp [Oper.wp,execOp,Oper.upon,go_sem,Act.eval,q0,q1]
      exact hK _ w' (Below.refl _ _) rfl
     ·intro act w' hbe hd ho K hK
      have q0:act.tmps.getD 134 undef=.bool true:=hd 32 (by rfl)
      refine .inl ⟨goes_free rfl,?_⟩
      simp [Oper.wp,execOp,Oper.upon,go_sem,Act.eval,q0]
      exact hK _ w' (Below.refl _ _) rfl
    case hend3=>
     intro vs w8 hb8 hR
     have e33:vs 33=.bool true:=hR 33 (by decide)
     simp only [puts,dstAt,List.getElem?_cons_zero,List.getElem?_cons_succ,Option.bind_some,Option.getD_some,Act.put,List.length_cons,List.length_nil,Nat.reduceAdd,List.setIfInBounds_toArray,List.set_cons_zero,List.set_cons_succ,e33]
     have HB8:=Lib.hid (HB27.out.st hb8)
     clear hR e33 hb8
     go_wp2
     go_ret
     exact ⟨rfl,HB8.out⟩
  ·refine trLegs_bad 1 g ao cap h1 s1 ro r rc lo l lc w V HV.out hl hr6 hf6 (by decide) (fun W hz=>(HBA.out W hz).mono ?_)
   intro e w2 hp2
   obtain ⟨rfl,hb2⟩:=hp2.nil e1
   refine ⟨_,_,rfl,hb2,fun W' hz'=>?_,fun W' hz'=>?_⟩
   ·exact trRight_nil l lo lc W' (HFT.out.go ((hz.st hb2).st hz')) (by omega)
   ·exact why34_bad _ _ _ k1 W' e1
end Go.Proofs.YteaaapdjplbljaaGreat
