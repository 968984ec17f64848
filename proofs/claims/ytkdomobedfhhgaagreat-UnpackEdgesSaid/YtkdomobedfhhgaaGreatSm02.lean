/- Walks over the references of layers 20 and 21: is a shortcut two that lie ahead, is all made of a graph. -/
import Derived.Test.YtkdomobedfhhgaaGreatProg
import Derived.Test.YtkdomobedfhhgaaGreatSm01
set_option linter.unusedVariables false
set_option linter.unusedSimpArgs false
set_option linter.unnecessarySimpa false
namespace Go.Proofs.YtkdomobedfhhgaaGreat
open Go Go.Proofs Go.RowKit Go.Shelf Go.Proofs.YtkdomobedfhhgaaGreat.Hp Go.Proofs.YtkdomobedfhhgaaGreat.Ch
theorem rt_next {w W W0 w1 w2:World} {sb so i cap ka kb:Nat} {y z:SC} (hb:Below w1.heap.size w1 w2) (h:w1.cell? ⟨w.heap.size,1,none⟩=some (.slice (some ⟨sb,so,none⟩) i cap)∧w1.cell? ⟨W0.heap.size,4,none⟩=some (.int .i64 (ka:Int))∧w1.cell? ⟨W0.heap.size,5,none⟩=some (.int .i64 (kb:Int))∧w1.cell? ⟨sb,so+ka*6,none⟩=some (.int .i64 y.f)∧w1.cell? ⟨sb,so+ka*6+1,none⟩=some (.int .i64 y.t)∧w1.cell? ⟨sb,so+ka*6+2,none⟩=some (.int .u64 y.w)∧w1.cell? ⟨sb,so+ka*6+3,none⟩=some (.int .i64 y.e)∧w1.cell? ⟨sb,so+ka*6+4,none⟩=some (.int .i64 y.a)∧w1.cell? ⟨sb,so+ka*6+5,none⟩=some (.int .i64 y.b)∧w1.cell? ⟨sb,so+kb*6,none⟩=some (.int .i64 z.f)∧w1.cell? ⟨sb,so+kb*6+1,none⟩=some (.int .i64 z.t)∧w1.cell? ⟨sb,so+kb*6+2,none⟩=some (.int .u64 z.w)∧w1.cell? ⟨sb,so+kb*6+3,none⟩=some (.int .i64 z.e)∧w1.cell? ⟨sb,so+kb*6+4,none⟩=some (.int .i64 z.a)∧w1.cell? ⟨sb,so+kb*6+5,none⟩=some (.int .i64 z.b)∧Below W.heap.size W w1):w2.cell? ⟨w.heap.size,1,none⟩=some (.slice (some ⟨sb,so,none⟩) i cap)∧w2.cell? ⟨W0.heap.size,4,none⟩=some (.int .i64 (ka:Int))∧w2.cell? ⟨W0.heap.size,5,none⟩=some (.int .i64 (kb:Int))∧w2.cell? ⟨sb,so+ka*6,none⟩=some (.int .i64 y.f)∧w2.cell? ⟨sb,so+ka*6+1,none⟩=some (.int .i64 y.t)∧w2.cell? ⟨sb,so+ka*6+2,none⟩=some (.int .u64 y.w)∧w2.cell? ⟨sb,so+ka*6+3,none⟩=some (.int .i64 y.e)∧w2.cell? ⟨sb,so+ka*6+4,none⟩=some (.int .i64 y.a)∧w2.cell? ⟨sb,so+ka*6+5,none⟩=some (.int .i64 y.b)∧w2.cell? ⟨sb,so+kb*6,none⟩=some (.int .i64 z.f)∧w2.cell? ⟨sb,so+kb*6+1,none⟩=some (.int .i64 z.t)∧w2.cell? ⟨sb,so+kb*6+2,none⟩=some (.int .u64 z.w)∧w2.cell? ⟨sb,so+kb*6+3,none⟩=some (.int .i64 z.e)∧w2.cell? ⟨sb,so+kb*6+4,none⟩=some (.int .i64 z.a)∧w2.cell? ⟨sb,so+kb*6+5,none⟩=some (.int .i64 z.b)∧Below W.heap.size W w2:=by
 obtain ⟨c0,c1,c2,c3,c4,c5,c6,c7,c8,c9,c10,c11,c12,c13,c14,hz⟩:=h
 exact ⟨cell_later hb c0,cell_later hb c1,cell_later hb c2,cell_later hb c3,cell_later hb c4,cell_later hb c5,cell_later hb c6,cell_later hb c7,cell_later hb c8,cell_later hb c9,cell_later hb c10,cell_later hb c11,cell_later hb c12,cell_later hb c13,cell_later hb c14,hz.st hb⟩
set_option maxRecDepth 100000 in
set_option maxHeartbeats 4000000 in
theorem refTwo_any (R:List Int) (ro so:Option Addr) (rc sc i:Nat) (S:List SC) (w:World) (hr:Cel w ro (R.map encI)) (hS:Cel w so (flatS S)) (hi:i<S.length) (hl:S.length≤1000000) (hrl:R.length≤1000000)
  (hin:∀(k:Nat) (hk:k<i),nodeN R.length (S[k]'(by omega)).f∧nodeN R.length (S[k]'(by omega)).t):
  Calls Tryz.prog 138 #[.agg #[.slice ro R.length rc,.slice so S.length sc],.int .i64 (i:Int)] w (TwoPost (twoF R S i S[i]) w):=by
 obtain ⟨sb,so',e,s0,s1,s2,s3,s4,s5⟩:=cel_sc6 hS hi
 subst e
 obtain ⟨x,hx⟩:∃x,x=S[i]:=⟨_,rfl⟩
 rw [←hx] at s0 s1 s2 s3 s4 s5 ⊢
 obtain ⟨W0,hW0⟩:∃W0,W0=w.alloc (Obj.cells #[.slice ro R.length rc,.slice (some ⟨sb,so',none⟩) S.length sc] 45):=⟨_,rfl⟩
 have hb0:Below w.heap.size w W0:=by rw [hW0];exact Below.of_al _ _
 have hz0:W0.heap.size=w.heap.size+1:=by rw [hW0];simp
 have r0:W0.cell? ⟨w.heap.size,0,none⟩=some (.slice ro R.length rc):=by rw [hW0];go_simp
 have a0:W0.cell? ⟨w.heap.size,1,none⟩=some (.slice (some ⟨sb,so',none⟩) S.length sc):=by rw [hW0];go_simp
 obtain ⟨W,hW⟩:∃W,W=W0.alloc (Obj.cells #[.int .i64 x.f,.int .i64 x.t,.int .u64 x.w,.int .i64 x.e,.int .i64 x.a,.int .i64 x.b] 79):=⟨_,rfl⟩
 have hb1:Below W0.heap.size W0 W:=by rw [hW];exact Below.of_al _ _
 have hbw:Below w.heap.size w W:=hb0.st hb1
 have hxb:XB W W0.heap.size x:=by rw [hW];constructor<;>go_simp
 have t0:=cell_later hb0 s0
 have t1:=cell_later hb0 s1
 have t2:=cell_later hb0 s2
 have t3:=cell_later hb0 s3
 have t4:=cell_later hb0 s4
 have t5:=cell_later hb0 s5
 have q0:=cell_later hb1 r0
 have q1:=cell_later hb1 a0
 have HXB:=Lib.hid hxb
 have HW0:=Lib.hid hW0
 have HW:=Lib.hid hW
 have HB:=Lib.hid hbw
 have HR:=Lib.hid (hr.go hbw)
 have HS:=Lib.hid (hS.go hbw)
 have HIN:=Lib.hid hin
 have HZ:=Lib.hid hz0
 have hi0:(0:Int)≤(i:Int):=by omega
 have hi1:(i:Int)<(S.length:Int):=by omega
 obtain ⟨x0,x1,x2,x3,x4,x5⟩:=hxb
 unfold TwoPost
 have HT:=Lib.hid (show twoF R S i x=(pairF i x&&(meetF (scAt S x.a) (scAt S x.b) x&&decide (rAt R (scAt S x.a).t<min (rAt R x.f) (rAt R x.t)))) from rfl)
 have HP:=Lib.hid (show pairF i x=((x.e== -1)&&(decide (0≤x.a)&&decide (x.a<(i:Int)))&&(decide (0≤x.b)&&decide (x.b<(i:Int)))&&!(x.f==x.t)) from rfl)
 clear hW hbw hr hS hin s0 s1 s2 s3 s4 s5 hx hb0 hb1 hW0 hz0
 generalize twoF R S i x=rr at*
 generalize pairF i x=pp at*
 cases hE:(x.e== -1) with
 |false=>
  have hE2:(x.e != -1)=true:=by simp [bne,hE]
  have HF:=Lib.hid (show rr=false by rw [HT.out,HP.out,hE];rfl)
  go_enter Tryz.func138,Tryz.ntmps138
  go_upto_region 1 with (fail)
  rw [←HW0.out]
  go_upto_region 2 with (fail)
  rw [←HW.out]
  go_wp2
  go_ret
  exact ⟨by rw [HF.out];rfl,HB.out⟩
 |true=>
  have hE2:(x.e != -1)=false:=by simp [bne,hE]
  by_cases ha0:x.a<0
  ·have HF:=Lib.hid (show rr=false by rw [HT.out,HP.out,hE,decide_eq_false (show ¬0≤x.a by omega)];rfl)
   go_enter Tryz.func138,Tryz.ntmps138
   go_upto_region 1 with (fail)
   rw [←HW0.out]
   go_upto_region 2 with (fail)
   rw [←HW.out]
   go_wp2
   go_ret
   exact ⟨by rw [HF.out];rfl,HB.out⟩
  ·by_cases ha1:(i:Int)≤x.a
   ·have HF:=Lib.hid (show rr=false by rw [HT.out,HP.out,hE,decide_eq_false (show ¬x.a<(i:Int) by omega),Bool.and_false];rfl)
    go_enter Tryz.func138,Tryz.ntmps138
    go_upto_region 1 with (fail)
    rw [←HW0.out]
    go_upto_region 2 with (fail)
    rw [←HW.out]
    go_wp2
    go_ret
    exact ⟨by rw [HF.out];rfl,HB.out⟩
   ·by_cases hb0:x.b<0
    ·have HF:=Lib.hid (show rr=false by rw [HT.out,HP.out,hE,decide_eq_false (show ¬0≤x.b by omega),Bool.false_and,Bool.and_false];rfl)
     go_enter Tryz.func138,Tryz.ntmps138
     go_upto_region 1 with (fail)
     rw [←HW0.out]
     go_upto_region 2 with (fail)
     rw [←HW.out]
     go_wp2
     go_ret
     exact ⟨by rw [HF.out];rfl,HB.out⟩
    ·by_cases hb1:(i:Int)≤x.b
     ·have HF:=Lib.hid (show rr=false by rw [HT.out,HP.out,hE,decide_eq_false (show ¬x.b<(i:Int) by omega),Bool.and_false,Bool.and_false];rfl)
      go_enter Tryz.func138,Tryz.ntmps138
      go_upto_region 1 with (fail)
      rw [←HW0.out]
      go_upto_region 2 with (fail)
      rw [←HW.out]
      go_wp2
      go_ret
      exact ⟨by rw [HF.out];rfl,HB.out⟩
     ·have HPa:=Lib.hid (show pp=!(x.f==x.t) by rw [HP.out,hE,decide_eq_true (show 0≤x.a by omega),decide_eq_true (show x.a<(i:Int) by omega),decide_eq_true (show 0≤x.b by omega),decide_eq_true (show x.b<(i:Int) by omega)];rfl)
      cases hft:(x.f==x.t) with
      |true=>
       have HF:=Lib.hid (show rr=false by rw [HT.out,HPa.out,hft];rfl)
       go_enter Tryz.func138,Tryz.ntmps138
       go_upto_region 1 with (fail)
       rw [←HW0.out]
       go_upto_region 2 with (fail)
       rw [←HW.out]
       go_wp2
       go_ret
       exact ⟨by rw [HF.out];rfl,HB.out⟩
      |false=>
       have HPt:=Lib.hid (show pp=true by rw [HPa.out,hft];rfl)
       obtain ⟨ka,hka⟩:∃k:Nat,x.a=(k:Int):=⟨x.a.toNat,by omega⟩
       obtain ⟨kb,hkb⟩:∃k:Nat,x.b=(k:Int):=⟨x.b.toNat,by omega⟩
       have hka2:ka<i:=by omega
       have hkb2:kb<i:=by omega
       have hka3:ka<S.length:=by omega
       have hkb3:kb<S.length:=by omega
       have HSA:=Lib.hid (show scAt S x.a=S[ka] by unfold scAt;rw [hka,Int.toNat_natCast,List.getD_eq_getElem?_getD,List.getElem?_eq_getElem hka3];rfl)
       have HSB:=Lib.hid (show scAt S x.b=S[kb] by unfold scAt;rw [hkb,Int.toNat_natCast,List.getD_eq_getElem?_getD,List.getElem?_eq_getElem hkb3];rfl)
       obtain ⟨sb2,so2,e,y0,y1,y2,y3,y4,y5⟩:=cel_sc6 HS.out hka3
       cases e
       obtain ⟨sb3,so3,e,v0,v1,v2,v3,v4,v5⟩:=cel_sc6 HS.out hkb3
       cases e
       have HN1:=Lib.hid (HIN.out ka hka2)
       have HN2:=Lib.hid (HIN.out kb hkb2)
       rw [hka] at x4
       rw [hkb] at x5
       rw [HSA.out,HSB.out] at HT
       have hda0:decide (((ka:Nat):Int)<0)=false:=by rw [decide_eq_false_iff_not];omega
       have hda1:decide ((i:Int)≤((ka:Nat):Int))=false:=by rw [decide_eq_false_iff_not];omega
       have hdb0:decide (((kb:Nat):Int)<0)=false:=by rw [decide_eq_false_iff_not];omega
       have hdb1:decide ((i:Int)≤((kb:Nat):Int))=false:=by rw [decide_eq_false_iff_not];omega
       have hna0:¬((ka:Nat):Int)<0:=by omega
       have hna1:¬(i:Int)≤((ka:Nat):Int):=by omega
       have hnb0:¬((kb:Nat):Int)<0:=by omega
       have hnb1:¬(i:Int)≤((kb:Nat):Int):=by omega
       generalize S[ka]=y at*
       generalize S[kb]=z at*
       have HS0:=Lib.hid (show W.cell? ⟨w.heap.size,1,none⟩=some (.slice (some ⟨sb,so',none⟩) S.length sc)∧W.cell? ⟨W0.heap.size,4,none⟩=some (.int .i64 (ka:Int))∧W.cell? ⟨W0.heap.size,5,none⟩=some (.int .i64 (kb:Int))∧W.cell? ⟨sb,so'+ka*6,none⟩=some (.int .i64 y.f)∧W.cell? ⟨sb,so'+ka*6+1,none⟩=some (.int .i64 y.t)∧W.cell? ⟨sb,so'+ka*6+2,none⟩=some (.int .u64 y.w)∧W.cell? ⟨sb,so'+ka*6+3,none⟩=some (.int .i64 y.e)∧W.cell? ⟨sb,so'+ka*6+4,none⟩=some (.int .i64 y.a)∧W.cell? ⟨sb,so'+ka*6+5,none⟩=some (.int .i64 y.b)∧W.cell? ⟨sb,so'+kb*6,none⟩=some (.int .i64 z.f)∧W.cell? ⟨sb,so'+kb*6+1,none⟩=some (.int .i64 z.t)∧W.cell? ⟨sb,so'+kb*6+2,none⟩=some (.int .u64 z.w)∧W.cell? ⟨sb,so'+kb*6+3,none⟩=some (.int .i64 z.e)∧W.cell? ⟨sb,so'+kb*6+4,none⟩=some (.int .i64 z.a)∧W.cell? ⟨sb,so'+kb*6+5,none⟩=some (.int .i64 z.b)∧Below W.heap.size W W from ⟨q1,x4,x5,y0,y1,y2,y3,y4,y5,v0,v1,v2,v3,v4,v5,Below.refl _ _⟩)
       have hka0:(0:Int)≤(ka:Int):=by omega
       have hkb0:(0:Int)≤(kb:Int):=by omega
       have hka1:(ka:Int)<(S.length:Int):=by omega
       have hkb1:(kb:Int)<(S.length:Int):=by omega
       clear hka hkb hka3 hkb3 ha0 ha1 hb0 hb1 hka2 hkb2
       go_enter Tryz.func138,Tryz.ntmps138
       go_upto_region 1 with (fail)
       rw [←HW0.out]
       go_upto_region 2 with (fail)
       rw [←HW.out]
       go_upto_region 4 with (fail)
       go_cut [6,7] from 8 (fun v6 v7 wc=>∃b6 b7:Nat,v6=.pointer (some ⟨b6,0,none⟩)∧v7=.pointer (some ⟨b7,0,none⟩)∧XB wc b6 y∧XB wc b7 z∧Below W.heap.size W wc)
       case first=>
        clear r0 a0 t0 t1 t2 t3 t4 t5 q0 q1 x4 x5 y0 y1 y2 y3 y4 y5 v0 v1 v2 v3 v4 v5 hda0 hda1 hdb0 hdb1 hna0 hna1 hnb0 hnb1
        go_region_held3 (fun w'=>w'.cell? ⟨w.heap.size,1,none⟩=some (.slice (some ⟨sb,so',none⟩) S.length sc)∧w'.cell? ⟨W0.heap.size,4,none⟩=some (.int .i64 (ka:Int))∧w'.cell? ⟨W0.heap.size,5,none⟩=some (.int .i64 (kb:Int))∧w'.cell? ⟨sb,so'+ka*6,none⟩=some (.int .i64 y.f)∧w'.cell? ⟨sb,so'+ka*6+1,none⟩=some (.int .i64 y.t)∧w'.cell? ⟨sb,so'+ka*6+2,none⟩=some (.int .u64 y.w)∧w'.cell? ⟨sb,so'+ka*6+3,none⟩=some (.int .i64 y.e)∧w'.cell? ⟨sb,so'+ka*6+4,none⟩=some (.int .i64 y.a)∧w'.cell? ⟨sb,so'+ka*6+5,none⟩=some (.int .i64 y.b)∧w'.cell? ⟨sb,so'+kb*6,none⟩=some (.int .i64 z.f)∧w'.cell? ⟨sb,so'+kb*6+1,none⟩=some (.int .i64 z.t)∧w'.cell? ⟨sb,so'+kb*6+2,none⟩=some (.int .u64 z.w)∧w'.cell? ⟨sb,so'+kb*6+3,none⟩=some (.int .i64 z.e)∧w'.cell? ⟨sb,so'+kb*6+4,none⟩=some (.int .i64 z.a)∧w'.cell? ⟨sb,so'+kb*6+5,none⟩=some (.int .i64 z.b)∧Below W.heap.size W w') (first|exact rt_next (Below.refl _ W).drew HS0.out|exact rt_next (Below.of_al W _).drew HS0.out|exact rt_next ((Below.of_al W _).al _).drew HS0.out|exact rt_next (by assumption) (by assumption)) (first|fail)
        all_goals
         go_wp2_with fail
         go_meet
         exact ⟨_,_,rfl,rfl,by constructor<;>go_simp,by constructor<;>go_simp,((Below.of_al W _).al _).drew⟩
       case rest=>
        obtain ⟨b6,b7,rfl,rfl,hy,hz,hb⟩:=hcut
        have HBC:=Lib.hid (HB.out.st hb)
        have HRC:=Lib.hid (HR.out.go hb)
        have hx:=HXB.out.go hb
        have u0:=cell_later hb q0
        obtain ⟨m0,m1,m2,m3,m4,m5⟩:=hx
        obtain ⟨p0,p1,p2,p3,p4,p5⟩:=hy
        obtain ⟨n0,n1,n2,n3,n4,n5⟩:=hz
        have HM:=Lib.hid (show meetF y z x=((y.f==x.f)&&(y.t==z.f)&&(z.t==x.t)&&(wrapU (y.w+z.w)==x.w)) from rfl)
        have hwu:IntKind.u64.wrap (y.w+z.w)=wrapU (y.w+z.w):=rfl
        clear hb x0 x1 x2 x3 x4 x5 r0 a0 t0 t1 t2 t3 t4 t5 q0 q1 y0 y1 y2 y3 y4 y5 v0 v1 v2 v3 v4 v5 HS0 HS hda0 hda1 hdb0 hdb1 hna0 hna1 hnb0 hnb1
        generalize meetF y z x=mm at*
        generalize wrapU (y.w+z.w)=ww at*
        cases q1:(y.f==x.f) with
        |false=>
         have q1':(y.f != x.f)=true:=by simp [bne,q1]
         have HF:=Lib.hid (show rr=false by rw [HT.out,HM.out,q1];simp)
         clear q1
         go_wp2
         go_ret
         exact ⟨by rw [HF.out];rfl,HBC.out⟩
        |true=>
         have q1':(y.f != x.f)=false:=by simp [bne,q1]
         have hq1:y.f=x.f:=by simpa using q1
         have HQ1:=Lib.hid hq1
         rw [q1] at HM
         clear q1 hq1
         cases q2:(y.t==z.f) with
         |false=>
          have q2':(y.t != z.f)=true:=by simp [bne,q2]
          have HF:=Lib.hid (show rr=false by rw [HT.out,HM.out,q2];simp)
          clear q2
          go_wp2
          go_ret
          exact ⟨by rw [HF.out];rfl,HBC.out⟩
         |true=>
          have q2':(y.t != z.f)=false:=by simp [bne,q2]
          rw [q2] at HM
          clear q2
          cases q3:(z.t==x.t) with
          |false=>
           have q3':(z.t != x.t)=true:=by simp [bne,q3]
           have HF:=Lib.hid (show rr=false by rw [HT.out,HM.out,q3];simp)
           clear q3
           go_wp2
           go_ret
           exact ⟨by rw [HF.out];rfl,HBC.out⟩
          |true=>
           have q3':(z.t != x.t)=false:=by simp [bne,q3]
           have hq3:z.t=x.t:=by simpa using q3
           have HQ3:=Lib.hid hq3
           rw [q3] at HM
           clear q3 hq3
           cases q4:(ww==x.w) with
           |false=>
            have q4':(ww != x.w)=true:=by simp [bne,q4]
            have HF:=Lib.hid (show rr=false by rw [HT.out,HM.out,q4];simp)
            clear q4
            go_wp2
            go_ret
            exact ⟨by rw [HF.out];rfl,HBC.out⟩
           |true=>
            have q4':(ww != x.w)=false:=by simp [bne,q4]
            rw [q4] at HM
            clear q4
            obtain ⟨t1,ht1⟩:∃k:Nat,y.t=(k:Int):=⟨y.t.toNat,by have:=HN1.out.2.1;omega⟩
            obtain ⟨t2,ht2⟩:∃k:Nat,x.f=(k:Int):=⟨x.f.toNat,by have:=HN1.out.1.1;rw [HQ1.out] at this;omega⟩
            obtain ⟨t3,ht3⟩:∃k:Nat,x.t=(k:Int):=⟨x.t.toNat,by have:=HN2.out.2.1;rw [HQ3.out] at this;omega⟩
            have l1:t1<R.length:=by have:=HN1.out.2.2;omega
            have l2:t2<R.length:=by have:=HN1.out.1.2;rw [HQ1.out] at this;omega
            have l3:t3<R.length:=by have:=HN2.out.2.2;rw [HQ3.out] at this;omega
            obtain ⟨rb,rof,e,g1⟩:=HRC.out.at l1
            subst e
            obtain ⟨rb',rof',e,g2⟩:=HRC.out.at l2
            cases e
            obtain ⟨rb',rof',e,g3⟩:=HRC.out.at l3
            cases e
            have HT2:=Lib.hid (show rr=decide (R[t1]<min R[t2] R[t3]) by
             have:=HT.out
             rw [HPt.out,HM.out] at this
             unfold rAt at this
             rw [ht1,ht2,ht3] at this
             simpa [List.getD_eq_getElem?_getD,l1,l2,l3] using this)
            rw [ht1] at p1
            rw [ht2] at m0
            rw [ht3] at m1
            have i1:(t1:Int)<(R.length:Int):=by omega
            have i2:(t2:Int)<(R.length:Int):=by omega
            have i3:(t3:Int)<(R.length:Int):=by omega
            have j1:(0:Int)≤(t1:Int):=by omega
            have j2:(0:Int)≤(t2:Int):=by omega
            have j3:(0:Int)≤(t3:Int):=by omega
            have HY:=Lib.hid (And.intro ht1 (And.intro ht2 ht3))
            rw [ht1] at q2'
            rw [ht2] at q1'
            rw [ht3] at q3'
            generalize R[t1]=r1 at*
            generalize R[t2]=r2 at*
            generalize R[t3]=r3 at*
            clear ht1 ht2 ht3 hft HT
            by_cases k2:r1<r2
            ·have k2':decide (r1<r2)=true:=by simpa using k2
             by_cases k3:r1<r3
             ·have k3':decide (r1<r3)=true:=by simpa using k3
              have HF:=Lib.hid (show rr=true by rw [HT2.out,decide_eq_true_iff];omega)
              clear k2 k3
              go_wp2
              go_ret
              exact ⟨by rw [HF.out];simp [k2',k3'],HBC.out⟩
             ·have k3':decide (r1<r3)=false:=by simpa using k3
              have HF:=Lib.hid (show rr=false by rw [HT2.out,decide_eq_false_iff_not];omega)
              clear k2 k3
              go_wp2
              go_ret
              exact ⟨by rw [HF.out];simp [k2',k3'],HBC.out⟩
            ·have k2':decide (r1<r2)=false:=by simpa using k2
             have HF:=Lib.hid (show rr=false by rw [HT2.out,decide_eq_false_iff_not];omega)
             clear k2
             go_wp2
             go_ret
             exact ⟨by rw [HF.out];simp [k2'],HBC.out⟩
end Go.Proofs.YtkdomobedfhhgaaGreat
