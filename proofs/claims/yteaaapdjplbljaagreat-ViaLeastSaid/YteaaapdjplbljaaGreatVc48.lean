/- Parts; no condition. -/
import Derived.Test.YteaaapdjplbljaaGreatVc47
set_option linter.unusedVariables false
set_option linter.unusedSimpArgs false
set_option linter.unnecessarySimpa false
set_option maxRecDepth 100000
set_option maxHeartbeats 8000000
namespace Go.Proofs.YteaaapdjplbljaaGreat
namespace Vi
open Go Go.Proofs Go.RowKit Go.Shelf Hp Ch Ad Ro Dj
def NoV (O:List Int) (v:Value) (w:World):Prop:=∃a c,v=.tuple #[.slice a O.length c,.bool true]/\Cel w a (O.map Aj)
def RoV (O:List Int) (v:Value) (w:World):Prop:=∃a c,v=.slice a O.length c/\Cel w a (O.map Aj)
def luR (gv lv:Value) (s i:Int) (a0 a1:Addr) (ev:Value) (O:List Int):Nat->Value->World->Prop
 |0,v,_=>v=gv
 |1,v,_=>v=.int .i64 s
 |2,v,_=>v=lv
 |3,v,_=>v=.int .i64 i
 |4,v,_=>v=.pointer (some a0)
 |5,v,_=>v=.pointer (some a1)
 |6,v,_=>v=.pointer (some a1)
 |7,v,_=>v=ev
 |8,v,w=>NoV O v w
 |9,v,w=>NoV O v w
 |10,v,w=>RoV O v w
 |11,v,_=>v=.bool true
 |12,v,w=>RoV O v w
 |_,v,_=>v=.bool true
theorem Bf2 {gv lv:Value} {s i:Int} {a0 a1:Addr} {ev:Value} {O:List Int}:∀(k:Nat) (v:Value) (w w':World),Below w.heap.size w w'->luR gv lv s i a0 a1 ev O k v w->luR gv lv s i a0 a1 ev O k v w'
 |0,_,_,_,_,h=>h
 |1,_,_,_,_,h=>h
 |2,_,_,_,_,h=>h
 |3,_,_,_,_,h=>h
 |4,_,_,_,_,h=>h
 |5,_,_,_,_,h=>h
 |6,_,_,_,_,h=>h
 |7,_,_,_,_,h=>h
 |8,_,_,_,hb,⟨a,c,e,h⟩=>⟨a,c,e,h.go hb⟩
 |9,_,_,_,hb,⟨a,c,e,h⟩=>⟨a,c,e,h.go hb⟩
 |10,_,_,_,hb,⟨a,c,e,h⟩=>⟨a,c,e,h.go hb⟩
 |11,_,_,_,_,h=>h
 |12,_,_,_,hb,⟨a,c,e,h⟩=>⟨a,c,e,h.go hb⟩
 |_+13,_,_,_,_,h=>h
theorem Vw (g:GD) (ao:Option Addr) (cap:Nat) (h1 s1:Int) (ro:Option Addr) (r:List Int) (rc:Nat) (s t:Int) (w:World) (hc:Cel w ao (Ax g.es)) (hr:Cel w ro (r.map Aj)):
  Calls Tryz.prog 8 #[.agg #[.int .i64 g.n,.slice ao g.es.length cap],.agg #[.int .i64 h1,.int .i64 s1,.slice ro r.length rc],.int .i64 s,.int .i64 t] w fun e w'=>e=.returned (.bool true)/\Below w.heap.size w w':=by
 obtain ⟨V,hV⟩:∃V,V=(w.alloc (Obj.cells #[.int .i64 g.n,.slice ao g.es.length cap] 24)).alloc (Obj.cells #[.int .i64 h1,.int .i64 s1,.slice ro r.length rc] 27):=⟨_,rfl⟩;have hbV:Below w.heap.size w V:=by rw [hV];exact (Below.of_al _ _).al _
 have HQ:=Bi5 (show QB1 V w.heap.size g ao cap h1 s1 ro r rc by rw [hV];constructor<;>go_simp);have HAL:=Bi5 Yu;have HLI:=Bi5 (Xn g.n g.es ao cap V);have HB:=Bi5 hbV;have HV:=Bi5 hV;obtain ⟨p0,p1,p2,p3,p4⟩:=HQ.out;have HCS:=Bi5 (And.intro (hc.go hbV) (hr.go hbV));clear hbV hV hc hr
 cases hl:Md g.n g.es with
 |false=>
  rw [hl] at HLI;clear hl
  go_enter Tryz.func8,Tryz.ntmps8
  go_upto_region 1 with (fail)
  rw [<-HV.out]
  go_wp2_with (first
   |(go_at_call 11;refine HLI.out.mono ?_;rintro e w1 ⟨rfl,hb1⟩;(have HB1:=Bi5 (HB.out.st hb1));clear hb1)
   |(go_at_call 32;refine (HAL.out _).mono ?_;rintro e w2 ⟨rfl,hb2⟩;(have HB2:=Bi5 (HB1.out.st hb2));clear hb2))
  go_ret
  exact ⟨rfl,HB2.out⟩
 |true=>
  obtain ⟨hg,hes⟩:=Ss hl;have HG:=Bi5 hg;rw [hl] at HLI;clear hl hg
  by_cases hr6:(60:Int)<(r.length:Int)
  ·go_enter Tryz.func8,Tryz.ntmps8
   go_upto_region 1 with (fail)
   rw [<-HV.out]
   go_wp2_with (first
    |(go_at_call 11;refine HLI.out.mono ?_;rintro e w1 ⟨rfl,hb1⟩;(have HB1:=Bi5 (HB.out.st hb1));(have k4:=Bi6 hb1 p4);clear hb1)
    |(go_at_call 32;refine (HAL.out _).mono ?_;rintro e w2 ⟨rfl,hb2⟩;(have HB2:=Bi5 (HB1.out.st hb2));clear hb2))
   go_ret
   exact ⟨rfl,HB2.out⟩
  ·have HBA:=Bi5 (fun W (hz:Below V.heap.size V W)=>Ui g ao ro cap rc h1 s1 r W (HCS.out.1.go hz) (HCS.out.2.go hz) (fun k=>by have:=HG.out k;omega) (by omega) (by omega))
   have HZ:=Bi5 (fun k:Cb g h1 s1 r=0=>Yq k);generalize Cb g h1 s1 r=k1 at*
   by_cases e1:k1=0
   ·subst e1
    have hgz:=HZ.out rfl;have hn:=HG.out hgz;have hgn:=Jr hgz;obtain ⟨n,hnn⟩:∃n:Nat,g.n=(n:Int):=⟨g.n.toNat,by omega⟩;obtain ⟨gn,es⟩:=g;simp only at hnn hn hes;subst hnn;have hn12:n<=12:=by omega
    have hes40:es.length<=40:=by omega
    have HGZ:=Bi5 hgz;have HA:=Bi5 (Bg3 hgz);clear hgz HZ
    go_enter Tryz.func8,Tryz.ntmps8
    go_upto_region 1 with (fail)
    rw [<-HV.out]
    go_upto_region 3 with (go_at_call 11;refine HLI.out.mono ?_;rintro e w1 ⟨rfl,hb1⟩;(have HB1:=Bi5 hb1);(obtain ⟨x0,x1,x2,x3,x4⟩:=HQ.out.go hb1);clear hb1)
    go_upto_region 4 with (go_at_call 13;refine (HBA.out _ HB1.out).mono ?_;rintro e w2 hp2;(obtain ⟨hb,R,S,po,rfl,hbh,hb2⟩:=hp2.good rfl HGZ.out hn);(have HH:=Bi5 (show BH w2 hb n es R S po from hbh));(have HB2:=Bi5 (HB1.out.st hb2));(have z0:=Bi6 hb2 x0);(have z1:=Bi6 hb2 x1);clear hb2 hp2 hbh)
    clear x0 x1 x2 x3 x4 p0 p1 p2 p3 p4;have HN2:=Bi5 (Ai7 hb n es R S po s t w2 HH.out HGZ.out (Bi9 hes40 (by decide)));unfold Ae2 at HN2
    go_upto_region 7 with (go_at_call 39;refine HN2.out.mono ?_;rintro e w4 ⟨a4,c4,xs,k,rfl,q1,q2,q3,L,q4,ys,q5,q6⟩;(have HI:=Bi5 q4);(have HC4:=Bi5 q1);(have HE4:=Bi5 q2);(have HB4:=Bi5 q3);(have HY4:=Bi5 q5);(have HX4:=Bi5 q6);(have x0:=Bi6 q3 z0);(have x1:=Bi6 q3 z1);clear q1 q2 q3 q4 q5 q6)
    clear z0 z1 HN2;have HBV:=Bi5 (HB2.out.st HB4.out)
    by_cases hk:k=0
    ·subst hk
     obtain ⟨ns,nt,dd,hdd⟩:Aa n s/\Aa n t/\∃d,Dist (Am es) s t d:=by
      rcases HI.out with ⟨_,h1,h2,h3,_⟩|⟨h,_⟩
      ·exact ⟨h1,h2,h3⟩
      ·exact absurd rfl h
     obtain ⟨sn,rfl⟩:∃q:Nat,s=(q:Int):=⟨s.toNat,by have:=ns.1;omega⟩;obtain ⟨tn,rfl⟩:∃q:Nat,t=(q:Int):=⟨t.toNat,by have:=nt.1;omega⟩;have hsn:sn<n:=by have:=ns.2;omega
     have htn:tn<n:=by have:=nt.2;omega
     have HFA:=Bi5 (fun W (hz:Below V.heap.size V W)=>Zs n sn es ao cap false W HGZ.out (by omega) (by omega) hsn (HCS.out.1.go hz));unfold AllPost at HFA;have HFT:=Bi5 (fun d (h:AllIs es n (sn:Int) false [] d)=>(show gD d (tn:Int)=dd by
      rcases AllIs.far (es:=es) (n:=n) (back:=false) (fun u v w h=>(HA.out u v w h).2.2) h nt with ⟨h1,_⟩|⟨_,h1⟩
      ·exact h1.uniq hdd
      ·exact absurd hdd.1 (h1 _)))
     have HXV:=Bi5 (show ∀x∈xs,isB ⟨n,es⟩ (sn:Int) (tn:Int) x.es=true/\(∃A B,Cu ⟨n,es⟩ (sn:Int) x.es=some (A++x.v::B)/\x.c=(A.length:Int)/\A.length<=x.es.length)/\x.es.length<=1000000 from fun x hx=>by
      rw [HX4.out] at hx;obtain ⟨v,hv,hb⟩:=Ah6 HY4.out ((Jp _).1 hx);have h1:=Bc0 HA.out hb;obtain ⟨_,h2,h3⟩:=Ao6 HGZ.out HA.out HI.out hv hb;exact ⟨h2,h3,by omega⟩)
     have HAP:=Bi5 (show xs.Pairwise (fun a b=>a.v≠b.v) by rw [HX4.out];exact Wm HA.out HI.out HY4.out);have HSR:=Bi5 (show xs.Pairwise (fun a b=>a.w<=b.w) by rw [HX4.out];exact Te _);have HXL:=Bi5 (show xs.length<=12 by
      rw [HX4.out,Jq,HY4.out.1]
      rcases HI.out with ⟨_,_,_,_,_,h,_⟩|⟨h,_⟩
      ·omega
      ·exact absurd rfl h)
     obtain ⟨h0,HX0⟩:∃h:0<xs.length,Hid (xs[0].w=dd):=by
      obtain ⟨x,r,e1,e2⟩:=Xp HH.out.ok HA.out HI.out HY4.out hdd;have e3:xs=x::r:=HX4.out.trans e1;subst e3;exact ⟨by simp,Bi5 e2⟩
     clear HY4 HX4 HI hdd ns nt HH;have hne:((xs.length:Int)==0)=false:=by
      rw [beq_eq_false_iff_ne];omega
     go_upto_region 10 with (go_at_call 43;refine (HFA.out _ HBV.out).mono ?_;rintro e w5 ⟨fb,fd,rfl,q1,q2,q3,q4⟩;(have HFC:=Bi5 q1);(have HB5:=Bi5 q2);(have HFD:=Bi5 q4);(have y0:=Bi6 q2 x0);(have y1:=Bi6 q2 x1);clear q1 q2 q3 q4)
     clear x0 x1 HFA;have HC5:=Bi5 (HC4.out.go HB5.out);have HB45:=Bi5 (HB4.out.st HB5.out);obtain ⟨mb,mo,hao,-,-,m2,-⟩:=Cel.via HC5.out h0;subst hao;rw [HX0.out,Nat.zero_mul,Nat.add_zero] at m2;have m3:=Ar4 HFC.out HFD.out.1 htn;rw [HFT.out _ HFD.out] at m3;have e0:=fun p=>Ac p m2;have e1:=fun p=>Ac p m3;have hd:(dd != dd)=false:=by simp
     refine Ag (by kernel_rfl) (by kernel_rfl) ?_
     repeat (go_big_quiet_step (fail))
     refine wpQuiet_nil ?_;rintro _ ⟨pa,rfl⟩;have HBa:=Bi5 (Ah w5 pa);generalize ext w5 pa=wa at HBa ⊢;have HCa:=Bi5 (HC5.out.go HBa.out);have z0:=Bi6 HBa.out y0;have z1:=Bi6 HBa.out y1;have HB4a:=Bi5 (HB45.out.st HBa.out);clear hne hd m2 m3 e0 e1 y0 y1 HC5 HC4 HX0 h0
     go_wp2
     go_loopg [14,15,16,17] xs.length (fun gg v14 v15 v16 v17 wr=>∃i:Nat,i<=xs.length/\xs.length-i<=gg/\v15=.int .i64 i/\Aside (wr.ownsRow wa.heap.size 3 1 v14 i (((xs.take i).map (·.v)).map Aj))/\Aside (Below wa.heap.size wa wr))
     case atStart=>exact ⟨0,Bi8 _,by omega,rfl,World.ownsRow_nil _ _ _ _,Below.refl _ _⟩
     case round=>
      obtain ⟨i,hi,hgg,rfl,HRr,HBr⟩:=hrel;have hxl:=HXL.out
      by_cases hlt:i<xs.length
      ·have hlt2:(i:Int)<(xs.length:Int):=by omega
       have hi0:(0:Int)<=(i:Int):=by omega
       obtain ⟨nb,no,hno,m0,m1,m2,m3⟩:=Cel.via (HCa.out.go HBr.out) hlt
       cases hno
       obtain ⟨fis,⟨A,B,fno,fc,fal⟩,fel⟩:=HXV.out _ (Bj7 hlt);have HFI:=Bi5 fis;have HFN:=Bi5 fno;have HEa:=Bi5 ((HE4.out _ (Bj7 hlt)).go (HB5.out.st HBa.out));obtain ⟨moa,moc,hv14,hmc⟩:=Cel.of_owns HRr.out;subst hv14;have HMC:=Bi5 hmc;have hml:((xs.take i).map (·.v)).length=i:=by simp;omega
       have hnm:xs[i].v∉(xs.take i).map (·.v):=fun h=>by
        obtain ⟨y,hy,e⟩:=List.mem_map.1 h;obtain ⟨j,hj,rfl⟩:=Bm9.1 hy;rw [List.length_take] at hj;rw [List.getElem_take] at e;exact List.pairwise_iff_getElem.1 HAP.out j i (by omega) hlt (by omega) e
       have HTK:=Bi5 (show (xs.take (i+1)).map (·.v)=(xs.take i).map (·.v)++[xs[i].v] by rw [Bk3 hlt,Bm6];rfl);have HPV:=Bi5 (fun (h:0<i)=>(show ∃y,wr.cell? ⟨mb,mo+(i-1)*4+2,none⟩=some (.int .u64 y)/\y<=xs[i].w by
        obtain ⟨b2,o2,e2,_,_,k2,_⟩:=Cel.via (HCa.out.go HBr.out) (show i-1<xs.length by omega)
        cases e2
        exact ⟨_,k2,List.pairwise_iff_getElem.1 HSR.out (i-1) i (by omega) hlt (by omega)⟩))
       rw [fc] at m3;have g0:=Bi6 HBr.out z0;have g1:=Bi6 HBr.out z1;generalize xs[i]=x at*;obtain ⟨xv,xo,xc,xe,xw,xq⟩:=x;simp only at m0 m1 m2 m3 HFI HFN HEa hnm HTK HPV fal fel;have HEr:=Bi5 (HEa.out.go HBr.out);generalize hmm:(xs.take i).map (·.v)=ml at*;have HHS:=Bi5 (fun p=>Hq moa moc ml xv (ext wr p) (by omega) (HMC.out.go (Ah wr p)));have HIS:=Bi5 (fun p=>Aj6 ⟨n,es⟩ ao xo cap xc (sn:Int) (tn:Int) xe (ext wr p) (by simp;omega) (by omega) ((HCS.out.1.go (HBV.out.st (HB5.out.st (HBa.out.st HBr.out)))).go (Ah wr p)) (HEr.out.go (Ah wr p)));rw [decide_eq_false hnm,hml] at HHS;rw [HFI.out] at HIS;clear hmm fis fno fc hmc;have HOA:=Bi5 (show (A++xv::B)[A.length]? =some xv by simp);generalize A++xv::B=O at*;have e0:=fun p=>Ac p m0;have e1:=fun p=>Ac p m1;have e2:=fun p=>Ac p m2;have e3:=fun p=>Ac p m3;have e4:=fun p=>Ac p g0;have e5:=fun p=>Ac p g1
       go_upto_region 16 with (fail)
       go_cut [138] from 76 to 137 (fun v138 wc=>v138=.bool false/\Below wr.heap.size wr wc)
       case first=>
        by_cases hi1:i=0
        ·have f0:decide ((A.length:Int)<0)=false:=decide_eq_false (by omega)
         have f1:decide (xe.length<A.length)=false:=decide_eq_false (by omega);have f2:decide (0<i)=false:=decide_eq_false (by omega);clear HPV hi1;refine Ag (by kernel_rfl) (by kernel_rfl) ?_
         repeat (go_big_quiet_step ((first|(go_at_call 44;exact Calls.ext_of_same (HHS.out _))|(go_at_call 45;exact Calls.ext_of (HIS.out _)))))
         refine wpQuiet_nil ?_;rintro _ ⟨pb,rfl⟩;have HBb:=Bi5 (Ah wr pb);generalize ext wr pb=wb at HBb ⊢
         go_wp2_with fail
         go_meet
         exact ⟨rfl,HBb.out⟩
        ·have f0:decide ((A.length:Int)<0)=false:=decide_eq_false (by omega)
         have f1:decide (xe.length<A.length)=false:=decide_eq_false (by omega);have f2:decide (0<i)=true:=decide_eq_true (by omega);obtain ⟨y,k2,k3⟩:=HPV.out (by omega);obtain ⟨p,hp⟩:∃p,p=i-1:=⟨_,rfl⟩;rw [<-hp] at k2;have f3:decide (xw<y)=false:=decide_eq_false (by omega);have f4:IntKind.i64.wrap ((i:Int)-1)=(p:Int):=by rw [IntKind.wrap_i64];omega
         have f5:(p:Int)<(xs.length:Int):=by omega
         have f6:(0:Int)<=(p:Int):=by omega
         have e6:=fun p=>Ac p k2;clear HPV hp hi1 k3;refine Ag (by kernel_rfl) (by kernel_rfl) ?_
         repeat (go_big_quiet_step ((first|(go_at_call 44;exact Calls.ext_of_same (HHS.out _))|(go_at_call 45;exact Calls.ext_of (HIS.out _)))))
         refine wpQuiet_nil ?_;rintro _ ⟨pb,rfl⟩;have HBb:=Bi5 (Ah wr pb);generalize ext wr pb=wb at HBb ⊢
         go_wp2_with fail
         go_meet
         exact ⟨rfl,HBb.out⟩
       case rest=>
        obtain ⟨rfl,hbc⟩:=hcut;have HBC:=Bi5 (HBr.out.st hbc);have HRc:=Bi5 (Af HRr.out hbc);have d0:=Bi6 hbc m0;have d1:=Bi6 hbc m1;have d3:=Bi6 hbc m3;have y0:=Bi6 hbc g0;have y1:=Bi6 hbc g1;have hbn:=Bj5 _ _ m0;have hbz:=Bj5 _ _ g0;have hsa:=HBr.out.size;have hsc:=hbc.size;have HMA:=Bi5 (show mb<wa.heap.size by
         obtain ⟨q1,q2,hq,q3,_⟩:=Cel.via HCa.out hlt
         cases hq
         exact Bj5 _ _ q3)
        clear hbc m0 m1 m2 m3 g0 g1 e0 e1 e2 e3 e4 e5 HHS HIS HPV
        go_upto_region 19 with (at_builtin;go_must (refine Ce wa.heap.size 3 _ 1 8 Hf Tryz.underlying25 _ i (ml.map Aj) ⟨wc.heap.size,0,none⟩ 1 1 [.int .i64 xv] rfl rfl (World.ownsRow.alloc HRc.out _) (cell_one_new _ _ _) (Cr rfl) ⟨rfl,by decide,(by omega),(by omega),(by have:=HBC.out.size;simp;omega)⟩ ?_);intro g6 cap6 w6 hown6 hgrow6 hbl6 hat6 hlt6;(have HO6:=Bi5 hown6);(have HB6:=Bi5 ((HBC.out.al _).trans hbl6));clear hown6 hgrow6 hbl6 hat6 hlt6)
        have q0:=(Bl2 (a:=⟨mb,mo+i*4,none⟩) ((HB6.out.block _ HMA.out).trans (HBC.out.block _ HMA.out).symm)).trans d0;have q1:=(Bl2 (a:=⟨mb,mo+i*4+1,none⟩) ((HB6.out.block _ HMA.out).trans (HBC.out.block _ HMA.out).symm)).trans d1;have q4:=(Bl2 (a:=⟨mb,mo+i*4+3,none⟩) ((HB6.out.block _ HMA.out).trans (HBC.out.block _ HMA.out).symm)).trans d3;have q2:=Bi6 HB6.out z0;have q3:=Bi6 HB6.out z1;have HNO:=Bi5 (fun W (hz:Below w6.heap.size w6 W)=>Qk ⟨n,es⟩ ao xo cap xc (sn:Int) xe W (by simp;omega) (by omega) (HCS.out.1.go (HBV.out.st (HB5.out.st (HBa.out.st (HB6.out.st hz))))) ((HEa.out.go HB6.out).go hz));unfold Um at HNO;rw [HFN.out] at HNO;simp only [Bl0,Option.isSome_some] at HNO;clear d0 d1 d3 y0 y1 HRc
        go_cut [16,17] from 147 to 158 (fun v16 v17 wc=>RoV O v16 wc/\Below w6.heap.size w6 wc)
        case first=>
         rename_i J K2 hJ hK2
         refine Fc 14 rfl (luR (.agg #[.int .i64 (n:Int),.slice ao es.length cap]) (.slice (some ⟨mb,mo,none⟩) xs.length c4) (sn:Int) (i:Int) ⟨mb,mo+i*4,none⟩ ⟨mb,mo+i*4+1,none⟩ (.slice xo xe.length xc) O) (by kernel_rfl) (by kernel_rfl) Bf2 ?_ ?_
         ·refine ⟨?_,?_,?_,?_,?_,?_,?_,?_,?_,?_,?_,?_,?_,?_,trivial⟩
          ·intro act w' hbe hd ho K hK
           have g4:act.tmps.getD 4 undef=.pointer (some ⟨w.heap.size,0,none⟩):=ho 4 (by kernel_rfl);have f0:=Bi6 hbe q2;have f1:=Bi6 hbe q3;simp [Oper.wp,execOp,Oper.upon,go_sem,Act.eval,g4,f0,f1];exact hK _ w' (Below.refl _ _) rfl
          ·intro act w' hbe hd ho K hK
           have g2:act.tmps.getD 2 undef=.int .i64 (sn:Int):=ho 2 (by kernel_rfl);simp [Oper.wp,execOp,Oper.upon,go_sem,Act.eval,g2];exact hK _ w' (Below.refl _ _) rfl
          ·intro act w' hbe hd ho K hK
           have g11:act.tmps.getD 11 undef=.slice (some ⟨mb,mo,none⟩) xs.length c4:=ho 11 (by kernel_rfl);simp [Oper.wp,execOp,Oper.upon,go_sem,Act.eval,g11];exact hK _ w' (Below.refl _ _) rfl
          ·intro act w' hbe hd ho K hK
           have g15:act.tmps.getD 15 undef=.int .i64 (i:Int):=ho 15 (by kernel_rfl);simp [Oper.wp,execOp,Oper.upon,go_sem,Act.eval,g15];exact hK _ w' (Below.refl _ _) rfl
          ·intro act w' hbe hd ho K hK
           have e2:act.tmps.getD 150 undef=.slice (some ⟨mb,mo,none⟩) xs.length c4:=hd 2 (by rfl);have e3:act.tmps.getD 151 undef=.int .i64 (i:Int):=hd 3 (by rfl);simp [Oper.wp,execOp,Oper.upon,go_sem,Act.eval,e2,e3,hlt];exact hK _ w' (Below.refl _ _) rfl
          ·intro act w' hbe hd ho K hK
           have e4:act.tmps.getD 152 undef=.pointer (some ⟨mb,mo+i*4,none⟩):=hd 4 (by rfl);simp [Oper.wp,execOp,Oper.upon,go_sem,Act.eval,e4];exact hK _ w' (Below.refl _ _) rfl
          ·intro act w' hbe hd ho K hK
           have e5:act.tmps.getD 153 undef=.pointer (some ⟨mb,mo+i*4+1,none⟩):=hd 5 (by rfl);simp [Oper.wp,execOp,Oper.upon,go_sem,Act.eval,e5];exact hK _ w' (Below.refl _ _) rfl
          ·intro act w' hbe hd ho K hK
           have e6:act.tmps.getD 154 undef=.pointer (some ⟨mb,mo+i*4+1,none⟩):=hd 6 (by rfl);have f0:=Bi6 hbe q1;simp [Oper.wp,execOp,Oper.upon,go_sem,Act.eval,e6,f0];exact hK _ w' (Below.refl _ _) rfl
          ·intro act w' hbe hd ho K hK
           have e0:act.tmps.getD 148 undef=.agg #[.int .i64 (n:Int),.slice ao es.length cap]:=hd 0 (by rfl);have e1:act.tmps.getD 149 undef=.int .i64 (sn:Int):=hd 1 (by rfl);have e7:act.tmps.getD 155 undef=.slice xo xe.length xc:=hd 7 (by rfl);simp [Oper.wp,execOp,Oper.upon,go_sem,Act.eval,e0,e1,e7];refine (HNO.out w' hbe).mono ?_;rintro e w7 ⟨a7,c7,rfl,h1,h2,-⟩;exact hK _ w7 h2 ⟨a7,c7,rfl,h1⟩
          ·intro act w' hbe hd ho K hK
           obtain ⟨a7,c7,e8,h8⟩:NoV O (act.tmps.getD 156 undef) w':=hd 8 (by rfl);simp [Oper.wp,execOp,Oper.upon,go_sem,Act.eval,e8];exact hK _ w' (Below.refl _ _) ⟨a7,c7,rfl,h8⟩
          ·intro act w' hbe hd ho K hK
           obtain ⟨a7,c7,e8,h8⟩:NoV O (act.tmps.getD 147 undef) w':=hd 9 (by rfl);simp [Oper.wp,execOp,Oper.upon,go_sem,Act.eval,e8];exact hK _ w' (Below.refl _ _) ⟨a7,c7,rfl,h8⟩
          ·intro act w' hbe hd ho K hK
           obtain ⟨a7,c7,e8,h8⟩:NoV O (act.tmps.getD 147 undef) w':=hd 9 (by rfl);simp [Oper.wp,execOp,Oper.upon,go_sem,Act.eval,e8];exact hK _ w' (Below.refl _ _) rfl
          ·intro act w' hbe hd ho K hK
           obtain ⟨a7,c7,e8,h8⟩:RoV O (act.tmps.getD 157 undef) w':=hd 10 (by rfl);simp [Oper.wp,execOp,Oper.upon,go_sem,Act.eval,e8];exact hK _ w' (Below.refl _ _) ⟨a7,c7,rfl,h8⟩
          ·intro act w' hbe hd ho K hK
           have e11:act.tmps.getD 158 undef=.bool true:=hd 11 (by rfl);simp [Oper.wp,execOp,Oper.upon,go_sem,Act.eval,e11];exact hK _ w' (Below.refl _ _) rfl
         ·intro vs w' hb1 hR
          simp only [Al,Ae,Bk7,Bk6,Bl1,Bl0,Act.put,Bk0,Bk1,Nat.reduceAdd,Bk5,Bk8,Bk9];refine hK2 _ _ ?_
          go_meet
          exact ⟨hR 12 (by decide),hb1⟩
        case rest=>
         obtain ⟨⟨oa,oc,rfl,hoc⟩,hbw⟩:=hcut;obtain ⟨ob,oo,rfl,k0⟩:=hoc _ _ (by rw [Bk4,HOA.out];rfl:(O.map Aj)[A.length]? =some (Aj xv));have hol:A.length<O.length:=(Bj8.1 HOA.out).1;have d0:=Bi6 hbw q0;have d3:=Bi6 hbw q4;have HB7:=Bi5 (HB6.out.trans (hbw.mono HB6.out.size));have HO7:=Bi5 (Af HO6.out hbw);have e0:=fun p=>Ac p d0;have e1:=fun p=>Ac p d3;have e2:=fun p=>Ac p k0;have hxx:(xv != xv)=false:=by simp
         clear hoc q0 q1 q2 q3 q4 hbw HNO d0 d3 k0;have hol2:(A.length:Int)<(O.length:Int):=by omega
         go_upto_region 20 with (fail)
         refine Ag (by kernel_rfl) (by kernel_rfl) ?_
         repeat (go_big_quiet_step (fail))
         refine wpQuiet_nil ?_;rintro _ ⟨pc,rfl⟩;have HBc:=Bi5 (Ah wc pc);generalize ext wc pc=wc at HBc ⊢;have HO8:=Bi5 (Af HO7.out HBc.out);have HB8:=Bi5 (HB7.out.trans (HBc.out.mono HB7.out.size));clear e0 e1 e2 hxx hol hol2
         go_wp2
         go_roundg (xs.length-(i+1))
         case measure=>omega
         case rel=>exact ⟨i+1,by omega,Bi7 _,by go_num,by rw [HTK.out,Bm6];exact HO8.out,HB8.out⟩
      ·obtain rfl:i=xs.length:=by omega
       go_wp2_with (go_at_call 32;refine (HAL.out _).mono ?_;rintro e w9 ⟨rfl,hb9⟩;(have HB9:=Bi5 (HBr.out.st hb9));clear hb9)
       go_ret
       exact ⟨rfl,HB.out.st (HBV.out.st (HB5.out.st (HBa.out.st HB9.out)))⟩
    ·have hk2:(k != 0)=true:=by simpa using hk
     obtain rfl:xs=[]:=by
      rw [HX4.out]
      rcases HI.out with ⟨h,_⟩|⟨_,rfl,_⟩
      ·exact absurd h hk
      ·obtain rfl:ys=[]:=List.length_eq_zero_iff.1 HY4.out.1
       rfl
     clear hk
     go_wp2_with (go_at_call 32;refine (HAL.out _).mono ?_;rintro e w9 ⟨rfl,hb9⟩;(have HB9:=Bi5 hb9);clear hb9)
     go_ret
     exact ⟨rfl,HB.out.st (HBV.out.st HB9.out)⟩
   ·have HE:=Bi5 e1
    have hk1:(k1 != 0)=true:=by simpa using e1
    clear e1
    go_enter Tryz.func8,Tryz.ntmps8
    go_upto_region 1 with (fail)
    rw [<-HV.out]
    go_wp2_with (first
     |(go_at_call 11;refine HLI.out.mono ?_;rintro e w1 ⟨rfl,hb1⟩;(have HB1:=Bi5 hb1);(obtain ⟨x0,x1,x2,x3,x4⟩:=HQ.out.go hb1);clear hb1)
     |(go_at_call 13;refine (HBA.out _ HB1.out).mono ?_;rintro e w2 hp2;(obtain ⟨rfl,hb2⟩:=hp2.nil HE.out);(have HB2:=Bi5 (HB1.out.st hb2));clear hb2 hp2)
     |(go_at_call 32;refine (HAL.out _).mono ?_;rintro e w6 ⟨rfl,hb6⟩;(have HB6:=Bi5 (HB2.out.st hb6));clear hb6))
    go_ret
    exact ⟨rfl,HB.out.st HB6.out⟩
end Vi
end Go.Proofs.YteaaapdjplbljaaGreat
