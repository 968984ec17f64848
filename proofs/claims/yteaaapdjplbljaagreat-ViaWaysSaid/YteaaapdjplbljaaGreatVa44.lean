/- Parts; no condition. -/
import Derived.Test.YteaaapdjplbljaaGreatVa43
set_option linter.unusedVariables false
set_option linter.unusedSimpArgs false
set_option linter.unnecessarySimpa false
set_option maxRecDepth 100000
set_option maxHeartbeats 8000000
namespace Go.Proofs.YteaaapdjplbljaaGreat
section
namespace Vi
open Go Go.Proofs Go.RowKit Go.Shelf Hp Ch Ad Ro Dj
theorem Sy {n:Nat} {es:List EdgeD} {bk:Bool} {s:Nat} {d fa:List Int} (hE:EOK n es) (hn:n<=50000) (h:AllIs es n (s:Int) bk [] d) (hf:FarL es bk n (s:Int) fa):d=fa:=by
 have hA:∀u v w,Ca bk (Am es) u v w->1<=w:=fun u v w h=>by
  have:=XD.ok hE u v w (Gj.2 h);exact this.2.2.1
 refine List.ext_getElem (by rw [h.1,hf.1]) fun v h1 h2=>?_;have hv:v<n:=by rw [<-h.1];exact h1
 have k1:=h.far hA (v:=(v:Int)) (show node n (v:Int) from ⟨by omega,by omega⟩);have k2:=hf.farV hE hn hv;have k3:=k1.uniq k2;have g1:gD d (v:Int)=d[v]:=by unfold gD;rw [Bk7,Bj9,Bj8 h1];rfl
 have g2:gD fa (v:Int)=fa[v]:=by unfold gD;rw [Bk7,Bj9,Bj8 h2];rfl
 rw [g1,g2] at k3;exact k3
def rpR (n:Nat) (g:Value) (s t:Int) (fa fb:List Int):Nat->Value->World->Prop
 |0,v,_=>v=g
 |1,v,_=>v=.int .i64 s
 |2,v,w=>∃b,v=.slice (some ⟨b,0,none⟩) n n/\RowW w (some ⟨b,0,none⟩) fa n 4611686018427387904
 |3,v,_=>v=g
 |4,v,_=>v=.int .i64 t
 |_,v,w=>∃b,v=.slice (some ⟨b,0,none⟩) n n/\RowW w (some ⟨b,0,none⟩) fb n 4611686018427387904
theorem Bf4 {n:Nat} {g:Value} {s t:Int} {fa fb:List Int}:∀i v w' w'',Below w'.heap.size w' w''->rpR n g s t fa fb i v w'->rpR n g s t fa fb i v w''
 |0,_,_,_,_,h=>h
 |1,_,_,_,_,h=>h
 |2,_,_,_,hb,⟨b,e,h⟩=>⟨b,e,h.go hb⟩
 |3,_,_,_,_,h=>h
 |4,_,_,_,_,h=>h
 |_+5,_,_,_,hb,⟨b,e,h⟩=>⟨b,e,h.go hb⟩
theorem Qv (n s t cn:Nat) (es:List EdgeD) (ao la:Option Addr) (cap lc:Nat) (V W:Int) (l:List Int) (w:World) (fa fb:List Int) (hg:Aj ⟨(n:Int),es⟩=0) (hn:n<=100) (hm:es.length<=300) (hs:s<n) (ht:t<n) (hc:Cel w ao (Ar es)) (hl:Cel w la (l.map Ai)) (hll:l.length<=1000000)
  (hmem:∀e∈l,0<=e/\e<(es.length:Int)) (hsum:(l.map (wt es)).sum=W) (hW:0<=W/\W<=4611686018427387904) (hcn:cn<=l.length) (hfa:FarL es false n (s:Int) fa) (hfb:FarL es true n (t:Int) fb):
  Calls Tryz.prog 37 #[.agg #[.int .i64 (n:Int),.slice ao es.length cap],.int .i64 (s:Int),.int .i64 (t:Int),Cw V la l.length lc W (cn:Int)] w fun e w'=>
   e=.returned (Yi (onB es l fa fb (Cb es 0 l) W) cn l.length)/\Below w.heap.size w w':=by
 obtain ⟨W1,hW1⟩:∃W1,W1=(w.alloc (Obj.cells #[.int .i64 (n:Int),.slice ao es.length cap] 24)).alloc (Obj.cells #[.int .i64 V,.slice la l.length lc,.int .u64 W,.int .i64 (cn:Int)] 66):=⟨_,rfl⟩;have hb1:Below w.heap.size w W1:=by rw [hW1];exact (Below.of_al _ _).al _
 have c0:W1.cell? ⟨w.heap.size,0,none⟩=some (.int .i64 (n:Int)):=by rw [hW1];go_simp
 have c1:W1.cell? ⟨w.heap.size,1,none⟩=some (.slice ao es.length cap):=by rw [hW1];go_simp
 have y1:W1.cell? ⟨w.heap.size+1,1,none⟩=some (.slice la l.length lc):=by rw [hW1];go_simp
 have y2:W1.cell? ⟨w.heap.size+1,2,none⟩=some (.int .u64 W):=by rw [hW1];go_simp
 have y3:W1.cell? ⟨w.heap.size+1,3,none⟩=some (.int .i64 (cn:Int)):=by rw [hW1];go_simp
 have HE:=Bj3 (Jz hg);have HAF:=Bj3 (fun U (hz:Below w.heap.size w U)=>(Qx n s es ao cap false U hg hn hm hs (hc.go hz)).mono (R':=fun e w'=>∃b,e=.returned (.slice (some ⟨b,0,none⟩) n n)/\RowW w' (some ⟨b,0,none⟩) fa n 4611686018427387904/\Below U.heap.size U w') (by
  rintro e w' ⟨b,d,rfl,h1,h2,_,h3⟩;obtain rfl:=Sy HE.out (by omega) h3 hfa;exact ⟨b,rfl,Mk HE.out (by omega) hfa h1,h2⟩))
 have HAT:=Bj3 (fun U (hz:Below w.heap.size w U)=>(Qx n t es ao cap true U hg hn hm ht (hc.go hz)).mono (R':=fun e w'=>∃b,e=.returned (.slice (some ⟨b,0,none⟩) n n)/\RowW w' (some ⟨b,0,none⟩) fb n 4611686018427387904/\Below U.heap.size U w') (by
  rintro e w' ⟨b,d,rfl,h1,h2,_,h3⟩;obtain rfl:=Sy HE.out (by omega) h3 hfb;exact ⟨b,rfl,Mk HE.out (by omega) hfb h1,h2⟩))
 have HOF:=Bj3 (fun U (hz:Below w.heap.size w U)=>(show Calls Tryz.prog 85 #[.agg #[.int .i64 (n:Int),.slice ao es.length cap],.slice la l.length lc] U fun e w'=>∃oo oc,e=.returned (.slice oo (l.length+1) oc)/\RowW w' oo (Cb es 0 l) (l.length+1) 4611686018427387904/\Below U.heap.size U w' from by
  have h:=Qw ⟨(n:Int),es⟩ ao la cap lc l U (by show es.length<=_;omega) (by omega) (hc.go hz) (hl.go hz);rw [Jr (g:=⟨(n:Int),es⟩) (Kr (g:=⟨(n:Int),es⟩) hg hmem)] at h;refine h.mono ?_;rintro e w' ⟨oo,oc,rfl,h1,h2,_⟩;refine ⟨oo,oc,?_,Xt HE.out hmem hll h1,h2⟩;rw [Bl8,Cg]))
 have HOW:=Bj3 (fun (k:Nat) (hk:k<l.length)=>(show gD (Cb es 0 l) ((k:Int)+1)<=W by
  have hk2:k+1<(Cb es 0 l).length:=by rw [Cg];omega
  have h1:=Wh es l 0 (fun e he=>by
   have h1:=hmem e he;have hj:e.toNat<es.length:=by omega
   have h2:=HE.out es[e.toNat] (Bk5 hj);have h3:wt es e=es[e.toNat].w:=by unfold wt;rw [Bj9,Bj8 hj];rfl
   rw [h3];exact h2.2.2.1) (k+1) _ (Bj8 hk2)
  rw [hsum] at h1;have h4:gD (Cb es 0 l) ((k:Int)+1)=(Cb es 0 l)[k+1]:=by
   unfold gD;rw [show ((k:Int)+1).toNat=k+1 by omega,Bj9,Bj8 hk2];rfl
  rw [h4];omega))
 have HME:=Bj3 hmem;have HC:=Bj3 hc;have HL:=Bj3 hl;have HLL:=Bj3 hll;have HB1:=Bj3 hb1;have HW1:=Bj3 hW1;have HWB:=Bj3 hW;obtain ⟨m,hmm⟩:∃m,m=l.length:=⟨_,rfl⟩;have hcm:cn<=m:=by omega
 have hm1:m<=1000000:=by omega
 have HMM:=Bj3 hmm;obtain ⟨F,hF⟩:∃F,F=onB es l fa fb (Cb es 0 l) W:=⟨_,rfl⟩;rw [<-hF];have HFF:=Bj3 hF;have HPV:=Bj3 (show Yi F cn l.length=.tuple #[.int .i64 (Fo F cn:Int),.int .i64 (Ay F cn (m-cn):Int)] by rw [HMM.out];rfl);unfold Cw;clear hW1 hb1 hc hl hg hfa hfb hll hmem hsum hW hmm hF hcn
 go_enter Tryz.func37,Tryz.ntmps37
 go_upto_region 1 with (fail)
 rw [<-HW1.out];refine Cm 6 _ _ rfl rfl (rpR n (.agg #[.int .i64 (n:Int),.slice ao es.length cap]) (s:Int) (t:Int) fa fb) (by decide) (by kernel_rfl) (by kernel_rfl) (by kernel_rfl) (by kernel_rfl) Bf4 ?hop ?hend
 case hop=>
  refine ⟨?_,?_,?_,?_,?_,?_,trivial⟩
  ·intro act w' hbe hd ho K hK
   have g9:act.tmps.getD 4 undef=.pointer (some ⟨w.heap.size,0,none⟩):=ho 4 (by kernel_rfl);have f0:=Bj4 hbe c0;have f1:=Bj4 hbe c1;refine .inl ⟨Aa rfl,?_⟩;simp [Oper.wp,execOp,Oper.upon,go_sem,Act.eval,g9,f0,f1];exact hK _ w' (Below.refl _ _) rfl
  ·intro act w' hbe hd ho K hK
   have g9:act.tmps.getD 1 undef=.int .i64 (s:Int):=ho 1 (by kernel_rfl);refine .inl ⟨Aa rfl,?_⟩;simp [Oper.wp,execOp,Oper.upon,go_sem,Act.eval,g9];exact hK _ w' (Below.refl _ _) rfl
  ·intro act w' hbe hd ho K hK
   have e0:act.tmps.getD 17 undef=.agg #[.int .i64 (n:Int),.slice ao es.length cap]:=hd 0 (by rfl);have e1:act.tmps.getD 18 undef=.int .i64 (s:Int):=hd 1 (by rfl);refine .inl ⟨Aa rfl,?_⟩;simp [Oper.wp,execOp,Oper.upon,go_sem,Act.eval,e0,e1];refine (HAF.out w' (HB1.out.st hbe)).mono ?_;rintro e w6 ⟨b,rfl,h1,h2⟩;exact hK _ w6 h2 ⟨b,rfl,h1⟩
  ·intro act w' hbe hd ho K hK
   have g9:act.tmps.getD 4 undef=.pointer (some ⟨w.heap.size,0,none⟩):=ho 4 (by kernel_rfl);have f0:=Bj4 hbe c0;have f1:=Bj4 hbe c1;refine .inl ⟨Aa rfl,?_⟩;simp [Oper.wp,execOp,Oper.upon,go_sem,Act.eval,g9,f0,f1];exact hK _ w' (Below.refl _ _) rfl
  ·intro act w' hbe hd ho K hK
   have g9:act.tmps.getD 2 undef=.int .i64 (t:Int):=ho 2 (by kernel_rfl);refine .inl ⟨Aa rfl,?_⟩;simp [Oper.wp,execOp,Oper.upon,go_sem,Act.eval,g9];exact hK _ w' (Below.refl _ _) rfl
  ·intro act w' hbe hd ho K hK
   have e0:act.tmps.getD 20 undef=.agg #[.int .i64 (n:Int),.slice ao es.length cap]:=hd 3 (by rfl);have e1:act.tmps.getD 21 undef=.int .i64 (t:Int):=hd 4 (by rfl);refine .inl ⟨Aa rfl,?_⟩;simp [Oper.wp,execOp,Oper.upon,go_sem,Act.eval,e0,e1];refine (HAT.out w' (HB1.out.st hbe)).mono ?_;rintro e w6 ⟨b,rfl,h1,h2⟩;exact hK _ w6 h2 ⟨b,rfl,h1⟩
 case hend=>
  intro vs act w2 hb2 hR hon hoff hact;obtain ⟨b4,e4,hr4⟩:=hR 2 (by decide);obtain ⟨b5,e5,hr5⟩:=hR 5 (by decide);have q4:act.tmps.getD 19 undef=.slice (some ⟨b4,0,none⟩) n n:=(hon 2 (by decide)).trans e4;have q5:act.tmps.getD 22 undef=.slice (some ⟨b5,0,none⟩) n n:=(hon 5 (by decide)).trans e5;have z5:=(Bm8 (xs:=act.tmps) (i:=22) (d:=undef)).symm.trans q5;simp only [Gd];simp [Oper.wp,execOp,Oper.upon,go_sem,Act.eval,q4,q5,z5];rw [hact];simp only [Al,Ae,Bl5,Bl4,Bl9,Bl8,Act.put,Bk8,Bk9,Nat.reduceAdd,Bl3,Bl6,Bl7];have HB2:=Bj3 (HB1.out.st hb2);have HR4:=Bj3 hr4;have HR5:=Bj3 hr5;have d0:=Bj4 hb2 c0;have d1:=Bj4 hb2 c1;have d2:=Bj4 hb2 y1;have d3:=Bj4 hb2 y2;have d4:=Bj4 hb2 y3;clear hR hon hoff hact q4 q5 e4 e5 hb2 hr4 hr5 z5 c0 c1 y1 y2 y3;generalize vs 0=u0;generalize vs 1=u1;generalize vs 2=u2;generalize vs 3=u3;generalize vs 4=u4;generalize vs 5=u5
  go_wp2_with (go_at_call 85;refine (HOF.out _ HB2.out).mono ?_;rintro e w3 ⟨oo,oc,rfl,h1,h2⟩;(have HO3:=Bj3 h1);(have HB3:=Bj3 (HB2.out.st h2));(have HR43:=Bj3 (HR4.out.go h2));(have HR53:=Bj3 (HR5.out.go h2));(have f0:=Bj4 h2 d0);(have f1:=Bj4 h2 d1);(have f2:=Bj4 h2 d2);(have f3:=Bj4 h2 d3);(have f4:=Bj4 h2 d4);clear h1 h2)
  clear d0 d1 d2 d3 d4;have HON:=Bj3 (show ∀k,k<m->∀U,Below w3.heap.size w3 U->Calls Tryz.prog 86 #[.agg #[.int .i64 (n:Int),.slice ao es.length cap],.slice (some ⟨b4,0,none⟩) n n,.slice (some ⟨b5,0,none⟩) n n,.slice oo (l.length+1) oc,.agg #[.slice la l.length lc,.int .u64 W],.int .i64 (k:Int)] U fun e w'=>e=.returned (.bool (F k))/\Below U.heap.size U w' from fun k hk U hz=>by
   have hk2:k<l.length:=by rw [<-HMM.out];exact hk
   have hj:=HME.out l[k] (Bk5 hk2);rw [HFF.out];exact Az0 n k l[k].toNat lc n n oc cap es ao la (some ⟨b4,0,none⟩) (some ⟨b5,0,none⟩) oo l fa fb (Cb es 0 l) W U (HC.out.go (HB3.out.st hz)) (HL.out.go (HB3.out.st hz)) (HR43.out.go hz) (HR53.out.go hz) (HO3.out.go hz) HE.out hk2 (by rw [Bj8 hk2,Bo0 hj.1]) (by omega) HWB.out (HOW.out k hk2) HLL.out)
  obtain ⟨M,hM⟩:∃M,M=l.length+1:=⟨_,rfl⟩;have HMM2:=Bj3 hM;rw [<-hM] at HON ⊢;clear hM
  go_loopg [13,15] cn (fun gg v13 v15 wr=>∃low:Nat,low<=cn/\cn-low<=gg/\v13=.int .i64 (low:Int)/\v15=.int .i64 ((cn:Int)-1-(low:Int))/\Aside (Fo F cn=low+Fo F (cn-low))/\Aside (Below w3.heap.size w3 wr))
  case atStart=>exact ⟨0,by omega,by omega,rfl,by simp,(show Fo F cn=0+Fo F (cn-0) by simp),Below.refl _ _⟩
  case round=>
   obtain ⟨low,hh1,hh2,rfl,rfl,HH,HBr⟩:=hrel;have p0:=Bj4 HBr.out f0;have p1:=Bj4 HBr.out f1;have p2:=Bj4 HBr.out f2;have p3:=Bj4 HBr.out f3
   by_cases hlt:low<cn
   ·have HO1:=Bj3 (HON.out (cn-low-1) (by omega) wr HBr.out)
    rw [show ((cn-low-1:Nat):Int)=(cn:Int)-1-(low:Int) by omega] at HO1;have hge:0<=(cn:Int)-1-(low:Int):=by omega
    cases hf:F (cn-low-1) with
    |true=>
     have HF:=Bj3 hf;rw [hf] at HO1;clear hf
     go_wp2_with (go_at_call 86;refine HO1.out.mono ?_;rintro e w9 ⟨rfl,hb9⟩;(have HB9:=Bj3 (HBr.out.st hb9));clear hb9)
     go_roundg (cn-(low+1))
     case measure=>omega
     case rel=>
      refine ⟨low+1,by omega,by omega,by go_num,by go_num,?_,HB9.out⟩
      show Fo F cn=(low+1)+Fo F (cn-(low+1))
      have h9:=HH.out;rw [show cn-low=(cn-low-1)+1 by omega,Yq HF.out] at h9;rw [h9,show cn-(low+1)=cn-low-1 by omega];omega
    |false=>
     rw [hf] at HO1;have HLR:=Bj3 (show Fo F cn=low by
      have h9:=HH.out;rw [show cn-low=(cn-low-1)+1 by omega,Ai3 hf] at h9;exact h9)
     clear hf
     go_wp2_with (go_at_call 86;refine HO1.out.mono ?_;rintro e w9 ⟨rfl,hb9⟩;(have HBR:=Bj3 (HBr.out.st hb9));(have g4:=Bj4 hb9 (Bj4 HBr.out f4));clear hb9)
     go_loopg [14,16] m (fun gg v14 v16 wr=>∃hi:Nat,cn+hi<=m/\m-cn-hi<=gg/\v14=.int .i64 (hi:Int)/\v16=.int .i64 ((cn:Int)+(hi:Int))/\Aside (Ay F cn (m-cn)=hi+Ay F (cn+hi) (m-cn-hi))/\Aside (Below w3.heap.size w3 wr))
     case atStart=>exact ⟨0,by omega,by omega,rfl,by simp,(show Ay F cn (m-cn)=0+Ay F (cn+0) (m-cn-0) by simp),HBR.out⟩
     case round=>
      obtain ⟨hi,hh1,hh2,rfl,rfl,HH,HBs⟩:=hrel;clear HBR;have r0:=Bj4 HBs.out f0;have r1:=Bj4 HBs.out f1;have r2:=Bj4 HBs.out f2;have r3:=Bj4 HBs.out f3
      by_cases hlt:cn+hi<m
      ·have hlt2:(cn:Int)+(hi:Int)<(l.length:Int):=by have:=HMM.out;omega
       have HO1:=Bj3 (HON.out (cn+hi) hlt wr HBs.out);rw [show ((cn+hi:Nat):Int)=(cn:Int)+(hi:Int) by omega] at HO1
       cases hf:F (cn+hi) with
       |true=>
        have HF:=Bj3 hf;rw [hf] at HO1;clear hf
        go_wp2_with (go_at_call 86;refine HO1.out.mono ?_;rintro e w9 ⟨rfl,hb9⟩;(have HB9:=Bj3 (HBs.out.st hb9));clear hb9)
        go_roundg (m-cn-(hi+1))
        case measure=>omega
        case rel=>
         refine ⟨hi+1,by omega,by omega,by go_num,by go_num,?_,HB9.out⟩
         show Ay F cn (m-cn)=(hi+1)+Ay F (cn+(hi+1)) (m-cn-(hi+1))
         have h9:=HH.out;rw [show m-cn-hi=(m-cn-(hi+1))+1 by omega,Kk HF.out] at h9;rw [h9,show cn+(hi+1)=cn+hi+1 by omega];omega
       |false=>
        rw [hf] at HO1;have HR:=Bj3 (show Ay F cn (m-cn)=hi by
         have h9:=HH.out;rw [show m-cn-hi=(m-cn-(hi+1))+1 by omega,Mv hf] at h9;exact h9)
        clear hf
        go_wp2_with (go_at_call 86;refine HO1.out.mono ?_;rintro e w9 ⟨rfl,hb9⟩;(have HB9:=Bj3 (HBs.out.st hb9));clear hb9)
        refine bodyPost_ret (v:=.tuple #[.int .i64 (low:Int),.int .i64 (hi:Int)]) (by simp [results,Tryz.results37,go_sem];try rfl) rfl ?_;exact ⟨by rw [HPV.out,HLR.out,HR.out],HB3.out.st HB9.out⟩
      ·have HR:=Bj3 (show Ay F cn (m-cn)=hi by
        have h9:=HH.out;rw [show m-cn-hi=0 by omega] at h9;exact h9)
       have hlt2:¬(cn:Int)+(hi:Int)<(l.length:Int):=by have:=HMM.out;omega
       go_wp2
       refine bodyPost_ret (v:=.tuple #[.int .i64 (low:Int),.int .i64 (hi:Int)]) (by simp [results,Tryz.results37,go_sem];try rfl) rfl ?_;exact ⟨by rw [HPV.out,HLR.out,HR.out],HB3.out.st HBs.out⟩
   ·have HLR:=Bj3 (show Fo F cn=low by
     have h9:=HH.out;rw [show cn-low=0 by omega] at h9;exact h9)
    have hge:¬0<=(cn:Int)-1-(low:Int):=by omega
    have HBR:=Bj3 HBr.out;have g4:=Bj4 HBr.out f4
    go_wp2
    go_loopg [14,16] m (fun gg v14 v16 wr=>∃hi:Nat,cn+hi<=m/\m-cn-hi<=gg/\v14=.int .i64 (hi:Int)/\v16=.int .i64 ((cn:Int)+(hi:Int))/\Aside (Ay F cn (m-cn)=hi+Ay F (cn+hi) (m-cn-hi))/\Aside (Below w3.heap.size w3 wr))
    case atStart=>exact ⟨0,by omega,by omega,rfl,by simp,(show Ay F cn (m-cn)=0+Ay F (cn+0) (m-cn-0) by simp),HBR.out⟩
    case round=>
     obtain ⟨hi,hh1,hh2,rfl,rfl,HH,HBs⟩:=hrel;clear HBR;have r0:=Bj4 HBs.out f0;have r1:=Bj4 HBs.out f1;have r2:=Bj4 HBs.out f2;have r3:=Bj4 HBs.out f3
     by_cases hlt:cn+hi<m
     ·have hlt2:(cn:Int)+(hi:Int)<(l.length:Int):=by have:=HMM.out;omega
      have HO1:=Bj3 (HON.out (cn+hi) hlt wr HBs.out);rw [show ((cn+hi:Nat):Int)=(cn:Int)+(hi:Int) by omega] at HO1
      cases hf:F (cn+hi) with
      |true=>
       have HF:=Bj3 hf;rw [hf] at HO1;clear hf
       go_wp2_with (go_at_call 86;refine HO1.out.mono ?_;rintro e w9 ⟨rfl,hb9⟩;(have HB9:=Bj3 (HBs.out.st hb9));clear hb9)
       go_roundg (m-cn-(hi+1))
       case measure=>omega
       case rel=>
        refine ⟨hi+1,by omega,by omega,by go_num,by go_num,?_,HB9.out⟩
        show Ay F cn (m-cn)=(hi+1)+Ay F (cn+(hi+1)) (m-cn-(hi+1))
        have h9:=HH.out;rw [show m-cn-hi=(m-cn-(hi+1))+1 by omega,Kk HF.out] at h9;rw [h9,show cn+(hi+1)=cn+hi+1 by omega];omega
      |false=>
       rw [hf] at HO1;have HR:=Bj3 (show Ay F cn (m-cn)=hi by
        have h9:=HH.out;rw [show m-cn-hi=(m-cn-(hi+1))+1 by omega,Mv hf] at h9;exact h9)
       clear hf
       go_wp2_with (go_at_call 86;refine HO1.out.mono ?_;rintro e w9 ⟨rfl,hb9⟩;(have HB9:=Bj3 (HBs.out.st hb9));clear hb9)
       refine bodyPost_ret (v:=.tuple #[.int .i64 (low:Int),.int .i64 (hi:Int)]) (by simp [results,Tryz.results37,go_sem];try rfl) rfl ?_;exact ⟨by rw [HPV.out,HLR.out,HR.out],HB3.out.st HB9.out⟩
     ·have HR:=Bj3 (show Ay F cn (m-cn)=hi by
       have h9:=HH.out;rw [show m-cn-hi=0 by omega] at h9;exact h9)
      have hlt2:¬(cn:Int)+(hi:Int)<(l.length:Int):=by have:=HMM.out;omega
      go_wp2
      refine bodyPost_ret (v:=.tuple #[.int .i64 (low:Int),.int .i64 (hi:Int)]) (by simp [results,Tryz.results37,go_sem];try rfl) rfl ?_;exact ⟨by rw [HPV.out,HLR.out,HR.out],HB3.out.st HBs.out⟩
end Vi
end
section
open Go Go.Proofs Go.RowKit Go.Shelf Hp Ch
theorem Bc7 {d:List Int} {v:Nat} {u x:Int} (hl:v<d.length) (hu:0<=u):gD (d.set v x) u=if u=(v:Int) then x else gD d u:=by
 have:=Ig (d:=d) (v:=(v:Int)) (u:=u) (x:=x) (by omega) (by rw [Bk7];exact hl) hu
 rwa [Bk7] at this
def Bc (v:Nat) (f:List Int) (x:Bx):List Int:=f.set v (min (gD f (v:Int)) (gD f x.2.1+x.2.2))
def Br (v:Nat) (f:List Int) (l:List Bx):List Int:=l.foldl (Bc v) f
theorem Ac8 (v:Nat) (f:List Int) (l:List Bx) (x:Bx):Br v f (l++[x])=Bc v (Br v f l) x:=by unfold Br;rw [List.foldl_append];rfl
theorem Yr (v:Nat) (f:List Int) (x:Bx):(Bc v f x).length=f.length:=by unfold Bc;rw [Bk4]
theorem Ur (v:Nat):∀(l:List Bx) (f:List Int),(Br v f l).length=f.length
 |[],_=>rfl
 |x::l,f=>by show (Br v (Bc v f x) l).length=_;rw [Ur v l,Yr]
theorem Ai5 {v:Nat} {f:List Int} (hv:v<f.length) (x:Bx) {u:Int} (hu:0<=u):gD (Bc v f x) u=if u=(v:Int) then min (gD f (v:Int)) (gD f x.2.1+x.2.2) else gD f u:=Bc7 hv hu
theorem Lw {v:Nat}:∀(l:List Bx) (f:List Int),v<f.length->(∀x∈l,0<=x.2.1/\x.2.1≠(v:Int))->
  (∀u,0<=u->u≠(v:Int)->gD (Br v f l) u=gD f u)/\gD (Br v f l) (v:Int)<=gD f (v:Int)/\(∀x∈l,gD (Br v f l) (v:Int)<=gD f x.2.1+x.2.2)/\(gD (Br v f l) (v:Int)=gD f (v:Int)\/∃x∈l,gD (Br v f l) (v:Int)=gD f x.2.1+x.2.2)
 |[],f,_,_=>⟨fun _ _ _=>rfl,Int.le_refl _,fun _ h=>(by simp at h),.inl rfl⟩
 |x::l,f,hv,hl=>by
  obtain ⟨i1,i2,i3,i4⟩:=Lw l (Bc v f x) (by rw [Yr];exact hv) (fun y hy=>hl y (List.mem_cons_of_mem _ hy));have e:Br v f (x::l)=Br v (Bc v f x) l:=rfl;have hx:=hl x (List.mem_cons_self ..);have h0:gD (Bc v f x) (v:Int)=min (gD f (v:Int)) (gD f x.2.1+x.2.2):=by rw [Ai5 hv x (by omega),if_pos rfl]
  have h1:gD (Bc v f x) (v:Int)<=gD f (v:Int):=by rw [h0];exact Int.min_le_left _ _
  have h2:gD (Bc v f x) (v:Int)<=gD f x.2.1+x.2.2:=by rw [h0];exact Int.min_le_right _ _
  have hne:∀u,0<=u->u≠(v:Int)->gD (Bc v f x) u=gD f u:=fun u hu hn=>by rw [Ai5 hv x hu,if_neg hn]
  rw [e];refine ⟨fun u hu hn=>(i1 u hu hn).trans (hne u hu hn),by omega,?_,?_⟩
  ·intro y hy
   rcases Bm5.1 hy with rfl|hy
   ·omega
   ·have:=i3 y hy
    rw [hne _ (hl y (List.mem_cons_of_mem _ hy)).1 (hl y (List.mem_cons_of_mem _ hy)).2] at this;exact this
  ·rcases i4 with h|⟨y,hy,h⟩
   ·rw [h,h0]
    rcases Int.le_total (gD f (v:Int)) (gD f x.2.1+x.2.2) with k|k
    ·exact .inl (Int.min_eq_left k)
    ·exact .inr ⟨x,List.mem_cons_self ..,Int.min_eq_right k⟩
   ·rw [hne _ (hl y (List.mem_cons_of_mem _ hy)).1 (hl y (List.mem_cons_of_mem _ hy)).2] at h
    exact .inr ⟨y,List.mem_cons_of_mem _ hy,h⟩
def Lb (f:List Int) (l:List LB):List Int:=l.foldl (fun f a=>f.set a.v.toNat a.d) f
theorem An2 (f:List Int) (l:List LB) (x:LB):Lb f (l++[x])=(Lb f l).set x.v.toNat x.d:=by unfold Lb;rw [List.foldl_append];rfl
theorem Yu:∀(l:List LB) (f:List Int),(Lb f l).length=f.length
 |[],_=>rfl
 |x::l,f=>by show (Lb (f.set x.v.toNat x.d) l).length=_;rw [Yu l,Bk4]
theorem Uw:∀(l:List LB) (f:List Int),(∀a∈l,Ac f.length a.v)->l.Pairwise (fun a b=>a.v≠b.v)->(∀a∈l,gD (Lb f l) a.v=a.d)/\∀u,0<=u->(∀a∈l,a.v≠u)->gD (Lb f l) u=gD f u
 |[],f,_,_=>⟨fun _ h=>(by simp at h),fun _ _ _=>rfl⟩
 |x::l,f,hn,hp=>by
  obtain ⟨h1,h2⟩:=List.pairwise_cons.1 hp;have hx:=hn x (List.mem_cons_self ..);have hxl:x.v.toNat<f.length:=by have:=hx.1;have:=hx.2;omega
  have e:Lb f (x::l)=Lb (f.set x.v.toNat x.d) l:=rfl;obtain ⟨i1,i2⟩:=Uw l (f.set x.v.toNat x.d) (fun a ha=>by rw [Bk4];exact hn a (List.mem_cons_of_mem _ ha)) h2;rw [e];refine ⟨fun a ha=>?_,fun u hu ha=>?_⟩
  ·rcases Bm5.1 ha with rfl|ha
   ·rw [i2 a.v hx.1 (fun b hb k=>h1 b hb k.symm),Ig hx.1 hxl hx.1,if_pos rfl]
   ·exact i1 a ha
  ·rw [i2 u hu (fun b hb=>ha b (List.mem_cons_of_mem _ hb)),Ig hx.1 hxl hu,if_neg (fun k=>ha x (List.mem_cons_self ..) k.symm)]
theorem Bg8 {n:Nat} {v:Int} (_hv:Ac n v):gD (List.replicate n FAR) v=FAR:=by
 unfold gD;rw [Bj9,Bn3]
 split<;>rfl
structure Swp (A:Int->Int->Int->Prop) (r:Int->Int) (s:Int) (n:Nat) (k:Nat) (f:List Int):Prop where
 kn:k<=n
 len:f.length=n
 val:∀v,Ac n v->gD f v=FAR\/(Way0 A Any s v (gD f v)/\gD f v<=211106232532992+((n:Int)-k)*17592186044416)
 pk:∀v d,Peak A r s v d->gD f v<=d/\d<=211106232532992
 dn:∀v,Ac n v->(k:Int)<=r v->∀d,Dist A s v d->gD f v=d/\d<=211106232532992+((n:Int)-k)*17592186044416
theorem Bi6:FAR=4611686018427387904:=rfl
theorem Swp.bd {A:Int->Int->Int->Prop} {r:Int->Int} {s:Int} {n k:Nat} {f:List Int} (hA:∀u v w,A u v w->1<=w) (hn:n<=12) (h:Swp A r s n k f) {v:Int} (hv:Ac n v):0<=gD f v/\gD f v<=4611686018427387904:=by
 have h1:=h.kn;have h2:((n:Int)-k)*17592186044416<=12*17592186044416:=Int.mul_le_mul_of_nonneg_right (by omega) (by decide)
 rcases h.val v hv with e|⟨e1,e2⟩
 ·rw [e,Bi6];omega
 ·have:=e1.nonneg hA
  omega
section
variable {es:List EdgeD} {n:Nat} {R:List Int} {S:List SC} {ro:List Int}
theorem Ap8 (h:HierOK es n R S ro) (back:Bool) {u:Nat} (hu:u<n) {i y w:Int} (hx:XN S back i y (u:Int) w) (hr:rk ro (u:Int)<rk ro y):∃j,(j,y,w)∈Ci R S n u (back != true):=by
 obtain ⟨x,h0,hx,rfl,he⟩:=hx;obtain ⟨hi,e⟩:=Bk6.1 hx;refine ⟨(i.toNat:Int),(Kc h _ hu _).2 ⟨i.toNat,hi,?_,?_⟩⟩
 ·rw [e]
  cases back with
  |true=>simp only [if_true,bne_self_eq_false,Bool.false_eq_true,if_false] at he ⊢;rw [he.1]
  |false=>simp only [Bool.false_eq_true,if_false,Bool.false_bne,if_true] at he ⊢;rw [he.1]
 ·rw [e]
  cases back with
  |true=>simp only [if_true,bne_self_eq_false,Bool.false_eq_true,if_false] at he ⊢;exact ⟨he.2,by rw [he.1,he.2];exact hr⟩
  |false=>simp only [Bool.false_eq_true,if_false,Bool.false_bne,if_true] at he ⊢;exact ⟨he.2,by rw [he.1,he.2];exact hr⟩
theorem Xn (h:HierOK es n R S ro) (hn:n<=12) (back:Bool) {u:Nat} (hu:u<n):∀x∈Ci R S n u (back != true),Ch.Way (Ca back (Am es)) Any x.2.1 (u:Int) x.2.2/\x.2.1≠(u:Int)/\Ac n x.2.1/\1<=x.2.2/\x.2.2<=17592186044416:=by
 intro x hx;obtain ⟨h1,h2,h3,h4⟩:=Nr h back hu hx;have hH:=h.hierB back;obtain ⟨k1,k2⟩:=hH.sound _ _ _ (Ag0.2 h1);have:=Zq hn;exact ⟨k2.imp (fun _ _=>trivial),k1,h2,h3,by omega⟩
theorem Swp.start {l:List LB} {s:Nat} {back:Bool} (hok:HierOK es n R S ro) (hn:n<=12) (hs:s<n) (h:Space (Ca back (Am es)) (XN S back) (rk ro) (s:Int) (l.map Cq)):Swp (Ca back (Am es)) (rk ro) (s:Int) n n (Lb (List.replicate n FAR) l):=by
 have hL:=Lx hok h hs hn;have hpw:l.Pairwise (fun a b=>a.v≠b.v):=by
  have h9:=h.once;rw [List.pairwise_map] at h9;exact h9
 obtain ⟨l1,l2⟩:=Uw l (List.replicate n FAR) (fun a ha=>by rw [Bm4];exact (hL a ha).1) hpw;refine ⟨Bj5 _,by rw [Yu,Bm4],fun v hv=>?_,fun v d hp=>?_,fun v hv hk=>?_⟩
 ·by_cases e:∃a∈l,a.v=v
  ·obtain ⟨a,ha,rfl⟩:=e
   rw [l1 a ha];exact .inr ⟨h.sound (Cq a) (List.mem_map.2 ⟨a,ha,rfl⟩),by have:=(hL a ha).2.2;omega⟩
  ·rw [l2 v hv.1 (fun a ha k=>e ⟨a,ha,k⟩),Bg8 hv]
   exact .inl rfl
 ·obtain ⟨a,ha,e1,e2⟩:=h.peaks v d hp
  obtain ⟨x,hx,rfl⟩:=List.mem_map.1 ha;have e3:=l1 x hx;have e4:x.v=v:=e1;have e5:x.d=d:=e2;rw [<-e4,e3,e5];have:=(hL x hx).2.2;omega
 ·have h2:=hok.at1 v hv
  have h3:=Fb hok.rank (rk ro v) (Bm1 h2);have:=hok.len;omega
theorem Swp.step {s v k:Nat} {back:Bool} {f:List Int} (hok:HierOK es n R S ro) (hn:n<=12) (hv:v<n) (hr:rk ro (v:Int)=(k:Int)) (h:Swp (Ca back (Am es)) (rk ro) (s:Int) n (k+1) f):Swp (Ca back (Am es)) (rk ro) (s:Int) n k (Br v f (Ci R S n v (back != true))):=by
 have hH:=hok.hierB back;have hto:=Xn hok hn back hv;have hkn:=h.kn;obtain ⟨i1,i2,i3,i4⟩:=Lw (v:=v) (Ci R S n v (back != true)) f (by rw [h.len];exact hv) (fun x hx=>⟨(hto x hx).2.2.1.1,(hto x hx).2.1⟩);have hnv:Ac n (v:Int):=⟨by omega,by omega⟩;have hE:((n:Int)-(k:Nat))*17592186044416=((n:Int)-((k+1:Nat):Int))*17592186044416+17592186044416:=by
  have:((n:Int)-(k:Nat))=((n:Int)-((k+1:Nat):Int))+1:=by omega
  rw [this,Int.add_mul];omega
 have hF:=Bi6;have hE2:((n:Int)-((k+1:Nat):Int))*17592186044416<=12*17592186044416:=Int.mul_le_mul_of_nonneg_right (by omega) (by decide);have hval:∀u,Ac n u->gD (Br v f (Ci R S n v (back != true))) u=FAR\/(Way0 (Ca back (Am es)) Any (s:Int) u (gD (Br v f (Ci R S n v (back != true))) u)/\gD (Br v f (Ci R S n v (back != true))) u<=211106232532992+((n:Int)-k)*17592186044416):=by
  intro u hu
  by_cases e:u=(v:Int)
  ·subst e
   rcases i4 with h4|⟨x,hx,h4⟩
   ·rw [h4]
    rcases h.val _ hnv with h5|⟨h5,h6⟩
    ·exact .inl h5
    ·exact .inr ⟨h5,by omega⟩
   ·obtain ⟨t1,t2,t3,t4,t5⟩:=hto x hx
    rcases h.val _ t3 with h5|⟨h5,h6⟩
    ·exfalso
     rw [h5] at h4
     rcases h.val _ hnv with h7|⟨_,h7⟩<;>omega
    ·refine .inr ⟨?_,by omega⟩
     rw [h4];exact h5.trans trivial (.inr t1)
  ·rw [i1 u hu.1 e]
   rcases h.val _ hu with h5|⟨h5,h6⟩
   ·exact .inl h5
   ·exact .inr ⟨h5,by omega⟩
 have hle:∀u,Ac n u->gD (Br v f (Ci R S n v (back != true))) u<=gD f u:=by
  intro u hu
  by_cases e:u=(v:Int)
  ·subst e;exact i2
  ·rw [i1 u hu.1 e];exact Int.le_refl _
 refine ⟨by omega,by rw [Ur];exact h.len,hval,fun u d hp=>?_,fun u hu hk d hd=>?_⟩
 ·have h5:=h.pk u d hp
  have hu:0<=u:=by
   rcases hp.2.1.1 with ⟨e,_⟩|hw
   ·omega
   ·exact (hw.nodes hH.node).2.1
  by_cases e:u=(v:Int)
  ·subst e;omega
  ·rw [i1 u hu e];exact h5
 ·have fin:gD (Br v f (Ci R S n v (back != true))) u<=d->d<=211106232532992+((n:Int)-k)*17592186044416->gD (Br v f (Ci R S n v (back != true))) u=d/\d<=211106232532992+((n:Int)-k)*17592186044416:=by
   intro h5 h6;refine ⟨?_,h6⟩
   rcases hval u hu with h7|⟨h7,_⟩
   ·omega
   ·have:=hd.2 _ h7
    omega
  by_cases e:u=(v:Int)
  ·subst e
   rcases hd.down hH (fun v=>by unfold rk;omega) with hp|⟨y,w,⟨i,hx⟩,hry,hdy⟩
   ·have h5:=h.pk _ _ hp
    exact fin (by omega) (by omega)
   ·obtain ⟨j,hj⟩:=Ap8 hok back hv hx hry
    have h3:=i3 _ hj;obtain ⟨t1,t2,t3,t4,t5⟩:=hto _ hj;simp only at h3 t1 t2 t3 t4 t5;have h5:=h.dn y t3 (by omega) _ hdy;exact fin (by omega) (by omega)
  ·have hne:rk ro u≠(k:Int):=fun k'=>e (hH.inj _ _ hu hnv (by omega))
   have h5:=h.dn u hu (by omega) d hd;exact fin (by rw [i1 u hu.1 e];omega) (by omega)
end
theorem Swp.far {A:Int->Int->Int->Prop} {r:Int->Int} {s:Int} {n:Nat} {f:List Int} (hA:∀u v w,A u v w->1<=w) (hn:n<=12) (hr0:∀v,0<=r v) (h:Swp A r s n 0 f) {v:Int} (hv:Ac n v):FarV A s v (gD f v):=by
 have h2:((n:Int)-((0:Nat):Int))*17592186044416<=12*17592186044416:=Int.mul_le_mul_of_nonneg_right (by omega) (by decide)
 by_cases hd:∃e,Dist A s v e
 ·obtain ⟨e,he⟩:=hd
  have h3:=h.dn v hv (by have:=hr0 v;omega) e he;refine .inl ⟨by rw [h3.1];exact he,by rw [h3.1];exact he.1.nonneg hA,by omega⟩
 ·rcases h.val v hv with e|⟨e,_⟩
  ·exact .inr ⟨e,fun e he=>hd (Fz hA he)⟩
  ·exact absurd (Fz hA e) hd
def Si (f:List Int) (l:List LB):List LB:=l.filter fun a=>!decide (gD f a.v<a.d)
def ExIs (A:Int->Int->Int->Prop) (r:Int->Int) (s:Int) (l:List LB):Prop:=l.Pairwise (fun a b=>a.v<b.v)/\∀v d,(∃x∈l,x.v=v/\x.d=d)↔Peak A r s v d
theorem Ap3 {A:Int->Int->Int->Prop} {X:Nums} {r:Int->Int} {s:Int} {n:Nat} {f:List Int} {l:List LB} (hH:Hier A X.rel r (Ac n)) (hr0:∀v,0<=r v) (h:Space A X r s (l.map Cq)) (ho:l.Pairwise (fun a b=>a.v<=b.v)) (hl:∀x∈l,Ac n x.v/\x.d<FAR) (hf:∀v,Ac n v->FarV A s v (gD f v)):ExIs A r s (Si f l):=by
 have hpw:l.Pairwise (fun a b=>a.v≠b.v):=by
  have h9:=h.once;rw [List.pairwise_map] at h9;exact h9
 refine ⟨?_,fun v d=>⟨?_,fun hp=>?_⟩⟩
 ·exact ((ho.and hpw).imp (fun {a b} h=>by have:=h.1;have:=h.2;omega)).filter _
 ·rintro ⟨x,hx,rfl,rfl⟩
  obtain ⟨h1,h2⟩:=List.mem_filter.1 hx;have hm:Cq x∈l.map Cq:=List.mem_map.2 ⟨x,h1,rfl⟩;have hw:Way0 A Any s x.v x.d:=h.sound _ hm;obtain ⟨hn,hF⟩:=hl x h1;have h3:¬gD f x.v<x.d:=by simpa using h2
  rcases hf x.v hn with ⟨k,_⟩|⟨_,k⟩
  ·have h4:=k.2 _ hw
   have h5:gD f x.v=x.d:=by omega
   rw [h5] at k;exact h.peak hH hr0 hm k
  ·exact absurd hw (k _)
 ·obtain ⟨a,ha,e1,e2⟩:=h.peaks v d hp
  obtain ⟨x,hx,rfl⟩:=List.mem_map.1 ha;refine ⟨x,List.mem_filter.2 ⟨hx,?_⟩,e1,e2⟩;have e3:x.v=v:=e1;have e4:x.d=d:=e2
  rcases hf x.v (hl x hx).1 with ⟨k,_⟩|⟨k,_⟩
  ·rw [e3] at k
   have:=k.uniq hp.2.1;simp only [Bool.not_eq_true',decide_eq_false_iff_not];rw [e3];omega
  ·have:=(hl x hx).2
   simp only [Bool.not_eq_true',decide_eq_false_iff_not];omega
def Pu (R:List Int) (f:Int->Option Int) (back:Bool) (v d:Int) (x:SC):Bool:=
 decide ((if back then x.f else x.t)=v)&&decide (rAt R (if back then x.t else x.f)<rAt R (if back then x.f else x.t))&&(match f (if back then x.t else x.f) with|some e=>decide (e+x.w=d)|none=>false)
def Eu (R:List Int) (S:List SC) (f:Int->Option Int) (back:Bool) (v d:Int):Int:=match S.findIdx? (Pu R f back v d) with
 |some i=>(i:Int)
 |none=>-1
theorem Ao3 {R:List Int} {S:List SC} {f:Int->Option Int} {back:Bool} {v d:Int} {i:Nat} (hi:i<S.length) (hp:Pu R f back v d S[i]=true) (hb:∀k (h:k<i),Pu R f back v d (S[k]'(by omega))=false):Eu R S f back v d=(i:Int):=by
 unfold Eu;have:S.findIdx? (Pu R f back v d)=some i:=by
  rw [List.findIdx?_eq_some_iff_getElem];exact ⟨hi,hp,fun k hk=>by rw [hb k hk];simp⟩
 rw [this]
theorem Ao2 {R:List Int} {S:List SC} {f:Int->Option Int} {back:Bool} {v d:Int} (hb:∀k (h:k<S.length),Pu R f back v d S[k]=false):Eu R S f back v d= -1:=by
 unfold Eu;have:S.findIdx? (Pu R f back v d)=none:=by
  rw [List.findIdx?_eq_none_iff];intro a ha;obtain ⟨k,hk,rfl⟩:=Bn7.1 ha;exact hb k hk
 rw [this]
def Hi (l:List LB) (v:Int):LB:=(l.find? fun a=>decide (a.v=v)).getD ⟨0,0,0⟩
def Iq (l:List LB) (v:Int):Bool:=l.any fun a=>decide (a.v=v)
def Fe (l:List LB) (u:Int):Option Int:=(l.find? fun a=>decide (a.v=u)).map (·.d)
theorem Ru {l:List LB} {u:Int} (h:Iq l u=false):Fe l u=none:=by
 unfold Fe;have:l.find? (fun a=>decide (a.v=u))=none:=by
  rw [List.find?_eq_none];intro x hx k;unfold Iq at h;rw [List.any_eq_false] at h;exact h x hx k
 rw [this];rfl
theorem Rt {l:List LB} {u:Int} (h:Iq l u=true):Fe l u=some (Hi l u).d/\Hi l u∈l/\(Hi l u).v=u:=by
 unfold Fe Hi;unfold Iq at h;obtain ⟨x,hx,hk⟩:=List.any_eq_true.1 h
 cases hf:l.find? (fun a=>decide (a.v=u)) with
 |none=>rw [List.find?_eq_none] at hf;exact absurd hk (hf x hx)
 |some y=>
  have h1:=List.find?_some hf;have h2:=List.mem_of_find?_eq_some hf;exact ⟨rfl,h2,of_decide_eq_true h1⟩
theorem Of:∀{l l':List LB},l.map (fun a=>(a.v,a.d))=l'.map (fun a=>(a.v,a.d))->Fe l=Fe l'
 |[],[],_=>rfl
 |[],_::_,h=>by simp at h
 |_::_,[],h=>by simp at h
 |x::l,y::l',h=>by
  simp only [List.map_cons,List.cons.injEq,Prod.mk.injEq] at h;have ih:=Of (l:=l) (l':=l') h.2
  funext u
  have ihu:=congrFun ih u;unfold Fe at ihu ⊢;rw [List.find?_cons,List.find?_cons,h.1.1]
  split
  ·simp [h.1.2]
  ·exact ihu
def withB (R:List Int) (S:List SC) (back:Bool) (l:List LB):List LB:=l.map fun a=>⟨a.v,a.d,Eu R S (Fe l) back a.v a.d⟩
def Gg (R:List Int) (S:List SC) (back:Bool) (l:List LB) (k:Nat):List LB:=(withB R S back l).take k++l.drop k
theorem Kb (R:List Int) (S:List SC) (back:Bool) (l:List LB):(withB R S back l).length=l.length:=by simp [withB]
theorem Yn {R:List Int} {S:List SC} {back:Bool} {l:List LB} {k:Nat}:(Gg R S back l k).length=l.length:=by simp [Gg,withB];omega
theorem Am6 (R:List Int) (S:List SC) (back:Bool) (l:List LB):Gg R S back l 0=l:=by simp [Gg]
theorem Av0 (R:List Int) (S:List SC) (back:Bool) (l:List LB):Gg R S back l l.length=withB R S back l:=by
 unfold Gg;rw [List.take_of_length_le (by rw [Kb];exact Bj5 _),List.drop_of_length_le (Bj5 _),List.append_nil]
theorem Yo {R:List Int} {S:List SC} {back:Bool} {l:List LB} {k:Nat} (hk:k<l.length):(Gg R S back l k)[k]? =some l[k]:=by
 unfold Gg;rw [Bn1 (by simp [withB];omega),List.length_take,Kb,Nat.min_eq_left (by omega),Nat.sub_self,List.getElem?_drop,Nat.add_zero,Bj8 hk]
theorem Au9 {R:List Int} {S:List SC} {back:Bool} {l:List LB} {k:Nat} (hk:k<l.length):(Gg R S back l k).set k ⟨l[k].v,l[k].d,Eu R S (Fe l) back l[k].v l[k].d⟩=Gg R S back l (k+1):=by
 apply List.ext_getElem?
 intro i;have hw:∀i (h:i<l.length),(withB R S back l)[i]? =some ⟨l[i].v,l[i].d,Eu R S (Fe l) back l[i].v l[i].d⟩:=fun i h=>by
  unfold withB;rw [Bl2,Bj8 h];rfl
 by_cases e:i=k
 ·subst e
  rw [Bo2 (by rw [Yn];exact hk)];unfold Gg;rw [Bn2 (by simp [withB];omega),Bo4 (by omega),hw i hk]
 ·rw [Bo1 (fun h=>e h.symm)]
  unfold Gg
  by_cases h:i<k
  ·rw [Bn2 (by simp [withB];omega),Bn2 (by simp [withB];omega),Bo4 h,Bo4 (by omega)]
  ·rw [Bn1 (by simp [withB];omega),Bn1 (by simp [withB];omega),List.length_take,List.length_take,Kb,Nat.min_eq_left (by omega),Nat.min_eq_left (by omega),List.getElem?_drop,List.getElem?_drop]
   congr 1
   omega
theorem Ai1 (R:List Int) (S:List SC) (back:Bool) (l:List LB) (k:Nat):(Gg R S back l k).map (fun a=>(a.v,a.d))=l.map (fun a=>(a.v,a.d)):=by
 have h:(withB R S back l).map (fun a=>(a.v,a.d))=l.map (fun a=>(a.v,a.d)):=by simp [withB,Function.comp_def]
 unfold Gg;rw [Bn4,List.map_take,h,List.map_drop,List.take_append_drop]
theorem ExIs.withB {A:Int->Int->Int->Prop} {r:Int->Int} {s:Int} {l:List LB} (h:ExIs A r s l) (R:List Int) (S:List SC) (back:Bool):ExIs A r s (withB R S back l):=by
 refine ⟨?_,fun v d=>?_⟩
 ·unfold Go.Proofs.YteaaapdjplbljaaGreat.withB
  rw [List.pairwise_map];exact h.1
 ·rw [<-h.2 v d]
  unfold Go.Proofs.YteaaapdjplbljaaGreat.withB;constructor
  ·rintro ⟨x,hx,h1,h2⟩
   obtain ⟨y,hy,rfl⟩:=List.mem_map.1 hx;exact ⟨y,hy,h1,h2⟩
  ·rintro ⟨x,hx,h1,h2⟩
   exact ⟨_,List.mem_map.2 ⟨x,hx,rfl⟩,h1,h2⟩
end
end Go.Proofs.YteaaapdjplbljaaGreat
