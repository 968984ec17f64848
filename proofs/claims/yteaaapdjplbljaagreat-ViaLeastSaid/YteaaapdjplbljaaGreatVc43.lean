/- Parts; no condition. -/
import Derived.Test.YteaaapdjplbljaaGreatVc40
import Derived.Test.YteaaapdjplbljaaGreatVc42
set_option linter.unusedVariables false
set_option linter.unusedSimpArgs false
set_option linter.unnecessarySimpa false
set_option maxRecDepth 100000
set_option maxHeartbeats 8000000
namespace Go.Proofs.YteaaapdjplbljaaGreat
section
namespace Dj
open Go Go.Proofs Go.RowKit Go.Shelf Hp Ch Ad Ro
def pcR (L ab db n s:Nat) (gv:Value) (es:List EdgeD) (D:Int->Int):Nat->Value->World->Prop
 |0,v,_=>v=.pointer (some ⟨ab,0,none⟩)
 |1,v,_=>v=.int .i64 (s:Int)
 |2,v,_=>v=.slice (some ⟨db,0,none⟩) n n
 |3,v,_=>v=gv
 |4,v,_=>v=Eb false
 |5,v,w=>∃a c,v=.slice a es.length c/\Cel w a ((Hk es).map Bz)
 |6,v,_=>v=Eb false
 |_,v,w=>∃la p lc,v=.agg #[.slice la p.length lc,.int .u64 (D (s:Int))]/\Cel w la (p.map Aj)/\RP es D (s:Int) p/\∀y,la=some y->L<=y.block
theorem Be5 {L ab db n s:Nat} {gv:Value} {es:List EdgeD} {D:Int->Int}:∀i v w' w'',Below w'.heap.size w' w''->pcR L ab db n s gv es D i v w'->pcR L ab db n s gv es D i v w''
 |0,_,_,_,_,h=>h
 |1,_,_,_,_,h=>h
 |2,_,_,_,_,h=>h
 |3,_,_,_,_,h=>h
 |4,_,_,_,_,h=>h
 |5,_,_,_,hb,⟨a,c,e,h⟩=>⟨a,c,e,h.go hb⟩
 |6,_,_,_,_,h=>h
 |_+7,_,_,_,hb,⟨la,p,lc,e,h,r⟩=>⟨la,p,lc,e,h.go hb,r⟩
theorem Ac4 {n:Nat} {es:List EdgeD} (hg:Ak ⟨(n:Int),es⟩=0):EOK n es:=fun e he=>by
 have:=(Jk hg (n:=n) rfl).ok e he;exact ⟨this.1,this.2.1,this.2.2.2.1,this.2.2.2.2⟩
theorem Sy (n s t:Nat) (es:List EdgeD) (ao:Option Addr) (cap:Nat) (w:World) (hg:Ak ⟨(n:Int),es⟩=0) (hn:n<=50000) (hm:es.length<=50000) (hs:s<n) (ht:t<n) (hc:Cel w ao (Ax es)):
  Calls Tryz.prog 76 #[.agg #[.int .i64 (n:Int),.slice ao es.length cap],.int .i64 (s:Int),.int .i64 (t:Int),Eb false] w (Ul n es (s:Int) (t:Int) w):=by
 obtain ⟨W,hW⟩:∃W,W=((w.alloc (Obj.cells #[.int .i64 (n:Int),.slice ao es.length cap] 24)).alloc (Obj.cells #[.bool false,.slice none 0 0,.slice none 0 0,.slice none 0 0,.int .u64 0] 135)).alloc (Obj.cells #[.slice none 0 0,.int .u64 0] 39):=⟨_,rfl⟩;have hbw:Below w.heap.size w W:=by rw [hW];exact ((Below.of_al _ _).al _).al _
 have c0:W.cell? ⟨w.heap.size,0,none⟩=some (.int .i64 (n:Int)):=by rw [hW];go_simp
 have c1:W.cell? ⟨w.heap.size,1,none⟩=some (.slice ao es.length cap):=by rw [hW];go_simp
 have o0:W.cell? ⟨w.heap.size+1,0,none⟩=some (.bool false):=by rw [hW];go_simp
 have o1:W.cell? ⟨w.heap.size+1,1,none⟩=some (.slice none 0 0):=by rw [hW];go_simp
 have o2:W.cell? ⟨w.heap.size+1,2,none⟩=some (.slice none 0 0):=by rw [hW];go_simp
 have o3:W.cell? ⟨w.heap.size+1,3,none⟩=some (.slice none 0 0):=by rw [hW];go_simp
 have o4:W.cell? ⟨w.heap.size+1,4,none⟩=some (.int .u64 0):=by rw [hW];go_simp
 have z0:W.frozen? ⟨w.heap.size+1,0,none⟩=false:=by rw [hW];go_simp
 have z1:W.frozen? ⟨w.heap.size+1,1,none⟩=false:=by rw [hW];go_simp
 have z2:W.frozen? ⟨w.heap.size+1,2,none⟩=false:=by rw [hW];go_simp
 have z3:W.frozen? ⟨w.heap.size+1,3,none⟩=false:=by rw [hW];go_simp
 have z4:W.frozen? ⟨w.heap.size+1,4,none⟩=false:=by rw [hW];go_simp
 have HRB:=Bi5 (show W.heap[w.heap.size+1+1]? =some (.cells #[.slice none 0 0,.int .u64 0] 39 (0,0)) by rw [hW];exact Az6 _ _ _ _);have HPL:=Bi5 (Aj8 false W);have hE:=Ac4 hg;have HCK:=Bi5 (fun U (hz:Below w.heap.size w U)=>Pb n es ao cap (s:Int) false U hg (by omega) ⟨by omega,by omega⟩ (hc.go hz));have HND:=Bi5 (fun U=>Hc ⟨(n:Int),es⟩ ao cap (t:Int) U);rw [show Bs (⟨(n:Int),es⟩:GD).n (t:Int)=true by unfold Bs;rw [decide_eq_true (show (0:Int)<=(t:Int) by omega),decide_eq_true (show (t:Int)<(n:Int) by omega)];rfl] at HND;have HAL:=Bi5 (fun U (hz:Below w.heap.size w U)=>Bc5 n es ao cap t true U hg hE ht hn hm (hc.go hz));have HNW:=Bi5 (fun U (hz:Below w.heap.size w U)=>Ad.Af7 n es ao cap U hg hn hm (hc.go hz) (fun e he=>⟨(hE e he).1,(hE e he).2.1⟩));have HWG:=Bi5 (fun U (hz:Below w.heap.size w U)=>Kv n es ao cap false U hg (by omega) (hc.go hz));have HFW:=Bi5 (fun (lo hi ab fc wc:Nat) fa wa far U (h1:AdjM U lo hi ab n es) (h2:hi<=U.heap.size) h3 h4 h5 h6 h7 h8=>Ab8 lo hi ab n s fc wc es fa wa far (t:Int) U h1 h2 h3 h4 hE hn hm hs h5 h6 h7 h8);have HE:=Bi5 hE;have HW:=Bi5 hW;have HB:=Bi5 hbw;unfold Eb at HCK HAL HWG HPL HFW;unfold AllPost gV at HAL;unfold Wf gV at HNW;unfold Eb;clear hW hbw hg hE hc
 go_enter Tryz.func76,Tryz.ntmps76
 go_upto_region 1 with (fail)
 rw [<-HW.out];have hlt:w.heap.size+1<W.heap.size:=Bj5 _ _ o0
 go_upto_region 2 with (go_at_call 132;refine HPL.out.mono ?_;rintro e w1 ⟨rfl,hb1⟩;(have HB1:=Bi5 hb1);(have d0:=Bi6 hb1 c0);(have d1:=Bi6 hb1 c1);(have p0:=Bi6 hb1 o0);(have p1:=Bi6 hb1 o1);(have p2:=Bi6 hb1 o2);(have p3:=Bi6 hb1 o3);(have p4:=Bi6 hb1 o4);(have y0:=(hb1.frozen (p:=⟨w.heap.size+1,0,none⟩) hlt).trans z0);(have y1:=(hb1.frozen (p:=⟨w.heap.size+1,1,none⟩) hlt).trans z1);(have y2:=(hb1.frozen (p:=⟨w.heap.size+1,2,none⟩) hlt).trans z2);(have y3:=(hb1.frozen (p:=⟨w.heap.size+1,3,none⟩) hlt).trans z3);(have y4:=(hb1.frozen (p:=⟨w.heap.size+1,4,none⟩) hlt).trans z4);clear hb1)
 rw [Dr _ _ _ _ p0,Dr _ _ _ _ p1,Dr _ _ _ _ p2,Dr _ _ _ _ p3,Dr _ _ _ _ p4];clear c0 c1 o0 o1 o2 o3 o4 z0 z1 z2 z3 z4 y0 y1 y2 y3 y4 HPL hlt;have HRX:=Bi5 (fun W2 (hz:Below W.heap.size W W2)=>Ad.Mx ((hz.block _ (Bj2.1 HRB.out).1).trans HRB.out))
 go_upto_region 9 with (first
  |(go_at_call 133;refine (HCK.out _ (HB.out.st HB1.out)).mono ?_;rintro e w2 ⟨rfl,hb2⟩;(have HB2:=Bi5 hb2);(have e0:=Bi6 hb2 d0);(have e1:=Bi6 hb2 d1);(have q0:=Bi6 hb2 p0);(have q1:=Bi6 hb2 p1);(have q2:=Bi6 hb2 p2);(have q3:=Bi6 hb2 p3);(have q4:=Bi6 hb2 p4);clear hb2)
  |(go_at_call 75;refine (HND.out _).mono ?_;rintro e w3 ⟨rfl,hb3⟩;(have HB3:=Bi5 (HB2.out.st hb3));(have f0:=Bi6 hb3 e0);(have f1:=Bi6 hb3 e1);(have r0:=Bi6 hb3 q0);(have r1:=Bi6 hb3 q1);(have r2:=Bi6 hb3 q2);(have r3:=Bi6 hb3 q3);(have r4:=Bi6 hb3 q4);clear hb3))
 obtain ⟨W3,hW3⟩:∃W3,W3=w3.alloc (Obj.cells #[.bool true,.slice none 0 0,.slice none 0 0,.slice none 0 0,.int .u64 0] 135):=⟨_,rfl⟩;rw [<-hW3];have hb3:Below w3.heap.size w3 W3:=by rw [hW3];exact Below.of_al _ _
 have HBW3:=Bi5 (HB1.out.st (HB3.out.st hb3));have HBw3:=Bi5 (HB.out.st HBW3.out);have g0:=Bi6 hb3 f0;have g1:=Bi6 hb3 f1;have k0:=Bi6 hb3 r0;have k1:=Bi6 hb3 r1;have k2:=Bi6 hb3 r2;have k3:=Bi6 hb3 r3;have k4:=Bi6 hb3 r4;have b0:W3.cell? ⟨w3.heap.size,0,none⟩=some (.bool true):=by rw [hW3];go_simp
 have b1:W3.cell? ⟨w3.heap.size,1,none⟩=some (.slice none 0 0):=by rw [hW3];go_simp
 have b2:W3.cell? ⟨w3.heap.size,2,none⟩=some (.slice none 0 0):=by rw [hW3];go_simp
 have b3:W3.cell? ⟨w3.heap.size,3,none⟩=some (.slice none 0 0):=by rw [hW3];go_simp
 have b4:W3.cell? ⟨w3.heap.size,4,none⟩=some (.int .u64 0):=by rw [hW3];go_simp
 clear hW3 hb3 f0 f1 r0 r1 r2 r3 r4 d0 d1 e0 e1 p0 p1 p2 p3 p4 q0 q1 q2 q3 q4
 go_upto_region 10 with (go_at_call 82;refine (HAL.out _ HBw3.out).mono ?_;rintro e w4 ⟨db,far,rfl,k5,k6,k7⟩;(have HO4:=Bi5 k5);(have HB4:=Bi5 k6);(have HFL:=Bi5 k7);(have d0:=Bi6 k6 g0);(have d1:=Bi6 k6 g1);(have o0:=Bi6 k6 k0);(have o1:=Bi6 k6 k1);(have o2:=Bi6 k6 k2);(have o3:=Bi6 k6 k3);(have o4:=Bi6 k6 k4);clear k5 k6 k7)
 clear g0 g1 k0 k1 k2 k3 k4 b0 b1 b2 b3 b4 HAL;have hcl:Cel w4 (some ⟨db,0,none⟩) (far.map Bz):=by
  obtain ⟨a9,k9,e9,h9⟩:=Cel.of_owns HO4.out
  cases e9
  exact h9
 have HTD:=Bi5 (show ToD es n (t:Int) (gD far) from fun v hv=>by
  obtain ⟨vn,rfl⟩:∃vn:Nat,v=(vn:Int):=⟨v.toNat,by have:=hv.1;omega⟩;have h9:=HFL.out.farV HE.out hn (v:=vn) (by have:=hv.2;omega);exact FarV.turn h9)
 have HBD:=Bi5 (show ∀x∈far,0<=x/\x<=4611686018427387904 from fun x hx=>by
  obtain ⟨v,hv,rfl⟩:=List.getElem_of_mem hx;have h9:=HTD.out (v:Int) ⟨by omega,by have:=HFL.out.1;omega⟩;have hgx:gD far (v:Int)=far[v]:=by unfold gD;rw [Bj9,Bj1,Bj0 hv];rfl
  rw [hgx] at h9
  rcases h9 with ⟨_,h1,h2⟩|⟨h1,_⟩
  ·omega
  ·rw [h1];decide)
 have ds:=Ar4 hcl HFL.out.1 hs;have HCL:=Bi5 hcl;have HB14:=Bi5 (HBW3.out.st HB4.out);have HBw4:=Bi5 (HBw3.out.st HB4.out);clear hcl;have hs0:(0:Int)<=(s:Int):=by omega
 have hs1:(s:Int)<(n:Int):=by omega
 have hFs:=HTD.out (s:Int) ⟨hs0,hs1⟩;obtain ⟨D,hD⟩:∃D,D=gD far:=⟨_,rfl⟩;have HDD:=Bi5 hD;rw [<-hD] at ds hFs;clear hD
 by_cases hfar:D (s:Int)<4611686018427387904
 ·obtain ⟨hds,hd0,hd1⟩:Dist (Am es) (s:Int) (t:Int) (D (s:Int))/\0<=D (s:Int)/\D (s:Int)<=1152921504606846976:=by
   rcases hFs with h|⟨h,_⟩
   ·exact h
   ·rw [h] at hfar;exact absurd hfar (by decide)
  have HDS:=Bi5 hds;clear hFs hds
  go_upto_region 13 with (go_at_call 113;refine (HNW.out _ HBw4.out).mono ?_;rintro e w5 ⟨ab,rfl,k5,k6⟩;(have HAM:=Bi5 k5);(have HB5:=Bi5 k6);(have f0:=Bi6 k6 d0);(have f1:=Bi6 k6 d1);(have p0:=Bi6 k6 o0);(have p1:=Bi6 k6 o1);(have p2:=Bi6 k6 o2);(have p3:=Bi6 k6 o3);(have p4:=Bi6 k6 o4);clear k5 k6)
  clear d0 d1 o0 o1 o2 o3 o4 ds HNW;have HL5:=Bi5 (show w.heap.size+1+1<w5.heap.size from by
   have h1:=(Bj2.1 HRB.out).1;have h2:=HB14.out.size;have h3:=HB5.out.size;omega)
  have HBw5:=Bi5 (HBw4.out.st HB5.out);have HCL5:=Bi5 (HCL.out.go HB5.out);refine Hz 8 _ _ rfl rfl (pcR w5.heap.size ab db n s (.agg #[.int .i64 (n:Int),.slice ao es.length cap]) es D) (by decide) (by kernel_rfl) (by kernel_rfl) (by kernel_rfl) (by kernel_rfl) Be5 ?hop ?hend
  case hop=>
   refine ⟨?_,?_,?_,?_,?_,?_,?_,?_,trivial⟩
   ·intro act w' hbe hd ho K hK
    have g9:act.tmps.getD 14 undef=.pointer (some ⟨ab,0,none⟩):=ho 14 (by kernel_rfl);refine .inl ⟨Ab rfl,?_⟩;simp [Oper.wp,execOp,Oper.upon,go_sem,Act.eval,g9];exact hK _ w' (Below.refl _ _) rfl
   ·intro act w' hbe hd ho K hK
    have g9:act.tmps.getD 1 undef=.int .i64 (s:Int):=ho 1 (by kernel_rfl);refine .inl ⟨Ab rfl,?_⟩;simp [Oper.wp,execOp,Oper.upon,go_sem,Act.eval,g9];exact hK _ w' (Below.refl _ _) rfl
   ·intro act w' hbe hd ho K hK
    have g9:act.tmps.getD 12 undef=.slice (some ⟨db,0,none⟩) n n:=ho 12 (by kernel_rfl);refine .inl ⟨Ab rfl,?_⟩;simp [Oper.wp,execOp,Oper.upon,go_sem,Act.eval,g9];exact hK _ w' (Below.refl _ _) rfl
   ·intro act w' hbe hd ho K hK
    have g9:act.tmps.getD 4 undef=.pointer (some ⟨w.heap.size,0,none⟩):=ho 4 (by kernel_rfl);have c0:=Bi6 hbe f0;have c1:=Bi6 hbe f1;refine .inl ⟨Ab rfl,?_⟩;simp [Oper.wp,execOp,Oper.upon,go_sem,Act.eval,g9,c0,c1];exact hK _ w' (Below.refl _ _) rfl
   ·intro act w' hbe hd ho K hK
    have g9:act.tmps.getD 7 undef=.pointer (some ⟨w.heap.size+1,0,none⟩):=ho 7 (by kernel_rfl);have c0:=Bi6 hbe p0;have c1:=Bi6 hbe p1;have c2:=Bi6 hbe p2;have c3:=Bi6 hbe p3;have c4:=Bi6 hbe p4;refine .inl ⟨Ab rfl,?_⟩;simp [Oper.wp,execOp,Oper.upon,go_sem,Act.eval,g9,c0,c1,c2,c3,c4];exact hK _ w' (Below.refl _ _) rfl
   ·intro act w' hbe hd ho K hK
    have e3:act.tmps.getD 56 undef=.agg #[.int .i64 (n:Int),.slice ao es.length cap]:=hd 3 (by rfl);have e4:act.tmps.getD 57 undef=Eb false:=hd 4 (by rfl);unfold Eb at e4;refine .inl ⟨Ab rfl,?_⟩;simp [Oper.wp,execOp,Oper.upon,go_sem,Act.eval,e3,e4];refine (HWG.out w' (HBw5.out.st hbe)).mono ?_;rintro e w6 ⟨a,c,rfl,h1,h2⟩;refine hK _ w6 h2 ⟨a,c,rfl,?_⟩;obtain ⟨a9,k9,e9,h9⟩:=Cel.of_owns h1
    cases e9
    exact h9
   ·intro act w' hbe hd ho K hK
    have g9:act.tmps.getD 7 undef=.pointer (some ⟨w.heap.size+1,0,none⟩):=ho 7 (by kernel_rfl);have c0:=Bi6 hbe p0;have c1:=Bi6 hbe p1;have c2:=Bi6 hbe p2;have c3:=Bi6 hbe p3;have c4:=Bi6 hbe p4;refine .inl ⟨Ab rfl,?_⟩;simp [Oper.wp,execOp,Oper.upon,go_sem,Act.eval,g9,c0,c1,c2,c3,c4];exact hK _ w' (Below.refl _ _) rfl
   ·intro act w' hbe hd ho K hK
    have e0:act.tmps.getD 53 undef=.pointer (some ⟨ab,0,none⟩):=hd 0 (by rfl);have e1:act.tmps.getD 54 undef=.int .i64 (s:Int):=hd 1 (by rfl);have e2:act.tmps.getD 55 undef=.slice (some ⟨db,0,none⟩) n n:=hd 2 (by rfl);obtain ⟨wa,wc,e5,hwa⟩:∃a c,act.tmps.getD 58 undef=.slice a es.length c/\Cel w' a ((Hk es).map Bz):=hd 5 (by rfl);have e6:act.tmps.getD 59 undef=Eb false:=hd 6 (by rfl);unfold Eb at e6;refine .inl ⟨Ab rfl,?_⟩;simp [Oper.wp,execOp,Oper.upon,go_sem,Act.eval,e0,e1,e2,e5,e6];refine (HFW.out _ _ ab n wc (some ⟨db,0,none⟩) wa far w' (HAM.out.go hbe (Bi7 _)) hbe.size (HCL5.out.go hbe) hwa HTD.out HFL.out.1 HBD.out (by rw [<-HDD.out];exact hd1)).mono ?_;rintro e w6 ⟨la,p,lc,rfl,h1,h2,h3,h4⟩;exact hK _ w6 h2 ⟨la,p,lc,by rw [HDD.out],h1,by rw [HDD.out];exact h3,fun y hy=>Bi9 hbe.size (h4 y hy)⟩
  case hend=>
   intro vs act w7 hb7 hR hon hoff hact;obtain ⟨la,p,lc,e7,h1,h2,h3⟩:=hR 7 (by decide);have q60:act.tmps.getD 60 undef=.agg #[.slice la p.length lc,.int .u64 (D (s:Int))]:=(hon 7 (by decide)).trans e7;have q8:act.tmps.getD 8 undef=.pointer (some ⟨w.heap.size+1+1,0,none⟩):=hoff 8 (by kernel_rfl);obtain ⟨x0,x1,z0,z1⟩:=HRX.out _ (HB14.out.st (HB5.out.st hb7));simp only [Na];simp [Oper.wp,execOp,Oper.upon,go_sem,Act.eval,q8,q60,x0,x1,z0,z1];rw [hact];simp only [Al,Ae,Bk7,Bk6,Bl1,Bl0,Act.put,Bk0,Bk1,Nat.reduceAdd,Bk5,Bk8,Bk9];have HC7:=Bi5 h1;have HP7:=Bi5 h2;have HN7:=Bi5 h3;have HB7:=Bi5 hb7;obtain ⟨r0,r1⟩:=Ep (.slice la p.length lc) (.int .u64 (D (s:Int))) x0 x1;clear hR hon hoff hact q60 q8 e7 h1 h2 h3 hb7 f0 f1 p0 p1 p2 p3 p4;generalize vs 0=a0;generalize vs 1=a1;generalize vs 2=a2;generalize vs 3=a3;generalize vs 4=a4;generalize vs 5=a5;generalize vs 6=a6;generalize vs 7=a7
   go_wp2
   refine bodyPost_ret (v:=.tuple #[.agg #[.slice la p.length lc,.int .u64 (D (s:Int))],.int .i64 0]) (by simp [results,Tryz.results76,go_sem,r0,r1];try rfl) rfl ?_;have ho:OffX (· =w.heap.size+1+1) w7 ((w7.setCell ⟨w.heap.size+1+1,0,none⟩ (.slice la p.length lc)).setCell ⟨w.heap.size+1+1,1,none⟩ (.int .u64 (D (s:Int)))):=
    (show OffX (· =w.heap.size+1+1) w7 (w7.setCell ⟨w.heap.size+1+1,0,none⟩ (.slice la p.length lc)) from .set _ rfl).trans (.set _ rfl)
   refine ⟨la,p,lc,D (s:Int),0,rfl,fun i u hu=>?_,((HBw5.out.st HB7.out).setCell (by show w.heap.size<=w.heap.size+1+1;omega) _).setCell (by show w.heap.size<=w.heap.size+1+1;omega) _,.inl ⟨rfl,⟨hs0,hs1⟩,⟨by omega,by omega⟩,HDS.out,hd1,D,by rw [HDD.out];exact HTD.out,HP7.out⟩,fun y hy=>by have:=HN7.out y hy;have:=HL5.out;omega⟩;obtain ⟨b,o,e,h8⟩:=HC7.out i u hu;have hl:=HN7.out _ e;exact ⟨b,o,e,ho.cell h8 (fun e2=>by have e3:b=w.heap.size+1+1:=e2;have:=HL5.out;simp only at hl;omega)⟩
 ·have hfx:D (s:Int)=4611686018427387904:=by
   rcases hFs with ⟨_,_,h⟩|⟨h,_⟩
   ·omega
   ·exact h
  have hno:∀e,¬Way0 (Am es) Any (s:Int) (t:Int) e:=by
   rcases hFs with ⟨_,_,h⟩|⟨_,h⟩
   ·omega
   ·exact h
  rw [hfx] at ds;clear hFs hfar hfx;obtain ⟨x0,x1,z0,z1⟩:=HRX.out _ HB14.out
  go_wp2
  obtain ⟨r0,r1⟩:=Ep (.slice none 0 0) (.int .u64 0) x0 x1;refine bodyPost_ret (v:=.tuple #[.agg #[.slice none 0 0,.int .u64 0],.int .i64 9]) (by simp [results,Tryz.results76,go_sem,r0,r1];try rfl) rfl ?_;exact ⟨none,[],0,0,9,rfl,Cel.nil _ _,(HBw4.out.setCell (by show w.heap.size<=w.heap.size+1+1;omega) _).setCell (by show w.heap.size<=w.heap.size+1+1;omega) _,.inr ⟨by decide,rfl,rfl,.inr (.inl ⟨rfl,rfl,⟨hs0,hs1⟩,⟨by omega,by omega⟩,hno⟩)⟩,fun y hy=>nomatch hy⟩
end Dj
end
section
open Go.Proofs Go.RowKit Go.Shelf
def Ao4 (a b:Int):Int:=if a<b then -1 else if b<a then 1 else 0
end
section
open Go.Proofs Go.RowKit Go.Shelf
end
section
open Go Go.Proofs Go.RowKit Go.Shelf
structure RtD where
 es:List Int
 w:Int
deriving DecidableEq
structure RtC where
 ao:Option Addr
 cap:Nat
 r:RtD
def encC (t:RtC):List Value:=[.slice t.ao t.r.es.length t.cap,.int .u64 t.r.w]
def Ah0:List RtC->List Value
 |[]=>[]
 |t::l=>encC t++Ah0 l
theorem Yh:∀(ts:List RtC) (i:Nat) (h:i<ts.length),(Ah0 ts)[2*i]? =some (.slice ts[i].ao ts[i].r.es.length ts[i].cap)/\(Ah0 ts)[2*i+1]? =some (.int .u64 ts[i].r.w)
 |t::l,0,_=>⟨rfl,rfl⟩
 |t::l,i+1,h=>by
  have:=Yh l i (by simpa using h);have e1:2*(i+1)=2*i+2:=by omega
  rw [e1];exact this
theorem Cel.rt {w:World} {ao:Option Addr} {ts:List RtC} (h:Cel w ao (Ah0 ts)) {i:Nat} (hi:i<ts.length):
  ∃b o,ao=some ⟨b,o,none⟩/\w.cell? ⟨b,o+i*2,none⟩=some (.slice ts[i].ao ts[i].r.es.length ts[i].cap)/\w.cell? ⟨b,o+i*2+1,none⟩=some (.int .u64 ts[i].r.w):=by
 obtain ⟨h1,h2⟩:=Yh ts i hi;obtain ⟨b,o,e,c1⟩:=h _ _ h1;obtain ⟨b',o',e',c2⟩:=h _ _ h2;rw [e] at e'
 cases e'
 exact ⟨b,o,e,by rw [Nat.mul_comm];exact c1,by rw [Nat.mul_comm,Nat.add_assoc];exact c2⟩
end
section
open Go Go.Proofs Go.RowKit Go.Shelf Hp Ch Ro
theorem Ro.RP.visT {es:List EdgeD} {n:Nat} {t:Int} {D:Int->Int} (hA:∀u v w,Am es u v w->Aa n u/\Aa n v/\1<=w) (hD:ToD es n t D) {v:Int} {l:List Int} (h:RP es D v l):Aa n v->∃vs:List Int,vs.length=l.length+1/\vs.Nodup/\∀u∈vs,Aa n u/\D u<=D v:=by
 induction h with
 |@stop v h=>exact fun hv=>⟨[v],rfl,by simp,fun u hu=>by rw [Bk2] at hu;subst hu;exact ⟨hv,Int.le_refl _⟩⟩
 |@go v i l h h0 hr ih=>
  intro hv;obtain ⟨h1,_,h2,_,_⟩:=Rm hA hD h;obtain ⟨vs,k1,k2,k3⟩:=ih h1;refine ⟨v::vs,by simp [k1],List.nodup_cons.2 ⟨fun hm=>?_,k2⟩,fun u hu=>?_⟩
  ·have:=(k3 v hm).2
   omega
  ·rcases Bl7.1 hu with rfl|hm
   ·exact ⟨hv,Int.le_refl _⟩
   ·have:=k3 u hm
    exact ⟨this.1,by omega⟩
theorem Fh {n:Nat} {es:List EdgeD} {s t:Int} {l:List Int} {x k:Int} (h1:Cy n es s t l x k):DistIs n (Am es) s t x k:=by
 rcases h1 with ⟨rfl,a,b,c,d,_⟩|⟨_,_,rfl,h⟩
 ·exact .inl ⟨rfl,a,b,c,d⟩
 ·exact h
theorem Lw {n:Nat} {es:List EdgeD} (hA:∀u v w,Am es u v w->Aa n u/\Aa n v/\1<=w) {s t:Int} {l l3:List Int} {x k z f:Int} (h1:Cy n es s t l x k) (h3:Cy n es s t l3 z f):l=l3/\x=z/\k=f:=by
 obtain ⟨rfl,rfl⟩:=(Fh h1).uniq (Fh h3);refine ⟨?_,rfl,rfl⟩
 rcases h1 with ⟨rfl,a,b,c,d,D,hD,hR⟩|⟨hk,rfl,_⟩
 ·rcases h3 with ⟨_,a',b',c',d',D',hD',hR'⟩|⟨hk,_⟩
  ·have hN:∀e∈es,Aa n e.f/\Aa n e.t:=fun e he=>by
    have:=hA e.f e.t e.w ⟨e,he,rfl,rfl,rfl⟩;exact ⟨this.1,this.2.1⟩
   exact (hR.congr hN (hD.uniq hD') a).uniq hR'
  ·exact absurd rfl hk
 ·rcases h3 with ⟨h,_⟩|⟨_,rfl,_⟩
  ·exact absurd h hk
  ·rfl
theorem Gf {n:Nat} {es:List EdgeD} (hA:∀u v w,Am es u v w->Aa n u/\Aa n v/\1<=w) {s t:Int} {l:List Int} {x k:Int} (h1:Cy n es s t l x k):l.length<=n/\0<=x/\x<=1152921504606846976:=by
 rcases h1 with ⟨rfl,a,b,c,d,D,hD,hR⟩|⟨hk,rfl,rfl,_⟩
 ·obtain ⟨vs,k1,k2,k3⟩:=hR.visT hA hD a
  have:=Di (fun u hu=>(k3 u hu).1) k2;exact ⟨by omega,c.1.nonneg (fun u v w h=>(hA u v w h).2.2),d⟩
 ·exact ⟨Bi8 _,Int.le_refl _,by decide⟩
end
section
open Go Go.Proofs Go.RowKit Go.Shelf Hp Ch
theorem Sz (g:Nat) (cb:Array Value) (p:Int->Bool) (ao:Option Addr) (cap:Nat) (l:List Int) (w:World) (hen:Enters Tryz.prog g)
  (hp:Lm Tryz.prog g cb Aj p l w) (hl:l.length<=9223372036854775807) (hc:Cel w ao (l.map Aj)):
  Calls Tryz.prog 131 #[.slice ao l.length cap,.func (.func g) #[] cb] w fun e w'=>e=.returned (.int .i64 (Fk p l))/\Below w.heap.size w w':=by
 have HP:=Bi5 hp;have HC:=Bi5 hc;clear hp hc;unfold Enters at hen
 go_enter Tryz.func131,Tryz.ntmps131
 go_wp2
 go_loopg [8] l.length (fun g i wr=>∃k:Nat,k<=l.length/\l.length-k<=g/\i=.int .i64 k/\Aside (Below w.heap.size w wr)/\Aside (∀j (h:j<l.length),j<k->p l[j]=false))
 case atStart=>exact ⟨0,Bi8 _,by omega,rfl,Below.refl _ _,fun j _ h=>absurd h (Nat.not_lt_zero _)⟩
 case round=>
  obtain ⟨k,hk,hg,rfl,HB,HA⟩:=hrel
  by_cases hlt:k<l.length
  ·obtain ⟨b,o,hao,hcell⟩:=(HC.out.below HB.out (Bi7 _)).at hlt
   have HQ:=Bi5 (HP.out wr l[k] HB.out (Bj7 hlt));have HN:=Bi5 (fun h:p l[k]=true=>Jf p l k hlt h (fun j h1 h2=>HA.out j h1 h2));have HM:=Bi5 (fun h:p l[k]=false=>(fun j (h1:j<l.length) (h2:j<k+1)=>(by
    by_cases e:j=k
    ·subst e;exact h
    ·exact HA.out j h1 (by omega):p l[j]=false)))
   generalize hx:l[k]=x at*;clear hx;subst hao
   cases hq:p x with
   |true=>
    have HN2:=Bi5 (HN.out hq);have HQ2:=Bi5 (hq▸HQ.out);clear hq
    go_wp2_with (go_at_fn g;refine HQ2.out.mono ?_;rintro e w1 ⟨rfl,hb1⟩)
    go_ret
    exact ⟨by rw [HN2.out];rfl,HB.out.trans (hb1.mono (by have:=HB.out.size;omega))⟩
   |false=>
    have HN2:=Bi5 (HM.out hq);have HQ2:=Bi5 (hq▸HQ.out);clear hq
    go_wp2_with (go_at_fn g;refine HQ2.out.mono ?_;rintro e w1 ⟨rfl,hb1⟩)
    go_roundg (l.length-(k+1))
    case measure=>omega
    case rel=>exact ⟨k+1,by omega,by omega,by go_num,HB.out.trans (hb1.mono (by have:=HB.out.size;omega)),HN2.out⟩
  ·obtain rfl:k=l.length:=by omega
   have HN:=Bi5 (Ha p l (fun j h=>HA.out j h h))
   go_wp2
   go_ret
   exact ⟨by rw [HN.out];rfl,HB.out⟩
theorem Oj (g:Nat) (cb:Array Value) (p:Int->Bool) (ao:Option Addr) (cap:Nat) (l:List Int) (w:World) (hen:Enters Tryz.prog g)
  (hp:Lm Tryz.prog g cb Aj p l w) (hl:l.length<=9223372036854775807) (hc:Cel w ao (l.map Aj)):
  Calls Tryz.prog 73 #[.slice ao l.length cap,.func (.func g) #[] cb] w fun e w'=>e=.returned (.bool (l.any p))/\Below w.heap.size w w':=by
 have HC:=Bi5 (Sz g cb p ao cap l w hen hp hl hc);have HI:=Bi5 (Re p l);clear hp hc hen;generalize Fk p l=r at*
 go_enter Tryz.func73,Tryz.ntmps73
 go_wp2_with (go_at_call 131;refine HC.out.mono ?_;rintro e w1 ⟨rfl,hb1⟩)
 go_ret
 exact ⟨by rw [<-HI.out];rfl,hb1⟩
def Zv (n:Nat) (v:Int):Bool:=decide (v<0)||decide ((n:Int)<=v)
theorem Ba5 {n:Nat} {l:List Int}:(l.any (Zv n))=false↔∀v∈l,Aa n v:=by
 rw [List.any_eq_false];unfold Zv Aa;constructor
 ·intro h v hv
  have:=h v hv;simp at this;omega
 ·intro h v hv
  have:=h v hv;simp;omega
end
section
open Go Go.Proofs Go.RowKit Go.Shelf Hp Ch
theorem Ay6 (n:Nat) (w:World) (hn:n<=1099511627776):
  Calls Tryz.prog 179 #[.slice none 0 0,.int .i64 n] w fun e w'=>∃ao cap,e=.returned (.slice ao 0 cap)/\w'.ownsRow w.heap.size 3 1 (.slice ao 0 cap) 0 []/\Below w.heap.size w w':=by
 by_cases h0:n=0
 ·subst h0
  go_enter Tryz.func179,Tryz.ntmps179
  go_wp2
  go_ret
  exact ⟨none,0,rfl,⟨rfl,.inl ⟨rfl,rfl⟩⟩,Below.refl _ _⟩
 ·have hE:=Hf
  obtain ⟨hE,hz1,hz2⟩:=hE;obtain ⟨i,hi,hz,hsz,hby⟩:=info_parts hE;have hrz:=Bi5 (fun ty=>Lib.run_append_nil_zeros w 25 3 ty 3 i _ .i64 .i64 Tryz.underlying25 Tryz.underlying3 hi hz n (by omega) (by omega) (by omega) (by rw [hby];omega));have hGn:n<=grownCap w n 0 3:=grownCap_ge w _ _ _;have hG63:grownCap w n 0 3<=maxLen:=grownCap_le_maxLen w n 0 3 (by unfold maxLen;omega);generalize grownCap w n 0 3=G at*;obtain ⟨W,hW⟩:∃W,W=w.drew.alloc (.cells (Builtin.zeroCells (Value.int .i64 0).cells n++Builtin.zeroCells (Value.int .i64 0).cells (G-n)) 3):=⟨_,rfl⟩;rw [<-hW] at hrz;have HO:Aside (W.ownsRow w.heap.size 3 1 (.slice (some ⟨w.heap.size,0,none⟩) 0 G) 0 []):=by
   refine ⟨rfl,.inr ⟨w.heap.size,G,Builtin.zeroCells (Value.int .i64 0).cells n++Builtin.zeroCells (Value.int .i64 0).cells (G-n),rfl,Bi7 _,?_,Bi8 _,hG63,?_,?_⟩⟩
   ·rw [hW];exact (MapKept.heap_alloc w.drew _).1
   ·simp [size_zeroCells,Value.cells];omega
   ·simp
  have HB:Aside (Below w.heap.size w W):=by rw [hW];exact Below.al (Below.of_dr w 1) _
  clear hW hE hz1 hz2 hi hz hsz hby;have hG9:(0:Int)<=(G:Int):=by omega
  have hc1:((n:Int)>0)=True:=by simp;omega
  have hc2:((n:Int)<0)=False:=by simp
  unfold maxLen at hG63
  go_enter Tryz.func179,Tryz.ntmps179
  go_wp2_with (at_builtin;refine Lib.wpList_append_run _ rfl _ _ _ _ rfl _ _ rfl rfl _ _ (hrz.out _) ?_)
  go_ret
  exact ⟨_,G,rfl,HO.out,HB.out⟩
theorem Zb (bk:Nat) (ao bo:Option Addr) (ca cb cq:Nat) (la lb:List Int) (w:World) (hla:la.length<=1048576) (hlb:lb.length<=1048576)
  (h0:w.cell? ⟨bk,0,none⟩=some (.slice ao la.length ca)) (h1:w.cell? ⟨bk,1,none⟩=some (.slice bo lb.length cb)) (ha:Cel w ao (la.map Aj)) (hb:Cel w bo (lb.map Aj)):
  Calls Tryz.prog 117 #[.slice (some ⟨bk,0,none⟩) 2 cq] w fun e w'=>∃ao' cap',e=.returned (.slice ao' (la++lb).length cap')/\Cel w' ao' ((la++lb).map Aj)/\Below w.heap.size w w'/\∀x,ao'=some x->w.heap.size<=x.block:=by
 have HA:=Bi5 ha;have HB:=Bi5 hb;have H0:=Bi5 h0;have H1:=Bi5 h1;clear ha hb;have HG:=Bi5 (fun W=>Ay6 (la.length+lb.length) W (by omega))
 go_enter Tryz.func117,Tryz.ntmps117
 go_wp2
 refine wp_loop_rounds 3 ?_;rw [rounds_succ]
 go_wp2
 rw [rounds_succ]
 go_wp2
 rw [rounds_succ]
 go_wp2_with fail
 refine (HG.out _).mono ?_;rintro e w1 ⟨a1,c1,rfl,ho1,hb1⟩;have m0:=Bi6 hb1 h0;have m1:=Bi6 hb1 h1;have HO1:=Bi5 ho1;have HB1:=Bi5 hb1;clear ho1 hb1 h0 h1
 go_wp2
 refine wp_loop_rounds 3 ?_;rw [rounds_succ];obtain ⟨a2,c2,w2,hr2,ho2,hb2⟩:=Qa (P:=Tryz.prog) 25 25 w.heap.size 3 _ 8 Hf Tryz.underlying25 a1 0 c1 [] HO1.out ao la.length ca (la.map Aj) (HA.out.go HB1.out) (fun u hu=>by obtain ⟨x,_,rfl⟩:=List.mem_map.1 hu;rfl) (by refine ⟨by simp,by omega,by omega,HB1.out.size⟩);simp only [Nat.zero_add,List.nil_append] at hr2 ho2;have HB2:=Bi5 (HB1.out.trans hb2);have n0:=Bi6 HB2.out H0.out;have n1:=Bi6 HB2.out H1.out;obtain ⟨a3,c3,w3,hr3,ho3,hb3⟩:=Qa (P:=Tryz.prog) 25 25 w.heap.size 3 _ 8 Hf Tryz.underlying25 a2 la.length c2 (la.map Aj) ho2 bo lb.length cb (lb.map Aj) (HB.out.go HB2.out) (fun u hu=>by obtain ⟨x,_,rfl⟩:=List.mem_map.1 hu;rfl) (by refine ⟨by simp,by omega,by omega,HB2.out.size⟩);have HR2:=Bi5 hr2;have HR3:=Bi5 hr3;have HO3:=Bi5 ho3;have HB3:=Bi5 (HB2.out.trans hb3);clear hr2 ho2 hb2 hr3 ho3 hb3
 go_wp2_with (at_builtin;refine Lib.wpList_append_run _ rfl _ _ _ _ rfl _ _ rfl rfl _ _ HR2.out ?_)
 rw [rounds_succ]
 go_wp2_with (at_builtin;refine Lib.wpList_append_run _ rfl _ _ _ _ rfl _ _ rfl rfl _ _ HR3.out ?_)
 rw [rounds_succ]
 go_wp2
 go_ret
 obtain ⟨ao3,cap3,e3,h3⟩:=Cel.of_owns HO3.out
 cases e3
 refine ⟨a3,c3,?_,by simpa using h3,HB3.out,?_⟩
 ·simp
 ·rintro x rfl
  rcases HO3.out.2 with ⟨e,_⟩|⟨g,cap',cur,e,hb,_⟩
  ·cases e
  ·cases e
   exact hb
end
section
open Go.Proofs Go.RowKit Go.Shelf
theorem Ay5 (ao bo:Option Addr) (ca cb:Nat) (la lb:List Int) (wa wb:Int) (w:World) (hla:la.length<=1048576) (hlb:lb.length<=1048576)
  (ha:Cel w ao (la.map Aj)) (hb:Cel w bo (lb.map Aj)):
  Calls Tryz.prog 62 #[.agg #[.slice ao la.length ca,.int .u64 wa],.agg #[.slice bo lb.length cb,.int .u64 wb]] w fun e w'=>
   ∃ao' cap',e=.returned (.agg #[.slice ao' (la++lb).length cap',.int .u64 (IntKind.u64.wrap (wa+wb))])/\Cel w' ao' ((la++lb).map Aj)/\Below w.heap.size w w'/\∀x,ao'=some x->w.heap.size<=x.block:=by
 have HA:=Bi5 ha;have HB:=Bi5 hb;clear ha hb;have HC:=Bi5 (fun bk cq W h0 h1 h2 h3=>Zb bk ao bo ca cb cq la lb W hla hlb h0 h1 h2 h3);generalize (la++lb).length=n at*
 go_enter Tryz.func62,Tryz.ntmps62
 have d1:¬(w.heap.size+1+1=w.heap.size):=by omega
 have d2:¬(w.heap.size=w.heap.size+1+1):=by omega
 go_wp2
 go_region_held3 (fun w'=>w'.cell? ⟨w.heap.size,0,none⟩=some (.slice ao la.length ca)/\w'.cell? ⟨w.heap.size,1,none⟩=some (.int .u64 wa)/\w'.cell? ⟨w.heap.size+1,0,none⟩=some (.slice bo lb.length cb)/\w'.cell? ⟨w.heap.size+1,1,none⟩=some (.int .u64 wb)) (go_keep) (first
  |(go_at_call 117;refine (HC.out _ _ _ (by go_simp) (by go_simp) (HA.out.go (by repeat (first|exact Below.refl _ _|refine Below.al ?_ _|refine Below.dr ?_ _|refine Below.drew ?_|assumption|(refine Below.st ?_ (by assumption))))) (HB.out.go (by repeat (first|exact Below.refl _ _|refine Below.al ?_ _|refine Below.dr ?_ _|refine Below.drew ?_|assumption|(refine Below.st ?_ (by assumption)))))).mono ?_;rintro e w1 ⟨a1,c1,rfl,hc1,hb1,hn1⟩;have q0:=Bi6 hb1 (a:=⟨w.heap.size,0,none⟩) (v:=.slice ao la.length ca) (by go_simp);have q1:=Bi6 hb1 (a:=⟨w.heap.size,1,none⟩) (v:=.int .u64 wa) (by go_simp);have q2:=Bi6 hb1 (a:=⟨w.heap.size+1,0,none⟩) (v:=.slice bo lb.length cb) (by go_simp);have q3:=Bi6 hb1 (a:=⟨w.heap.size+1,1,none⟩) (v:=.int .u64 wb) (by go_simp);have q4:=Bi6 hb1 (a:=⟨w.heap.size+1+1,0,none⟩) (v:=.slice none 0 0) (by go_simp);have q5:=Bi6 hb1 (a:=⟨w.heap.size+1+1,1,none⟩) (v:=.int .u64 0) (by go_simp);have z4:w1.frozen? ⟨w.heap.size+1+1,0,none⟩=false:=(hb1.frozen (by simp)).trans (by go_simp);have z5:w1.frozen? ⟨w.heap.size+1+1,1,none⟩=false:=(hb1.frozen (by simp)).trans (by go_simp)))
 go_wp2
 have r0:((w1.setCell ⟨w.heap.size+1+1,0,none⟩ (.slice a1 n c1)).setCell ⟨w.heap.size+1+1,1,none⟩ (.int .u64 (IntKind.u64.wrap (wa+wb)))).cell? ⟨w.heap.size+1+1,0,none⟩=some (.slice a1 n c1):=by
  rw [Bj3 _ _ _ _ (by simp)];exact Bj4 _ _ _ q4
 have r1:((w1.setCell ⟨w.heap.size+1+1,0,none⟩ (.slice a1 n c1)).setCell ⟨w.heap.size+1+1,1,none⟩ (.int .u64 (IntKind.u64.wrap (wa+wb)))).cell? ⟨w.heap.size+1+1,1,none⟩=some (.int .u64 (IntKind.u64.wrap (wa+wb))):=
  Bj4 _ _ _ (u:=.int .u64 0) (by rw [Bj3 _ _ _ _ (by simp)];exact q5)
 have hb2:Below w.heap.size w w1:=by repeat (first|exact Below.refl _ _|refine Below.al ?_ _|refine Below.dr ?_ _|refine Below.drew ?_|assumption|(refine Below.st ?_ (by assumption)))
 have hs2:=hb1.size;simp at hs2;have hb3:Below w.heap.size w ((w1.setCell ⟨w.heap.size+1+1,0,none⟩ (.slice a1 n c1)).setCell ⟨w.heap.size+1+1,1,none⟩ (.int .u64 (IntKind.u64.wrap (wa+wb)))):=(hb2.setCell (by simp;omega) _).setCell (by simp;omega) _;have hc3:Cel ((w1.setCell ⟨w.heap.size+1+1,0,none⟩ (.slice a1 n c1)).setCell ⟨w.heap.size+1+1,1,none⟩ (.int .u64 (IntKind.u64.wrap (wa+wb)))) a1 ((la++lb).map Aj):=by
  intro i u hu;obtain ⟨b,o,e,h⟩:=hc1 i u hu;have:=hn1 _ e;simp at this;refine ⟨b,o,e,?_⟩;rw [Bn0 _ _ _ _ (by simp;omega),Bn0 _ _ _ _ (by simp;omega)];exact h
 have HF:=Bi5 (And.intro hc3 (And.intro hb3 (show ∀x,a1=some x->w.heap.size<=x.block from fun x hx=>by
  have:=hn1 _ hx;simp at this;omega)))
 clear hn1 q0 q1 q2 q3 q4 q5 z4 z5 hb1 hb2 hc1 hb3 hc3;generalize (w1.setCell ⟨w.heap.size+1+1,0,none⟩ (.slice a1 n c1)).setCell ⟨w.heap.size+1+1,1,none⟩ (.int .u64 (IntKind.u64.wrap (wa+wb)))=W at*;refine bodyPost_ret (by simp [results,Tryz.results62,go_sem,r0,r1];try rfl) rfl ?_;exact ⟨a1,c1,rfl,HF.out.1,HF.out.2.1,HF.out.2.2⟩
end
end Go.Proofs.YteaaapdjplbljaaGreat
