/- Parts; no condition. -/
import Derived.Test.YteaaapdjplbljaaGreatVb36
import Derived.Maps.OwnIn
set_option linter.unusedVariables false
set_option linter.unusedSimpArgs false
set_option linter.unnecessarySimpa false
set_option maxRecDepth 100000
set_option maxHeartbeats 8000000
namespace Go.Proofs.YteaaapdjplbljaaGreat
namespace Dj
open Go Go.Proofs Go.RowKit Go.Shelf Hp Ch Ad Ro
attribute [local go_sem] Oper.semAt_some
def Be6 (n:Nat) (u:Nat->Value) (Ds:List Nat):Act:=⟨((List.range n).map u).toArray,Rp Ds⟩
theorem Aj1 (n:Nat) (a:Act) (Ds:List Nat) (h:a.tmps.size=n) (hd:a.defers=Rp Ds):a=Be6 n (fun i=>a.tmps.getD i undef) Ds:=by
 cases a with
 |mk t d=>
  simp only at h hd;subst hd;unfold Be6
  congr 1
  apply Array.ext
  ·simp [h]
  ·intro i h1 h2
   simp [h1]
theorem Bj7 (w:World) (y:Value) (T:TypeId):∀(j:Nat) (u:Value),[y][j]? =some u->(w.alloc (Obj.cells #[y] T)).cell? ((⟨w.heap.size,0,none⟩:Addr).add j)=some u:=by
 intro j u hu
 match j with
 |0=>cases hu;go_simp
 |j+1=>simp at hu
theorem Bf2 (y:Int):∀u∈[Value.int .i64 y],u.oneCell'=true:=fun u hu=>by rw [Bn7.1 hu];rfl
def Ta (es:List EdgeD) (D:Int->Int) (s:Int) (w:World) (e:Ending) (w':World):Prop:=
 ∃(la:Option Addr) (p:List Int) (lc:Nat),e=.returned (.agg #[.slice la p.length lc,.int .u64 (D s)])/\Cel w' la (p.map Ai)/\Below w.heap.size w w'/\RP es D s p/\∀x,la=some x->w.heap.size<=x.block
def FoJ (w W0:World) (ab n:Nat) (es:List EdgeD) (D:Int->Int) (s:Int) (mm l0:Nat) (a:Act) (wr:World):Prop:=
 l0=0/\∃(u:Nat->Value) (Ds:List Nat),a=Be6 44 u Ds/\u 0=.pointer (some ⟨ab,0,none⟩)/\u 6=.pointer (some ⟨w.heap.size,0,none⟩)/\u 7=.pointer (some ⟨w.heap.size+1,0,none⟩)/\u 8=.pointer (some ⟨w.heap.size+2,0,none⟩)/\u 9=.pointer (some ⟨w.heap.size+3,0,none⟩)/\u 10=.pointer (some ⟨w.heap.size+4,0,none⟩)/\u 11=.pointer (some ⟨w.heap.size+5,0,none⟩)/\
  Aside (∃v l la lc,FoS W0 w.heap.size wr n es D s Ds v l la lc/\Below w.heap.size w wr/\(D (v:Int)).toNat<=mm)
theorem Ae5 (lo hi ab n s fc wc:Nat) (es:List EdgeD) (fa wa:Option Addr) (far:List Int) (t:Int) (w:World) (hA:AdjM w lo hi ab n es) (hhi:hi<=w.heap.size) (hF:Cel w fa (far.map Cb)) (hWt:Cel w wa ((Ia es).map Cb)) (hE:EOK n es) (hn:n<=50000) (hm:es.length<=50000) (hs:s<n)
  (hD:ToD es n t (gD far)) (hlen:far.length=n) (hb:∀x∈far,0<=x/\x<=4611686018427387904) (hfs:gD far (s:Int)<=1152921504606846976):
  Calls Tryz.prog 134 #[.pointer (some ⟨ab,0,none⟩),.int .i64 (s:Int),.slice fa n fc,.slice wa es.length wc,Eh false] w (Ta es (gD far) (s:Int) w):=by
 obtain ⟨W,hW⟩:∃W,W=((((w.alloc (Obj.cells #[.int .i64 (s:Int)] 3)).alloc (Obj.cells #[.slice fa n fc] 60)).alloc (Obj.cells #[.slice wa es.length wc] 60)).alloc (Obj.cells #[.bool false,.slice none 0 0,.slice none 0 0,.slice none 0 0,.int .u64 0] 135)).alloc (Obj.cells #[.slice none 0 0,.int .u64 0] 39):=⟨_,rfl⟩;have hbw:Below w.heap.size w W:=by rw [hW];exact ((((Below.of_al _ _).al _).al _).al _).al _
 have hsz:W.heap.size=w.heap.size+5:=by rw [hW];simp
 have c6:W.cell? ⟨w.heap.size,0,none⟩=some (.int .i64 (s:Int)):=by rw [hW];go_simp
 have z6:W.frozen? ⟨w.heap.size,0,none⟩=false:=by rw [hW];go_simp
 have c7:W.cell? ⟨w.heap.size+1,0,none⟩=some (.slice fa n fc):=by rw [hW];go_simp
 have c8:W.cell? ⟨w.heap.size+2,0,none⟩=some (.slice wa es.length wc):=by rw [hW];go_simp
 have c9:W.cell? ⟨w.heap.size+3,2,none⟩=some (.slice none 0 0):=by rw [hW];go_simp
 have r0:W.cell? ⟨w.heap.size+4,0,none⟩=some (.slice none 0 0):=by rw [hW];go_simp
 have r1:W.cell? ⟨w.heap.size+4,1,none⟩=some (.int .u64 0):=by rw [hW];go_simp
 have y0:W.frozen? ⟨w.heap.size+4,0,none⟩=false:=by rw [hW];go_simp
 have y1:W.frozen? ⟨w.heap.size+4,1,none⟩=false:=by rw [hW];go_simp
 obtain ⟨tb,t9,hta,ct⟩:=(hF.go hbw) s (.int .u64 (gD far (s:Int))) (by rw [Bn9];unfold gD;rw [Bn4,Bm6,Bm5 (by omega)];rfl);have s0:(0:Int)<=(s:Int):=by omega
 have s1:(s:Int)<(n:Int):=by omega
 subst hta;have HW:=Bm0 hW;have HB:=Bm0 hbw;have HA:=Bm0 hA;have HF:=Bm0 hF;have HWT:=Bm0 hWt;have HE:=Bm0 hE;have HD:=Bm0 hD;have HBD:=Bm0 hb;have HSZ:=Bm0 hsz;have HFS:=Bm0 hfs;unfold Ta Eh;clear hW hbw hA hF hWt hE hD hb hsz hfs;obtain ⟨D,hDD⟩:∃D,D=gD far:=⟨_,rfl⟩;rw [<-hDD] at HD HFS ct ⊢;have HDD:=Bm0 hDD;clear hDD;refine (callsIn_wide (n:=4)).1 (callsIn_of_wp_marks Tryz.func134 rfl trivial (wpIn_wide.2 ?_) rfl);simp only [Tryz.ntmps134,List.size_toArray,Bn5,Bn6,Nat.reduceAdd,Nat.reduceSub,Array.replicate_succ,Array.replicate_zero,List.push_toArray,List.append_toArray,List.nil_append,List.cons_append]
 repeat go_step
 obtain ⟨W0,hW0⟩:∃W0,W0=(W.setCell ⟨w.heap.size+1+1+1+1,1,none⟩ (.int .u64 (D (s:Int)))).alloc (Obj.cells #[.func (.func 187) #[] #[.pointer (some ⟨w.heap.size+1,0,none⟩),.pointer (some ⟨w.heap.size+1+1,0,none⟩),.pointer (some ⟨w.heap.size,0,none⟩),.pointer (some ⟨w.heap.size+1+1+1,0,none⟩)]] 268):=⟨_,rfl⟩;have hb0:OffX (· =w.heap.size+4) W W0:=by
  have h9:OffX (· =w.heap.size+4) W (W.setCell ⟨w.heap.size+1+1+1+1,1,none⟩ (.int .u64 (D (s:Int)))):=.set _ rfl;rw [hW0];exact h9.trans (.of_below (Below.of_al _ _))
 have hsz:=HSZ.out;have hz0:W0.heap.size=w.heap.size+6:=by rw [hW0];simp [World.setCell];omega
 have k11:W0.cell? ⟨w.heap.size+5,0,none⟩=some (.func (.func 187) #[] #[.pointer (some ⟨w.heap.size+1,0,none⟩),.pointer (some ⟨w.heap.size+1+1,0,none⟩),.pointer (some ⟨w.heap.size,0,none⟩),.pointer (some ⟨w.heap.size+1+1+1,0,none⟩)]):=by
  rw [hW0,show w.heap.size+5=(W.setCell ⟨w.heap.size+1+1+1+1,1,none⟩ (.int .u64 (D (s:Int)))).heap.size by simp [World.setCell];omega]
  go_simp
 have hB0:Below w.heap.size w W0:=HB.out.trans (hb0.below HB.out.size (fun k e=>by have e:k=w.heap.size+4:=e;omega));have hFo:FoS W0 w.heap.size W0 n es D (s:Int) [] s [] none 0:=by
  have b6:=hb0.block w.heap.size (by omega) (fun e=>by have e:w.heap.size=w.heap.size+4:=e;omega);have b10:W0.cell? ⟨w.heap.size+4,0,none⟩=some (.slice none 0 0):=by
   rw [hW0];exact Bm1 (Below.of_al _ _) ((Bm8 _ _ _ _ (by simp)).trans r0)
  have b11:W0.cell? ⟨w.heap.size+4,1,none⟩=some (.int .u64 (D (s:Int))):=by
   rw [hW0];exact Bm1 (Below.of_al _ _) (Bm9 _ _ _ r1)
  have fr:∀j,W.frozen? ⟨w.heap.size+4,j,none⟩=false->W0.frozen? ⟨w.heap.size+4,j,none⟩=false:=fun j hj=>by
   rw [hW0,(Below.of_al (W.setCell ⟨w.heap.size+1+1+1+1,1,none⟩ (.int .u64 (D (s:Int)))) _).frozen (p:=⟨w.heap.size+4,j,none⟩) (by simp [World.setCell];omega),Bp6];exact hj
  exact ⟨⟨Bp b6 c6,Ij b6 z6⟩,⟨b10,b11,fr 0 y0,fr 1 y1⟩,fun _ _ _ _=>rfl,World.ownsRow_nil _ _ _ _,(fun _ h=>nomatch h),(fun _ h=>nomatch h),List.nodup_nil,by omega,hs,Seg.start _,⟨Int.le_refl _,HFS.out⟩,[],rfl,List.nodup_nil,fun _ h=>nomatch h⟩
 have HW0:=Bm0 hW0;have HFO:=Bm0 hFo;have HB0:=Bm0 hB0;have HO0:=Bm0 hb0;have K11:=Bm0 k11;have HZ0:=Bm0 hz0;clear hW0 hFo hB0 hb0 k11 hz0 hsz;refine Lf 0 (D (s:Int)).toNat (FoJ w W0 ab n es D (s:Int)) rfl ?_ ?_ ?_ ?_
 ·rintro m m' l a w' hle ⟨h1,u,Ds,e1,e2,e3,e4,e5,e6,e7,e8,h6⟩
  obtain ⟨v,l',la,lc,q1,q2,q3⟩:=h6;exact ⟨h1,u,Ds,e1,e2,e3,e4,e5,e6,e7,e8,v,l',la,lc,q1,q2,Bm4 q3 hle⟩
 ·intro hcont
  have HCONT:=Bm0 hcont;clear hcont
  go_upto_region 1 with (fail)
  rw [<-HW.out]
  go_wp2_with fail
  rw [<-HW0.out,HSZ.out]
  go_step3
  first
   |refine HCONT.out _ _ ?_
   |(go_step;refine HCONT.out _ _ ?_)
   |(go_step;go_step;refine HCONT.out _ _ ?_)
   |(go_step;go_step;go_step;refine HCONT.out _ _ ?_)
  exact ⟨rfl,_,[],Aj1 44 _ [] rfl rfl,rfl,rfl,rfl,rfl,rfl,rfl,rfl,s,[],none,0,HFO.out,HB0.out,Bm2 _⟩
 ·rintro mm a wr ⟨-,u,Ds,rfl,e0,e6,e7,e8,e9,e10,e11,hst⟩
  obtain ⟨v,l,la,lc,hFS,hbl,hmm⟩:=hst;have c6:=hFS.cv.1;have x7:wr.cell? ⟨w.heap.size+1,0,none⟩=some (.slice (some ⟨tb,t9,none⟩) n fc):=Bp (hFS.kp _ (by show w.heap.size+1<_;omega) (by show w.heap.size+1≠_;omega) (by show w.heap.size+1≠_;omega)) (HO0.out.cell c7 (fun e=>by have e:w.heap.size+1=w.heap.size+4:=e;omega));have x8:wr.cell? ⟨w.heap.size+2,0,none⟩=some (.slice wa es.length wc):=Bp (hFS.kp _ (by show w.heap.size+2<_;omega) (by show w.heap.size+2≠_;omega) (by show w.heap.size+2≠_;omega)) (HO0.out.cell c8 (fun e=>by have e:w.heap.size+2=w.heap.size+4:=e;omega));have x9:wr.cell? ⟨w.heap.size+3,2,none⟩=some (.slice none 0 0):=Bp (hFS.kp _ (by show w.heap.size+3<_;omega) (by show w.heap.size+3≠_;omega) (by show w.heap.size+3≠_;omega)) (HO0.out.cell c9 (fun e=>by have e:w.heap.size+3=w.heap.size+4:=e;omega));have x11:=Bp (hFS.kp _ (by show w.heap.size+5<_;omega) (by show w.heap.size+5≠_;omega) (by show w.heap.size+5≠_;omega)) K11.out;have hvn:=hFS.vn;have v0:(0:Int)<=(v:Int):=by omega
  have v1:(v:Int)<(n:Int):=by omega
  obtain ⟨tb',t9',hta,ctv⟩:=(HF.out.go hbl) v (.int .u64 (D (v:Int))) (by rw [HDD.out,Bn9];unfold gD;rw [Bn4,Bm6,Bm5 (by omega)];rfl)
  cases hta
  have HEA:=Bm0 (fun W=>Ad.Hv ab (v:Int) false W);have HX7:=Bm0 x7;have HX8:=Bm0 x8;have HX9:=Bm0 x9;have HX11:=Bm0 x11;have HFR:=Bm0 (HF.out.go hbl);have HWR:=Bm0 (HWT.out.go hbl);have HAR:=Bm0 (HA.out.go hbl hhi);have HRS:=Bm0 hFS;have HBL:=Bm0 hbl;have HMM:=Bm0 hmm;have r0':=hFS.cr.1;have r1':=hFS.cr.2.1;have y0':=hFS.cr.2.2.1;have y1':=hFS.cr.2.2.2;simp only [Be6,List.range,List.range.loop,List.map_cons,List.map_nil,e0,e6,e7,e8,e9,e10,e11];clear e0 e6 e7 e8 e9 e10 e11 hFS hbl hmm x8 x9 x11 c7 c8 c9 r0 r1 y0 y1 z6 ct s0 s1
  by_cases hv0:D (v:Int)=0
  ·have HV0:=Bm0 hv0
   rw [hv0] at ctv;clear hv0
   go_wp2
   simp only [Uw];have q0:((wr.setCell ⟨w.heap.size+4,0,none⟩ (.slice la l.length lc)).setCell ⟨w.heap.size+4,1,none⟩ (.int .u64 (D (s:Int)))).cell? ⟨w.heap.size+4,0,none⟩=some (.slice la l.length lc):=by
    rw [Bm8 _ _ _ _ (by simp)];exact Bm9 _ _ _ r0'
   have q1:((wr.setCell ⟨w.heap.size+4,0,none⟩ (.slice la l.length lc)).setCell ⟨w.heap.size+4,1,none⟩ (.int .u64 (D (s:Int)))).cell? ⟨w.heap.size+4,1,none⟩=some (.int .u64 (D (s:Int))):=
    Bm9 (u:=.int .u64 (D (s:Int))) _ _ _ (by rw [Bm8 _ _ _ _ (by simp)];exact r1')
   have h9:=HRS.out;have hox:OffX (· =w.heap.size+4) wr ((wr.setCell ⟨w.heap.size+4,0,none⟩ (.slice la l.length lc)).setCell ⟨w.heap.size+4,1,none⟩ (.int .u64 (D (s:Int)))):=by
    have h1:OffX (· =w.heap.size+4) wr (wr.setCell ⟨w.heap.size+4,0,none⟩ (.slice la l.length lc)):=.set _ rfl;exact h1.trans (.set _ rfl)
   refine Fa Ds _ h9.nod (fun E hE=>?_) (fun W9 ho9=>⟨.agg #[.slice la l.length lc,.int .u64 (D (s:Int))],?_,?_⟩)
   ·have hm9:=h9.mks E hE
    exact (hox.block E (Bm7.1 hm9.1).1 (fun e=>by have e:E=w.heap.size+4:=e;have:=hm9.2;omega)).trans hm9.1
   ·have hn4:¬w.heap.size+4∈Ds:=fun hm=>by have:=(h9.mks _ hm).2;omega
    have s0:=ho9.cell q0 hn4;have s1:=ho9.cell q1 hn4;simp [results,Tryz.results134,go_sem,s0,s1]
    try rfl
   ·have hall:OffX (fun k=>k=w.heap.size+4\/k∈Ds) wr W9:=(hox.mono (fun k e=>.inl e)).trans (ho9.mono (fun k e=>.inr e))
    refine ⟨la,l,lc,rfl,fun i u hu=>?_,HBL.out.trans (hall.below HBL.out.size (fun k e=>?_)),h9.seg.stop HV0.out,fun x hx=>by have:=(h9.la x hx).1;omega⟩
    ·obtain ⟨b,o,e,h8⟩:=h9.cl i u hu
     have hl2:=h9.la _ e;simp only at hl2;exact ⟨b,o,e,hall.cell h8 (fun hm=>by
      rcases hm with e2|e2
      ·have e3:b=w.heap.size+4:=e2
       omega
      ·exact hl2.2 e2)⟩
    ·rcases e with e|e
     ·omega
     ·have:=(h9.mks k e).2
      omega
  ·have hv2:(D (v:Int)==0)=false:=by simpa using hv0
   have HV0:=Bm0 hv0;clear hv0
   go_wp2_with fail
   refine (HEA.out _).mono ?_;rintro e w7 ⟨rfl,hb7,hz7,b0,b1,b2⟩;have HR7:=Bm0 (HRS.out.go hb7);have HB7:=Bm0 (HBL.out.st hb7);have HZ7:=Bm0 hz7;have HZW:=Bm0 HRS.out.sz;have HLA:=Bm0 HRS.out.lab;have HMK:=Bm0 (show ∀E∈Ds,E<wr.heap.size from fun E hE=>(Bm7.1 (HRS.out.mks E hE).1).1);have HSEQ:=Bm0 (Ad.Et 3 (by decide) lo hi ab n es false v wr.heap.size w7 (HA.out.go HB7.out hhi) hvn hn hm (HE.out.key false) (by have:=HB7.out.size;omega) (by omega) b0 b1 b2);have HKB:=Bm0 (show ∀k,KpA lo hi wr.heap.size k->k<w7.heap.size from fun k hk=>by
    have:=HBL.out.size
    rcases hk with h|h<;>omega)
   have HTN:=Bm0 (show ∀(Wx Wy:World) (v':Nat) (l':List Int) (la':Option Addr) (lc':Nat),FoS W0 w.heap.size Wx n es D (s:Int) Ds v' l' la' lc'->(∀x,la'=some x->x.block≠w7.heap.size+1)->OffX (Av w7.heap.size) Wx Wy->FoS W0 w.heap.size Wy n es D (s:Int) Ds v' l' la' lc' from
    fun Wx Wy v' l' la' lc' h hl ho=>h.off ho (fun k e=>by have e':k=w7.heap.size+1:=e;have:=HZW.out;omega) (fun x hx e=>hl x hx e) (fun E hE e=>by have:=HMK.out E hE;have e':E=w7.heap.size+1:=e;omega))
   clear hb7 hz7 b0 b1 b2 r0' r1' y0' y1' ctv c6 x7
   go_wp2
   refine (wpIn_wide (n:=4)).1 (Gq rfl (by decide) (gf:=177) rfl trivial (enters_of Tryz.func177 (by kernel_rfl) rfl) HSEQ.out HKB.out (fun _=>rfl)
    (fun pre Wx=>FoS W0 w.heap.size Wx n es D (s:Int) Ds v l la lc/\Below w.heap.size w Wx/\(∀x∈pre,¬El D x.2)/\w7.heap.size<=Wx.heap.size)
    (fun c pre Wx=>c=.goto 0/\∃(i v':Nat) (la':Option Addr) (lc':Nat),D (v':Int)<D (v:Int)/\0<=D (v':Int)/\FoS W0 w.heap.size Wx n es D (s:Int) Ds v' (l++[(i:Int)]) la' lc'/\Below w.heap.size w Wx/\∀x,la'=some x->x.block≠w7.heap.size+1/\x.block≠w7.heap.size)
    (fun pre Wx Wy h ho=>by
     obtain ⟨h1,h2,h3,h4⟩:=h;exact ⟨HTN.out _ _ _ _ _ _ h1 (fun x hx=>by have:=HLA.out x hx;have:=HZ7.out;omega) ho,h2.trans (ho.below h2.size (fun k e=>by have e':k=w7.heap.size+1:=e;have:=HB7.out.size;omega)),h3,Bm4 h4 ho.size⟩)
    (fun c pre Wx Wy h ho=>by
     obtain ⟨h0,i,v',la',lc',h1,h2,h3,h4,h5⟩:=h;exact ⟨h0,i,v',la',lc',h1,h2,HTN.out _ _ _ _ _ _ h3 (fun x hx=>(h5 x hx).1) ho,h4.trans (ho.below h4.size (fun k e=>by have e':k=w7.heap.size+1:=e;have:=HB7.out.size;omega)),h5⟩)
    ⟨HR7.out,HB7.out,(fun x hx=>nomatch hx),Bm2 _⟩
    ?a1 (fun x Wx=>Wx.alloc (Obj.cells #[.int .i64 x.2.f,.int .i64 x.2.t,.int .u64 x.2.w] 109)) (fun x Wx=>Below.of_al _ _) ?assign ?body ?done ?stop)
   case assign=>
    intro l x Wx K hK
    dsimp only [Ak1,Ts]
    gi_wp2
    exact hK
   case stop=>
    rintro D' c pre Wx rfl hpp ⟨rfl,i,v',la',lc',h1,h2,h3,h4,h5⟩ hK9;refine wpIn_wide.2 ?_
    dsimp only
    go_step3
    repeat go_step
    rw [Mf];have hZw:=HZW.out;have hmq:=HMM.out;have hzq:=HZ7.out;exact ⟨(D (v':Int)).toNat,by omega,rfl,_,w7.heap.size::Ds,Aj1 44 _ _ rfl rfl,rfl,rfl,rfl,rfl,rfl,rfl,rfl,v',l++[(i:Int)],la',lc',h3.mark hK9 (by omega) (fun hm=>by have:=HMK.out _ hm;omega) (fun x hx=>(h5 x hx).2),h4,Bm2 _⟩
   case done=>
    rintro D' Wx rfl ⟨h1,h2,h3,h4⟩ hK9;refine absurd (Classical.byContradiction fun hne=>?_) HV0.out;have hAr:∀a b c,Am es a b c->Ac n a/\Ac n b/\1<=c:=fun a b c h=>by
     have:=XD.ok HE.out a b c (Im (bk:=false).2 h);exact ⟨this.1,this.2.1,this.2.2.1⟩
    have hlt:D (v:Int)<4611686018427387904:=by
     have:=HRS.out.dlt;omega
    refine Bd9 (v:=v) (fun j hj=>?_) (Ul hAr HD.out ⟨v0,v1⟩ hne hlt);exact h3 (Ey es (j:Int)) (List.mem_map.2 ⟨(j:Int),hj,rfl⟩)
   case body=>
    rintro l' pre ⟨xi,xf,xt,xw⟩ W9 Wx ⟨h1,h2,h3,h4⟩ hpx hsz ho;have hDz:w7.heap.size+1≠W9.heap.size:=by omega
    have y0:=ho.cell (p:=⟨W9.heap.size,0,none⟩) (v:=.int .i64 xf) (by go_simp) (fun e=>hDz (by unfold Av at e;exact e.symm));have y1:=ho.cell (p:=⟨W9.heap.size,1,none⟩) (v:=.int .i64 xt) (by go_simp) (fun e=>hDz (by unfold Av at e;exact e.symm));have y2:=ho.cell (p:=⟨W9.heap.size,2,none⟩) (v:=.int .u64 xw) (by go_simp) (fun e=>hDz (by unfold Av at e;exact e.symm));have hWx:W9.heap.size+1<=Wx.heap.size:=by have h9:=ho.size;rwa [World.size_alloc] at h9
    obtain ⟨suf,hsuf⟩:=hpx;obtain ⟨i,hi,hix,hspl⟩:∃i:Nat,∃hi:i<es.length,((xi,(⟨xf,xt,xw⟩:EdgeD))=((i:Int),es[i]))/\∃p q,Qc es false v=p++(i:Int)::q/\∀j:Nat,(j:Int)∈p->Ey es (j:Int)∈pre:=by
     unfold Jj at hsuf;rw [Bq3] at hsuf;obtain ⟨p,q,e1,e2,e3⟩:=List.map_eq_append_iff.1 hsuf.symm;obtain ⟨z,q',rfl,e4,e5⟩:=List.map_eq_cons_iff.1 e3;have hz:z∈Qc es false v:=by rw [e1];simp
     obtain ⟨i,rfl,hi,_⟩:=Dn.1 hz;refine ⟨i,hi,?_,p,q',e1,fun j hj=>by rw [<-e2];exact List.mem_map.2 ⟨_,hj,rfl⟩⟩;rw [<-e4];unfold Ey;rw [Bn4,Bm6,Bm5 hi];rfl
    obtain ⟨hxi,hes⟩:=Prod.mk.inj hix;subst hxi;have hesm:(⟨xf,xt,xw⟩:EdgeD)∈es:=by rw [hes];exact Bn2 hi
    obtain ⟨hnf,hnt,hw1,hw2⟩:=XD.ok HE.out xf xt xw (Im (bk:=false).2 ⟨_,hesm,rfl,rfl,rfl⟩);obtain ⟨tx,rfl⟩:∃q:Nat,xt=(q:Int):=⟨xt.toNat,by have:=hnt.1;omega⟩;have htx:tx<n:=by have:=hnt.2;omega
    have hgd:es.getD i edZ=⟨xf,(tx:Int),xw⟩:=by rw [hes];simp [List.getD,hi]
    have hff:xf=(v:Int):=by
     obtain ⟨p,q,e1,_⟩:=hspl;obtain ⟨i',e2,hi',hk'⟩:=Dn.1 (show (i:Int)∈Qc es false v by rw [e1];simp);have:i'=i:=by omega
     subst this;have h9:(es.getD i' edZ).f.toNat=v:=hk';rw [hgd] at h9;have:=hnf.1;simp only at h9;omega
    subst hff;have HFI:=Bm0 (fun hg:El D ⟨(v:Int),(tx:Int),xw⟩=>(show FirstE es D (v:Int) i from by
     obtain ⟨p,q,e1,e2⟩:=hspl;exact Az0 (pre:=p) (suf:=q) (fun e he=>(HE.out e he).1.1) e1 (by rw [hgd];exact hg) (fun j hj=>h3 _ (e2 j hj))))
    have HGD:=Bm0 hgd;have x11:=Bp ((h1.kp _ (by show w.heap.size+5<_;omega) (by show w.heap.size+5≠_;omega) (by show w.heap.size+5≠_;omega)).trans (HRS.out.kp _ (by show w.heap.size+5<_;omega) (by show w.heap.size+5≠_;omega) (by show w.heap.size+5≠_;omega)).symm) HX11.out;have HNR:=Bm0 (Ac7 n es far (w.heap.size+1) (w.heap.size+1+1) w.heap.size (w.heap.size+1+1+1) (some ⟨tb,t9,none⟩) wa fc wc i tx v (v:Int) xw Wx hn hm (by rw [Bm5 hi,<-hes]) htx hvn hlen HBD.out ⟨by omega,hw2⟩ (Bp ((h1.kp _ (by show w.heap.size+1<_;omega) (by show w.heap.size+1≠_;omega) (by show w.heap.size+1≠_;omega)).trans (HRS.out.kp _ (by show w.heap.size+1<_;omega) (by show w.heap.size+1≠_;omega) (by show w.heap.size+1≠_;omega)).symm) HX7.out) (Bp ((h1.kp _ (by show w.heap.size+2<_;omega) (by show w.heap.size+2≠_;omega) (by show w.heap.size+2≠_;omega)).trans (HRS.out.kp _ (by show w.heap.size+2<_;omega) (by show w.heap.size+2≠_;omega) (by show w.heap.size+2≠_;omega)).symm) HX8.out) h1.cv.1 (Bp ((h1.kp _ (by show w.heap.size+3<_;omega) (by show w.heap.size+3≠_;omega) (by show w.heap.size+3≠_;omega)).trans (HRS.out.kp _ (by show w.heap.size+3<_;omega) (by show w.heap.size+3≠_;omega) (by show w.heap.size+3≠_;omega)).symm) HX9.out) (HF.out.go h2) (HWT.out.go h2));have HX1:=Bm0 h1;have HX2:=Bm0 h2;have HX3:=Bm0 h3;have hge:=HDD.out;have HNG:=Bm0 (show Bl es far (v:Int) ⟨(v:Int),(tx:Int),xw⟩=true↔El D ⟨(v:Int),(tx:Int),xw⟩ by
     unfold Bl El;rw [hge];simp)
    have p6:=h1.cr.1;clear hix hes hesm hspl hsuf hgd h1 h2 h3 ho hnf hge
    by_cases hg:Bl es far (v:Int) ⟨(v:Int),(tx:Int),xw⟩=true
    ·rw [hg] at HNR
     have HGE:=Bm0 (HNG.out.1 hg);have HFE:=Bm0 (HFI.out HGE.out);have hAr:∀a b c,Am es a b c->Ac n a/\Ac n b/\1<=c:=fun a b c h=>by
      have:=XD.ok HE.out a b c (Im (bk:=false).2 h);exact ⟨this.1,this.2.1,this.2.2.1⟩
     have HLS:=Bm0 (Mh hAr HD.out HFE.out);rw [HGD.out] at HLS;have hl1:=HX1.out.short;clear hg hAr;obtain ⟨i0,hi0,hz0,hz1,hz2⟩:=info_parts Ce.1
     gi_wp2_with (first
      |(refine ⟨trivial,?_⟩;gi_at_call 187;refine (CallsIn.inRound l' (callsIn_wide.2 HNR.out)).mono ?_;rintro e w8 ⟨rfl,hb8⟩;(have HR8:=Bm0 (HX1.out.go hb8));(have HB8:=Bm0 (HX2.out.st hb8));(have u1:=Bm1 hb8 y1);(have p8:=HR8.out.cr.1);(have HZ8:=Bm0 hb8);clear hb8)
      |(gi_at_builtin;refine wpListIn_append_own_at _ rfl _ _ 25 rfl (w.heap.size+6) 3 i0 (.int .i64 0) 1 8 Tryz.underlying25 hi0 hz0 hz1 hz2 rfl (by decide) (.slice la l.length lc) _ _ rfl (HR8.out.go (Below.of_al _ _)).own ⟨w8.heap.size,0,none⟩ 1 1 [.int .i64 (i:Int)] rfl rfl (Bj7 _ _ _) (Bf2 _) (by unfold maxLen;omega) (by omega) (by have:=HR8.out.sz;simp;omega) ?_;intro v6 w6 hown hgrow _ hat;obtain ⟨la6,lc6,rfl,-⟩:=Cel.of_owns hown;(have HO6:=Bm0 hown);(have HG6:=Bm0 hgrow);(have HT6:=Bm0 hat);(have hkb:=fun (k:Nat) (h1:k<w8.heap.size) (h2:∀x,la=some x->x.block≠k)=>(hgrow.block k (by simp;omega) (fun e=>by obtain ⟨x,hx,e2⟩:=Wq e.symm;exact h2 x hx e2)).trans ((Below.of_al w8 (Obj.cells #[Value.int .i64 (i:Int)] 3)).block k h1));(have HKP:=Bm0 hkb);(have h9:=HR8.out);(have q4:=hkb (w.heap.size+4) (by have:=h9.sz;omega) (fun x hx=>by have:=(h9.la x hx).1;omega));(have q0:=hkb w.heap.size (by have:=h9.sz;omega) (fun x hx=>by have:=(h9.la x hx).1;omega));(have t4:=Bp (p:=⟨w.heap.size+4,0,none⟩) q4 h9.cr.1);(have f4:=Ij (p:=⟨w.heap.size+4,0,none⟩) q4 h9.cr.2.2.1);(have t0:=Bp (p:=⟨w.heap.size,0,none⟩) q0 h9.cv.1);(have f0:=Ij (p:=⟨w.heap.size,0,none⟩) q0 h9.cv.2);(have t1:=Bp (p:=⟨W9.heap.size,1,none⟩) (hkb W9.heap.size (by have:=HZ8.out.size;omega) (fun x hx=>by have:=HLA.out x hx;have:=HZ7.out;omega)) u1);(have HZ6:=Bm0 (show w8.heap.size<=w6.heap.size by have:=hgrow.size;simp at this;omega));clear hown hgrow hat hkb h9 q4 q0))
     have hzq:=HZ7.out;have hwsz:=HZW.out;have h8sz:=HZ8.out.size;have h6sz:=HZ6.out;have h9:=HR8.out;have hlab:∀x,la=some x->w.heap.size+6<=x.block/\x.block<wr.heap.size:=fun x hx=>⟨(h9.la x hx).1,HLA.out x hx⟩;have hox:OffX (fun k=>∃x,la=some x/\x.block=k) w8 w6:=(OffX.of_below (Below.of_al w8 (Obj.cells #[Value.int .i64 (i:Int)] 3))).trans ((Ae4 HG6.out).mono (fun k e=>Wq e));have hla6:∀x,la6=some x->(∃y,la=some y/\y.block=x.block)\/x.block=w8.heap.size+1:=fun x hx=>by
      subst hx
      rcases HT6.out with e|e
      ·obtain ⟨y,hy,e2⟩:=Wq e.symm
       exact .inl ⟨y,hy,e2⟩
      ·have e2:=Bo9 e
       rw [World.size_alloc] at e2;exact .inr e2
     have hbel6:Below w.heap.size w w6:=HB8.out.trans (hox.below HB8.out.size (fun k ⟨x,hx,e⟩=>by have:=hlab x hx;omega));have hoff:OffX (fun k=>k=w.heap.size\/k=w.heap.size+4) w6 ((w6.setCell ⟨w.heap.size+4,0,none⟩ (.slice la6 (l.length+1) lc6)).setCell ⟨w.heap.size,0,none⟩ (.int .i64 (tx:Int))):=(OffX.set _ (.inr rfl)).trans (.set _ (.inl rfl));refine wpIn_goto ?_;refine ⟨⟨by have:=hoff.size;omega,fun k hk=>?_⟩,rfl,i,tx,la6,lc6,HLS.out.2.2.1,HLS.out.2.1,?_,?_,?_⟩
     ·have hk2:k<Wx.heap.size/\k≠w.heap.size/\k≠w.heap.size+4/\∀x,la=some x->x.block≠k:=by
       have hw7:=HB7.out.size
       rcases hk with h|h|h
       ·have:=HKB.out k h
        rcases h with h|h
        ·exact ⟨by omega,by omega,by omega,fun x hx=>by have:=hlab x hx;omega⟩
        ·exact ⟨by omega,by omega,by omega,fun x hx=>by have:=hlab x hx;omega⟩
       ·exact ⟨by omega,by omega,by omega,fun x hx=>by have:=hlab x hx;omega⟩
       ·exact ⟨by omega,by omega,by omega,fun x hx=>by have:=hlab x hx;omega⟩
      obtain ⟨k1,k2,k3,k4⟩:=hk2;exact (hoff.block k (by omega) (fun e=>by omega)).trans ((HKP.out k (by omega) k4).trans (HZ8.out.block k k1))
     ·have hnx:=h9.next (wr2:=w6) (v':=tx) (i:=i) (la':=la6) (lc':=lc6) hox (by rw [Bp0,List.length_singleton,Bq1];exact HO6.out) (fun x hx hm=>by
        rcases hla6 x hx with ⟨y,hy,e⟩|e
        ·exact (h9.la y hy).2 (e▸hm)
        ·have:=HMK.out _ hm
         have:=HX2.out.size;omega) htx (by have h8:=h9.seg.step HFE.out HV0.out;rw [HGD.out] at h8;exact h8) HLS.out.2.2.1
      rw [Bp0,List.length_singleton] at hnx;exact hnx
     ·exact hbel6.trans (hoff.below hbel6.size (fun k e=>by omega))
     ·intro x hx
      rcases hla6 x hx with ⟨y,hy,e⟩|e
      ·have:=hlab y hy
       omega
      ·omega
    ·have hg2:Bl es far (v:Int) ⟨(v:Int),(tx:Int),xw⟩=false:=by simpa using hg
     have HNO:=Bm0 (fun h=>hg (HNG.out.2 h));rw [hg2] at HNR;clear hg hg2
     gi_wp2_with (refine ⟨trivial,?_⟩;gi_at_call 187;refine (CallsIn.inRound l' (callsIn_wide.2 HNR.out)).mono ?_;rintro e w8 ⟨rfl,hb8⟩)
     refine ⟨⟨hb8.size,fun k hk=>hb8.block k ?_⟩,HX1.out.go hb8,HX2.out.st hb8,fun x hx=>?_,by have:=hb8.size;omega⟩
     ·have:=HKB.out k
      rcases hk with h|h|h
      ·have:=HKB.out k h;omega
      ·omega
      ·omega
     ·rcases Bp3.1 hx with hx|hx
      ·exact HX3.out x hx
      ·obtain rfl:=Bn7.1 hx
       exact HNO.out
 ·rintro n' l' a' w' hne ⟨h,_⟩
  exact absurd h hne
end Dj
end Go.Proofs.YteaaapdjplbljaaGreat
