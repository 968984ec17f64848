/- Parts; no condition. -/
import Derived.Test.YteaaapdjplbljaaGreatVc39
import Derived.Maps.OwnIn
set_option linter.unusedVariables false
set_option linter.unusedSimpArgs false
set_option linter.unnecessarySimpa false
set_option maxRecDepth 100000
set_option maxHeartbeats 8000000
namespace Go.Proofs.YteaaapdjplbljaaGreat
section
namespace Dj
open Go Go.Proofs Go.RowKit Go.Shelf Hp Ch Ad Ro
attribute [local go_sem] Oper.semAt_some
def Bb1 (n:Nat) (u:Nat->Value) (Ds:List Nat):Act:=⟨((List.range n).map u).toArray,Qu Ds⟩
theorem Ag3 (n:Nat) (a:Act) (Ds:List Nat) (h:a.tmps.size=n) (hd:a.defers=Qu Ds):a=Bb1 n (fun i=>a.tmps.getD i undef) Ds:=by
 cases a with
 |mk t d=>
  simp only at h hd;subst hd;unfold Bb1
  congr 1
  apply Array.ext
  ·simp [h]
  ·intro i h1 h2
   simp [h1]
theorem Bf9 (w:World) (y:Value) (T:TypeId):∀(j:Nat) (u:Value),[y][j]? =some u->(w.alloc (Obj.cells #[y] T)).cell? ((⟨w.heap.size,0,none⟩:Addr).add j)=some u:=by
 intro j u hu
 match j with
 |0=>cases hu;go_simp
 |j+1=>simp at hu
theorem Bb7 (y:Int):∀u∈[Value.int .i64 y],u.oneCell'=true:=fun u hu=>by rw [Bk2.1 hu];rfl
def Sf (es:List EdgeD) (D:Int->Int) (s:Int) (w:World) (e:Ending) (w':World):Prop:=
 ∃(la:Option Addr) (p:List Int) (lc:Nat),e=.returned (.agg #[.slice la p.length lc,.int .u64 (D s)])/\Cel w' la (p.map Aj)/\Below w.heap.size w w'/\RP es D s p/\∀x,la=some x->w.heap.size<=x.block
def FoJ (w W0:World) (ab n:Nat) (es:List EdgeD) (D:Int->Int) (s:Int) (mm l0:Nat) (a:Act) (wr:World):Prop:=
 l0=0/\∃(u:Nat->Value) (Ds:List Nat),a=Bb1 44 u Ds/\u 0=.pointer (some ⟨ab,0,none⟩)/\u 6=.pointer (some ⟨w.heap.size,0,none⟩)/\u 7=.pointer (some ⟨w.heap.size+1,0,none⟩)/\u 8=.pointer (some ⟨w.heap.size+2,0,none⟩)/\u 9=.pointer (some ⟨w.heap.size+3,0,none⟩)/\u 10=.pointer (some ⟨w.heap.size+4,0,none⟩)/\u 11=.pointer (some ⟨w.heap.size+5,0,none⟩)/\
  Aside (∃v l la lc,FoS W0 w.heap.size wr n es D s Ds v l la lc/\Below w.heap.size w wr/\(D (v:Int)).toNat<=mm)
theorem Ab8 (lo hi ab n s fc wc:Nat) (es:List EdgeD) (fa wa:Option Addr) (far:List Int) (t:Int) (w:World) (hA:AdjM w lo hi ab n es) (hhi:hi<=w.heap.size) (hF:Cel w fa (far.map Bz)) (hWt:Cel w wa ((Hk es).map Bz)) (hE:EOK n es) (hn:n<=50000) (hm:es.length<=50000) (hs:s<n)
  (hD:ToD es n t (gD far)) (hlen:far.length=n) (hb:∀x∈far,0<=x/\x<=4611686018427387904) (hfs:gD far (s:Int)<=1152921504606846976):
  Calls Tryz.prog 134 #[.pointer (some ⟨ab,0,none⟩),.int .i64 (s:Int),.slice fa n fc,.slice wa es.length wc,Eb false] w (Sf es (gD far) (s:Int) w):=by
 obtain ⟨W,hW⟩:∃W,W=((((w.alloc (Obj.cells #[.int .i64 (s:Int)] 3)).alloc (Obj.cells #[.slice fa n fc] 60)).alloc (Obj.cells #[.slice wa es.length wc] 60)).alloc (Obj.cells #[.bool false,.slice none 0 0,.slice none 0 0,.slice none 0 0,.int .u64 0] 135)).alloc (Obj.cells #[.slice none 0 0,.int .u64 0] 39):=⟨_,rfl⟩;have hbw:Below w.heap.size w W:=by rw [hW];exact ((((Below.of_al _ _).al _).al _).al _).al _
 have hsz:W.heap.size=w.heap.size+5:=by rw [hW];simp
 have c6:W.cell? ⟨w.heap.size,0,none⟩=some (.int .i64 (s:Int)):=by rw [hW];go_simp
 have z6:W.frozen? ⟨w.heap.size,0,none⟩=false:=by rw [hW];go_simp
 have c7:W.cell? ⟨w.heap.size+1,0,none⟩=some (.slice fa n fc):=by rw [hW];go_simp
 have c8:W.cell? ⟨w.heap.size+2,0,none⟩=some (.slice wa es.length wc):=by rw [hW];go_simp
 have c9:W.cell? ⟨w.heap.size+3,2,none⟩=some (.slice none 0 0):=by rw [hW];go_simp
 have r0:W.cell? ⟨w.heap.size+4,0,none⟩=some (.slice none 0 0):=by rw [hW];go_simp
 have r1:W.cell? ⟨w.heap.size+4,1,none⟩=some (.int .u64 0):=by rw [hW];go_simp
 have y0:W.frozen? ⟨w.heap.size+4,0,none⟩=false:=by rw [hW];go_simp
 have y1:W.frozen? ⟨w.heap.size+4,1,none⟩=false:=by rw [hW];go_simp
 obtain ⟨tb,t9,hta,ct⟩:=(hF.go hbw) s (.int .u64 (gD far (s:Int))) (by rw [Bk4];unfold gD;rw [Bj9,Bj1,Bj0 (by omega)];rfl);have s0:(0:Int)<=(s:Int):=by omega
 have s1:(s:Int)<(n:Int):=by omega
 subst hta;have HW:=Bi5 hW;have HB:=Bi5 hbw;have HA:=Bi5 hA;have HF:=Bi5 hF;have HWT:=Bi5 hWt;have HE:=Bi5 hE;have HD:=Bi5 hD;have HBD:=Bi5 hb;have HSZ:=Bi5 hsz;have HFS:=Bi5 hfs;unfold Sf Eb;clear hW hbw hA hF hWt hE hD hb hsz hfs;obtain ⟨D,hDD⟩:∃D,D=gD far:=⟨_,rfl⟩;rw [<-hDD] at HD HFS ct ⊢;have HDD:=Bi5 hDD;clear hDD;refine (callsIn_wide (n:=4)).1 (callsIn_of_wp_marks Tryz.func134 rfl trivial (wpIn_wide.2 ?_) rfl);simp only [Tryz.ntmps134,List.size_toArray,Bk0,Bk1,Nat.reduceAdd,Nat.reduceSub,Array.replicate_succ,Array.replicate_zero,List.push_toArray,List.append_toArray,List.nil_append,List.cons_append]
 repeat go_step
 obtain ⟨W0,hW0⟩:∃W0,W0=(W.setCell ⟨w.heap.size+1+1+1+1,1,none⟩ (.int .u64 (D (s:Int)))).alloc (Obj.cells #[.func (.func 187) #[] #[.pointer (some ⟨w.heap.size+1,0,none⟩),.pointer (some ⟨w.heap.size+1+1,0,none⟩),.pointer (some ⟨w.heap.size,0,none⟩),.pointer (some ⟨w.heap.size+1+1+1,0,none⟩)]] 268):=⟨_,rfl⟩;have hb0:OffX (· =w.heap.size+4) W W0:=by
  have h9:OffX (· =w.heap.size+4) W (W.setCell ⟨w.heap.size+1+1+1+1,1,none⟩ (.int .u64 (D (s:Int)))):=.set _ rfl;rw [hW0];exact h9.trans (.of_below (Below.of_al _ _))
 have hsz:=HSZ.out;have hz0:W0.heap.size=w.heap.size+6:=by rw [hW0];simp [World.setCell];omega
 have k11:W0.cell? ⟨w.heap.size+5,0,none⟩=some (.func (.func 187) #[] #[.pointer (some ⟨w.heap.size+1,0,none⟩),.pointer (some ⟨w.heap.size+1+1,0,none⟩),.pointer (some ⟨w.heap.size,0,none⟩),.pointer (some ⟨w.heap.size+1+1+1,0,none⟩)]):=by
  rw [hW0,show w.heap.size+5=(W.setCell ⟨w.heap.size+1+1+1+1,1,none⟩ (.int .u64 (D (s:Int)))).heap.size by simp [World.setCell];omega]
  go_simp
 have hB0:Below w.heap.size w W0:=HB.out.trans (hb0.below HB.out.size (fun k e=>by have e:k=w.heap.size+4:=e;omega));have hFo:FoS W0 w.heap.size W0 n es D (s:Int) [] s [] none 0:=by
  have b6:=hb0.block w.heap.size (by omega) (fun e=>by have e:w.heap.size=w.heap.size+4:=e;omega);have b10:W0.cell? ⟨w.heap.size+4,0,none⟩=some (.slice none 0 0):=by
   rw [hW0];exact Bi6 (Below.of_al _ _) ((Bj3 _ _ _ _ (by simp)).trans r0)
  have b11:W0.cell? ⟨w.heap.size+4,1,none⟩=some (.int .u64 (D (s:Int))):=by
   rw [hW0];exact Bi6 (Below.of_al _ _) (Bj4 _ _ _ r1)
  have fr:∀j,W.frozen? ⟨w.heap.size+4,j,none⟩=false->W0.frozen? ⟨w.heap.size+4,j,none⟩=false:=fun j hj=>by
   rw [hW0,(Below.of_al (W.setCell ⟨w.heap.size+1+1+1+1,1,none⟩ (.int .u64 (D (s:Int)))) _).frozen (p:=⟨w.heap.size+4,j,none⟩) (by simp [World.setCell];omega),Bm1];exact hj
  exact ⟨⟨Bm b6 c6,Hx b6 z6⟩,⟨b10,b11,fr 0 y0,fr 1 y1⟩,fun _ _ _ _=>rfl,World.ownsRow_nil _ _ _ _,(fun _ h=>nomatch h),(fun _ h=>nomatch h),List.nodup_nil,by omega,hs,Seg.start _,⟨Int.le_refl _,HFS.out⟩,[],rfl,List.nodup_nil,fun _ h=>nomatch h⟩
 have HW0:=Bi5 hW0;have HFO:=Bi5 hFo;have HB0:=Bi5 hB0;have HO0:=Bi5 hb0;have K11:=Bi5 k11;have HZ0:=Bi5 hz0;clear hW0 hFo hB0 hb0 k11 hz0 hsz;refine Ko 0 (D (s:Int)).toNat (FoJ w W0 ab n es D (s:Int)) rfl ?_ ?_ ?_ ?_
 ·rintro m m' l a w' hle ⟨h1,u,Ds,e1,e2,e3,e4,e5,e6,e7,e8,h6⟩
  obtain ⟨v,l',la,lc,q1,q2,q3⟩:=h6;exact ⟨h1,u,Ds,e1,e2,e3,e4,e5,e6,e7,e8,v,l',la,lc,q1,q2,Bi9 q3 hle⟩
 ·intro hcont
  have HCONT:=Bi5 hcont;clear hcont
  go_upto_region 1 with (fail)
  rw [<-HW.out]
  go_wp2_with fail
  rw [<-HW0.out,HSZ.out]
  go_step3
  first
   |refine HCONT.out _ _ ?_
   |(go_step;refine HCONT.out _ _ ?_)
   |(go_step;go_step;refine HCONT.out _ _ ?_)
   |(go_step;go_step;go_step;refine HCONT.out _ _ ?_)
  exact ⟨rfl,_,[],Ag3 44 _ [] rfl rfl,rfl,rfl,rfl,rfl,rfl,rfl,rfl,s,[],none,0,HFO.out,HB0.out,Bi7 _⟩
 ·rintro mm a wr ⟨-,u,Ds,rfl,e0,e6,e7,e8,e9,e10,e11,hst⟩
  obtain ⟨v,l,la,lc,hFS,hbl,hmm⟩:=hst;have c6:=hFS.cv.1;have x7:wr.cell? ⟨w.heap.size+1,0,none⟩=some (.slice (some ⟨tb,t9,none⟩) n fc):=Bm (hFS.kp _ (by show w.heap.size+1<_;omega) (by show w.heap.size+1≠_;omega) (by show w.heap.size+1≠_;omega)) (HO0.out.cell c7 (fun e=>by have e:w.heap.size+1=w.heap.size+4:=e;omega));have x8:wr.cell? ⟨w.heap.size+2,0,none⟩=some (.slice wa es.length wc):=Bm (hFS.kp _ (by show w.heap.size+2<_;omega) (by show w.heap.size+2≠_;omega) (by show w.heap.size+2≠_;omega)) (HO0.out.cell c8 (fun e=>by have e:w.heap.size+2=w.heap.size+4:=e;omega));have x9:wr.cell? ⟨w.heap.size+3,2,none⟩=some (.slice none 0 0):=Bm (hFS.kp _ (by show w.heap.size+3<_;omega) (by show w.heap.size+3≠_;omega) (by show w.heap.size+3≠_;omega)) (HO0.out.cell c9 (fun e=>by have e:w.heap.size+3=w.heap.size+4:=e;omega));have x11:=Bm (hFS.kp _ (by show w.heap.size+5<_;omega) (by show w.heap.size+5≠_;omega) (by show w.heap.size+5≠_;omega)) K11.out;have hvn:=hFS.vn;have v0:(0:Int)<=(v:Int):=by omega
  have v1:(v:Int)<(n:Int):=by omega
  obtain ⟨tb',t9',hta,ctv⟩:=(HF.out.go hbl) v (.int .u64 (D (v:Int))) (by rw [HDD.out,Bk4];unfold gD;rw [Bj9,Bj1,Bj0 (by omega)];rfl)
  cases hta
  have HEA:=Bi5 (fun W=>Ad.Hg ab (v:Int) false W);have HX7:=Bi5 x7;have HX8:=Bi5 x8;have HX9:=Bi5 x9;have HX11:=Bi5 x11;have HFR:=Bi5 (HF.out.go hbl);have HWR:=Bi5 (HWT.out.go hbl);have HAR:=Bi5 (HA.out.go hbl hhi);have HRS:=Bi5 hFS;have HBL:=Bi5 hbl;have HMM:=Bi5 hmm;have r0':=hFS.cr.1;have r1':=hFS.cr.2.1;have y0':=hFS.cr.2.2.1;have y1':=hFS.cr.2.2.2;simp only [Bb1,List.range,List.range.loop,List.map_cons,List.map_nil,e0,e6,e7,e8,e9,e10,e11];clear e0 e6 e7 e8 e9 e10 e11 hFS hbl hmm x8 x9 x11 c7 c8 c9 r0 r1 y0 y1 z6 ct s0 s1
  by_cases hv0:D (v:Int)=0
  ·have HV0:=Bi5 hv0
   rw [hv0] at ctv;clear hv0
   go_wp2
   simp only [Ty];have q0:((wr.setCell ⟨w.heap.size+4,0,none⟩ (.slice la l.length lc)).setCell ⟨w.heap.size+4,1,none⟩ (.int .u64 (D (s:Int)))).cell? ⟨w.heap.size+4,0,none⟩=some (.slice la l.length lc):=by
    rw [Bj3 _ _ _ _ (by simp)];exact Bj4 _ _ _ r0'
   have q1:((wr.setCell ⟨w.heap.size+4,0,none⟩ (.slice la l.length lc)).setCell ⟨w.heap.size+4,1,none⟩ (.int .u64 (D (s:Int)))).cell? ⟨w.heap.size+4,1,none⟩=some (.int .u64 (D (s:Int))):=
    Bj4 (u:=.int .u64 (D (s:Int))) _ _ _ (by rw [Bj3 _ _ _ _ (by simp)];exact r1')
   have h9:=HRS.out;have hox:OffX (· =w.heap.size+4) wr ((wr.setCell ⟨w.heap.size+4,0,none⟩ (.slice la l.length lc)).setCell ⟨w.heap.size+4,1,none⟩ (.int .u64 (D (s:Int)))):=by
    have h1:OffX (· =w.heap.size+4) wr (wr.setCell ⟨w.heap.size+4,0,none⟩ (.slice la l.length lc)):=.set _ rfl;exact h1.trans (.set _ rfl)
   refine Eu Ds _ h9.nod (fun E hE=>?_) (fun W9 ho9=>⟨.agg #[.slice la l.length lc,.int .u64 (D (s:Int))],?_,?_⟩)
   ·have hm9:=h9.mks E hE
    exact (hox.block E (Bj2.1 hm9.1).1 (fun e=>by have e:E=w.heap.size+4:=e;have:=hm9.2;omega)).trans hm9.1
   ·have hn4:¬w.heap.size+4∈Ds:=fun hm=>by have:=(h9.mks _ hm).2;omega
    have s0:=ho9.cell q0 hn4;have s1:=ho9.cell q1 hn4;simp [results,Tryz.results134,go_sem,s0,s1]
    try rfl
   ·have hall:OffX (fun k=>k=w.heap.size+4\/k∈Ds) wr W9:=(hox.mono (fun k e=>.inl e)).trans (ho9.mono (fun k e=>.inr e))
    refine ⟨la,l,lc,rfl,fun i u hu=>?_,HBL.out.trans (hall.below HBL.out.size (fun k e=>?_)),h9.seg.stop HV0.out,fun x hx=>by have:=(h9.la x hx).1;omega⟩
    ·obtain ⟨b,o,e,h8⟩:=h9.cl i u hu
     have hl2:=h9.la _ e;simp only at hl2;exact ⟨b,o,e,hall.cell h8 (fun hm=>by
      rcases hm with e2|e2
      ·have e3:b=w.heap.size+4:=e2
       omega
      ·exact hl2.2 e2)⟩
    ·rcases e with e|e
     ·omega
     ·have:=(h9.mks k e).2
      omega
  ·have hv2:(D (v:Int)==0)=false:=by simpa using hv0
   have HV0:=Bi5 hv0;clear hv0
   go_wp2_with fail
   refine (HEA.out _).mono ?_;rintro e w7 ⟨rfl,hb7,hz7,b0,b1,b2⟩;have HR7:=Bi5 (HRS.out.go hb7);have HB7:=Bi5 (HBL.out.st hb7);have HZ7:=Bi5 hz7;have HZW:=Bi5 HRS.out.sz;have HLA:=Bi5 HRS.out.lab;have HMK:=Bi5 (show ∀E∈Ds,E<wr.heap.size from fun E hE=>(Bj2.1 (HRS.out.mks E hE).1).1);have HSEQ:=Bi5 (Ad.En 3 (by decide) lo hi ab n es false v wr.heap.size w7 (HA.out.go HB7.out hhi) hvn hn hm (HE.out.key false) (by have:=HB7.out.size;omega) (by omega) b0 b1 b2);have HKB:=Bi5 (show ∀k,KpA lo hi wr.heap.size k->k<w7.heap.size from fun k hk=>by
    have:=HBL.out.size
    rcases hk with h|h<;>omega)
   have HTN:=Bi5 (show ∀(Wx Wy:World) (v':Nat) (l':List Int) (la':Option Addr) (lc':Nat),FoS W0 w.heap.size Wx n es D (s:Int) Ds v' l' la' lc'->(∀x,la'=some x->x.block≠w7.heap.size+1)->OffX (Au w7.heap.size) Wx Wy->FoS W0 w.heap.size Wy n es D (s:Int) Ds v' l' la' lc' from
    fun Wx Wy v' l' la' lc' h hl ho=>h.off ho (fun k e=>by have e':k=w7.heap.size+1:=e;have:=HZW.out;omega) (fun x hx e=>hl x hx e) (fun E hE e=>by have:=HMK.out E hE;have e':E=w7.heap.size+1:=e;omega))
   clear hb7 hz7 b0 b1 b2 r0' r1' y0' y1' ctv c6 x7
   go_wp2
   refine (wpIn_wide (n:=4)).1 (Ge rfl (by decide) (gf:=177) rfl trivial (enters_of Tryz.func177 (by kernel_rfl) rfl) HSEQ.out HKB.out (fun _=>rfl)
    (fun pre Wx=>FoS W0 w.heap.size Wx n es D (s:Int) Ds v l la lc/\Below w.heap.size w Wx/\(∀x∈pre,¬Ew D x.2)/\w7.heap.size<=Wx.heap.size)
    (fun c pre Wx=>c=.goto 0/\∃(i v':Nat) (la':Option Addr) (lc':Nat),D (v':Int)<D (v:Int)/\0<=D (v':Int)/\FoS W0 w.heap.size Wx n es D (s:Int) Ds v' (l++[(i:Int)]) la' lc'/\Below w.heap.size w Wx/\∀x,la'=some x->x.block≠w7.heap.size+1/\x.block≠w7.heap.size)
    (fun pre Wx Wy h ho=>by
     obtain ⟨h1,h2,h3,h4⟩:=h;exact ⟨HTN.out _ _ _ _ _ _ h1 (fun x hx=>by have:=HLA.out x hx;have:=HZ7.out;omega) ho,h2.trans (ho.below h2.size (fun k e=>by have e':k=w7.heap.size+1:=e;have:=HB7.out.size;omega)),h3,Bi9 h4 ho.size⟩)
    (fun c pre Wx Wy h ho=>by
     obtain ⟨h0,i,v',la',lc',h1,h2,h3,h4,h5⟩:=h;exact ⟨h0,i,v',la',lc',h1,h2,HTN.out _ _ _ _ _ _ h3 (fun x hx=>(h5 x hx).1) ho,h4.trans (ho.below h4.size (fun k e=>by have e':k=w7.heap.size+1:=e;have:=HB7.out.size;omega)),h5⟩)
    ⟨HR7.out,HB7.out,(fun x hx=>nomatch hx),Bi7 _⟩
    ?a1 (fun x Wx=>Wx.alloc (Obj.cells #[.int .i64 x.2.f,.int .i64 x.2.t,.int .u64 x.2.w] 109)) (fun x Wx=>Below.of_al _ _) ?assign ?body ?done ?stop)
   case assign=>
    intro l x Wx K hK
    dsimp only [Ah2,Sx]
    gi_wp2
    exact hK
   case stop=>
    rintro D' c pre Wx rfl hpp ⟨rfl,i,v',la',lc',h1,h2,h3,h4,h5⟩ hK9;refine wpIn_wide.2 ?_
    dsimp only
    go_step3
    repeat go_step
    rw [Lj];have hZw:=HZW.out;have hmq:=HMM.out;have hzq:=HZ7.out;exact ⟨(D (v':Int)).toNat,by omega,rfl,_,w7.heap.size::Ds,Ag3 44 _ _ rfl rfl,rfl,rfl,rfl,rfl,rfl,rfl,rfl,v',l++[(i:Int)],la',lc',h3.mark hK9 (by omega) (fun hm=>by have:=HMK.out _ hm;omega) (fun x hx=>(h5 x hx).2),h4,Bi7 _⟩
   case done=>
    rintro D' Wx rfl ⟨h1,h2,h3,h4⟩ hK9;refine absurd (Classical.byContradiction fun hne=>?_) HV0.out;have hAr:∀a b c,Am es a b c->Aa n a/\Aa n b/\1<=c:=fun a b c h=>by
     have:=XD.ok HE.out a b c (Ll (bk:=false).2 h);exact ⟨this.1,this.2.1,this.2.2.1⟩
    have hlt:D (v:Int)<4611686018427387904:=by
     have:=HRS.out.dlt;omega
    refine Ba6 (v:=v) (fun j hj=>?_) (Ak5 hAr HD.out ⟨v0,v1⟩ hne hlt);exact h3 (Er es (j:Int)) (List.mem_map.2 ⟨(j:Int),hj,rfl⟩)
   case body=>
    rintro l' pre ⟨xi,xf,xt,xw⟩ W9 Wx ⟨h1,h2,h3,h4⟩ hpx hsz ho;have hDz:w7.heap.size+1≠W9.heap.size:=by omega
    have y0:=ho.cell (p:=⟨W9.heap.size,0,none⟩) (v:=.int .i64 xf) (by go_simp) (fun e=>hDz (by unfold Au at e;exact e.symm));have y1:=ho.cell (p:=⟨W9.heap.size,1,none⟩) (v:=.int .i64 xt) (by go_simp) (fun e=>hDz (by unfold Au at e;exact e.symm));have y2:=ho.cell (p:=⟨W9.heap.size,2,none⟩) (v:=.int .u64 xw) (by go_simp) (fun e=>hDz (by unfold Au at e;exact e.symm));have hWx:W9.heap.size+1<=Wx.heap.size:=by have h9:=ho.size;rwa [World.size_alloc] at h9
    obtain ⟨suf,hsuf⟩:=hpx;obtain ⟨i,hi,hix,hspl⟩:∃i:Nat,∃hi:i<es.length,((xi,(⟨xf,xt,xw⟩:EdgeD))=((i:Int),es[i]))/\∃p q,Pi es false v=p++(i:Int)::q/\∀j:Nat,(j:Int)∈p->Er es (j:Int)∈pre:=by
     unfold It at hsuf;rw [Bm8] at hsuf;obtain ⟨p,q,e1,e2,e3⟩:=List.map_eq_append_iff.1 hsuf.symm;obtain ⟨z,q',rfl,e4,e5⟩:=List.map_eq_cons_iff.1 e3;have hz:z∈Pi es false v:=by rw [e1];simp
     obtain ⟨i,rfl,hi,_⟩:=Dk.1 hz;refine ⟨i,hi,?_,p,q',e1,fun j hj=>by rw [<-e2];exact List.mem_map.2 ⟨_,hj,rfl⟩⟩;rw [<-e4];unfold Er;rw [Bj9,Bj1,Bj0 hi];rfl
    obtain ⟨hxi,hes⟩:=Prod.mk.inj hix;subst hxi;have hesm:(⟨xf,xt,xw⟩:EdgeD)∈es:=by rw [hes];exact Bj7 hi
    obtain ⟨hnf,hnt,hw1,hw2⟩:=XD.ok HE.out xf xt xw (Ll (bk:=false).2 ⟨_,hesm,rfl,rfl,rfl⟩);obtain ⟨tx,rfl⟩:∃q:Nat,xt=(q:Int):=⟨xt.toNat,by have:=hnt.1;omega⟩;have htx:tx<n:=by have:=hnt.2;omega
    have hgd:es.getD i edZ=⟨xf,(tx:Int),xw⟩:=by rw [hes];simp [List.getD,hi]
    have hff:xf=(v:Int):=by
     obtain ⟨p,q,e1,_⟩:=hspl;obtain ⟨i',e2,hi',hk'⟩:=Dk.1 (show (i:Int)∈Pi es false v by rw [e1];simp);have:i'=i:=by omega
     subst this;have h9:(es.getD i' edZ).f.toNat=v:=hk';rw [hgd] at h9;have:=hnf.1;simp only at h9;omega
    subst hff;have HFI:=Bi5 (fun hg:Ew D ⟨(v:Int),(tx:Int),xw⟩=>(show FirstE es D (v:Int) i from by
     obtain ⟨p,q,e1,e2⟩:=hspl;exact Av9 (pre:=p) (suf:=q) (fun e he=>(HE.out e he).1.1) e1 (by rw [hgd];exact hg) (fun j hj=>h3 _ (e2 j hj))))
    have HGD:=Bi5 hgd;have x11:=Bm ((h1.kp _ (by show w.heap.size+5<_;omega) (by show w.heap.size+5≠_;omega) (by show w.heap.size+5≠_;omega)).trans (HRS.out.kp _ (by show w.heap.size+5<_;omega) (by show w.heap.size+5≠_;omega) (by show w.heap.size+5≠_;omega)).symm) HX11.out;have HNR:=Bi5 (Aa0 n es far (w.heap.size+1) (w.heap.size+1+1) w.heap.size (w.heap.size+1+1+1) (some ⟨tb,t9,none⟩) wa fc wc i tx v (v:Int) xw Wx hn hm (by rw [Bj0 hi,<-hes]) htx hvn hlen HBD.out ⟨by omega,hw2⟩ (Bm ((h1.kp _ (by show w.heap.size+1<_;omega) (by show w.heap.size+1≠_;omega) (by show w.heap.size+1≠_;omega)).trans (HRS.out.kp _ (by show w.heap.size+1<_;omega) (by show w.heap.size+1≠_;omega) (by show w.heap.size+1≠_;omega)).symm) HX7.out) (Bm ((h1.kp _ (by show w.heap.size+2<_;omega) (by show w.heap.size+2≠_;omega) (by show w.heap.size+2≠_;omega)).trans (HRS.out.kp _ (by show w.heap.size+2<_;omega) (by show w.heap.size+2≠_;omega) (by show w.heap.size+2≠_;omega)).symm) HX8.out) h1.cv.1 (Bm ((h1.kp _ (by show w.heap.size+3<_;omega) (by show w.heap.size+3≠_;omega) (by show w.heap.size+3≠_;omega)).trans (HRS.out.kp _ (by show w.heap.size+3<_;omega) (by show w.heap.size+3≠_;omega) (by show w.heap.size+3≠_;omega)).symm) HX9.out) (HF.out.go h2) (HWT.out.go h2));have HX1:=Bi5 h1;have HX2:=Bi5 h2;have HX3:=Bi5 h3;have hge:=HDD.out;have HNG:=Bi5 (show Bh es far (v:Int) ⟨(v:Int),(tx:Int),xw⟩=true↔Ew D ⟨(v:Int),(tx:Int),xw⟩ by
     unfold Bh Ew;rw [hge];simp)
    have p6:=h1.cr.1;clear hix hes hesm hspl hsuf hgd h1 h2 h3 ho hnf hge
    by_cases hg:Bh es far (v:Int) ⟨(v:Int),(tx:Int),xw⟩=true
    ·rw [hg] at HNR
     have HGE:=Bi5 (HNG.out.1 hg);have HFE:=Bi5 (HFI.out HGE.out);have hAr:∀a b c,Am es a b c->Aa n a/\Aa n b/\1<=c:=fun a b c h=>by
      have:=XD.ok HE.out a b c (Ll (bk:=false).2 h);exact ⟨this.1,this.2.1,this.2.2.1⟩
     have HLS:=Bi5 (Rm hAr HD.out HFE.out);rw [HGD.out] at HLS;have hl1:=HX1.out.short;clear hg hAr;obtain ⟨i0,hi0,hz0,hz1,hz2⟩:=info_parts Dc.1
     gi_wp2_with (first
      |(refine ⟨trivial,?_⟩;gi_at_call 187;refine (CallsIn.inRound l' (callsIn_wide.2 HNR.out)).mono ?_;rintro e w8 ⟨rfl,hb8⟩;(have HR8:=Bi5 (HX1.out.go hb8));(have HB8:=Bi5 (HX2.out.st hb8));(have u1:=Bi6 hb8 y1);(have p8:=HR8.out.cr.1);(have HZ8:=Bi5 hb8);clear hb8)
      |(gi_at_builtin;refine wpListIn_append_own_at _ rfl _ _ 25 rfl (w.heap.size+6) 3 i0 (.int .i64 0) 1 8 Tryz.underlying25 hi0 hz0 hz1 hz2 rfl (by decide) (.slice la l.length lc) _ _ rfl (HR8.out.go (Below.of_al _ _)).own ⟨w8.heap.size,0,none⟩ 1 1 [.int .i64 (i:Int)] rfl rfl (Bf9 _ _ _) (Bb7 _) (by unfold maxLen;omega) (by omega) (by have:=HR8.out.sz;simp;omega) ?_;intro v6 w6 hown hgrow _ hat;obtain ⟨la6,lc6,rfl,-⟩:=Cel.of_owns hown;(have HO6:=Bi5 hown);(have HG6:=Bi5 hgrow);(have HT6:=Bi5 hat);(have hkb:=fun (k:Nat) (h1:k<w8.heap.size) (h2:∀x,la=some x->x.block≠k)=>(hgrow.block k (by simp;omega) (fun e=>by obtain ⟨x,hx,e2⟩:=Vo e.symm;exact h2 x hx e2)).trans ((Below.of_al w8 (Obj.cells #[Value.int .i64 (i:Int)] 3)).block k h1));(have HKP:=Bi5 hkb);(have h9:=HR8.out);(have q4:=hkb (w.heap.size+4) (by have:=h9.sz;omega) (fun x hx=>by have:=(h9.la x hx).1;omega));(have q0:=hkb w.heap.size (by have:=h9.sz;omega) (fun x hx=>by have:=(h9.la x hx).1;omega));(have t4:=Bm (p:=⟨w.heap.size+4,0,none⟩) q4 h9.cr.1);(have f4:=Hx (p:=⟨w.heap.size+4,0,none⟩) q4 h9.cr.2.2.1);(have t0:=Bm (p:=⟨w.heap.size,0,none⟩) q0 h9.cv.1);(have f0:=Hx (p:=⟨w.heap.size,0,none⟩) q0 h9.cv.2);(have t1:=Bm (p:=⟨W9.heap.size,1,none⟩) (hkb W9.heap.size (by have:=HZ8.out.size;omega) (fun x hx=>by have:=HLA.out x hx;have:=HZ7.out;omega)) u1);(have HZ6:=Bi5 (show w8.heap.size<=w6.heap.size by have:=hgrow.size;simp at this;omega));clear hown hgrow hat hkb h9 q4 q0))
     have hzq:=HZ7.out;have hwsz:=HZW.out;have h8sz:=HZ8.out.size;have h6sz:=HZ6.out;have h9:=HR8.out;have hlab:∀x,la=some x->w.heap.size+6<=x.block/\x.block<wr.heap.size:=fun x hx=>⟨(h9.la x hx).1,HLA.out x hx⟩;have hox:OffX (fun k=>∃x,la=some x/\x.block=k) w8 w6:=(OffX.of_below (Below.of_al w8 (Obj.cells #[Value.int .i64 (i:Int)] 3))).trans ((Ab6 HG6.out).mono (fun k e=>Vo e));have hla6:∀x,la6=some x->(∃y,la=some y/\y.block=x.block)\/x.block=w8.heap.size+1:=fun x hx=>by
      subst hx
      rcases HT6.out with e|e
      ·obtain ⟨y,hy,e2⟩:=Vo e.symm
       exact .inl ⟨y,hy,e2⟩
      ·have e2:=Bl4 e
       rw [World.size_alloc] at e2;exact .inr e2
     have hbel6:Below w.heap.size w w6:=HB8.out.trans (hox.below HB8.out.size (fun k ⟨x,hx,e⟩=>by have:=hlab x hx;omega));have hoff:OffX (fun k=>k=w.heap.size\/k=w.heap.size+4) w6 ((w6.setCell ⟨w.heap.size+4,0,none⟩ (.slice la6 (l.length+1) lc6)).setCell ⟨w.heap.size,0,none⟩ (.int .i64 (tx:Int))):=(OffX.set _ (.inr rfl)).trans (.set _ (.inl rfl));refine wpIn_goto ?_;refine ⟨⟨by have:=hoff.size;omega,fun k hk=>?_⟩,rfl,i,tx,la6,lc6,HLS.out.2.2.1,HLS.out.2.1,?_,?_,?_⟩
     ·have hk2:k<Wx.heap.size/\k≠w.heap.size/\k≠w.heap.size+4/\∀x,la=some x->x.block≠k:=by
       have hw7:=HB7.out.size
       rcases hk with h|h|h
       ·have:=HKB.out k h
        rcases h with h|h
        ·exact ⟨by omega,by omega,by omega,fun x hx=>by have:=hlab x hx;omega⟩
        ·exact ⟨by omega,by omega,by omega,fun x hx=>by have:=hlab x hx;omega⟩
       ·exact ⟨by omega,by omega,by omega,fun x hx=>by have:=hlab x hx;omega⟩
       ·exact ⟨by omega,by omega,by omega,fun x hx=>by have:=hlab x hx;omega⟩
      obtain ⟨k1,k2,k3,k4⟩:=hk2;exact (hoff.block k (by omega) (fun e=>by omega)).trans ((HKP.out k (by omega) k4).trans (HZ8.out.block k k1))
     ·have hnx:=h9.next (wr2:=w6) (v':=tx) (i:=i) (la':=la6) (lc':=lc6) hox (by rw [Bl5,List.length_singleton,Bm6];exact HO6.out) (fun x hx hm=>by
        rcases hla6 x hx with ⟨y,hy,e⟩|e
        ·exact (h9.la y hy).2 (e▸hm)
        ·have:=HMK.out _ hm
         have:=HX2.out.size;omega) htx (by have h8:=h9.seg.step HFE.out HV0.out;rw [HGD.out] at h8;exact h8) HLS.out.2.2.1
      rw [Bl5,List.length_singleton] at hnx;exact hnx
     ·exact hbel6.trans (hoff.below hbel6.size (fun k e=>by omega))
     ·intro x hx
      rcases hla6 x hx with ⟨y,hy,e⟩|e
      ·have:=hlab y hy
       omega
      ·omega
    ·have hg2:Bh es far (v:Int) ⟨(v:Int),(tx:Int),xw⟩=false:=by simpa using hg
     have HNO:=Bi5 (fun h=>hg (HNG.out.2 h));rw [hg2] at HNR;clear hg hg2
     gi_wp2_with (refine ⟨trivial,?_⟩;gi_at_call 187;refine (CallsIn.inRound l' (callsIn_wide.2 HNR.out)).mono ?_;rintro e w8 ⟨rfl,hb8⟩)
     refine ⟨⟨hb8.size,fun k hk=>hb8.block k ?_⟩,HX1.out.go hb8,HX2.out.st hb8,fun x hx=>?_,by have:=hb8.size;omega⟩
     ·have:=HKB.out k
      rcases hk with h|h|h
      ·have:=HKB.out k h;omega
      ·omega
      ·omega
     ·rcases Bl8.1 hx with hx|hx
      ·exact HX3.out x hx
      ·obtain rfl:=Bk2.1 hx
       exact HNO.out
 ·rintro n' l' a' w' hne ⟨h,_⟩
  exact absurd h hne
end Dj
end
section
open Go Go.Proofs Go.RowKit
section
variable {a:Act} {P:Program} {Q:Exit->Act->World->Prop} {w:World}
def Na (P:Program) (Q:Exit->Act->World->Prop):List Oper->Act->World->Prop
 |[],a,w=>Q .normal a w
 |o::r,a,w=>o.wp P a w (fun a' w'=>Na P Q r a' w') Q
def Af4 (n:Nat) (rest:List Oper):Bool:=(List.range rest.length).all fun q=>match rest[q]? with
 |none=>false
 |some o=>o.guard.isNone&&(o.after.all fun e=>!Region.binds .any e||decide (e.on<n+1+q))&&(o.after.any fun e=>Region.binds .any e&&decide (e.on=n+q))
theorem Ar7 {n:Nat} {rest:List Oper} (h:Af4 n rest=true) {q:Nat} {o:Oper} (ho:rest[q]? =some o):o.guard=none/\(∀e∈o.after,Region.binds .any e=true->e.on<n+1+q)/\∃e∈o.after,Region.binds .any e=true/\e.on=n+q:=by
 have hlt:q<rest.length:=(Bj8.1 ho).1;unfold Af4 at h;have h1:=List.all_eq_true.1 h q (Bl9.2 hlt);rw [ho] at h1;simp only [Bool.and_eq_true] at h1;obtain ⟨⟨h2,h3⟩,h4⟩:=h1;refine ⟨Option.isNone_iff_eq_none.1 h2,fun e he hb=>?_,?_⟩
 ·have:=Array.all_eq_true_iff_forall_mem.1 h3 e he
  rw [hb] at this
  simpa using this
 ·obtain ⟨i,hi,h5⟩:=Array.any_eq_true.1 h4
  simp only [Bool.and_eq_true,decide_eq_true_eq] at h5;exact ⟨_,Array.getElem_mem hi,h5.1,h5.2⟩
def Ab3 (P:Program) (Q:Exit->Act->World->Prop) (l:List Oper) (n:Nat) (tl:List Oper) (a:Act) (w:World) (R:Nat->Value->World->Prop) (m:Nat) (T:Bool->World->World->Prop) (listed:Array Bool) (a':Act) (w':World):Prop:=
 listed.size=n+tl.length/\(((∀i,n<=i->listed.getD i false=false)/\(∀i o,i<n->l[i]? =some o->listed.getD i false=true->∀e∈o.after,Region.binds .any e=true->listed.getD e.on false=true)/\
  ∃vs:Nat->Value,a'=Al a (Ae l) vs n/\T (listed.getD m false) w w'/\∀i,i<n->listed.getD i false=true->R i (vs i) w')\/
  ∃q,1<=q/\q<=tl.length/\(∀i,i<n+q->listed.getD i false=true)/\(∀i,n+q<=i->listed.getD i false=false)/\Na P Q (tl.drop q) a' w')
theorem Pf {id:Nat} {l:List Oper} (n:Nat) (st:Oper) (rest:List Oper) (hst:l=l.take n++st::rest) (hln:(l.take n).length=n) (R:Nat->Value->World->Prop) (G:Nat->World->World->Prop) (m:Nat) (hmn:m<n) (T:Bool->World->World->Prop)
  (hm:P.follows .mixedOrders=true) (hB:Ua (l.take n) a.tmps.size=true) (hS:Ox l n st=true) (hR9:Af4 n rest=true)
  (hT0:T false w w.drew) (hTt:∀i b w' w'',T b w w'->(i=m->b=false)->G i w' w''->T (b||decide (i=m)) w w'') (hmono:∀i j v b w' w'',i≠j->T b w w'->G i w' w''->R j v w'->R j v w'')
  (hop:Bx (fun i o=>∀(act:Act) w' b,(i=m->b=false)->T b w w'->(∀j,Cc l i j=true->R j (act.tmps.getD (Ae l j) undef) w')->(∀t,Kk l n t=true->act.tmps.getD t undef=a.tmps.getD t undef)->
   ∀K:Act->World->Prop,(∀v w'',G i w' w''->R i v w''->K (act.put o.dst v) w'')->(Ta l act o true/\o.wp P act w' K Q)\/(Ta l act o false/\K (act.put o.dst undef) w')) 0 (l.take n))
  (hend:∀(vs:Nat->Value) act w',T true w w'->(∀i,i<n->R i (vs i) w')->(∀j,j<n->act.tmps.getD (Ae l j) undef=vs j)->(∀t,Kk l n t=true->act.tmps.getD t undef=a.tmps.getD t undef)->act=Al a (Ae l) vs n->Na P Q (st::rest) act w'):(Code.region id l.toArray true).wp P Q a w:=by
 obtain ⟨tl,htl⟩:∃tl,tl=st::rest:=⟨_,rfl⟩;have htl1:1<=tl.length:=by rw [htl];simp
 have hlen:l.length=n+tl.length:=by rw [hst,Bl5,hln,htl]
 have hat:∀i,i<n->l[i]? =(l.take n)[i]?:=fun i hi=>by rw [Bn6 hi]
 have hda:∀i,i<n->Ae l i=Ae (l.take n) i:=fun i hi=>by unfold Ae;rw [hat i hi]
 have hatq:∀q,l[n+q]? =tl[q]?:=fun q=>by
  rw [hst,Bm3 (by omega),hln,Nat.add_sub_cancel_left,<-htl]
 have hatn:l[n]? =some st:=by
  have:=hatq 0;rw [Nat.add_zero,htl] at this;exact this
 have hg:=fun i (hi:i<n)=>Dv hB (Bj0 (show i<(l.take n).length by omega));have hD:∀i,i<n->Ae l i<a.tmps.size:=fun i hi=>by rw [hda i hi];exact (hg i hi).2.1
 have hinj:∀i j,i<n->j<n->Ae l i=Ae l j->i=j:=fun i j hi hj e=>by
  rw [hda i hi,hda j hj] at e
  rcases Nat.lt_trichotomy i j with k|k|k
  ·exact absurd e ((hg j hj).2.2.2 i k)
  ·exact k
  ·exact absurd e.symm ((hg i hi).2.2.2 j k)
 have hord:∀i o,i<n->l[i]? =some o->∀e∈o.after,Region.binds .any e=true->e.on<i:=fun i o hi ho=>(Dv hB ((hat i hi).symm.trans ho)).2.2.1;have hon:∀vs j,j<n->(Al a (Ae l) vs n).tmps.getD (Ae l j) undef=vs j:=fun vs j hj=>by
  rw [Bm0,Gg hinj hj (hD j hj)];rfl
 have hoff:∀vs t,Kk l n t=true->(Al a (Ae l) vs n).tmps.getD t undef=a.tmps.getD t undef:=fun vs t ht=>by
  rw [Bm0,Bm0,Et (fun i hi e=>by
   have:=List.all_eq_true.1 ht i (Bl9.2 hi);simp [e] at this)]
 unfold Ox at hS;simp only [Bool.and_eq_true] at hS;obtain ⟨⟨s1,s2⟩,s3⟩:=hS;have hsd:∀e∈st.after,Region.binds .any e=true->e.on<n:=fun e he hb=>by
  rw [Array.all_eq_true_iff_forall_mem] at s2;have:=s2 e he;rw [hb] at this
  simpa using this
 have hwait:∀i,i<n->∃j,i<j/\j<=n/\∃o,l[j]? =some o/\∃e∈o.after,Region.binds .any e=true/\e.on=i:=fun i hi=>by
  have k1:=List.all_eq_true.1 s3 i (Bl9.2 hi);obtain ⟨j,hj,k2⟩:=List.any_eq_true.1 k1;simp only [Bool.and_eq_true,decide_eq_true_eq] at k2;obtain ⟨o,ho,k3⟩:=Region.waitsFor_spec k2.2;exact ⟨j,k2.1,by have:=Bl9.1 hj;omega,o,by simpa using ho,k3⟩
 have hrest:∀q o,1<=q->tl[q]? =some o->o.guard=none/\(∀e∈o.after,Region.binds .any e=true->e.on<n+q)/\∃e∈o.after,Region.binds .any e=true/\e.on=n+q-1:=fun q o hq ho=>by
  obtain ⟨q',rfl⟩:∃q',q=q'+1:=⟨q-1,by omega⟩;rw [htl,Bk6] at ho;obtain ⟨h1,h2,e,he,hb,h3⟩:=Ar7 hR9 ho;exact ⟨h1,fun e he hb=>by have:=h2 e he hb;omega,e,he,hb,by omega⟩
 have htail:∀q o,tl[q]? =some o->o.guard=none/\∀e∈o.after,Region.binds .any e=true->e.on<n+q:=fun q o ho=>by
  by_cases hq:q=0
  ·subst hq
   rw [htl] at ho;obtain rfl:st=o:=by simpa using ho
   exact ⟨Option.isNone_iff_eq_none.1 s1,fun e he hb=>by have:=hsd e he hb;omega⟩
  ·have:=hrest q o (by omega) ho
   exact ⟨this.1,this.2.1⟩
 have ha:=Hr (a:=a) (a':=a) hinj rfl rfl hD (fun _ _=>rfl);have hsetl:∀(listed:Array Bool) i j,listed.size=n+tl.length->i<n+tl.length->(listed.setIfInBounds i true).getD j false=if j=i then true else listed.getD j false:=fun listed i j hsz hi=>by
  by_cases e:j=i
  ·subst e
   rw [if_pos rfl,Bm0,Array.getElem?_setIfInBounds_self_of_lt (by omega)];rfl
  ·rw [if_neg e,getD_set_ne false (fun k=>e k.symm)]
 refine Eo hm (Ab3 P Q l n tl a w R m T) ?_ ?_ ?_
 ·have hz:∀i,(Array.replicate l.toArray.size false).getD i false=false:=fun i=>getD_replicate_false ..
  exact ⟨by simp [hlen],.inl ⟨fun i _=>hz i,fun i o _ _ k=>(by rw [hz i] at k;cases k),_,ha,by rw [hz m];exact hT0,fun i _ k=>by rw [hz i] at k;cases k⟩⟩
 ·rintro listed a' w' i ⟨hsz,h1|⟨q,hq1,hq2,hall,hno,htw⟩⟩ hi
  ·obtain ⟨hn0,hcl,vs,rfl,hb,hR⟩:=h1
   obtain ⟨h1,o,h2,h3⟩:=mem_ready.1 hi;have h2':l[i]? =some o:=by simpa using h2
   have hlt:i<n+tl.length:=by have:=(Bj8.1 h2').1;omega
   have hun:listed.getD i false=false:=getD_both h1
   by_cases hin:i<n
   ·have h2h:(l.take n)[i]? =some o:=(hat i hin).symm.trans h2'
    have hdo:o.dst=some (Ae l i):=by rw [hda i hin];exact (Dv hB h2h).1
    have hK:∀(v:Value) (w'':World),G i w' w''->R i v w''->Ab3 P Q l n tl a w R m T (listed.setIfInBounds i true) ((Al a (Ae l) vs n).put o.dst v) w'':=by
     intro v w'' hb2 hr;refine ⟨by simp [hsz],.inl ⟨fun j hj=>by rw [hsetl _ _ _ hsz hlt,if_neg (by omega)];exact hn0 j hj,?_,Hl vs i v,by rw [hdo];exact Gw hinj hD hin,?_,?_⟩⟩
     ·intro j oj hjn hj hl e he hb'
      rw [hsetl _ _ _ hsz hlt] at hl ⊢
      split
      ·rfl
      ·by_cases hji:j=i
       ·subst hji
        rw [h2'] at hj
        cases hj
        exact h3 e he hb'
       ·rw [if_neg hji] at hl
        exact hcl j oj hjn hj hl e he hb'
     ·have h9:=hTt i _ _ _ hb (fun e=>by rw [<-e];exact hun) hb2
      rw [hsetl _ _ _ hsz hlt]
      by_cases e:m=i
      ·rw [if_pos e]
       rwa [decide_eq_true e.symm,Bool.or_true] at h9
      ·rw [if_neg e]
       rwa [decide_eq_false (fun k=>e k.symm),Bool.or_false] at h9
     ·intro j hj hl
      rw [hsetl _ _ _ hsz hlt] at hl
      by_cases hji:j=i
      ·subst hji
       rw [show Hl vs j v j=v from if_pos rfl];exact hr
      ·rw [if_neg hji] at hl
       rw [show Hl vs i v j=vs j from if_neg hji];exact hmono i j _ _ _ _ (fun e=>hji e.symm) hb hb2 (hR j hj hl)
    have hopi:=Ej (l.take n) 0 hop i o h2h;rw [Nat.zero_add] at hopi;have hdeps:∀j,Cc l i j=true->R j ((Al a (Ae l) vs n).tmps.getD (Ae l j) undef) w':=by
     intro j hj;unfold Cc at hj;simp only [h2'] at hj;obtain ⟨e,he,k2⟩:=List.any_eq_true.1 hj;simp only [Bool.and_eq_true,beq_iff_eq] at k2;have h5:=hord i o hin h2' e (Array.mem_toList_iff.1 he) k2.1;have h4:=h3 e (Array.mem_toList_iff.1 he) k2.1;rw [k2.2] at h5 h4;rw [hon vs j (by omega)];exact hR j (by omega) h4
    unfold wpOp;simp only [h2]
    rcases hopi _ w' _ (fun e=>by rw [<-e];exact hun) hb hdeps (fun t ht=>hoff vs t ht) (Ab3 P Q l n tl a w R m T (listed.setIfInBounds i true)) hK with ⟨hw,h⟩|⟨hw,h⟩
    ·rw [if_pos hw]
     exact .inl h
    ·rw [if_neg (by rw [show Region.wanted o (yielded l.toArray (Al a (Ae l) vs n).tmps)=false from hw];simp)]
     exact h
   ·
    obtain ⟨q,rfl⟩:∃q,i=n+q:=⟨i-n,by omega⟩;have hoq:tl[q]? =some o:=(hatq q).symm.trans h2';obtain rfl:q=0:=by
     rcases Nat.eq_zero_or_pos q with e|e
     ·exact e
     ·obtain ⟨_,_,e1,he,hb',h5⟩:=hrest q o (by omega) hoq
      have:=h3 e1 he hb';rw [hn0 _ (by omega)] at this
      cases this
    rw [Nat.add_zero] at*;have ho:o=st:=Bl4 (h2'.symm.trans hatn);subst ho;have hall:∀d j,n-j=d->j<n->listed.getD j false=true:=by
     intro d
     induction d using Nat.strongRecOn with
     |_ d ih=>
      intro j hd hj;obtain ⟨k,k1,k2,ok,k3,e,he,hb',rfl⟩:=hwait j hj
      by_cases hk:k=n
      ·subst hk
       rw [h2'] at k3
       cases k3
       exact h3 e he hb'
      ·exact hcl k ok (by omega) k3 (ih (n-k) (by omega) k rfl (by omega)) e he hb'
    unfold wpOp;simp only [h2];rw [if_pos (by simp [Region.wanted,Option.isNone_iff_eq_none.1 s1])];have hb:=(by rw [hall _ m rfl hmn] at hb;exact hb:T true w w');have hgo:=hend vs _ w' hb (fun j hj=>hR j hj (hall _ j rfl hj)) (fun j hj=>hon vs j hj) (fun t ht=>hoff vs t ht) rfl;refine .inl (Oper.wp_mono (fun a1 w1 hq=>?_) hgo);refine ⟨by simp [hsz],.inr ⟨1,Bi7 _,htl1,fun j hj=>?_,fun j hj=>?_,by rw [htl];exact hq⟩⟩
    ·rw [hsetl _ _ _ hsz hlt]
     split
     ·rfl
     ·exact hall _ j rfl (by omega)
    ·rw [hsetl _ _ _ hsz hlt,if_neg (by omega)]
     exact hn0 j (by omega)
  ·obtain ⟨h1,o,h2,h3⟩:=mem_ready.1 hi
   have h2':l[i]? =some o:=by simpa using h2
   have hlt:i<n+tl.length:=by have:=(Bj8.1 h2').1;omega
   have hun:listed.getD i false=false:=getD_both h1;have hge:n+q<=i:=Nat.le_of_not_lt (fun k=>by rw [hall i k] at hun;cases hun);obtain ⟨p,rfl⟩:∃p,i=n+p:=⟨i-n,by omega⟩;have hop':tl[p]? =some o:=(hatq p).symm.trans h2';obtain rfl:p=q:=by
    rcases Nat.lt_or_ge q p with e|e
    ·obtain ⟨_,_,e1,he,hb',h5⟩:=hrest p o (by omega) hop'
     have:=h3 e1 he hb';rw [hno _ (by omega)] at this
     cases this
    ·omega
   have hpl:p<tl.length:=(Bj8.1 hop').1;have hdr:tl.drop p=o::tl.drop (p+1):=by
    rw [List.drop_eq_getElem_cons hpl]
    congr 1
    rw [Bj0 hpl] at hop';exact Bl4 hop'
   rw [hdr] at htw;unfold wpOp;simp only [h2];rw [if_pos (by simp [Region.wanted,(htail p o hop').1])];refine .inl (Oper.wp_mono (fun a1 w1 hq=>?_) htw);refine ⟨by simp [hsz],.inr ⟨p+1,by omega,by omega,fun j hj=>?_,fun j hj=>?_,hq⟩⟩
   ·rw [hsetl _ _ _ hsz hlt]
    split
    ·rfl
    ·exact hall j (by omega)
   ·rw [hsetl _ _ _ hsz hlt,if_neg (by omega)]
    exact hno j (by omega)
 ·rintro listed a' w' ⟨hsz,h1⟩ hr
  have hall:∀d i,i=d->i<n+tl.length->listed.getD i false=true:=by
   intro d
   induction d using Nat.strongRecOn with
   |_ d ih=>
    rintro i rfl hi
    cases hl:listed.getD i false with
    |true=>rfl
    |false=>
     have hin:i∈Region.ready .any l.toArray listed:=by
      refine mem_ready.2 ⟨Go.getD_in (by omega) hl,l[i]'(by omega),by simp [hlen,hi],fun e he hb'=>?_⟩;have h6:e.on<i:=by
       by_cases k:i<n
       ·exact hord i _ k (Bj0 (by omega)) e he hb'
       ·obtain ⟨q,rfl⟩:∃q,i=n+q:=⟨i-n,by omega⟩
        exact (htail q _ ((hatq q).symm.trans (Bj0 (by omega)))).2 e he hb'
      exact ih e.on h6 e.on rfl (by omega)
     rw [hr] at hin
     cases hin
  rcases h1 with ⟨hn0,_⟩|⟨q,hq1,hq2,_,hno,htw⟩
  ·have:=hall n n rfl (by omega)
   rw [hn0 n (Bi7 _)] at this
   cases this
  ·rcases Nat.lt_or_ge q tl.length with e|e
   ·have:=hall (n+q) (n+q) rfl (by omega)
    rw [hno _ (Bi7 _)] at this
    cases this
   ·rw [List.drop_eq_nil_of_le e] at htw
    exact htw
end
end
section
open Go Go.Proofs Go.RowKit
section
variable {a:Act} {P:Program} {Q:Exit->Act->World->Prop} {w:World}
theorem Qp {f g:Nat->Oper->Prop} (h:∀i o,f i o->g i o):∀(k:Nat) (l:List Oper),Bx f k l->Bx g k l
 |_,[],_=>trivial
 |k,o::l,⟨h1,h2⟩=>⟨h k o h1,Qp h (k+1) l h2⟩
theorem Hz {id:Nat} {l:List Oper} (n:Nat) (st:Oper) (rest:List Oper) (hst:l=l.take n++st::rest) (hln:(l.take n).length=n) (R:Nat->Value->World->Prop) (hn0:0<n)
  (hm:P.follows .mixedOrders=true) (hB:Ua (l.take n) a.tmps.size=true) (hS:Ox l n st=true) (hR9:Af4 n rest=true)
  (hmono:∀i v w' w'',Below w'.heap.size w' w''->R i v w'->R i v w'')
  (hop:Bx (fun i o=>∀(act:Act) w',Below w.heap.size w w'->(∀j,Cc l i j=true->R j (act.tmps.getD (Ae l j) undef) w')->(∀t,Kk l n t=true->act.tmps.getD t undef=a.tmps.getD t undef)->
   ∀K:Act->World->Prop,(∀v w'',Below w'.heap.size w' w''->R i v w''->K (act.put o.dst v) w'')->(Ta l act o true/\o.wp P act w' K Q)\/(Ta l act o false/\K (act.put o.dst undef) w')) 0 (l.take n))
  (hend:∀(vs:Nat->Value) act w',Below w.heap.size w w'->(∀i,i<n->R i (vs i) w')->(∀j,j<n->act.tmps.getD (Ae l j) undef=vs j)->(∀t,Kk l n t=true->act.tmps.getD t undef=a.tmps.getD t undef)->act=Al a (Ae l) vs n->Na P Q (st::rest) act w'):(Code.region id l.toArray true).wp P Q a w:=
 Pf n st rest hst hln R (fun _ w' w''=>Below w'.heap.size w' w'') 0 hn0 (fun _ w w'=>Below w.heap.size w w') hm hB hS hR9 (Below.refl _ w).drew (fun _ _ _ _ h1 _ h2=>h1.st h2) (fun i j v _ _ _ _ _ h3 hr=>hmono j v _ _ h3 hr) (Qp (fun _ _ h act w' _ _ h2=>h act w' h2) 0 _ hop) hend
end
end
end Go.Proofs.YteaaapdjplbljaaGreat
