/- Parts; no condition. -/
import Derived.Test.YteaaapdjplbljaaGreatVb38
set_option linter.unusedVariables false
set_option linter.unusedSimpArgs false
set_option linter.unnecessarySimpa false
set_option maxRecDepth 100000
set_option maxHeartbeats 8000000
namespace Go.Proofs.YteaaapdjplbljaaGreat
open Go Go.Proofs Go.RowKit Go.Shelf Hp Ch Ro
theorem Bc (w:World) (b o:Nat) (v:Value) (h:w.cell? ⟨b,o,none⟩=some v):w.setCell ⟨b,o,none⟩ v=w:=by
 rw [Go.Sort.setCell_eq];refine Go.Sort.mapBlock_id _ _ _ ?_;intro c e fr hb;have hc:c[o]? =some v:=by simpa [World.cell?,hb] using h
 apply Array.ext_getElem?
 intro k;rw [Array.getElem?_setIfInBounds]
 split
 ·rename_i e
  subst e;rw [if_pos (Bm7.1 hc).1,hc]
 ·rfl
theorem Cel.of_owns_new {w:World} {base:Nat} {e:TypeId} {size n:Nat} {v:Value} {xs:List Value} (h:w.ownsRow base e size v n xs):
  ∃ao cap,v=.slice ao n cap/\Cel w ao xs/\∀y,ao=some y->base<=y.block:=by
 obtain ⟨ao,cap,rfl,hc⟩:=Cel.of_owns h;refine ⟨ao,cap,rfl,hc,fun y hy=>?_⟩;subst hy
 rcases h.2 with ⟨h1,_⟩|⟨g,c,cur,h1,h2,_⟩
 ·cases h1
 ·cases h1
  exact h2
theorem Ah8 (w:World) (o1 o2 o3:Obj):(((w.alloc o1).alloc o2).alloc o3).heap[w.heap.size+1+1]? =some o3:=by
 have e:w.heap.size+1+1=((w.alloc o1).alloc o2).heap.size:=by simp
 rw [e]
 show (((w.alloc o1).alloc o2).heap.push o3)[((w.alloc o1).alloc o2).heap.size]? =some o3
 rw [Array.getElem?_push_size]
theorem Vu (w:World):Calls Tryz.prog 118 #[We false none 0 0] w fun e w'=>e=.returned (We false none 0 0)/\Below w.heap.size w w':=by
 go_enter Tryz.func118,Tryz.ntmps118
 go_wp2
 refine bodyPost_ret (v:=We false none 0 0) (by simp [results,Tryz.results118,go_sem];try rfl) rfl ?_;exact ⟨rfl,(Below.of_al _ _).al _⟩
theorem Vw (n:Nat) (es:List EdgeD) (ao:Option Addr) (cap:Nat) (s:Int) (w:World) (hg:Ak ⟨(n:Int),es⟩=0) (hel:es.length<=1000000) (hc:Cel w ao (Ay es)):
  Calls Tryz.prog 119 #[.agg #[.int .i64 (n:Int),.slice ao es.length cap],.int .i64 s,We false none 0 0] w fun e w'=>e=.returned (.int .i64 (if 0<=s/\s<(n:Int) then 0 else 7))/\Below w.heap.size w w':=by
 obtain ⟨W,hW⟩:∃W,W=(w.alloc (Obj.cells #[.int .i64 (n:Int),.slice ao es.length cap] 24)).alloc (Obj.cells #[.bool false,.slice none 0 0,.slice none 0 0,.slice none 0 0,.int .u64 0] 119):=⟨_,rfl⟩;have hbw:Below w.heap.size w W:=by rw [hW];exact (Below.of_al _ _).al _
 have c0:W.cell? ⟨w.heap.size,0,none⟩=some (.int .i64 (n:Int)):=by rw [hW];go_simp
 have c1:W.cell? ⟨w.heap.size,1,none⟩=some (.slice ao es.length cap):=by rw [hW];go_simp
 have c2:W.cell? ⟨w.heap.size+1,3,none⟩=some (.slice none 0 0):=by rw [hW];go_simp
 have HW:=Bm0 hW;have HR:=Bm0 (Gz ⟨(n:Int),es⟩ ao cap W (show es.length<=9223372036854775807 by omega) (hc.go hbw));have HB:=Bm0 hbw;rw [hg] at HR;simp only at HR;clear hW hc hbw hg
 by_cases h0:s<0
 ·rw [if_neg (by omega)]
  go_enter Tryz.func119,Tryz.ntmps119
  go_upto_region 1 with (fail)
  rw [<-HW.out]
  go_wp2_with (go_at_call 78;refine HR.out.mono ?_;rintro e w1 ⟨rfl,hb1⟩;(have HB1:=Bm0 hb1);clear hb1)
  go_ret
  exact ⟨rfl,HB.out.st HB1.out⟩
 ·have h0':(0:Int)<=s:=by omega
  by_cases h1:(n:Int)<=s
  ·rw [if_neg (by omega)]
   clear h0'
   go_enter Tryz.func119,Tryz.ntmps119
   go_upto_region 1 with (fail)
   rw [<-HW.out]
   go_wp2_with (go_at_call 78;refine HR.out.mono ?_;rintro e w1 ⟨rfl,hb1⟩;(have HB1:=Bm0 hb1);(have d0:=Bm1 hb1 c0);clear hb1)
   go_ret
   exact ⟨rfl,HB.out.st HB1.out⟩
  ·rw [if_pos (by omega)]
   have h1':s<(n:Int):=by omega
   go_enter Tryz.func119,Tryz.ntmps119
   go_upto_region 1 with (fail)
   rw [<-HW.out]
   go_wp2_with (go_at_call 78;refine HR.out.mono ?_;rintro e w1 ⟨rfl,hb1⟩;(have HB1:=Bm0 hb1);(have d0:=Bm1 hb1 c0);(have d2:=Bm1 hb1 c2);clear hb1)
   go_ret
   exact ⟨rfl,HB.out.st HB1.out⟩
structure PcS (w5:World) (rb:Nat) (x:Int) (n:Nat) (es:List EdgeD) (D:Int->Int) (s v:Int) (l:List Int) (vr:Value) (wr:World):Prop where
 rbe:rb=w5.heap.size
 blk:wr.heap[rb]? =some (.cells #[vr,.int .u64 x] 39 (0,0))
 own:wr.ownsRow (rb+1) 3 1 vr l.length (l.map Ai)
 bel:Below w5.heap.size w5 wr
 seg:Seg es D s l v
 node:Ac n v
 fin:D v<4611686018427387904
 vis:∃vs:List Int,vs.length=l.length/\vs.Nodup/\∀u∈vs,Ac n u/\D v<D u
section
variable {w5 wr w4 w7:World} {rb n:Nat} {x s v:Int} {es:List EdgeD} {D:Int->Int} {l:List Int} {vr v':Value}
theorem PcS.go (h:PcS w5 rb x n es D s v l vr wr) (hz:Below wr.heap.size wr w4):PcS w5 rb x n es D s v l vr w4:=
 ⟨h.rbe,(hz.block _ (Bm7.1 h.blk).1).trans h.blk,Ag h.own hz,h.bel.st hz,h.seg,h.node,h.fin,h.vis⟩
theorem PcS.len (h:PcS w5 rb x n es D s v l vr wr):l.length+1<=n:=by
 obtain ⟨vs,h1,h2,h3⟩:=h.vis;have:=De (n:=n) (out:=v::vs) (by
  intro u hu
  rcases Bp2.1 hu with rfl|hu
  ·exact h.node
  ·exact (h3 u hu).1) (by
  rw [List.nodup_cons];refine ⟨fun hm=>?_,h2⟩;have:=(h3 v hm).2;omega)
 rw [Bn5,h1] at this;exact this
theorem PcS.step {i:Nat} (hA:∀u v w,Am es u v w->Ac n u/\Ac n v/\1<=w) {t:Int} (hD:ToD es n t D) (h:PcS w5 rb x n es D s v l vr wr) (hf:FirstE es D v i) (h0:D v≠0) (hz:Below wr.heap.size wr w4)
  (hown:w7.ownsRow (rb+1) 3 1 v' (l.length+1) (l.map Ai++[.int .i64 (i:Int)])) (hgr:w4.grownBy w7 vr.ownBlock):PcS w5 rb x n es D s (es.getD i edZ).t (l++[(i:Int)]) v' (w7.setCell ⟨rb,0,none⟩ v'):=by
 have h4:=h.go hz;have hlt4:=(Bm7.1 h4.blk).1;have hb7:w7.heap[rb]? =some (.cells #[vr,.int .u64 x] 39 (0,0)):=(hgr.block rb hlt4 (fun e=>by have:=(h4.own.lt rb e.symm).1;omega)).trans h4.blk;have hoff:OffX (· =rb) w7 (w7.setCell ⟨rb,0,none⟩ v'):=.set _ rfl;have h5:rb<=w4.heap.size:=by omega
 obtain ⟨f1,f2,f3,f4,f5⟩:=Mh hA hD hf;refine ⟨h.rbe,?_,?_,?_,h.seg.step hf h0,f1,f4,?_⟩
 ·rw [Go.Sort.setCell_eq]
  show (w7.heap.modify rb _)[rb]? =_
  rw [Array.getElem?_modify,if_pos rfl,hb7];rfl
 ·rw [Bp0,List.length_singleton,Bq1]
  exact Aj hown (fun k hk=>hoff.block k (hown.lt k hk).2 (fun e=>by have:=(hown.lt k hk).1;omega))
 ·exact (h4.bel.grown hgr h4.bel.size (fun k hk=>by have:=(h4.own.lt k hk).1;have:=h.rbe;omega)).setCell (by show w5.heap.size<=rb;have:=h.rbe;omega) _
 ·obtain ⟨vs,h1,h2,h3⟩:=h.vis
  refine ⟨v::vs,by simp [h1],?_,?_⟩
  ·rw [List.nodup_cons]
   refine ⟨fun hm=>?_,h2⟩;have:=(h3 v hm).2;omega
  ·intro u hu
   rcases Bp2.1 hu with rfl|hu
   ·exact ⟨h.node,f3⟩
   ·have:=h3 u hu
    exact ⟨this.1,by omega⟩
end
theorem Yb (n:Nat) (es:List EdgeD) (ao:Option Addr) (cap:Nat) (s t:Int) (w:World) (hg:Ak ⟨(n:Int),es⟩=0) (hn:n<=100) (hes:es.length<=300) (hc:Cel w ao (Ay es)):
  Calls Tryz.prog 63 #[.agg #[.int .i64 (n:Int),.slice ao es.length cap],.int .i64 s,.int .i64 t,We false none 0 0] w (Ku n es s t w):=by
 obtain ⟨W,hW⟩:∃W,W=((w.alloc (Obj.cells #[.int .i64 (n:Int),.slice ao es.length cap] 24)).alloc (Obj.cells #[.bool false,.slice none 0 0,.slice none 0 0,.slice none 0 0,.int .u64 0] 119)).alloc (Obj.cells #[.slice none 0 0,.int .u64 0] 39):=⟨_,rfl⟩;have hbw:Below w.heap.size w W:=by rw [hW];exact ((Below.of_al _ _).al _).al _
 have c0:W.cell? ⟨w.heap.size,0,none⟩=some (.int .i64 (n:Int)):=by rw [hW];go_simp
 have c1:W.cell? ⟨w.heap.size,1,none⟩=some (.slice ao es.length cap):=by rw [hW];go_simp
 have o0:W.cell? ⟨w.heap.size+1,0,none⟩=some (.bool false):=by rw [hW];go_simp
 have o1:W.cell? ⟨w.heap.size+1,1,none⟩=some (.slice none 0 0):=by rw [hW];go_simp
 have o2:W.cell? ⟨w.heap.size+1,2,none⟩=some (.slice none 0 0):=by rw [hW];go_simp
 have o3:W.cell? ⟨w.heap.size+1,3,none⟩=some (.slice none 0 0):=by rw [hW];go_simp
 have o4:W.cell? ⟨w.heap.size+1,4,none⟩=some (.int .u64 0):=by rw [hW];go_simp
 have z0:W.frozen? ⟨w.heap.size+1,0,none⟩=false:=by rw [hW];go_simp
 have z1:W.frozen? ⟨w.heap.size+1,1,none⟩=false:=by rw [hW];go_simp
 have z2:W.frozen? ⟨w.heap.size+1,2,none⟩=false:=by rw [hW];go_simp
 have z3:W.frozen? ⟨w.heap.size+1,3,none⟩=false:=by rw [hW];go_simp
 have z4:W.frozen? ⟨w.heap.size+1,4,none⟩=false:=by rw [hW];go_simp
 have HRB:=Bm0 (show W.heap[w.heap.size+1+1]? =some (.cells #[.slice none 0 0,.int .u64 0] 39 (0,0)) by rw [hW];exact Ah8 _ _ _ _);have hlt:w.heap.size+1<W.heap.size:=Bn0 _ _ o0;have HPL:=Bm0 (Vu W);have HW:=Bm0 hW;have HB:=Bm0 hbw;clear hW hbw
 go_enter Tryz.func63,Tryz.ntmps63
 go_upto_region 1 with (fail)
 rw [<-HW.out]
 go_upto_region 2 with (go_at_call 118;refine HPL.out.mono ?_;rintro e w1 ⟨rfl,hb1⟩;(have HB1:=Bm0 hb1);(have d0:=Bm1 hb1 c0);(have d1:=Bm1 hb1 c1);(have p0:=Bm1 hb1 o0);(have p1:=Bm1 hb1 o1);(have p2:=Bm1 hb1 o2);(have p3:=Bm1 hb1 o3);(have p4:=Bm1 hb1 o4);(have y0:=(hb1.frozen (p:=⟨w.heap.size+1,0,none⟩) hlt).trans z0);(have y1:=(hb1.frozen (p:=⟨w.heap.size+1,1,none⟩) hlt).trans z1);(have y2:=(hb1.frozen (p:=⟨w.heap.size+1,2,none⟩) hlt).trans z2);(have y3:=(hb1.frozen (p:=⟨w.heap.size+1,3,none⟩) hlt).trans z3);(have y4:=(hb1.frozen (p:=⟨w.heap.size+1,4,none⟩) hlt).trans z4);clear hb1)
 rw [Bc _ _ _ _ p0,Bc _ _ _ _ p1,Bc _ _ _ _ p2,Bc _ _ _ _ p3,Bc _ _ _ _ p4];have HC1:=Bm0 (hc.go (HB.out.st HB1.out));have HCK:=Bm0 (Vw n es ao cap s w1 hg (by omega) HC1.out);have HGG:=Bm0 hg;clear c0 c1 o0 o1 o2 o3 o4 z0 z1 z2 z3 z4 y0 y1 y2 y3 y4 hc hg HPL
 by_cases hs:0<=s/\s<(n:Int)
 ·rw [if_pos hs] at HCK
  have HRX:=Bm0 (fun W2 (hz:Below W.heap.size W W2)=>Ad.Df ((hz.block _ (Bm7.1 HRB.out).1).trans HRB.out))
  by_cases ht:0<=t/\t<(n:Int)
  ·have hE:=Hu HGG.out (n:=n) rfl
   have hA:∀u v w,Am es u v w->Ac n u/\Ac n v/\1<=w/\w<=4294967296:=by
    rintro u v w ⟨x,hx,rfl,rfl,rfl⟩;have:=hE.ok x hx;exact ⟨this.1,this.2.1,this.2.2.2⟩
   obtain ⟨sn,rfl⟩:∃sn:Nat,s=(sn:Int):=⟨s.toNat,by omega⟩;obtain ⟨tn,rfl⟩:∃tn:Nat,t=(tn:Int):=⟨t.toNat,by omega⟩;have hsn:sn<n:=by omega
   have htn:tn<n:=by omega
   have ht0:(0:Int)<=(tn:Int):=by omega
   have ht1:(tn:Int)<(n:Int):=ht.2;have hs0:(0:Int)<=(sn:Int):=by omega
   have hs1:(sn:Int)<(n:Int):=hs.2;have HA:=Bm0 hA;have HAL:=Bm0 (fun W2 (hz:Below w1.heap.size w1 W2)=>Lv n tn es ao none cap 0 true [] W2 HGG.out hn hes htn (by simp) (HC1.out.go hz) (Cel.nil _ _));have HWG:=Bm0 (fun W2 (hz:Below w1.heap.size w1 W2)=>Jo (n:Int) es ao none cap 0 0 false W2 HGG.out (by omega) (HC1.out.go hz));unfold AllPost at HAL;clear hE hA hs ht
   go_upto_region 9 with (go_at_call 119;refine HCK.out.mono ?_;rintro e w2 ⟨rfl,hb2⟩;(have HB2:=Bm0 hb2);(have d20:=Bm1 hb2 d0);(have d21:=Bm1 hb2 d1);(have q0:=Bm1 hb2 p0);(have q1:=Bm1 hb2 p1);(have q2:=Bm1 hb2 p2);(have q3:=Bm1 hb2 p3);(have q4:=Bm1 hb2 p4);clear hb2)
   obtain ⟨W3,hW3⟩:∃W3,W3=w2.alloc (Obj.cells #[.bool true,.slice none 0 0,.slice none 0 0,.slice none 0 0,.int .u64 0] 119):=⟨_,rfl⟩;rw [<-hW3];have hb3:Below w2.heap.size w2 W3:=by rw [hW3];exact Below.of_al _ _
   have HB3:=Bm0 (HB2.out.st hb3);have d30:=Bm1 hb3 d20;have d31:=Bm1 hb3 d21;have l0:=Bm1 hb3 q0;have l1:=Bm1 hb3 q1;have l2:=Bm1 hb3 q2;have l3:=Bm1 hb3 q3;have l4:=Bm1 hb3 q4;have b0:W3.cell? ⟨w2.heap.size,0,none⟩=some (.bool true):=by rw [hW3];go_simp
   have b1:W3.cell? ⟨w2.heap.size,1,none⟩=some (.slice none 0 0):=by rw [hW3];go_simp
   have b2:W3.cell? ⟨w2.heap.size,2,none⟩=some (.slice none 0 0):=by rw [hW3];go_simp
   have b3:W3.cell? ⟨w2.heap.size,3,none⟩=some (.slice none 0 0):=by rw [hW3];go_simp
   have b4:W3.cell? ⟨w2.heap.size,4,none⟩=some (.int .u64 0):=by rw [hW3];go_simp
   clear hW3 hb3 d20 d21 q0 q1 q2 q3 q4 d0 d1 p0 p1 p2 p3 p4
   go_upto_region 10 with (go_at_call 71;refine (HAL.out _ HB3.out).mono ?_;rintro e w4 ⟨db,d,rfl,k1,k2,k3,k4⟩;(have HD:=Bm0 k1);(have HB4:=Bm0 (HB3.out.st k2));(have HAI:=Bm0 k4);(have d40:=Bm1 k2 d30);(have d41:=Bm1 k2 d31);(have q0:=Bm1 k2 l0);(have q1:=Bm1 k2 l1);(have q2:=Bm1 k2 l2);(have q3:=Bm1 k2 l3);(have q4:=Bm1 k2 l4);clear k1 k2 k3 k4)
   have HTD:=Bm0 (show ToD es n (tn:Int) (gD d) from fun v hv=>FarV.turn (HAI.out.far (back:=true) (fun u v w h=>(HA.out v u w (show Am es v u w from h)).2.2.1) hv));have ds:=Ls HD.out HAI.out.1 hsn;have HDL:=Bm0 HAI.out.1;clear d30 d31 l0 l1 l2 l3 l4 b0 b1 b2 b3 b4 HAL
   by_cases hfar:gD d (sn:Int)<4611686018427387904
   ·obtain ⟨hds,hd0,hd1⟩:=(HTD.out (sn:Int) ⟨hs0,hs1⟩).lt hfar
    have HDS:=Bm0 (And.intro hds (And.intro hd0 hd1));obtain ⟨x,hx⟩:∃x,x=gD d (sn:Int):=⟨_,rfl⟩;have HX:=Bm0 hx;rw [<-hx] at ds hfar HDS;clear hds hd0 hd1 hx
    go_upto_region 13 with (go_at_call 120;refine (HWG.out _ HB4.out).mono ?_;rintro e w5 ⟨aw,cw,rfl,k1,k2,k3⟩;(have HWT:=Bm0 k1);(have HB5:=Bm0 k2);(have d50:=Bm1 k2 d40);(have d51:=Bm1 k2 d41);(have l0:=Bm1 k2 q0);(have l1:=Bm1 k2 q1);(have l2:=Bm1 k2 q2);(have l3:=Bm1 k2 q3);(have l4:=Bm1 k2 q4);(have ds5:=Bm1 k2 ds);clear k1 k2 k3)
    clear d40 d41 q0 q1 q2 q3 q4 ds
    go_upto_region 14 with fail
    have HP0:=Bm0 (show PcS w5 w5.heap.size x n es (gD d) (sn:Int) (sn:Int) [] (.slice none 0 0) (w5.alloc (Obj.cells #[.slice none 0 0,.int .u64 x] 39)) from
     ⟨rfl,by show (w5.heap.push _)[w5.heap.size]? =_;rw [Array.getElem?_push_size],World.ownsRow_nil _ _ _ _,Below.of_al _ _,.start _,⟨hs0,hs1⟩,by rw [<-HX.out];exact hfar,[],rfl,by simp,by simp⟩)
    have HB15:=Bm0 (HB.out.st (HB1.out.st (HB4.out.st HB5.out)));have HBW5:=Bm0 (HB1.out.st (HB4.out.st HB5.out));have HWN:=Bm0 (show w.heap.size+1+1<w5.heap.size from Nat.lt_of_lt_of_le (Bm7.1 HRB.out).1 HBW5.out.size);have HD5:=Bm0 (HD.out.go HB5.out);have HC5:=Bm0 (HC1.out.go (HB4.out.st HB5.out));have HA3:=Bm0 (fun (u v w:Int) (h:Am es u v w)=>(show Ac n u/\Ac n v/\1<=w from ⟨(HA.out u v w h).1,(HA.out u v w h).2.1,(HA.out u v w h).2.2.1⟩));generalize hDD:gD d=D at*
    go_wp2
    go_loopg [15,16] n (fun gg v15 v16 wr=>∃(v:Int) (l:List Int) (vr:Value),n-l.length<=gg/\v15=.int .i64 v/\v16=.int .i64 l.length/\Aside (PcS w5 w5.heap.size x n es D (sn:Int) v l vr wr))
    case atStart=>exact ⟨sn,[],.slice none 0 0,by simp,rfl,rfl,HP0.out⟩
    case round=>
     obtain ⟨v,l,vr,hgg,rfl,rfl,hP⟩:=hrel;have HP:=Bm0 hP.out;clear hP HP0;have hlen:=HP.out.len;have hbl:=HP.out.bel;have e0:=Bm1 hbl d50
     by_cases hvt:v=(tn:Int)
     ·subst hvt
      obtain ⟨ra,rc,e,hce,hnew⟩:=Cel.of_owns_new HP.out.own;have HNE:=Bm0 hnew;clear hnew;subst e;have HCE:=Bm0 hce;have HLT:=Bm0 (fun k hk=>(HP.out.own.lt k hk).1);obtain ⟨m0,m1,g0,g1⟩:=Ad.Df HP.out.blk;obtain ⟨x0,x1,f0,f1⟩:=HRX.out _ (HBW5.out.st hbl);have hvt2:((tn:Int) != (tn:Int))=false:=by simp
      have hln:(l.length:Int)<=(n:Int):=by omega
      have HBL:=Bm0 hbl;clear hce hbl
      go_wp2
      obtain ⟨r0,r1⟩:=Cc (.slice ra l.length rc) (.int .u64 x) x0 x1;refine bodyPost_ret (v:=.tuple #[.agg #[.slice ra l.length rc,.int .u64 x],.int .i64 0]) (by simp [results,Tryz.results63,go_sem,r0,r1];try rfl) rfl ?_;have ho:OffX (· =w.heap.size+1+1) wr ((wr.setCell ⟨w.heap.size+1+1,0,none⟩ (.slice ra l.length rc)).setCell ⟨w.heap.size+1+1,1,none⟩ (.int .u64 x)):=
       (show OffX (· =w.heap.size+1+1) wr (wr.setCell ⟨w.heap.size+1+1,0,none⟩ (.slice ra l.length rc)) from .set _ rfl).trans (.set _ rfl)
      refine ⟨ra,l,rc,x,0,rfl,Ev HCE.out ho (fun k hk e=>by have:=HLT.out k hk;have:=HWN.out;have e2:k=w.heap.size+1+1:=e;omega),((HB15.out.st HBL.out).setCell (by show w.heap.size<=w.heap.size+1+1;omega) _).setCell (by show w.heap.size<=w.heap.size+1+1;omega) _,.inl ⟨rfl,⟨hs0,hs1⟩,⟨ht0,ht1⟩,HDS.out.1,HDS.out.2.2,D,HTD.out,HP.out.seg.stop ?_⟩,fun y hy=>by have:=HNE.out y hy;have:=HWN.out;omega⟩;exact FarV.uniq (HTD.out _ HP.out.node) (.inl ⟨Dist.self (fun u v w h=>(HA3.out u v w h).2.2) _,by decide,by decide⟩)
     ·have hvt2:(v != (tn:Int))=true:=by simpa using hvt
      have hln:(l.length:Int)<=(n:Int):=by omega
      have hvn:=HP.out.node;have hfin:=HP.out.fin;have hdv:=((HTD.out v hvn).lt hfin).1;have h0:D v≠0:=fun e=>by
       rcases hdv.1 with ⟨e1,_⟩|h1
       ·exact hvt e1
       ·have:=h1.pos (fun u v w h=>(HA3.out u v w h).2.2)
        omega
      obtain ⟨i0,hf⟩:=Ul HA3.out HTD.out hvn h0 hfin;obtain ⟨vn,rfl⟩:∃vn:Nat,v=(vn:Int):=⟨v.toNat,by have:=hvn.1;omega⟩;have hvn2:vn<n:=by have:=hvn.2;omega
      have HF:=Bm0 hf;have HH0:=Bm0 h0;have hi0:i0<es.length:=hf.1;have HVN:=Bm0 (And.intro hvn hfin);clear hdv h0 hf hvn hfin hvt hlen hbl
      go_wp2
      clear e0
      go_loopg [15,17] es.length (fun g2 v15 v17 wr=>∃i:Nat,i<=i0/\es.length-i<=g2/\v15=.int .i64 (vn:Int)/\v17=.int .i64 i/\Aside (PcS w5 w5.heap.size x n es D (sn:Int) (vn:Int) l vr wr))
      case atStart=>exact ⟨0,Bm3 _,by omega,rfl,rfl,HP.out⟩
      case round=>
       obtain ⟨i,hi,hg2,rfl,rfl,hQ⟩:=hrel;have HQ:=Bm0 hQ.out;clear hQ HP;have hib:i<es.length:=by omega
       have hib2:(i:Int)<(es.length:Int):=by omega
       have hi00:(0:Int)<=(i:Int):=by omega
       have hbl:=HQ.out.bel;obtain ⟨W7,hW7⟩:∃W7,W7=wr.alloc (Obj.cells #[.int .i64 es[i].f,.int .i64 es[i].t,.int .u64 es[i].w] 109):=⟨_,rfl⟩;have hb7:Below wr.heap.size wr W7:=by rw [hW7];exact Below.of_al _ _
       have HQ7:=Bm0 (HQ.out.go hb7);have hbl7:=hbl.st hb7;obtain ⟨qb,qo,rfl,y0,y1,y2⟩:=(HC5.out.go hbl).edge hib;obtain ⟨wb,wo,rfl,y3⟩:=(HWT.out.go hbl7) i (.int .u64 es[i].w) (by unfold Td;rw [Bn9,Bm5 hib];rfl);have hnod:=HA.out _ _ _ ⟨es[i],Bn2 hib,rfl,rfl,rfl⟩;obtain ⟨en,hen⟩:∃en:Nat,es[i].t=(en:Int):=⟨es[i].t.toNat,by have:=hnod.2.1.1;omega⟩;have henn:en<n:=by have:=hnod.2.1.2;omega
       have k1:W7.cell? ⟨db,vn,none⟩=some (.int .u64 (D (vn:Int))):=by rw [<-hDD];exact Ls (HD5.out.go hbl7) HDL.out hvn2
       have k2:W7.cell? ⟨db,en,none⟩=some (.int .u64 (D (en:Int))):=by rw [<-hDD];exact Ls (HD5.out.go hbl7) HDL.out henn
       have g1:=Bm1 hbl d51;have g2':=Bm1 hbl7 d51;have g0:=Bm1 hbl7 d50;have o0:=Bm1 hbl7 l0;have o1:=Bm1 hbl7 l1;have o2:=Bm1 hbl7 l2;have o3:=Bm1 hbl7 l3;have o4:=Bm1 hbl7 l4;have s0:W7.cell? ⟨wr.heap.size,0,none⟩=some (.int .i64 es[i].f):=by rw [hW7];go_simp
       have s1:W7.cell? ⟨wr.heap.size,1,none⟩=some (.int .i64 es[i].t):=by rw [hW7];go_simp
       have HCN:=Bm0 (fun p=>Lg (n:Int) es (some ⟨qb,qo,none⟩) none cap 0 false [] i hib (ext W7 p) (by simp) (by omega) ((HC5.out.go hbl7).go (Ah W7 p)) (Cel.nil _ _));rw [show Ee [] es[i]=true by simp [Ee]] at HCN;have HG1:=Bm0 (fun (h1:es[i].f=(vn:Int)) (h2:D (en:Int)<4611686018427387904) (h3:D (en:Int)+es[i].w=D (vn:Int))=>(show i=i0 by
        rcases Nat.lt_or_ge i i0 with h|h
        ·exact absurd ⟨by rw [hen];exact h2,by rw [hen,h1];exact h3⟩ (HF.out.2.2.2 i hib h h1)
        ·omega))
       have HG2:=Bm0 (fun (h:i=i0)=>(show es[i].f=(vn:Int)/\D (en:Int)<4611686018427387904/\D (en:Int)+es[i].w=D (vn:Int) by
        subst h;obtain ⟨h1,h2,h3,_⟩:=HF.out;unfold El at h3;rw [hen,h2] at h3;exact ⟨h2,h3⟩))
       have HET:=Bm0 (show (es.getD i edZ).t=(en:Int) by rw [<-hen];simp [List.getD,hib]);have hDe:D (en:Int)=4611686018427387904\/(0<=D (en:Int)/\D (en:Int)<=1152921504606846976):=by
        rcases HTD.out (en:Int) ⟨by omega,by omega⟩ with ⟨_,h1,h2⟩|⟨h,_⟩
        ·exact .inr ⟨h1,h2⟩
        ·exact .inl h
       have hew:=hnod.2.2;have HBL7:=Bm0 hbl7;rw [hen] at y1 s1 hW7;have HW7:=Bm0 hW7;clear hnod hen hW7 hb7 hbl hbl7;have HDV:=Bm0 (show D (vn:Int)=D (vn:Int) from rfl);generalize es[i]=ed at*;obtain ⟨ef,et,ew⟩:=ed;simp only at HW7 s0 y0 y2 y3 hew HG1 HG2;obtain ⟨dv,hdv⟩:∃dv,dv=D (vn:Int):=⟨_,rfl⟩;obtain ⟨de,hde⟩:∃de,de=D (en:Int):=⟨_,rfl⟩;rw [<-hdv] at k1 HG1 HG2;rw [<-hde] at k2 HG1 HG2 hDe;clear hdv hde HDV;have f1:=fun p=>Ab p s0;have f2:=fun p=>Ab p s1;have f3:=fun p=>Ab p g0;have f4:=fun p=>Ab p g2';have f5:=fun p=>Ab p o0;have f6:=fun p=>Ab p o1;have f7:=fun p=>Ab p o2;have f8:=fun p=>Ab p o3;have f9:=fun p=>Ab p o4;have f10:=fun p=>Ab p k1;have f11:=fun p=>Ab p k2;have f12:=fun p=>Ab p y3
       go_upto_region 22 with fail
       rw [<-HW7.out]
       by_cases hfv:ef=(vn:Int)
       ·subst hfv
        have hbe:((vn:Int)==(vn:Int))=true:=by simp
        by_cases hd:de<4611686018427387904
        ·have hd0:0<=de:=by omega
         by_cases hsum:ew+de=dv
         ·have hse:(ew+de==dv)=true:=by simpa using hsum
          have hii:=HG1.out rfl hd (by omega);have HII:=Bm0 hii;clear hsum HG1 HG2 hii;refine Af (by kernel_rfl) (by kernel_rfl) ?_
          repeat (go_big_quiet_step ((go_at_call 121;exact Calls.ext_of (HCN.out _))))
          refine wpQuiet_nil ?_;rintro _ ⟨ps,rfl⟩;have HBs:=Bm0 (Ah W7 ps);generalize ext W7 ps=ws at HBs ⊢;have HQs:=Bm0 (HQ7.out.go HBs.out);have HBW:=Bm0 HBs.out;have hws:wr.heap.size<W7.heap.size:=Bn0 _ _ s0;have s1s:=Bm1 HBs.out s1;have hlw:l.length+1<=n:=HQ.out.len;have hrb:w5.heap.size<wr.heap.size:=(Bm7.1 HQ.out.blk).1;obtain ⟨m0,-,z0,-⟩:=Ad.Df HQs.out.blk;have HVO:=Bm0 (fun k hk=>(HQ.out.own.lt k hk));have HZ:=Bm0 (And.intro hws (And.intro hrb HBs.out.size));have hne:(wr.heap.size=w5.heap.size)=False:=eq_false (by omega);clear f1 f2 f3 f4 f5 f6 f7 f8 f9 f10 f11 f12 hws hrb s0 s1 y0 y1 y2 y3 k1 k2 g0 g1 g2' o0 o1 o2 o3 o4 HCN
          go_wp2_with (at_builtin;refine Ca (w5.heap.size+1) 3 _ 1 8 Ce Tryz.underlying25 vr l.length _ ⟨ws.heap.size,0,none⟩ 1 1 [.int .i64 (i:Int)] rfl rfl (World.ownsRow.alloc HQs.out.own _) (cell_one_new _ _ _) (Cd rfl) ⟨rfl,by decide,(by omega),(by omega),(by have:=HZ.out;simp;omega)⟩ ?_;intro g5 cap5 w8 hown5 hgr5 hbl5 hat5 hlt5;(have t1:w8.cell? ⟨wr.heap.size,1,none⟩=some (.int .i64 (en:Int)):=(Bo7 (hgr5.block wr.heap.size (by have:=HZ.out;simp;omega) (fun e=>by have:=(HVO.out _ e.symm).2;omega))).trans (Bm1 (Below.of_al ws _) s1s));(have t0:w8.cell? ⟨w5.heap.size,0,none⟩=some vr:=(Bo7 (hgr5.block w5.heap.size (by have:=HZ.out;simp;omega) (fun e=>by have:=(HVO.out _ e.symm).1;omega))).trans (Bm1 (Below.of_al ws _) m0));(have HO5:=Bm0 hown5);(have HG5:=Bm0 hgr5);(have hz8:w8.frozen? ⟨w5.heap.size,0,none⟩=false:=(Ad.Df ((hgr5.block w5.heap.size (by have:=HZ.out;simp;omega) (fun e=>by have:=(HVO.out _ e.symm).1;omega)).trans ((HQs.out.go (Below.of_al ws _)).blk))).2.2.1);clear hown5 hgr5 hbl5 hat5 hlt5)
          have hst:=HQs.out.step (i:=i) HA3.out HTD.out (by rw [HII.out];exact HF.out) HH0.out (Below.of_al ws (.cells #[.int .i64 (i:Int)] 3)) HO5.out HG5.out;rw [HET.out] at hst
          go_roundg (n-(l.length+1))
          case measure=>omega
          case rel=>exact ⟨(en:Int),l++[(i:Int)],_,by simp,rfl,by simp,hst⟩
         ·have hse:(ew+de==dv)=false:=by simpa using hsum
          have hin:i<i0:=by
           rcases Nat.lt_or_ge i i0 with h|h
           ·exact h
           ·exact absurd (HG2.out (by omega)).2.2 (by omega)
          clear hsum HG1 HG2;refine Af (by kernel_rfl) (by kernel_rfl) ?_
          repeat (go_big_quiet_step ((go_at_call 121;exact Calls.ext_of (HCN.out _))))
          refine wpQuiet_nil ?_;rintro _ ⟨ps,rfl⟩;have HBs:=Bm0 (Ah W7 ps);generalize ext W7 ps=ws at HBs ⊢;clear f1 f2 f3 f4 f5 f6 f7 f8 f9 f10 f11 f12
          go_wp2
          go_roundg (es.length-(i+1))
          case measure=>omega
          case rel=>exact ⟨i+1,by omega,Bm2 _,rfl,by go_num,HQ7.out.go HBs.out⟩
        ·have hin:i<i0:=by
          rcases Nat.lt_or_ge i i0 with h|h
          ·exact h
          ·exact absurd (HG2.out (by omega)).2.1 hd
         obtain rfl:de=4611686018427387904:=by omega
         clear hd HG1 HG2;refine Af (by kernel_rfl) (by kernel_rfl) ?_
         repeat (go_big_quiet_step ((go_at_call 121;exact Calls.ext_of (HCN.out _))))
         refine wpQuiet_nil ?_;rintro _ ⟨ps,rfl⟩;have HBs:=Bm0 (Ah W7 ps);generalize ext W7 ps=ws at HBs ⊢;clear f1 f2 f3 f4 f5 f6 f7 f8 f9 f10 f11 f12
         go_wp2
         go_roundg (es.length-(i+1))
         case measure=>omega
         case rel=>exact ⟨i+1,by omega,Bm2 _,rfl,by go_num,HQ7.out.go HBs.out⟩
       ·have hbe:(ef==(vn:Int))=false:=by simpa using hfv
        have hin:i<i0:=by
         rcases Nat.lt_or_ge i i0 with h|h
         ·exact h
         ·exact absurd (HG2.out (by omega)).1 hfv
        clear hfv HG1 HG2;refine Af (by kernel_rfl) (by kernel_rfl) ?_
        repeat (go_big_quiet_step ((go_at_call 121;exact Calls.ext_of (HCN.out _))))
        refine wpQuiet_nil ?_;rintro _ ⟨ps,rfl⟩;have HBs:=Bm0 (Ah W7 ps);generalize ext W7 ps=ws at HBs ⊢;clear f1 f2 f3 f4 f5 f6 f7 f8 f9 f10 f11 f12
        go_wp2
        go_roundg (es.length-(i+1))
        case measure=>omega
        case rel=>exact ⟨i+1,by omega,Bm2 _,rfl,by go_num,HQ7.out.go HBs.out⟩
   ·have hge:(4611686018427387904:Int)<=gD d (sn:Int):=by omega
    have HNO:=Bm0 (show ∀e,¬Way0 (Am es) Any (sn:Int) (tn:Int) e from by
     rcases HTD.out (sn:Int) ⟨hs0,hs1⟩ with ⟨_,_,h⟩|⟨_,h⟩
     ·omega
     ·exact h)
    obtain ⟨x0,x1,f0,f1⟩:=HRX.out _ (HB1.out.st HB4.out);generalize gD d (sn:Int)=x at*;clear hfar
    go_wp2
    obtain ⟨r0,r1⟩:=Cc (.slice none 0 0) (.int .u64 0) x0 x1;refine bodyPost_ret (v:=.tuple #[.agg #[.slice none 0 0,.int .u64 0],.int .i64 9]) (by simp [results,Tryz.results63,go_sem,r0,r1];try rfl) rfl ?_;exact ⟨none,[],0,0,9,rfl,Cel.nil _ _,((HB.out.st (HB1.out.st HB4.out)).setCell (by show w.heap.size<=w.heap.size+1+1;omega) _).setCell (by show w.heap.size<=w.heap.size+1+1;omega) _,.inr ⟨by decide,rfl,rfl,.inr (.inl ⟨rfl,rfl,⟨hs0,hs1⟩,⟨ht0,ht1⟩,HNO.out⟩)⟩,fun y hy=>by cases hy⟩
  ·have HS:=Bm0 ht
   by_cases ht0:t<0
   ·clear ht
    go_wp2_with (go_at_call 119;refine HCK.out.mono ?_;rintro e w2 ⟨rfl,hb2⟩;(have HB2:=Bm0 (HB1.out.st hb2));(obtain ⟨x0,x1,f0,f1⟩:=HRX.out _ HB2.out);clear hb2)
    obtain ⟨r0,r1⟩:=Cc (.slice none 0 0) (.int .u64 0) x0 x1;refine bodyPost_ret (v:=.tuple #[.agg #[.slice none 0 0,.int .u64 0],.int .i64 7]) (by simp [results,Tryz.results63,go_sem,r0,r1];try rfl) rfl ?_;exact ⟨none,[],0,0,7,rfl,Cel.nil _ _,((HB.out.st HB2.out).setCell (by show w.heap.size<=w.heap.size+1+1;omega) _).setCell (by show w.heap.size<=w.heap.size+1+1;omega) _,.inr ⟨by decide,rfl,rfl,.inr (.inr ⟨rfl,rfl,fun h=>HS.out h.2⟩)⟩,fun y hy=>by cases hy⟩
   ·have ht1:(n:Int)<=t:=by omega
    have ht2:decide (t<0)=false:=by simpa using ht0
    clear ht ht0
    go_wp2_with (go_at_call 119;refine HCK.out.mono ?_;rintro e w2 ⟨rfl,hb2⟩;(have HB2:=Bm0 (HB1.out.st hb2));(have d20:=Bm1 hb2 d0);(obtain ⟨x0,x1,f0,f1⟩:=HRX.out _ HB2.out);clear hb2)
    obtain ⟨r0,r1⟩:=Cc (.slice none 0 0) (.int .u64 0) x0 x1;refine bodyPost_ret (v:=.tuple #[.agg #[.slice none 0 0,.int .u64 0],.int .i64 7]) (by simp [results,Tryz.results63,go_sem,r0,r1];try rfl) rfl ?_;exact ⟨none,[],0,0,7,rfl,Cel.nil _ _,((HB.out.st HB2.out).setCell (by show w.heap.size<=w.heap.size+1+1;omega) _).setCell (by show w.heap.size<=w.heap.size+1+1;omega) _,.inr ⟨by decide,rfl,rfl,.inr (.inr ⟨rfl,rfl,fun h=>HS.out h.2⟩)⟩,fun y hy=>by cases hy⟩
 ·rw [if_neg hs] at HCK
  have HS:=Bm0 hs;clear hs
  go_wp2_with (go_at_call 119;refine HCK.out.mono ?_;rintro e w2 ⟨rfl,hb2⟩;(have HB2:=Bm0 (HB1.out.st hb2));(obtain ⟨x0,x1,f0,f1⟩:=Ad.Df ((HB2.out.block _ (Bm7.1 HRB.out).1).trans HRB.out));clear hb2)
  obtain ⟨r0,r1⟩:=Cc (.slice none 0 0) (.int .u64 0) x0 x1;refine bodyPost_ret (v:=.tuple #[.agg #[.slice none 0 0,.int .u64 0],.int .i64 7]) (by simp [results,Tryz.results63,go_sem,r0,r1];try rfl) rfl ?_;exact ⟨none,[],0,0,7,rfl,Cel.nil _ _,((HB.out.st HB2.out).setCell (by show w.heap.size<=w.heap.size+1+1;omega) _).setCell (by show w.heap.size<=w.heap.size+1+1;omega) _,.inr ⟨by decide,rfl,rfl,.inr (.inr ⟨rfl,rfl,fun h=>HS.out h.1⟩)⟩,fun y hy=>by cases hy⟩
end Go.Proofs.YteaaapdjplbljaaGreat
