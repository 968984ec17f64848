/- Parts; no condition. -/
import Derived.Test.YteaaapdjplbljaaGreatVc37
set_option linter.unusedVariables false
set_option linter.unusedSimpArgs false
set_option linter.unnecessarySimpa false
set_option maxRecDepth 100000
set_option maxHeartbeats 8000000
namespace Go.Proofs.YteaaapdjplbljaaGreat
section
namespace Dj
open Go Go.Proofs Go.RowKit Go.Shelf Hp Ch Ad
attribute [local go_sem] Oper.semAt_some
structure RnM (K:DjK) (wr:World) (v:Value) (st:DS) (Ds:List Nat) (tb:Nat):Prop where
 mem:K.Mem wr v st
 tbc:wr.cell? ⟨tb,0,none⟩=some (.pointer (some ⟨K.xb,0,none⟩))
 tbx:¬K.C tb/\¬K.M v tb/\K.B<=tb
 mks:∀D∈Ds,wr.heap[D]? =some (.deferred (some []))/\¬K.C D/\¬K.M v D/\K.B<=D
 nod:Ds.Nodup
structure RnI (K:DjK) (wr:World) (v:Value) (st:DS) (s:Nat) (cur:Int) (out:List (Int×Int)) (done:Int->Int->Prop) (Ds:List Nat) (tb:Nat):Prop where
 m:RnM K wr v st Ds tb
 dj:Dj (XD K.es K.bk) (s:Int) (Em st.far) st.l cur out done
 dn:∀a∈out,∀i,done a.1 i
 dn2:∀u i,done u i->∃a∈out,a.1=u
 ok:OkD K.es K.bk K.n (s:Int) out
theorem RnM.off {X:Nat->Prop} {K:DjK} {wr w':World} {v:Value} {st:DS} {Ds:List Nat} {tb:Nat} (h:RnM K wr v st Ds tb) (ho:OffX X wr w') (h1:∀k,K.C k\/K.M v k->¬X k) (h2:¬X tb) (h3:∀D∈Ds,¬X D):RnM K w' v st Ds tb:=
 ⟨h.mem.off ho h1,ho.cell h.tbc h2,h.tbx,fun D hD=>let ⟨m1,m2⟩:=h.mks D hD;⟨(ho.block D (Bj2.1 m1).1 (h3 D hD)).trans m1,m2⟩,h.nod⟩
theorem RnM.go {K:DjK} {wr w':World} {v:Value} {st:DS} {Ds:List Nat} {tb:Nat} (h:RnM K wr v st Ds tb) (hb:Below wr.heap.size wr w'):RnM K w' v st Ds tb:=h.off (X:=fun _=>False) (.of_below hb) (fun _ _ h=>h) (fun h=>h) (fun _ _ h=>h)
structure RgD (K:DjK) (Wl Wx:World) (v2 v:Value) (st:DS) (s:Nat) (out:List (Int×Int)) (done:Int->Int->Prop) (Ds:List Nat) (tb dB vn:Nat) (d:Int) (pre:List Pd) (M:Nat) (J:List (Int×Int)->World->Prop):Prop where
 m:RnM K Wx v st Ds tb
 dc:Wx.cell? ⟨dB,0,none⟩=some (.int .u64 d)
 dx:¬K.C dB/\¬K.M v dB/\K.B<=dB
 ux:∀k,K.M v k->K.M v2 k\/Wl.heap.size+2<=k
 dj:Dj (XD K.es K.bk) (s:Int) (Em st.far) st.l d out (fun u j=>done u j\/(u=(vn:Int)/\∃x∈pre,x.1=j))
 wn:Cz K.n st.far st.l<=M
 sz:Wl.heap.size<=Wx.heap.size
 jj:J out Wx
theorem RgD.turn {K:DjK} {Wl Wx Wy:World} {v2 v:Value} {st st0:DS} {s:Nat} {out:List (Int×Int)} {done:Int->Int->Prop} {Ds:List Nat} {tb dB vn:Nat} {d:Int} {pre:List Pd} {M:Nat} {J:List (Int×Int)->World->Prop} (h:RgD K Wl Wx v2 v st s out done Ds tb dB vn d pre M J)
  (hJ:∀pre W1 W2,J pre W1->OffX (K.B<=·) W1 W2->J pre W2) (h0:RnM K Wl v2 st0 Ds tb) (hd:dB<Wl.heap.size) (ho:OffX (Au Wl.heap.size) Wx Wy):RgD K Wl Wy v2 v st s out done Ds tb dB vn d pre M J:=by
 have hn:∀k,k<Wl.heap.size->¬Au Wl.heap.size k:=fun k hk e=>by unfold Au at e;omega
 refine ⟨h.m.off ho (fun k hk=>?_) (hn _ (Bj5 _ _ h0.tbc)) (fun D hD=>hn _ (Bj2.1 (h0.mks D hD).1).1),ho.cell h.dc (hn _ hd),h.dx,h.ux,h.dj,h.wn,Bi9 h.sz ho.size,hJ _ _ _ h.jj (ho.mono fun k hk=>by unfold Au at hk;have:=h0.mem.bs;omega)⟩
 rcases hk with hk|hk
 ·exact hn k (h0.mem.con.lt k hk)
 ·rcases h.ux k hk with e|e
  ·exact hn k (h0.mem.mlt k e)
  ·intro e2
   unfold Au at e2;omega
theorem Be3 {K:DjK} {w5 w7 W0 Wx w8 w9:World} {v2 v9 v8:Value} {st0 st5 st':DS} {s:Nat} {out:List (Int×Int)} {done:Int->Int->Prop} {Ds:List Nat} {tb dB vn t j:Nat} {d:Int} {pre:List Pd} {xe:EdgeD} {M:Nat} {J:List (Int×Int)->World->Prop}
  (hE:EOK K.n K.es) (h9:RgD K w7 Wx v2 v9 st' s out done Ds tb dB vn d pre M J) (h7:RnM K w7 v2 st0 Ds tb) (h5:RnM K w5 v2 st5 Ds tb) (hd:dB<w7.heap.size) (hsz:w7.heap.size+2<=W0.heap.size) (hWx:W0.heap.size+1<=Wx.heap.size) (hz7:w7.heap.size=w5.heap.size+3)
  (hx:((j:Int),xe)∈It K.es K.bk vn) (htt:Vd K.bk xe=(t:Int)) (ho2:((vn:Int),d)∈out) (hJ:∀pre W1 W2,J pre W1->OffX (K.B<=·) W1 W2->J pre W2) (hb8:Below Wx.heap.size Wx w8)
  (hu8:K.Mem w9 v8 (Cg st' t (d+xe.w))) (ho8:OffX (K.M v9) w8 w9) (hv8:v8.ownBlock=v9.ownBlock\/∃g,v8.ownBlock=some g/\w8.heap.size<=g):
  KeepX (Mr (KpA K.lo K.hi w5.heap.size) w7.heap.size) Wx w9/\∃v st',RgD K w7 w9 v2 v st' s out done Ds tb dB vn d (pre++[((j:Int),xe)]) M J:=by
 have hs8:=hb8.size;have hs9:=ho8.size;have hx8:∀k,K.M v8 k->K.M v9 k\/w8.heap.size<=k:=by
  rintro k (e|e|e|e)
  ·exact .inl (.inl e)
  ·exact .inl (.inr (.inl e))
  ·rcases hv8 with h|⟨g,h,hg⟩
   ·exact .inl (.inr (.inr (.inl (h▸e))))
   ·rw [h] at e
    cases e
    exact .inr hg
  ·exact .inl (.inr (.inr (.inr e)))
 have hnk:∀k,w5.heap.size<=k->k<w7.heap.size+2->¬K.M v9 k:=fun k h1 h2 e=>by
  rcases h9.ux k e with e2|e2
  ·have:=h5.mem.mlt k e2
   omega
  ·omega
 have hblk:∀k,k<Wx.heap.size->¬K.M v9 k->w9.heap[k]? =Wx.heap[k]?:=fun k h1 h2=>(ho8.block k (by omega) h2).trans (hb8.block k h1);have hlx:=h9.sz;have hoB:OffX (K.B<=·) Wx w9:=(OffX.of_below hb8).trans (ho8.mono fun k hk=>h9.m.mem.ge k (.inr hk));have htl:=Bj5 _ _ h9.m.tbc;have hst:=Bg0 hE hx h9.m.mem.ok h9.m.mem.lens.1 h9.m.mem.lens.2 ho2 h9.dj htt;refine ⟨⟨by omega,fun k hk=>?_⟩,v8,_,⟨hu8,?_,⟨h9.m.tbx.1,fun e=>?_,h9.m.tbx.2.2⟩,fun D hD=>?_,h9.m.nod⟩,?_,⟨h9.dx.1,fun e=>?_,h9.dx.2.2⟩,fun k e=>?_,?_,Bi9 hst.2 h9.wn,by omega,hJ _ _ _ h9.jj hoB⟩
 ·have hc:=h7.mem.con.hi
  rcases hk with (h|h)|h|h
  ·exact hblk k (by omega) (h9.m.mem.sep k (.inr (.inl h)))
  ·exact hblk k (by omega) (hnk k (by omega) (by omega))
  ·exact hblk k (by omega) (hnk k (by omega) (by omega))
  ·exact hblk k (by omega) (hnk k (by omega) (by omega))
 ·exact (Bl2 (a:=⟨tb,0,none⟩) (hblk tb htl h9.m.tbx.2.1)).trans h9.m.tbc
 ·rcases hx8 _ e with e2|e2
  ·exact h9.m.tbx.2.1 e2
  ·have htl2:tb<Wx.heap.size:=htl
   omega
 ·obtain ⟨m1,m2,m3,m4⟩:=h9.m.mks D hD
  have hlt:=(Bj2.1 m1).1;refine ⟨(hblk D hlt m3).trans m1,m2,fun e=>?_,m4⟩
  rcases hx8 _ e with e2|e2
  ·exact m3 e2
  ·omega
 ·exact (Bl2 (a:=⟨dB,0,none⟩) (hblk dB (by omega) h9.dx.2.1)).trans h9.dc
 ·rcases hx8 _ e with e2|e2
  ·exact h9.dx.2.1 e2
  ·omega
 ·rcases hx8 _ e with e2|e2
  ·exact h9.ux k e2
  ·exact .inr (by omega)
 ·refine Dj.full hst.1 (fun a ha i v w hd' _=>?_)
  rcases hd' with h|⟨h1,x,hx',h2⟩
  ·exact .inl (.inl h)
  ·rcases Bl8.1 hx' with hx'|hx'
   ·exact .inl (.inr ⟨h1,x,hx',h2⟩)
   ·rw [Bk2] at hx'
    subst hx';exact .inr ⟨h1,h2.symm⟩
def RnJ (K:DjK) (s tb yl:Nat) (J:List (Int×Int)->World->Prop) (m:Nat) (a:Act) (wr:World):Prop:=
 ∃u3 u4 u5 u6 u7 u8 u9 u10 u11 u12 u13 u14 u15 u16 u17 u18 u19 u20 u21 u22 u23 u24 u25 u26 u27 u28 u29 u30 u31 u32 u33 u34 u35 u36 u37 u38 u39 u40 u41 u42 u43 u44 u45 u46 u47 u48 u49 u50 u51 u52 u53 u54 u55 u56 u57 u58 u59 u60 u61 u62 u63 u64 u65:Value,∃Ds:List Nat,a={ tmps:=#[.pointer (some ⟨K.xb,0,none⟩),.func (.yield yl) #[] #[],.pointer (some ⟨tb,0,none⟩),u3,u4,u5,u6,u7,u8,u9,u10,u11,u12,u13,u14,u15,u16,u17,u18,u19,u20,u21,u22,u23,u24,u25,u26,u27,u28,u29,u30,u31,u32,u33,u34,u35,u36,u37,u38,u39,u40,u41,u42,u43,u44,u45,u46,u47,u48,u49,u50,u51,u52,u53,u54,u55,u56,u57,u58,u59,u60,u61,u62,u63,u64,u65],defers:=Qu Ds }/\Aside (∃v st cur out done,RnI K wr v st s cur out done Ds tb/\J out wr/\Cz K.n st.far st.l<=m)
theorem DjK.Mem.pop {K:DjK} {W W':World} {v v':Value} {s:DS} (h:K.Mem W v s) (hne:s.l≠[]) (hh:HeapW W' K.hp v' K.va (Az s.l s.p (gI s.l 0).1.toNat 0).1 (Az s.l s.p (gI s.l 0).1.toNat 0).2)
  (ho:OffX (HX K.hp v K.va) W W') (hv:v'.ownBlock=v.ownBlock):K.Mem W' v' ⟨s.far,(Az s.l s.p (gI s.l 0).1.toNat 0).1,(Az s.l s.p (gI s.l 0).1.toNat 0).2⟩/\∀y,y∈(Az s.l s.p (gI s.l 0).1.toNat 0).1↔y∈s.l/\y.1≠(gI s.l 0).1:=by
 have h0:0<s.l.length:=List.length_pos_iff.2 hne;obtain ⟨p1,p2,p3⟩:=h.ok.c.pos 0 h0;have e:(((gI s.l 0).1.toNat:Nat):Int)=(gI s.l 0).1:=by omega
 obtain ⟨d1,d2,d3,d4⟩:=Ke h.ok p2 h0 p3 e.symm;rw [e] at d4;have hx:∀k,HX K.hp v' K.va k->HX K.hp v K.va k:=by
  rintro k (hk|hk|hk)
  ·exact .inl hk
  ·exact .inr (.inl (hv▸hk))
  ·exact .inr (.inr hk)
 have hM:∀k,K.M v' k->K.M v k:=fun k hk=>hk.imp id (hx k);exact ⟨⟨h.con.kept ho.size (fun k hk=>ho.block k (h.con.lt k hk) (fun e=>h.sep k hk (.inr e))),h.st.off ho (fun e=>h.sp2 _ (.inl rfl) e) (fun e=>h.sp2 _ (.inr rfl) e),hh,d1,⟨h.lens.1,d2.trans h.lens.2⟩,fun k hk hm=>h.sep k hk (hM k hm),fun k hk hm=>h.sp2 k hk (hx k hm),fun k hk=>h.ge k (hk.imp id (hM k)),by have:=ho.size;have:=h.bs;omega⟩,d4⟩
def Bc7 (K:DjK) (s yl m:Nat) (J Jx:List (Int×Int)->World->Prop):Prop:=
 ∀pre x W1,J pre W1->OkD K.es K.bk K.n (s:Int) (pre++[x])->K.B<=W1.heap.size->YieldAt Fence.wide m Tryz.prog yl (Yj x) W1 fun e W'=>
  (e=.returned (.bool true)/\J (pre++[x]) W'/\OffX (fun k=>k<K.B) W1 W')\/(e=.returned (.bool false)/\Jx (pre++[x]) W'/\OffX (fun k=>k<K.B) W1 W')
theorem Aj5 (K:DjK) (W:World) (v:Value) (s yl:Nat) (J Jx:List (Int×Int)->World->Prop) (h:K.Mem W v (Cg (DS.zero K.n) s 0)) (hE:EOK K.n K.es) (hs:s<K.n) (hn:K.n<=50000) (hm:K.es.length<=50000)
  (hJ:∀pre W1 W2,J pre W1->OffX (K.B<=·) W1 W2->J pre W2) (hJx:∀pre W1 W2,Jx pre W1->OffX (K.B<=·) W1 W2->Jx pre W2) (hY:∀m,Bc7 K s yl m J Jx) (hJ0:J [] W):
  Calls Tryz.prog 195 #[.pointer (some ⟨K.xb,0,none⟩),.func (.yield yl) #[] #[]] W fun e W'=>e=.returned (.tuple #[])/\((∃parts,Ai3 K.es K.bk K.n (s:Int) parts/\J parts W')\/∃pre,OkD K.es K.bk K.n (s:Int) pre/\Jx pre W'):=by
 obtain ⟨V,hV⟩:∃V,V=W.alloc (Obj.cells #[.pointer (some ⟨K.xb,0,none⟩)] 283):=⟨_,rfl⟩;have hbV:Below W.heap.size W V:=by rw [hV];exact Below.of_al _ _
 have q0:V.cell? ⟨W.heap.size,0,none⟩=some (.pointer (some ⟨K.xb,0,none⟩)):=by rw [hV];go_simp
 have HUV:=Bi5 (h.go hbV);have HU:=Bi5 h;have HV:=Bi5 hV;have HJ0:=Bi5 (hJ _ _ _ hJ0 (.of_below hbV));have HBV:=Bi5 hbV;clear h hV hbV hJ0;refine (callsIn_wide (n:=4)).1 (callsIn_of_wp_marks Tryz.func195 rfl trivial (wpIn_wide.2 ?_) rfl);simp only [Tryz.ntmps195,List.size_toArray,Bk0,Bk1,Nat.reduceAdd,Nat.reduceSub,Array.replicate_succ,Array.replicate_zero,List.push_toArray,List.append_toArray,List.nil_append,List.cons_append]
 repeat go_step
 refine wp_scope_straight ?_
 go_upto_region 1 with (fail)
 rw [<-HV.out]
 repeat go_step
 go_step3
 repeat go_step
 refine wp_loop_ghost_k (RnJ K s W.heap.size yl J) (Cz K.n (Cg (DS.zero K.n) s 0).far (Cg (DS.zero K.n) s 0).l) ?_ ?_
 ·unfold RnJ
  iterate 63 apply Exists.intro
  refine ⟨[],rfl,v,_,0,[],fun _ _=>False,⟨⟨HUV.out,q0,⟨fun e=>absurd (HU.out.con.lt _ e) (Nat.lt_irrefl _),fun e=>absurd (HU.out.mlt _ e) (Nat.lt_irrefl _),HU.out.bs⟩,(fun _ h=>nomatch h),List.nodup_nil⟩,Bb9 hs _ _,(fun _ h=>nomatch h),(fun _ _ h=>h.elim),⟨List.Pairwise.nil,(fun _ h=>nomatch h)⟩⟩,HJ0.out,Bi7 _⟩
 clear HUV HV q0 HJ0 HBV;intro m a wr hI J9 K9 hJ9 hK9;unfold RnJ at hI;obtain ⟨u3,u4,u5,u6,u7,u8,u9,u10,u11,u12,u13,u14,u15,u16,u17,u18,u19,u20,u21,u22,u23,u24,u25,u26,u27,u28,u29,u30,u31,u32,u33,u34,u35,u36,u37,u38,u39,u40,u41,u42,u43,u44,u45,u46,u47,u48,u49,u50,u51,u52,u53,u54,u55,u56,u57,u58,u59,u60,u61,u62,u63,u64,u65,Ds,rfl,HA⟩:=hI;obtain ⟨v',st,cur,out,done,hI,hjr,hw⟩:=HA.out;have HI:=Bi5 hI;have HWM:=Bi5 hw;have HJR:=Bi5 hjr;have tbc:=hI.m.tbc;have x10:=(hI.m.mem.con.bx 10 _ rfl).1;have HPP:=Bi5 (Mi K.hp v' K.va st.l st.p wr hI.m.mem.hw hI.m.mem.ok (by have:=hI.m.mem.llen;omega));unfold Kg at HPP;clear hI hw HA hjr
 cases hl:st.l with
 |nil=>
  rw [hl] at HPP;have HPQ:=Bi5 (HPP.out.mono (R':=fun e w'=>e=.returned (Fa [])/\Below wr.heap.size wr w') (fun e w' h=>⟨h.1,h.2.elim (fun k=>k.2) (fun k=>absurd rfl k.1)⟩));unfold Fa at HPQ;have HL:=Bi5 hl;clear hl HPP
  go_wp2_with (go_at_call 165;refine HPQ.out.mono ?_;rintro e w2 ⟨rfl,hb2⟩;(have HB2:=Bi5 hb2);clear hb2)
  have hIo:=HI.out;have hoB:OffX (K.B<=·) wr (w2.alloc (Obj.cells #[.int .u64 0] 37)):=.of_below (HB2.out.al _)
  try simp only [Exit.noGoto]
  refine Eu Ds _ hIo.m.nod (fun D hD=>?_) (fun W9 ho9=>⟨.tuple #[],results_none rfl _ _ _,rfl,.inl ⟨out,⟨hIo.ok,fun v e hv=>?_⟩,hJ _ _ _ HJR.out (hoB.trans (ho9.mono fun k hk=>(hIo.m.mks k hk).2.2.2))⟩⟩)
  ·have h9:=(hIo.m.mks D hD).1
   rw [(HB2.out.al _).block D (Bj2.1 h9).1];exact h9
  ·have hd:=hIo.dj
   rw [HL.out] at hd;exact Dj.all (fun u v w k=>(XD.ok hE u v w k).2.2.1) hd (fun a ha i v w _=>hIo.dn a ha i) hv
 |cons y0 l0=>
  obtain ⟨y,d⟩:=y0;have hne:st.l≠[]:=by rw [hl];simp
  have hg0:gI st.l 0=(y,d):=by rw [hl];rfl
  have hin:(y,d)∈st.l:=by rw [hl];exact List.mem_cons_self ..
  have hfy:=(HI.out.dj.heap y d hin).1;have hny:=Kd hfy;rw [HI.out.m.mem.lens.1] at hny;obtain ⟨vn,rfl⟩:∃vn:Nat,y=vn:=⟨y.toNat,by have:=hny.1;omega⟩;have hvn:vn<K.n:=by have:=hny.2;omega
  have HPQ:=Bi5 (HPP.out.mono (R':=fun e w'=>e=.returned (.tuple #[.int .i64 (vn:Int),.int .u64 d,.bool true])/\∃v2,HeapW w' K.hp v2 K.va (Az st.l st.p (gI st.l 0).1.toNat 0).1 (Az st.l st.p (gI st.l 0).1.toNat 0).2/\OffX (HX K.hp v' K.va) wr w'/\v2.ownBlock=v'.ownBlock) (fun e w' h=>⟨by rw [h.1,hl];rfl,h.2.elim (fun k=>absurd k.1 hne) (fun k=>k.2)⟩));have HMIN:=Bi5 (show ∀z∈st.l,d<=z.2 from fun z hz=>by have:=HI.out.m.mem.ok.least hz;rw [hg0] at this;exact this);have HFY:=Bi5 hfy;have HIN:=Bi5 hin;have HPOP:=Bi5 (fun w' v2 hh ho hv=>HI.out.m.mem.pop (W':=w') (v':=v2) hne hh ho hv);rw [hg0] at HPQ HPOP;generalize (Az st.l st.p ((vn:Int),d).1.toNat 0).1=L2 at HPQ HPOP;generalize (Az st.l st.p ((vn:Int),d).1.toNat 0).2=P2 at HPQ HPOP;have htbn:W.heap.size<wr.heap.size:=Bj5 _ _ tbc;have HNX:=Bi5 HI.out.m.tbx;clear hl HPP hfy hny hin hne hg0
  go_upto_region 2 with (go_at_call 165;refine HPQ.out.mono ?_;rintro e w2 ⟨rfl,v2,hh2,ho2,hv2⟩;(obtain ⟨hu2,hm2⟩:=HPOP.out w2 v2 hh2 ho2 hv2);(have tbc2:=ho2.cell tbc (fun e=>HNX.out.2.1 (.inr e)));(have HU2:=Bi5 hu2);(have HM2:=Bi5 hm2);(have HO2:=Bi5 ho2);(have HV2:=Bi5 hv2);clear hu2 hm2 hh2 ho2 hv2)
  obtain ⟨W3,hW3⟩:∃W3,W3=w2.alloc (Obj.cells #[.int .u64 d] 37):=⟨_,rfl⟩;have hb3:Below w2.heap.size w2 W3:=by rw [hW3];exact Below.of_al _ _
  have d3:W3.cell? ⟨w2.heap.size,0,none⟩=some (.int .u64 d):=by rw [hW3];go_simp
  rw [<-hW3];have tbc3:=Bi6 hb3 tbc2;have hoff:OffX (K.B<=·) wr W3:=(HO2.out.mono fun k hk=>HI.out.m.mem.ge k (.inr (.inr hk))).trans (.of_below hb3);obtain ⟨hp1,hp2,hp3⟩:=Dj.pop (fun u v w k=>(XD.ok hE u v w k).2.2.1) HI.out.dj (fun a ha i v w _=>HI.out.dn a ha i) HIN.out HMIN.out (fun z=>HM2.out z) (fun i hi=>by
   obtain ⟨a,ha,e⟩:=HI.out.dn2 _ _ hi;have h9:=(HI.out.dj.lab a ha).2.2.1 d;rw [e] at h9;exact h9 HIN.out)
  have HOKP:=Bi5 (show OkD K.es K.bk K.n (s:Int) (out++[((vn:Int),d)]) from ⟨Bn5.2 ⟨HI.out.ok.1,List.pairwise_singleton _ _,fun a ha b hb=>by obtain rfl:=Bk2.1 hb;exact hp2 a ha⟩,fun a ha=>by
   rcases Bl8.1 ha with ha|ha
   ·exact HI.out.ok.2 a ha
   ·obtain rfl:=Bk2.1 ha
    exact ⟨hp3,by omega,by omega⟩⟩)
  have HP1:=Bi5 hp1;have hdb:=Vq (M:=4294967296) (by decide) (fun u v w k=>XD.ok hE u v w k) K.n (vn:Int) d [] ⟨by omega,by omega⟩ hp3 (by simp) List.nodup_nil (by simp);have hd0:0<=d:=hp1.low;have HWP:=Bi5 (show Cz K.n st.far L2<m from Nat.lt_of_lt_of_le (Mv (n:=K.n) (far:=st.far) hvn HIN.out (by rw [<-Co];exact HFY.out) (fun z=>HM2.out z)) HWM.out);have HM3:=Bi5 (show RnM K W3 v2 ⟨st.far,L2,P2⟩ Ds W.heap.size from by
   have hx2:∀k,K.M v2 k->K.M v' k:=by
    rintro k (hk|hk|hk|hk)
    ·exact .inl hk
    ·exact .inr (.inl hk)
    ·exact .inr (.inr (.inl (HV2.out▸hk)))
    ·exact .inr (.inr (.inr hk))
   refine ⟨HU2.out.go hb3,tbc3,⟨HNX.out.1,fun e=>HNX.out.2.1 (hx2 _ e),HNX.out.2.2⟩,fun D hD=>?_,HI.out.m.nod⟩;obtain ⟨m1,m2,m3,m4⟩:=HI.out.m.mks D hD;have hlt:=(Bj2.1 m1).1;have hz:=HO2.out.size;exact ⟨by rw [hb3.block D (by omega),HO2.out.block D hlt (fun e=>m3 (.inr e))];exact m1,m2,fun e=>m3 (hx2 _ e),m4⟩)
  have HJ3:=Bi5 (hJ _ _ _ HJR.out hoff);obtain ⟨fn9,tm9,as9,bo9,hy,hR⟩:=hY 3 out ((vn:Int),d) W3 HJ3.out HOKP.out (HU2.out.go hb3).bs;have HRR:=Bi5 hR
  dsimp only [Yj] at hy
  clear hp1 hp2 hp3 hoff hW3 hb3 tbc2 tbc hR;refine (wpIn_wide (n:=4)).1 ?_
  gi_wp2
  refine HRR.out.mono ?_;rintro e W4 (⟨rfl,hj4,hk4⟩|⟨rfl,hj4,hk4⟩)
  ·have HJ4:=Bi5 hj4
   have HK4:=Bi5 hk4;have hmem:=HM3.out.mem.off hk4 (fun k hk e=>by have:=HM3.out.mem.ge k hk;omega);have HM4:=Bi5 (show RnM K W4 v2 ⟨st.far,L2,P2⟩ Ds W.heap.size from ⟨hmem,hk4.cell HM3.out.tbc (fun e=>by have:=HM3.out.tbx.2.2;simp only at e;omega),HM3.out.tbx,fun D hD=>by
    obtain ⟨m1,m2,m3,m4⟩:=HM3.out.mks D hD;exact ⟨(hk4.block D (Bj2.1 m1).1 (fun e=>by omega)).trans m1,m2,m3,m4⟩,HM3.out.nod⟩)
   have d4:=hk4.cell d3 (fun e=>by have h9:=HO2.out.size;have h8:=HI.out.m.mem.bs;simp only at e;omega);clear hj4 hk4 hmem HJ3 HJR d3 tbc3 hy HRR
   gi_wp2
   go_upto_region 3 with (fail)
   have t4:=HM4.out.tbc;have x40:=(HM4.out.mem.con.bx 0 _ rfl).1;have x41:=(HM4.out.mem.con.bx 1 _ rfl).1;have e0:=fun p=>Ac p t4;have e1:=fun p=>Ac p x40;have e2:=fun p=>Ac p x41;have HEA:=Bi5 (fun w=>Ad.Hg K.ab (vn:Int) K.bk w);clear t4 x40 x41;refine Fw 10 (by kernel_rfl) (by kernel_rfl) ?_;simp only [List.take_succ_cons,List.take_zero,List.drop_succ_cons,List.drop_zero]
   repeat (go_big_quiet_step (fail))
   refine wpQuiet_nil ?_;rintro _ ⟨p5,rfl⟩;have HB5:=Bi5 (Ah W4 p5);generalize ext W4 p5=w5 at HB5 ⊢;clear e0 e1 e2
   go_wp2_with (go_at_call 116;refine (HEA.out _).mono ?_;rintro e w7 ⟨rfl,hb7,hz7,b0,b1,b2⟩)
   have HM5:=Bi5 (HM4.out.go HB5.out);have HM7:=Bi5 (HM5.out.go hb7);have d7:=Bi6 hb7 (Bi6 HB5.out d4);have hdl:w2.heap.size<w5.heap.size:=Bj5 _ _ (Bi6 HB5.out d4);have HDL:=Bi5 (show w2.heap.size<w7.heap.size by have:=hb7.size;omega);have hhi:=HM5.out.mem.con.hi;have hkB:∀j,KpA K.lo K.hi w5.heap.size j->j<w7.heap.size:=by
    rintro j (h|h)
    ·omega
    ·omega
   have HSEQ:=Bi5 (Ad.En 3 (by decide) K.lo K.hi K.ab K.n K.es K.bk vn w5.heap.size w7 HM7.out.mem.con.adj hvn hn hm (hE.key K.bk) HM7.out.mem.con.hi (by omega) b0 b1 b2);have HKB:=Bi5 hkB;have HOK2:=Bi5 (show ((vn:Int),d)∈out++[((vn:Int),d)] by simp);have hdx:¬K.C w2.heap.size/\¬K.M v2 w2.heap.size/\K.B<=w2.heap.size:=⟨fun e=>absurd (HU2.out.con.lt _ e) (Nat.lt_irrefl _),fun e=>absurd (HU2.out.mlt _ e) (Nat.lt_irrefl _),HU2.out.bs⟩;have hoff7:OffX (K.B<=·) W4 w7:=.of_below (HB5.out.st hb7);have HI0:=Bi5 (show RgD K w7 w7 v2 v2 ⟨st.far,L2,P2⟩ s (out++[((vn:Int),d)]) done Ds W.heap.size w2.heap.size vn d [] (Cz K.n st.far L2) J from
    ⟨HM7.out,d7,hdx,fun k hk=>.inl hk,Dj.full HP1.out (fun a ha i v w hd' _=>hd'.elim id (fun k=>by obtain ⟨_,x,hx,_⟩:=k;cases hx)),Bi7 _,Bi7 _,hJ _ _ _ HJ4.out hoff7⟩)
   have HZ7:=Bi5 hz7;clear hb7 hz7 b0 b1 b2 hkB hdx hoff7 d7 d4 hdl hhi HEA HK4 HJ4;refine (wpIn_wide (n:=4)).1 (Ge rfl (by decide) (gf:=177) rfl trivial (enters_of Tryz.func177 (by kernel_rfl) rfl) HSEQ.out HKB.out (fun _=>rfl)
    (fun pre Wx=>∃v st',RgD K w7 Wx v2 v st' s (out++[((vn:Int),d)]) done Ds W.heap.size w2.heap.size vn d pre (Cz K.n st.far L2) J)
    (fun _ _ _=>False) (fun pre Wx Wy h ho=>by obtain ⟨v,st',h⟩:=h;exact ⟨v,st',h.turn hJ HM7.out HDL.out ho⟩) (fun _ _ _ _ h _=>h) ⟨_,_,HI0.out⟩
    ?a1 (fun x Wx=>Wx.alloc (Obj.cells #[.int .i64 x.2.f,.int .i64 x.2.t,.int .u64 x.2.w] 109)) (fun x Wx=>Below.of_al _ _) ?assign ?body ?done ?stop)
   case assign=>
    intro l x Wx K3 hK3
    dsimp only [Ah2,Sx]
    gi_wp2
    exact hK3
   case stop=>exact fun _ _ _ _ _ _ h _=>h.elim
   case done=>
    rintro D Wx hD0 ⟨v9,st',hI9⟩ hK3
    show K9 _ _
    refine hK9 _ _ (Handed.intro (Cz K.n st.far L2) HWP.out (hJ9 _ _ _ ?_));unfold RnJ
    iterate 63 apply Exists.intro
    refine ⟨D::Ds,rfl,v9,st',d,out++[((vn:Int),d)],fun u j=>done u j\/u=(vn:Int),⟨⟨hI9.m.mem,hI9.m.tbc,hI9.m.tbx,fun E hE2=>?_,?_⟩,?_,?_,?_,HOKP.out⟩,hI9.jj,hI9.wn⟩
    ·rcases Bl7.1 hE2 with rfl|hE2
     ·refine ⟨hK3,fun e=>?_,fun e=>?_,?_⟩
      ·have:=HM7.out.mem.con.lt _ e
       omega
      ·rcases hI9.ux _ e with e2|e2
       ·have:=HM7.out.mem.mlt _ e2
        omega
       ·omega
      ·have:=HM7.out.mem.bs
       omega
     ·exact hI9.m.mks E hE2
    ·refine List.nodup_cons.2 ⟨fun hE2=>?_,hI9.m.nod⟩
     have:=(Bj2.1 (HM7.out.mks D hE2).1).1;omega
    ·refine Dj.full hI9.dj (fun a ha i v w hd' hx=>?_)
     rcases hd' with h|h
     ·exact .inl h
     ·rw [h] at hx
      exact .inr ⟨h,Ay0 hx⟩
    ·intro a ha i
     rcases Bl8.1 ha with ha|ha
     ·exact .inl (HI.out.dn a ha i)
     ·rw [Bk2] at ha
      subst ha;exact .inr rfl
    ·intro u i h
     rcases h with h|h
     ·obtain ⟨a,ha,e⟩:=HI.out.dn2 u i h
      exact ⟨a,List.mem_append_left _ ha,e⟩
     ·exact ⟨((vn:Int),d),by simp,h.symm⟩
   case body=>
    rintro l pre ⟨xi,xe⟩ W0 Wx ⟨v9,st',hI9⟩ hpx hsz ho;have hxm:(xi,xe)∈It K.es K.bk vn:=hpx.subset (List.mem_append_right pre (Bk2.2 rfl));obtain ⟨j,hxi,hjl,hxes,hje,hXD⟩:=Wk hE hxm;have hoth:=hE.oth K.bk _ hxes;have hxw:=(hE _ hxes).2.2;simp only at hxi hje hXD hoth hxw;subst hxi;obtain ⟨xf,xt,xw⟩:=xe;simp only at hxw;have HXM:=Bi5 hxm;obtain ⟨t,ht⟩:∃t:Nat,Vd K.bk (⟨xf,xt,xw⟩:EdgeD)=(t:Int):=⟨(Vd K.bk (⟨xf,xt,xw⟩:EdgeD)).toNat,by have:=hoth.1;omega⟩;have htn:t<K.n:=by have:=hoth.2;omega
    have HTT:=Bi5 ht;have hDz:w7.heap.size+1≠W0.heap.size:=by omega
    have y0:=ho.cell (p:=⟨W0.heap.size,0,none⟩) (v:=.int .i64 xf) (by go_simp) (fun e=>hDz (by unfold Au at e;exact e.symm));have y1:=ho.cell (p:=⟨W0.heap.size,1,none⟩) (v:=.int .i64 xt) (by go_simp) (fun e=>hDz (by unfold Au at e;exact e.symm));have hWx:W0.heap.size+1<=Wx.heap.size:=by have h9:=ho.size;rwa [World.size_alloc] at h9
    have tb9:=hI9.m.tbc;have dc9:=hI9.dc;have x91:=(hI9.m.mem.con.bx 1 _ rfl).1;have x96:=(hI9.m.mem.con.bx 6 _ rfl).1;have HCO:=Bi5 (Ac9 K Wx v9 st' j t hI9.m.mem hjl htn (by omega) (by omega));have HI9:=Bi5 hI9;clear hI9 ho hxm hoth hXD;obtain ⟨wa9,wc0,we,hws⟩:=Cel.of_owns HI9.out.m.mem.con.ws;obtain ⟨wb,wo,hwa,wc9⟩:=hws j (.int .u64 xw) (by unfold Hk;rw [List.map_map,Bk4,hje];rfl);have hwa2:K.wa=some ⟨wb,wo,none⟩:=by
     have h8:(Value.slice K.wa K.es.length K.wc)=.slice wa9 K.es.length wc0:=we;rw [hwa] at h8
     injection h8
    rw [hwa2] at x96;have hadd:IntKind.u64.wrap (d+xw)=d+xw:=by rw [Bn7];omega
    have hj0:(0:Int)<=(j:Int):=by omega
    have hj1:(j:Int)<(K.es.length:Int):=by omega
    have HR9:=Bi5 (fun (U:World) (hz:Below Wx.heap.size Wx U)=>Gv K U v9 st' t (d+xw) (HI9.out.m.mem.go hz) htn (by omega));unfold Dg at HR9;clear hws we hwa hje hwa2 hxw
    rcases Bool.eq_false_or_eq_true K.bk with hbk|hbk
    all_goals
     have ht2:=HTT.out;unfold Vd at ht2;rw [hbk] at ht2;simp only [if_true,Bool.false_eq_true,if_false] at ht2;subst ht2;rw [hbk] at x91;clear hbk
     gi_wp2_with (refine ⟨trivial,?_⟩;gi_at_call 248;refine (CallsIn.inRound l (callsIn_wide.2 HCO.out)).mono ?_;rintro e w8 ⟨rfl,hww⟩;obtain rfl:=hww.symm)
     refine Fx 11 _ [.pointer (some ⟨K.xb,0,none⟩),.int .i64 (t:Int),.int .u64 d,.pointer (some ⟨K.xb,0,none⟩),.pointer (some ⟨K.xb,0,none⟩),.pointer (some ⟨K.xb,6,none⟩),.slice (some ⟨wb,wo,none⟩) K.es.length K.wc,.int .i64 (j:Int),.pointer (some ⟨wb,wo+j,none⟩),.int .u64 xw,.int .u64 (d+xw)] rfl rfl (by kernel_rfl) (by kernel_rfl) (by kernel_rfl) (by kernel_rfl) ?_ ?_
     ·refine ⟨?_,?_,?_,?_,?_,?_,?_,?_,?_,?_,?_,trivial⟩
      ·intro act w' hbe hd ho KK hK
       have q0:act.tmps.getD 2 undef=.pointer (some ⟨W.heap.size,0,none⟩):=ho 2 (by kernel_rfl);have f0:=Bi6 hbe tb9;simp [Oper.wp,execOp,Oper.upon,go_sem,Act.eval,q0,f0];exact hK w' (Below.refl _ _)
      ·intro act w' hbe hd ho KK hK
       have q0:act.tmps.getD 9 undef=.int .i64 (t:Int):=ho 9 (by kernel_rfl);simp [Oper.wp,execOp,Oper.upon,go_sem,Act.eval,q0];exact hK w' (Below.refl _ _)
      ·intro act w' hbe hd ho KK hK
       have q0:act.tmps.getD 5 undef=.pointer (some ⟨w2.heap.size,0,none⟩):=ho 5 (by kernel_rfl);have f0:=Bi6 hbe dc9;simp [Oper.wp,execOp,Oper.upon,go_sem,Act.eval,q0,f0];exact hK w' (Below.refl _ _)
      ·intro act w' hbe hd ho KK hK
       have q0:act.tmps.getD 2 undef=.pointer (some ⟨W.heap.size,0,none⟩):=ho 2 (by kernel_rfl);have f0:=Bi6 hbe tb9;simp [Oper.wp,execOp,Oper.upon,go_sem,Act.eval,q0,f0];exact hK w' (Below.refl _ _)
      ·intro act w' hbe hd ho KK hK
       have q0:act.tmps.getD 57 undef=.pointer (some ⟨K.xb,0,none⟩):=hd 3 (by rfl);simp [Oper.wp,execOp,Oper.upon,go_sem,Act.eval,q0];exact hK w' (Below.refl _ _)
      ·intro act w' hbe hd ho KK hK
       have q0:act.tmps.getD 58 undef=.pointer (some ⟨K.xb,0,none⟩):=hd 4 (by rfl);simp [Oper.wp,execOp,Oper.upon,go_sem,Act.eval,q0];exact hK w' (Below.refl _ _)
      ·intro act w' hbe hd ho KK hK
       have q0:act.tmps.getD 59 undef=.pointer (some ⟨K.xb,6,none⟩):=hd 5 (by rfl);have f0:=Bi6 hbe x96;simp [Oper.wp,execOp,Oper.upon,go_sem,Act.eval,q0,f0];exact hK w' (Below.refl _ _)
      ·intro act w' hbe hd ho KK hK
       have q0:act.tmps.getD 7 undef=.int .i64 (j:Int):=ho 7 (by kernel_rfl);simp [Oper.wp,execOp,Oper.upon,go_sem,Act.eval,q0];exact hK w' (Below.refl _ _)
      ·intro act w' hbe hd ho KK hK
       have q0:act.tmps.getD 60 undef=.slice (some ⟨wb,wo,none⟩) K.es.length K.wc:=hd 6 (by rfl);have q1:act.tmps.getD 61 undef=.int .i64 (j:Int):=hd 7 (by rfl);simp [Oper.wp,execOp,Oper.upon,go_sem,Act.eval,q0,q1,hj0,hj1];exact hK w' (Below.refl _ _)
      ·intro act w' hbe hd ho KK hK
       have q0:act.tmps.getD 62 undef=.pointer (some ⟨wb,wo+j,none⟩):=hd 8 (by rfl);have f0:=Bi6 hbe wc9;simp [Oper.wp,execOp,Oper.upon,go_sem,Act.eval,q0,f0];exact hK w' (Below.refl _ _)
      ·intro act w' hbe hd ho KK hK
       have q0:act.tmps.getD 56 undef=.int .u64 d:=hd 2 (by rfl);have q1:act.tmps.getD 63 undef=.int .u64 xw:=hd 9 (by rfl);simp [Oper.wp,execOp,Oper.upon,go_sem,Act.eval,q0,q1,hadd];exact hK w' (Below.refl _ _)
     ·intro act w8 hb8 hon hact
      have q54:act.tmps.getD 54 undef=.pointer (some ⟨K.xb,0,none⟩):=hon 0 (by decide);have q55:act.tmps.getD 55 undef=.int .i64 (t:Int):=hon 1 (by decide);have q64:act.tmps.getD 64 undef=.int .u64 (d+xw):=hon 10 (by decide);simp [Oper.wp,execOp,Oper.upon,go_sem,Act.eval,q54,q55,q64];refine (HR9.out w8 hb8).mono ?_;rintro e w9 ⟨rfl,v8,hu8,ho8,hv8⟩;exact Be3 hE HI9.out HM7.out HM5.out HDL.out hsz hWx HZ7.out HXM.out HTT.out HOK2.out hJ hb8 hu8 ho8 hv8
  ·gi_wp2
   go_wp2
   try simp only [Exit.noGoto]
   have hm3:=HM3.out;refine Eu Ds _ hm3.nod (fun D hD=>?_) (fun W9 ho9=>⟨.tuple #[],results_none rfl _ _ _,rfl,.inr ⟨_,HOKP.out,hJx _ _ _ hj4 (ho9.mono fun k hk=>(hm3.mks k hk).2.2.2)⟩⟩);have h9:=hm3.mks D hD;rw [hk4.block D (Bj2.1 h9.1).1 (fun e=>by have:=h9.2.2.2;omega)];exact h9.1
end Dj
end
section
namespace Dj
open Go Go.Proofs Go.RowKit Go.Shelf Hp Ch Ad
structure OptB (W:World) (ob:Nat) (bk:Bool):Prop where
 o0:W.cell? ⟨ob,0,none⟩=some (.bool bk)
 o1:W.cell? ⟨ob,1,none⟩=some (.slice none 0 0)
 o2:W.cell? ⟨ob,2,none⟩=some (.slice none 0 0)
 o3:W.cell? ⟨ob,3,none⟩=some (.slice none 0 0)
 o4:W.cell? ⟨ob,4,none⟩=some (.int .u64 0)
theorem OptB.go {W W':World} {ob:Nat} {bk:Bool} (h:OptB W ob bk) (hb:Below W.heap.size W W'):OptB W' ob bk:=⟨Bi6 hb h.o0,Bi6 hb h.o1,Bi6 hb h.o2,Bi6 hb h.o3,Bi6 hb h.o4⟩
def WtR (L:Nat) (es:List EdgeD) (v:Value) (g:List Nat) (W:World):Prop:=∃a c,v=.slice a es.length c/\W.ownsRow 0 37 1 (.slice a es.length c) es.length ((Hk es).map Bz)/\∀k,(Value.slice a es.length c).ownBlock=some k->k∈g/\L<=k
def BiR (L n:Nat) (v:Value) (g:List Nat) (W:World):Prop:=∃b a,v=.pointer (some ⟨b,0,none⟩)/\BitZ W b a n/\(b∈g/\L<=b)/\(a∈g/\L<=a)
def StR (L n:Nat) (v:Value) (g:List Nat) (W:World):Prop:=∃b rb,v=.pointer (some ⟨b,0,none⟩)/\StW W b rb (List.replicate n none)/\(b∈g/\L<=b)/\(rb∈g/\L<=rb)
def HpR (L n:Nat) (v:Value) (g:List Nat) (W:World):Prop:=∃b a,v=.pointer (some ⟨b,0,none⟩)/\HeapW W b (.slice none 0 0) (.slice (some ⟨a,0,none⟩) n n) [] (List.replicate n (-1))/\(b∈g/\L<=b)/\(a∈g/\L<=a)
structure DjF (L:Nat) (W:World) (n:Nat) (es:List EdgeD) (nb na eb ea sb rb hp ha:Nat) (wa:Option Addr) (wc:Nat):Prop where
 nd:BitZ W nb na n
 ed:BitZ W eb ea es.length
 ws:W.ownsRow 0 37 1 (.slice wa es.length wc) es.length ((Hk es).map Bz)
 st:StW W sb rb (List.replicate n none)
 hw:HeapW W hp (.slice none 0 0) (.slice (some ⟨ha,0,none⟩) n n) [] (List.replicate n (-1))
 d1:∀k,(k=nb\/k=na\/k=eb\/k=ea\/(Value.slice wa es.length wc).ownBlock=some k)->¬(k=sb\/k=rb\/k=hp\/k=ha)
 d2:∀k,(k=sb\/k=rb)->¬(k=hp\/k=ha)
 ge:∀k,(k=nb\/k=na\/k=eb\/k=ea\/(Value.slice wa es.length wc).ownBlock=some k)\/(k=sb\/k=rb\/k=hp\/k=ha)->L<=k
theorem DjF.go {L:Nat} {W W':World} {n:Nat} {es:List EdgeD} {nb na eb ea sb rb hp ha:Nat} {wa:Option Addr} {wc:Nat} (h:DjF L W n es nb na eb ea sb rb hp ha wa wc) (hb:Below W.heap.size W W'):DjF L W' n es nb na eb ea sb rb hp ha wa wc:=
 ⟨h.nd.go hb,h.ed.go hb,Af h.ws hb,h.st.go hb,h.hw.go hb,h.d1,h.d2,h.ge⟩
theorem Bg1 {L:Nat} {W:World} {n:Nat} {es:List EdgeD} {nb na eb ea sb rb hp ha:Nat} {wa:Option Addr} {wc:Nat} {g4 g9 g15 g18 g21:List Nat}
  (h4:W.ownsRow 0 37 1 (.slice wa es.length wc) es.length ((Hk es).map Bz)) (h9:BitZ W nb na n) (h15:BitZ W eb ea es.length) (h18:StW W sb rb (List.replicate n none)) (h21:HeapW W hp (.slice none 0 0) (.slice (some ⟨ha,0,none⟩) n n) [] (List.replicate n (-1)))
  (b4:∀k,(Value.slice wa es.length wc).ownBlock=some k->k∈g4/\L<=k) (b9:nb∈g9/\L<=nb) (c9:na∈g9/\L<=na) (b15:eb∈g15/\L<=eb) (c15:ea∈g15/\L<=ea) (b18:sb∈g18/\L<=sb) (c18:rb∈g18/\L<=rb) (b21:hp∈g21/\L<=hp) (c21:ha∈g21/\L<=ha)
  (d1:∀k,k∈g4->k∉g18) (d2:∀k,k∈g4->k∉g21) (d3:∀k,k∈g9->k∉g18) (d4:∀k,k∈g9->k∉g21) (d5:∀k,k∈g15->k∉g18) (d6:∀k,k∈g15->k∉g21) (d7:∀k,k∈g18->k∉g21):DjF L W n es nb na eb ea sb rb hp ha wa wc:=by
 have e1:∀k,(k=sb\/k=rb)->k∈g18:=by rintro k (rfl|rfl);exact b18.1;exact c18.1
 have e2:∀k,(k=hp\/k=ha)->k∈g21:=by rintro k (rfl|rfl);exact b21.1;exact c21.1
 refine ⟨h9,h15,h4,h18,h21,fun k hk hm=>?_,fun k hk hm=>d7 k (e1 k hk) (e2 k hm),?_⟩
 rotate_left
 ·rintro k ((h|h|h|h|h)|h|h|h|h)
  ·exact h▸b9.2
  ·exact h▸c9.2
  ·exact h▸b15.2
  ·exact h▸c15.2
  ·exact (b4 _ h).2
  ·exact h▸b18.2
  ·exact h▸c18.2
  ·exact h▸b21.2
  ·exact h▸c21.2
 have e3:k∈g18\/k∈g21:=by
  rcases hm with h|h|h|h
  ·exact .inl (e1 k (.inl h))
  ·exact .inl (e1 k (.inr h))
  ·exact .inr (e2 k (.inl h))
  ·exact .inr (e2 k (.inr h))
 rcases hk with rfl|rfl|rfl|rfl|h
 ·exact e3.elim (d3 _ b9.1) (d4 _ b9.1)
 ·exact e3.elim (d3 _ c9.1) (d4 _ c9.1)
 ·exact e3.elim (d5 _ b15.1) (d6 _ b15.1)
 ·exact e3.elim (d5 _ c15.1) (d6 _ c15.1)
 ·exact e3.elim (d1 _ (b4 k h).1) (d2 _ (b4 k h).1)
def xsD (ab nb eb sb hp:Nat) (es:List EdgeD) (bk:Bool) (wa:Option Addr) (wc:Nat):List Value:=[.pointer (some ⟨ab,0,none⟩),.bool bk,.slice none 0 0,.slice none 0 0,.slice none 0 0,.int .u64 0,.slice wa es.length wc,.pointer (some ⟨nb,0,none⟩),.pointer (some ⟨eb,0,none⟩),.pointer (some ⟨sb,0,none⟩),.pointer (some ⟨hp,0,none⟩)]
def AgR (L ab n:Nat) (es:List EdgeD) (bk:Bool) (v:Value) (W:World):Prop:=∃nb na eb ea sb rb hp ha wa wc,v=.agg (xsD ab nb eb sb hp es bk wa wc).toArray/\DjF L W n es nb na eb ea sb rb hp ha wa wc
def BxR (L ab n:Nat) (es:List EdgeD) (bk:Bool) (v:Value) (W:World):Prop:=∃nb na eb ea sb rb hp ha wa wc xb,v=.pointer (some ⟨xb,0,none⟩)/\PB W xb (xsD ab nb eb sb hp es bk wa wc)/\DjF L W n es nb na eb ea sb rb hp ha wa wc/\
 (xb≠sb/\xb≠rb/\xb≠hp/\xb≠ha)/\L<=xb
theorem Bc2 {L:Nat} {W:World} {ab n:Nat} {es:List EdgeD} {bk:Bool} {nb na eb ea sb rb hp ha:Nat} {wa:Option Addr} {wc:Nat} {T:TypeId} (h:DjF L W n es nb na eb ea sb rb hp ha wa wc):BxR L ab n es bk (.pointer (some ⟨W.heap.size,0,none⟩)) (W.alloc (Obj.cells (xsD ab nb eb sb hp es bk wa wc).toArray T)):=by
 have h1:=h.st.lt;have h2:=h.hw.pb.lt;have h3:=(h.hw.oa.lt ha rfl).2;refine ⟨nb,na,eb,ea,sb,rb,hp,ha,wa,wc,W.heap.size,rfl,fun i x hx=>?_,h.go (Below.of_al _ _),⟨by omega,by omega,by omega,by omega⟩,?_⟩
 rotate_left
 ·have:=h.ge sb (.inr (.inl rfl));omega
 have hi:i<11:=(Bj8.1 hx).1;unfold xsD at hx ⊢
 match i,hi with
 |0,_|1,_|2,_|3,_|4,_|5,_|6,_|7,_|8,_|9,_|10,_=>cases hx;exact ⟨by go_simp,by go_simp⟩
theorem DjF.mem {L lo ab:Nat} {W:World} {n:Nat} {es:List EdgeD} {bk:Bool} {nb na eb ea sb rb hp ha xb:Nat} {wa:Option Addr} {wc:Nat} (h:DjF L W n es nb na eb ea sb rb hp ha wa wc) (hx:PB W xb (xsD ab nb eb sb hp es bk wa wc))
  (hne:xb≠sb/\xb≠rb/\xb≠hp/\xb≠ha) (hxl:L<=xb) (hA:AdjM W lo L ab n es) (hl:lo<=L) (hL:L<=W.heap.size):
  DjK.Mem ⟨lo,ab,lo,L,nb,na,eb,ea,xb,sb,rb,hp,n,wc,es,bk,wa,.slice (some ⟨ha,0,none⟩) n n⟩ W (.slice none 0 0) (DS.zero n):=by
 have hM:∀k,DjK.M ⟨lo,ab,lo,L,nb,na,eb,ea,xb,sb,rb,hp,n,wc,es,bk,wa,.slice (some ⟨ha,0,none⟩) n n⟩ (.slice none 0 0) k->k=sb\/k=rb\/k=hp\/k=ha:=by
  rintro k ((hk|hk)|hk|hk|hk)
  ·exact .inl hk
  ·exact .inr (.inl hk)
  ·exact .inr (.inr (.inl hk))
  ·exact absurd hk (by simp [Value.ownBlock])
  ·exact .inr (.inr (.inr (Bl4 hk).symm))
 have hH:∀k,HX hp (.slice none 0 0) (.slice (some ⟨ha,0,none⟩) n n) k->k=hp\/k=ha:=by
  rintro k (hk|hk|hk)
  ·exact .inl hk
  ·exact absurd hk (by simp [Value.ownBlock])
  ·exact .inr (Bl4 hk).symm
 refine ⟨⟨hx,hA,h.nd,h.ed,h.ws,hL⟩,h.st,h.hw,Gb n,⟨Bl6,Bl6⟩,?_,?_,?_,by show lo<=_;omega⟩
 ·rintro k (hk|hk|hk) hm
  ·have hk:k=xb:=hk
   have:=hM k hm;omega
  ·have hk:lo<=k/\k<L:=hk
   have:=h.ge k (.inr (hM k hm));omega
  ·exact h.d1 k hk (hM k hm)
 ·rintro k (hk|hk) hm
  ·exact h.d2 k (.inl hk) (hH k hm)
  ·exact h.d2 k (.inr hk) (hH k hm)
 ·show ∀k,_->lo<=k
  rintro k ((hk|hk|hk)|hm)
  ·have hk:k=xb:=hk
   omega
  ·exact hk.1
  ·have:=h.ge k (.inl hk)
   omega
  ·have:=h.ge k (.inr (hM k hm))
   omega
def wkR (L0:Nat) (G GP OP G1 O1 O2 A L:Value) (n:Nat) (ab:Nat) (es:List EdgeD) (bk:Bool):Nat->Value->List Nat->World->Prop
 |0,v,_,_=>v=.pointer (some ⟨ab,0,none⟩)
 |1,v,_,_|3,v,_,_=>v=Eb bk
 |2,v,_,_=>v=G
 |4,v,g,W=>WtR L0 es v g W
 |5,v,_,_|16,v,_,_|19,v,_,_=>v=GP
 |6,v,_,_|17,v,_,_|20,v,_,_=>v=.int .i64 (n:Int)
 |7,v,_,_=>v=O1
 |8,v,_,_|14,v,_,_=>v=.slice none 0 0
 |9,v,g,W=>BiR L0 n v g W
 |10,v,_,_=>v=G1
 |11,v,_,_=>v=A
 |12,v,_,_=>v=L
 |13,v,_,_=>v=O2
 |15,v,g,W=>BiR L0 es.length v g W
 |18,v,g,W=>StR L0 n v g W
 |21,v,g,W=>HpR L0 n v g W
 |22,v,_,W=>AgR L0 ab n es bk v W
 |_,v,_,W=>BxR L0 ab n es bk v W
theorem Bd6 {L0:Nat} {G GP OP G1 O1 O2 A L:Value} {n ab:Nat} {es:List EdgeD} {bk:Bool} (i:Nat) (v:Value) (g:List Nat) (w w':World) (hb:Below w.heap.size w w') (h:wkR L0 G GP OP G1 O1 O2 A L n ab es bk i v g w):wkR L0 G GP OP G1 O1 O2 A L n ab es bk i v g w':=by
 unfold wkR at h ⊢
 split at h
 case h_5=>obtain ⟨a,c,h1,h2,h3⟩:=h;exact ⟨a,c,h1,Af h2 hb,h3⟩
 all_goals first
  |exact h
  |(obtain ⟨b,a,h1,h2,h3⟩:=h;exact ⟨b,a,h1,BitZ.go h2 hb,h3⟩)
  |(obtain ⟨b,a,h1,h2,h3⟩:=h;exact ⟨b,a,h1,StW.go h2 hb,h3⟩)
  |(obtain ⟨b,a,h1,h2,h3⟩:=h;exact ⟨b,a,h1,HeapW.go h2 hb,h3⟩)
  |(obtain ⟨nb,na,eb,ea,sb,rb,hp,ha,wa,wc,h1,h2⟩:=h;exact ⟨nb,na,eb,ea,sb,rb,hp,ha,wa,wc,h1,h2.go hb⟩)
  |(obtain ⟨nb,na,eb,ea,sb,rb,hp,ha,wa,wc,xb,h1,h2,h3,h4⟩:=h;exact ⟨nb,na,eb,ea,sb,rb,hp,ha,wa,wc,xb,h1,PB.go (x:=.pointer (some ⟨ab,0,none⟩)) h2 hb,h3.go hb,h4⟩)
theorem Zg (n:Nat) (es:List EdgeD) (ao:Option Addr) (cap gb ob sb0 s yl:Nat) (bk:Bool) (J Jx:List (Int×Int)->World->Prop) (W:World) (hg:Ak ⟨(n:Int),es⟩=0) (hE:EOK n es) (hs:s<n) (hn:n<=50000) (hm0:es.length<=50000)
  (g0:W.cell? ⟨gb,0,none⟩=some (.int .i64 (n:Int))) (g1:W.cell? ⟨gb,1,none⟩=some (.slice ao es.length cap)) (hO:OptB W ob bk) (s0:W.cell? ⟨sb0,0,none⟩=some (.int .i64 (s:Int))) (hc:Cel W ao (Ax es))
  (hJ:∀pre W1 W2,J pre W1->OffX (W.heap.size<=·) W1 W2->J pre W2) (hJx:∀pre W1 W2,Jx pre W1->OffX (W.heap.size<=·) W1 W2->Jx pre W2)
  (hY:∀m pre x W1,J pre W1->OkD es bk n (s:Int) (pre++[x])->W.heap.size<=W1.heap.size->YieldAt Fence.wide m Tryz.prog yl (Yj x) W1 fun e W'=>
   (e=.returned (.bool true)/\J (pre++[x]) W'/\OffX (fun k=>k<W.heap.size) W1 W')\/(e=.returned (.bool false)/\Jx (pre++[x]) W'/\OffX (fun k=>k<W.heap.size) W1 W')) (hJ0:J [] W):
  Calls Tryz.prog 191 #[.func (.yield yl) #[] #[],.pointer (some ⟨gb,0,none⟩),.pointer (some ⟨ob,0,none⟩),.pointer (some ⟨sb0,0,none⟩)] W fun e W'=>e=.returned (.tuple #[])/\((∃parts,Ai3 es bk n (s:Int) parts/\J parts W')\/∃pre,OkD es bk n (s:Int) pre/\Jx pre W'):=by
 have HNW:=Bi5 (Ad.Af7 n es ao cap W hg hn hm0 hc (fun e he=>⟨(hE e he).1,(hE e he).2.1⟩));have HO:=Bi5 hO;have HES:=Bi5 hc;unfold Wf gV at HNW;clear hO hc
 go_enter Tryz.func191,Tryz.ntmps191
 go_upto_region 2 with (go_at_call 113;refine HNW.out.mono ?_;rintro e w1 ⟨ab,rfl,h1,h2⟩;(have HAJ:=Bi5 h1);(have HB1:=Bi5 h2);clear h1 h2)
 have HOO:=Bi5 (HO.out.go HB1.out);have g0:=Bi6 HB1.out g0;have g1:=Bi6 HB1.out g1;have HWT:=Bi5 (fun (U:World) (hz:Below w1.heap.size w1 U)=>Kv n es ao cap bk U hg (by omega) (HES.out.go (HB1.out.st hz)));have HB1':=Bi5 (fun (U:World)=>Ys n (by omega) U);have HB2:=Bi5 (fun (U:World)=>Ys es.length (by omega) U);have HSN:=Bi5 (fun (U:World)=>Pz n (by omega) U);have HHN:=Bi5 (fun (U:World)=>Mj n (by omega) U);unfold Pt at HB1' HB2;clear HNW;refine Br 24 _ rfl rfl (wkR w1.heap.size (.agg #[.int .i64 (n:Int),.slice ao es.length cap]) (.pointer (some ⟨gb,0,none⟩)) (.pointer (some ⟨ob,0,none⟩)) (.pointer (some ⟨gb,1,none⟩)) (.pointer (some ⟨ob,1,none⟩)) (.pointer (some ⟨ob,2,none⟩)) (.slice ao es.length cap) (.int .i64 (es.length:Int)) n ab es bk) (by kernel_rfl) (by kernel_rfl) (by kernel_rfl) Bd6 ?_ ?_
 ·refine ⟨?_,?_,?_,?_,?_,?_,?_,?_,?_,?_,?_,?_,?_,?_,?_,?_,?_,?_,?_,?_,?_,?_,?_,?_,trivial⟩
  ·intro act gs w' hbe hd hdis ho KK hK
   have q0:act.tmps.getD 5 undef=.pointer (some ⟨ab,0,none⟩):=ho 5 (by kernel_rfl);refine .inl ⟨Ab rfl,?_⟩;simp [Oper.wp,execOp,Oper.upon,go_sem,Act.eval,q0];exact hK _ [] w' (Below.refl _ _) rfl (fun _ h=>nomatch h)
  ·intro act gs w' hbe hd hdis ho KK hK
   have q0:act.tmps.getD 2 undef=.pointer (some ⟨ob,0,none⟩):=ho 2 (by kernel_rfl);obtain ⟨f0,f1,f2,f3,f4⟩:=HOO.out.go hbe;refine .inl ⟨Ab rfl,?_⟩;simp [Oper.wp,execOp,Oper.upon,go_sem,Act.eval,q0,f0,f1,f2,f3,f4];exact hK _ [] w' (Below.refl _ _) rfl (fun _ h=>nomatch h)
  ·intro act gs w' hbe hd hdis ho KK hK
   have q0:act.tmps.getD 1 undef=.pointer (some ⟨gb,0,none⟩):=ho 1 (by kernel_rfl);have f0:=Bi6 hbe g0;have f1:=Bi6 hbe g1;refine .inl ⟨Ab rfl,?_⟩;simp [Oper.wp,execOp,Oper.upon,go_sem,Act.eval,q0,f0,f1];exact hK _ [] w' (Below.refl _ _) rfl (fun _ h=>nomatch h)
  ·intro act gs w' hbe hd hdis ho KK hK
   have q0:act.tmps.getD 2 undef=.pointer (some ⟨ob,0,none⟩):=ho 2 (by kernel_rfl);obtain ⟨f0,f1,f2,f3,f4⟩:=HOO.out.go hbe;refine .inl ⟨Ab rfl,?_⟩;simp [Oper.wp,execOp,Oper.upon,go_sem,Act.eval,q0,f0,f1,f2,f3,f4];exact hK _ [] w' (Below.refl _ _) rfl (fun _ h=>nomatch h)
  ·intro act gs w' hbe hd hdis ho KK hK
   have q0:act.tmps.getD 17 undef=.agg #[.int .i64 (n:Int),.slice ao es.length cap]:=hd 2 (by rfl);have q1:act.tmps.getD 18 undef=Eb bk:=hd 3 (by rfl);refine .inl ⟨Ab rfl,?_⟩;simp [Oper.wp,execOp,Oper.upon,go_sem,Act.eval,q0,q1];refine (HWT.out w' hbe).mono ?_;rintro e w6 ⟨a,c,rfl,h1,h2⟩;exact hK _ ((Value.slice a es.length c).ownBlock.toList) w6 h2 ⟨a,c,rfl,Qm h1 (Bi8 _),fun k hk=>⟨by rw [hk];simp,by have:=(Ub h1 k hk).1;have:=hbe.size;omega⟩⟩ (fun k hk=>Ub h1 k (by simpa using hk))
  ·intro act gs w' hbe hd hdis ho KK hK
   have q0:act.tmps.getD 1 undef=.pointer (some ⟨gb,0,none⟩):=ho 1 (by kernel_rfl);refine .inl ⟨Ab rfl,?_⟩;simp [Oper.wp,execOp,Oper.upon,go_sem,Act.eval,q0];exact hK _ [] w' (Below.refl _ _) rfl (fun _ h=>nomatch h)
  ·intro act gs w' hbe hd hdis ho KK hK
   have q0:act.tmps.getD 20 undef=.pointer (some ⟨gb,0,none⟩):=hd 5 (by rfl);have f0:=Bi6 hbe g0;refine .inl ⟨Ab rfl,?_⟩;simp [Oper.wp,execOp,Oper.upon,go_sem,Act.eval,q0,f0];exact hK _ [] w' (Below.refl _ _) rfl (fun _ h=>nomatch h)
  ·intro act gs w' hbe hd hdis ho KK hK
   have q0:act.tmps.getD 2 undef=.pointer (some ⟨ob,0,none⟩):=ho 2 (by kernel_rfl);refine .inl ⟨Ab rfl,?_⟩;simp [Oper.wp,execOp,Oper.upon,go_sem,Act.eval,q0];exact hK _ [] w' (Below.refl _ _) rfl (fun _ h=>nomatch h)
  ·intro act gs w' hbe hd hdis ho KK hK
   have q0:act.tmps.getD 22 undef=.pointer (some ⟨ob,1,none⟩):=hd 7 (by rfl);obtain ⟨f0,f1,f2,f3,f4⟩:=HOO.out.go hbe;refine .inl ⟨Ab rfl,?_⟩;simp [Oper.wp,execOp,Oper.upon,go_sem,Act.eval,q0,f1];exact hK _ [] w' (Below.refl _ _) rfl (fun _ h=>nomatch h)
  ·intro act gs w' hbe hd hdis ho KK hK
   have q0:act.tmps.getD 21 undef=.int .i64 (n:Int):=hd 6 (by rfl);have q1:act.tmps.getD 23 undef=.slice none 0 0:=hd 8 (by rfl);refine .inl ⟨Ab rfl,?_⟩;simp [Oper.wp,execOp,Oper.upon,go_sem,Act.eval,q0,q1];refine (HB1'.out w').mono ?_;rintro e w6 ⟨b,a,rfl,h1,h2,h3,h4⟩;exact hK _ [b,a] w6 h4 ⟨b,a,rfl,h1,⟨by simp,by have:=hbe.size;omega⟩,⟨by simp,by have:=hbe.size;omega⟩⟩ (by intro k hk;have h8:=h1.2.2.2.1;have h9:=h1.2.2.2.2;simp only [Bl7,List.not_mem_nil,or_false] at hk;rcases hk with rfl|rfl<;>exact ⟨by omega,by omega⟩)
  ·intro act gs w' hbe hd hdis ho KK hK
   have q0:act.tmps.getD 1 undef=.pointer (some ⟨gb,0,none⟩):=ho 1 (by kernel_rfl);refine .inl ⟨Ab rfl,?_⟩;simp [Oper.wp,execOp,Oper.upon,go_sem,Act.eval,q0];exact hK _ [] w' (Below.refl _ _) rfl (fun _ h=>nomatch h)
  ·intro act gs w' hbe hd hdis ho KK hK
   have q0:act.tmps.getD 25 undef=.pointer (some ⟨gb,1,none⟩):=hd 10 (by rfl);have f0:=Bi6 hbe g1;refine .inl ⟨Ab rfl,?_⟩;simp [Oper.wp,execOp,Oper.upon,go_sem,Act.eval,q0,f0];exact hK _ [] w' (Below.refl _ _) rfl (fun _ h=>nomatch h)
  ·intro act gs w' hbe hd hdis ho KK hK
   have q0:act.tmps.getD 26 undef=.slice ao es.length cap:=hd 11 (by rfl);refine .inl ⟨Ab rfl,?_⟩;simp [Oper.wp,execOp,Oper.upon,go_sem,Act.eval,q0];exact hK _ [] w' (Below.refl _ _) rfl (fun _ h=>nomatch h)
  ·intro act gs w' hbe hd hdis ho KK hK
   have q0:act.tmps.getD 2 undef=.pointer (some ⟨ob,0,none⟩):=ho 2 (by kernel_rfl);refine .inl ⟨Ab rfl,?_⟩;simp [Oper.wp,execOp,Oper.upon,go_sem,Act.eval,q0];exact hK _ [] w' (Below.refl _ _) rfl (fun _ h=>nomatch h)
  ·intro act gs w' hbe hd hdis ho KK hK
   have q0:act.tmps.getD 28 undef=.pointer (some ⟨ob,2,none⟩):=hd 13 (by rfl);obtain ⟨f0,f1,f2,f3,f4⟩:=HOO.out.go hbe;refine .inl ⟨Ab rfl,?_⟩;simp [Oper.wp,execOp,Oper.upon,go_sem,Act.eval,q0,f2];exact hK _ [] w' (Below.refl _ _) rfl (fun _ h=>nomatch h)
  ·intro act gs w' hbe hd hdis ho KK hK
   have q0:act.tmps.getD 27 undef=.int .i64 (es.length:Int):=hd 12 (by rfl);have q1:act.tmps.getD 29 undef=.slice none 0 0:=hd 14 (by rfl);refine .inl ⟨Ab rfl,?_⟩;simp [Oper.wp,execOp,Oper.upon,go_sem,Act.eval,q0,q1];refine (HB2.out w').mono ?_;rintro e w6 ⟨b,a,rfl,h1,h2,h3,h4⟩;exact hK _ [b,a] w6 h4 ⟨b,a,rfl,h1,⟨by simp,by have:=hbe.size;omega⟩,⟨by simp,by have:=hbe.size;omega⟩⟩ (by intro k hk;have h8:=h1.2.2.2.1;have h9:=h1.2.2.2.2;simp only [Bl7,List.not_mem_nil,or_false] at hk;rcases hk with rfl|rfl<;>exact ⟨by omega,by omega⟩)
  ·intro act gs w' hbe hd hdis ho KK hK
   have q0:act.tmps.getD 1 undef=.pointer (some ⟨gb,0,none⟩):=ho 1 (by kernel_rfl);refine .inl ⟨Ab rfl,?_⟩;simp [Oper.wp,execOp,Oper.upon,go_sem,Act.eval,q0];exact hK _ [] w' (Below.refl _ _) rfl (fun _ h=>nomatch h)
  ·intro act gs w' hbe hd hdis ho KK hK
   have q0:act.tmps.getD 31 undef=.pointer (some ⟨gb,0,none⟩):=hd 16 (by rfl);have f0:=Bi6 hbe g0;refine .inl ⟨Ab rfl,?_⟩;simp [Oper.wp,execOp,Oper.upon,go_sem,Act.eval,q0,f0];exact hK _ [] w' (Below.refl _ _) rfl (fun _ h=>nomatch h)
  ·intro act gs w' hbe hd hdis ho KK hK
   have q0:act.tmps.getD 32 undef=.int .i64 (n:Int):=hd 17 (by rfl);refine .inl ⟨Ab rfl,?_⟩;simp [Oper.wp,execOp,Oper.upon,go_sem,Act.eval,q0];refine (HSN.out w').mono ?_;rintro e w6 ⟨b,rb,rfl,h1,h2,h3,h4⟩;exact hK _ [b,rb] w6 h4 ⟨b,rb,rfl,h1,⟨by simp,by have:=hbe.size;omega⟩,⟨by simp,by have:=hbe.size;omega⟩⟩ (by intro k hk;have h8:=h1.lt;simp only [Bl7,List.not_mem_nil,or_false] at hk;rcases hk with rfl|rfl<;>exact ⟨by omega,by omega⟩)
  ·intro act gs w' hbe hd hdis ho KK hK
   have q0:act.tmps.getD 1 undef=.pointer (some ⟨gb,0,none⟩):=ho 1 (by kernel_rfl);refine .inl ⟨Ab rfl,?_⟩;simp [Oper.wp,execOp,Oper.upon,go_sem,Act.eval,q0];exact hK _ [] w' (Below.refl _ _) rfl (fun _ h=>nomatch h)
  ·intro act gs w' hbe hd hdis ho KK hK
   have q0:act.tmps.getD 34 undef=.pointer (some ⟨gb,0,none⟩):=hd 19 (by rfl);have f0:=Bi6 hbe g0;refine .inl ⟨Ab rfl,?_⟩;simp [Oper.wp,execOp,Oper.upon,go_sem,Act.eval,q0,f0];exact hK _ [] w' (Below.refl _ _) rfl (fun _ h=>nomatch h)
  ·intro act gs w' hbe hd hdis ho KK hK
   have q0:act.tmps.getD 35 undef=.int .i64 (n:Int):=hd 20 (by rfl);refine .inl ⟨Ab rfl,?_⟩;simp [Oper.wp,execOp,Oper.upon,go_sem,Act.eval,q0];refine (HHN.out w').mono ?_;rintro e w6 ⟨b,a,rfl,h1,h2,h3,h4⟩;exact hK _ [b,a] w6 h4 ⟨b,a,rfl,h1,⟨by simp,by have:=hbe.size;omega⟩,⟨by simp,by have:=hbe.size;omega⟩⟩ (by intro k hk;have h8:=h1.pb.lt;have h9:=(h1.oa.lt a rfl).2;simp only [Bl7,List.not_mem_nil,or_false] at hk;rcases hk with rfl|rfl<;>exact ⟨by omega,by omega⟩)
  ·intro act gs w' hbe hd hdis ho KK hK
   have q0:act.tmps.getD 15 undef=.pointer (some ⟨ab,0,none⟩):=hd 0 (by rfl);have q1:act.tmps.getD 16 undef=Eb bk:=hd 1 (by rfl);obtain ⟨wa,wc,e4,h4,b4⟩:WtR w1.heap.size es (act.tmps.getD 19 undef) (gs 4) w':=hd 4 (by rfl);obtain ⟨nb,na,e9,h9,b9,c9⟩:BiR w1.heap.size n (act.tmps.getD 24 undef) (gs 9) w':=hd 9 (by rfl);obtain ⟨eb,ea,e15,h15,b15,c15⟩:BiR w1.heap.size es.length (act.tmps.getD 30 undef) (gs 15) w':=hd 15 (by rfl);obtain ⟨sb,rb,e18,h18,b18,c18⟩:StR w1.heap.size n (act.tmps.getD 33 undef) (gs 18) w':=hd 18 (by rfl);obtain ⟨hp,ha,e21,h21,b21,c21⟩:HpR w1.heap.size n (act.tmps.getD 36 undef) (gs 21) w':=hd 21 (by rfl);have hdj:=fun (i j:Nat) (hi:Cc _ 22 i=true) (hj:Cc _ 22 j=true) (hne:i≠j) (k:Nat)=>hdis i j k hi hj hne;have hF:DjF w1.heap.size w' n es nb na eb ea sb rb hp ha wa wc:=Bg1 h4 h9 h15 h18 h21 b4 b9 c9 b15 c15 b18 c18 b21 c21 (hdj 4 18 (by rfl) (by rfl) (by decide)) (hdj 4 21 (by rfl) (by rfl) (by decide)) (hdj 9 18 (by rfl) (by rfl) (by decide)) (hdj 9 21 (by rfl) (by rfl) (by decide)) (hdj 15 18 (by rfl) (by rfl) (by decide)) (hdj 15 21 (by rfl) (by rfl) (by decide)) (hdj 18 21 (by rfl) (by rfl) (by decide));have z0:=(Bm0 (xs:=act.tmps) (i:=15) (d:=undef)).symm.trans q0;have z1:=(Bm0 (xs:=act.tmps) (i:=16) (d:=undef)).symm.trans q1;have z2:=(Bm0 (xs:=act.tmps) (i:=19) (d:=undef)).symm.trans e4;have z3:=(Bm0 (xs:=act.tmps) (i:=24) (d:=undef)).symm.trans e9;have z4:=(Bm0 (xs:=act.tmps) (i:=30) (d:=undef)).symm.trans e15;have z5:=(Bm0 (xs:=act.tmps) (i:=33) (d:=undef)).symm.trans e18
   have z6:=(Bm0 (xs:=act.tmps) (i:=36) (d:=undef)).symm.trans e21;refine .inl ⟨Ab rfl,?_⟩;simp [Oper.wp,execOp,Oper.upon,go_sem,Act.eval,q0,q1,e4,e9,e15,e18,e21,z0,z1,z2,z3,z4,z5,z6,Eb];exact hK _ [] w' (Below.refl _ _) ⟨nb,na,eb,ea,sb,rb,hp,ha,wa,wc,rfl,hF⟩ (fun _ h=>nomatch h)
  ·intro act gs w' hbe hd hdis ho KK hK
   obtain ⟨nb,na,eb,ea,sb,rb,hp,ha,wa,wc,e22,hF⟩:AgR w1.heap.size ab n es bk (act.tmps.getD 37 undef) w':=hd 22 (by rfl);refine .inl ⟨Ab rfl,?_⟩;simp [Oper.wp,execOp,Oper.upon,go_sem,Act.eval,e22];exact hK _ [] _ (Below.of_al _ _) (Bc2 hF) (fun _ h=>nomatch h)
 ·intro vs gs act w2 hb2 hR hgs hdis hon hoff hact
  obtain ⟨nb,na,eb,ea,sb,rb,hp,ha,wa,wc,xb,e23,hx,hF,⟨x1,x2,x3,x4⟩,xl⟩:BxR w1.heap.size ab n es bk (vs 23) w2:=hR 23 (by omega);have hv:=hon 23 (by omega);have HL:=Bi5 (show W.heap.size<=w1.heap.size from HB1.out.size);have hm:DjK.Mem ⟨W.heap.size,ab,W.heap.size,w1.heap.size,nb,na,eb,ea,xb,sb,rb,hp,n,wc,es,bk,wa,.slice (some ⟨ha,0,none⟩) n n⟩ w2 (.slice none 0 0) (DS.zero n):=hF.mem hx ⟨x1,x2,x3,x4⟩ xl (HAJ.out.go hb2 (Bi7 _)) HL.out hb2.size;obtain ⟨KK,hKK⟩:∃KK:DjK,KK=⟨W.heap.size,ab,W.heap.size,w1.heap.size,nb,na,eb,ea,xb,sb,rb,hp,n,wc,es,bk,wa,.slice (some ⟨ha,0,none⟩) n n⟩:=⟨_,rfl⟩;rw [<-hKK] at hm;have HK:=Bi5 (show KK.B=W.heap.size/\KK.n=n/\KK.es=es/\KK.bk=bk/\KK.nb=nb/\KK.xb=xb from by rw [hKK];exact ⟨rfl,rfl,rfl,rfl,rfl,rfl⟩);have HM:=Bi5 hm;have y0:=Bi6 (HB1.out.st hb2) s0;have y7:=(hx 7 _ rfl).1;have HHS:=Bi5 (fun (U:World) (hU:Below w2.heap.size w2 U)=>Oc nb na n (s:Int) U (hF.nd.go hU) (by omega) (by omega) (by omega));rw [hact];simp only [Al,Ae,Bk7,Bk6,Bl1,Bl0,Act.put,Bk0,Bk1,Nat.reduceAdd,Bk5,Bk8,Bk9];rw [e23];clear hR hgs hdis hoff hact hon hm hx hF hKK x1 x2 x3 x4 xl;generalize vs 0=a0;generalize vs 1=a1;generalize vs 2=a2;generalize vs 3=a3;generalize vs 4=a4;generalize vs 5=a5;generalize vs 6=a6;generalize vs 7=a7;generalize vs 8=a8;generalize vs 9=a9;generalize vs 10=a10;generalize vs 11=a11;generalize vs 12=a12;generalize vs 13=a13;generalize vs 14=a14;generalize vs 15=a15;generalize vs 16=a16;generalize vs 17=a17;generalize vs 18=a18;generalize vs 19=a19;generalize vs 20=a20
  generalize vs 21=a21;generalize vs 22=a22;clear hv
  go_upto_region 3 with fail
  refine Fc 6 rfl (fun i v _=>v=[Value.pointer (some ⟨xb,0,none⟩),.pointer (some ⟨xb,0,none⟩),.pointer (some ⟨xb,7,none⟩),.pointer (some ⟨nb,0,none⟩),.int .i64 (s:Int),.bool false].getD i undef) (by kernel_rfl) (by kernel_rfl) (fun _ _ _ _ _ h=>h) ?_ ?_
  ·refine ⟨?_,?_,?_,?_,?_,?_,trivial⟩
   ·intro act w' hbe hd ho KR hK
    have q0:act.tmps.getD 7 undef=.pointer (some ⟨xb,0,none⟩):=ho 7 (by kernel_rfl);simp [Oper.wp,execOp,Oper.upon,go_sem,Act.eval,q0];exact hK _ w' (Below.refl _ _) rfl
   ·intro act w' hbe hd ho KR hK
    have q0:act.tmps.getD 39 undef=.pointer (some ⟨xb,0,none⟩):=hd 0 (by rfl);simp [Oper.wp,execOp,Oper.upon,go_sem,Act.eval,q0];exact hK _ w' (Below.refl _ _) rfl
   ·intro act w' hbe hd ho KR hK
    have q0:act.tmps.getD 40 undef=.pointer (some ⟨xb,0,none⟩):=hd 1 (by rfl);simp [Oper.wp,execOp,Oper.upon,go_sem,Act.eval,q0];exact hK _ w' (Below.refl _ _) rfl
   ·intro act w' hbe hd ho KR hK
    have q0:act.tmps.getD 41 undef=.pointer (some ⟨xb,7,none⟩):=hd 2 (by rfl);have f0:=Bi6 hbe y7;simp [Oper.wp,execOp,Oper.upon,go_sem,Act.eval,q0,f0];exact hK _ w' (Below.refl _ _) rfl
   ·intro act w' hbe hd ho KR hK
    have q0:act.tmps.getD 3 undef=.pointer (some ⟨sb0,0,none⟩):=ho 3 (by kernel_rfl);have f0:=Bi6 hbe y0;simp [Oper.wp,execOp,Oper.upon,go_sem,Act.eval,q0,f0];exact hK _ w' (Below.refl _ _) rfl
   ·intro act w' hbe hd ho KR hK
    have q0:act.tmps.getD 42 undef=.pointer (some ⟨nb,0,none⟩):=hd 3 (by rfl);have q1:act.tmps.getD 43 undef=.int .i64 (s:Int):=hd 4 (by rfl);simp [Oper.wp,execOp,Oper.upon,go_sem,Act.eval,q0,q1];refine (HHS.out w' hbe).mono ?_;rintro e w6 ⟨rfl,hw6⟩;obtain rfl:=hw6.symm;exact hK _ w6 (Below.refl _ _) rfl
  intro vs w3 hb3 hR;have e5:vs 5=.bool false:=hR 5 (by omega);have y03:=Bi6 hb3 y0;have HM3:=Bi5 (HM.out.go hb3);have HOF:=Bi5 (show OffX (W.heap.size<=·) W w3 from .of_below ((HB1.out.st hb2).st hb3));simp only [Al,Ae,Bk7,Bk6,Bl1,Bl0,Act.put,Bk0,Bk1,Nat.reduceAdd,Bk5,Bk8,Bk9];rw [e5];clear hR e5 y0 y7 HM HHS;generalize vs 0=b0;generalize vs 1=b1;generalize vs 2=b2;generalize vs 3=b3;generalize vs 4=b4;have HRUN:=Bi5 (fun (w4:World) (v4:Value) (hm:KK.Mem w4 v4 (Cg (DS.zero n) s 0)) (ho:OffX (KK.M (.slice none 0 0)) w3 w4)=>Aj5 KK w4 v4 s yl J Jx (by rw [HK.out.2.1];exact hm) (by rw [HK.out.2.1,HK.out.2.2.1];exact hE) (by rw [HK.out.2.1];exact hs) (by rw [HK.out.2.1];exact hn) (by rw [HK.out.2.2.1];exact hm0) (by rw [HK.out.1];exact hJ) (by rw [HK.out.1];exact hJx) (fun m pre x W1 h1 h2 h3=>by
   rw [HK.out.1] at h3 ⊢;rw [HK.out.2.1,HK.out.2.2.1,HK.out.2.2.2.1] at h2;exact hY m pre x W1 h1 h2 h3) (hJ _ _ _ hJ0 (HOF.out.trans (ho.mono (fun k hk=>HK.out.1▸HM3.out.ge k (.inr hk))))))
  rw [HK.out.2.2.2.2.2,HK.out.2.1,HK.out.2.2.1,HK.out.2.2.2.1] at HRUN;have HRE:=Bi5 (Gv KK w3 (.slice none 0 0) (DS.zero n) s 0 HM3.out (by have:=HK.out.2.1;omega) (by have:=HK.out.2.1;omega));unfold Dg at HRE;rw [HK.out.2.2.2.2.2] at HRE
  go_wp2_with (go_at_call 194;refine HRE.out.mono ?_;rintro e w4 ⟨rfl,v4,hm4,ho4,hv4⟩;(have HM4:=Bi5 hm4);(have HO4:=Bi5 ho4);clear hm4 ho4 hv4)
  have HRN:=Bi5 (HRUN.out w4 v4 HM4.out HO4.out);refine HRN.out.mono ?_;rintro e w5 ⟨rfl,hfin⟩;have HF:=Bi5 hfin;clear hfin
  go_wp2
  refine bodyPost_end (results_none rfl _ _ _) rfl ?_;exact ⟨rfl,HF.out⟩
end Dj
end
end Go.Proofs.YteaaapdjplbljaaGreat
