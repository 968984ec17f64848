/- Parts; no condition. -/
import Derived.Test.YteaaapdjplbljaaGreatVc20
import Derived.Test.YteaaapdjplbljaaGreatVc21
set_option linter.unusedVariables false
set_option linter.unusedSimpArgs false
set_option linter.unnecessarySimpa false
set_option maxRecDepth 100000
set_option maxHeartbeats 8000000
namespace Go.Proofs.YteaaapdjplbljaaGreat
open Go Go.Proofs Go.RowKit Go.Shelf Hp Ch
attribute [local go_sem] Oper.semAt_some
def Qu (Ds:List Nat):List Deferred:=Ds.map fun D=>{ target:=.collected D,args:=#[] }
theorem Eu {fn:Func} {tmps:Array Value} {R:Ending->World->Prop}:∀(Ds:List Nat) (W:World),Ds.Nodup->(∀D∈Ds,W.heap[D]? =some (.deferred (some [])))->
  (∀W',OffX (· ∈Ds) W W'->∃v,(results fn tmps).run Tryz.prog W'=.ok v W'/\R (.returned v) W')->LeavesInM Fence.wide 4 Tryz.prog fn tmps R (Qu Ds) .returning W
 |[],W,_,_,h=>h W (.refl _ _)
 |D::Ds,W,hn,hK,h=>by
  obtain ⟨n1,n2⟩:=List.nodup_cons.1 hn;refine ⟨by simp,.inl ⟨_,_,rfl,run_takeDeferred (hK D (List.mem_cons_self ..)),?_⟩⟩;refine Eu Ds _ n2 (fun E hE=>(World.putObj_heap_other (fun e=>n1 (by subst e;exact hE))).trans (hK E (List.mem_cons_of_mem _ hE))) (fun W' ho=>h W' ?_);exact (OffX.put (X:=(· ∈D::Ds)) _ (List.mem_cons_self ..)).trans (ho.mono (fun k hk=>List.mem_cons_of_mem _ hk))
def Cn (x:LB):Lab:=⟨x.v,x.d,x.b⟩
structure RunM (w0 wr:World) (xb hb:Nat) (back:Bool) (sb rb fb hp n:Nat) (va v:Value) (st:US) (outL:List LB) (Ds:List Nat) (tb:Nat) (v4:Value):Prop where
 up:UpW w0 wr xb hb back sb rb fb hp n va v st
 tbc:wr.cell? ⟨tb,0,none⟩=some (.pointer (some ⟨xb,0,none⟩))
 tbx:¬UX sb rb fb hp va v tb
 row:wr.ownsRow w0.heap.size 150 3 v4 outL.length (Ao outL)
 rowx:∀k,v4.ownBlock=some k->¬UX sb rb fb hp va v k/\k≠tb/\k≠xb
 mks:∀D∈Ds,wr.heap[D]? =some (.deferred (some []))/\¬UX sb rb fb hp va v D/\w0.heap.size<=D
 nod:Ds.Nodup
 ge:w0.heap.size<=tb
 mkr:∀D∈Ds,v4.ownBlock≠some D
structure RunI (w0 wr:World) (xb hb:Nat) (back:Bool) (sb rb fb hp n:Nat) (va v:Value) (st:US) (es:List EdgeD) (S:List SC) (ro:List Int) (s:Nat) (cur:Int) (outL:List LB) (done:Int->Int->Prop) (Ds:List Nat) (tb:Nat) (v4:Value):Prop where
 m:RunM w0 wr xb hb back sb rb fb hp n va v st outL Ds tb v4
 run:Run (Bw back (Am es)) (XN S back) (rk ro) (s:Int) (Em st.far) (Ru st.bys) st.l cur (outL.map Cn) done
 dn:∀a∈outL,∀i,done a.v i
 dn2:∀u i,done u i->∃a∈outL,a.v=u
def Ay3 (w0:World) (xb hb:Nat) (back:Bool) (sb rb fb hp n:Nat) (va:Value) (es:List EdgeD) (S:List SC) (ro:List Int) (s tb:Nat) (m:Nat) (a:Act) (wr:World):Prop:=
 ∃u0 u1 u2 u3 u4 u5 u6 u7 u8 u9 u10 u11 u12 u13 u14 u15 u16 u17 u18 u19 u20 u21 u22 u23 u24 u25 u26 u27 u28 u29 u30 u31 u32 u33 u34 u35 u36 u37 u38 u39 u40 u41 u42 u43 u44 u45 u46 u47 u48 u49 u50 u51 u52 u53 u54 u55 u56 u57 u58 u59 u60:Value,∃Ds:List Nat,a={ tmps:=#[u0,u1,u2,u3,u4,u5,u6,u7,u8,u9,u10,u11,u12,u13,u14,u15,u16,u17,u18,u19,u20,u21,u22,u23,u24,u25,u26,u27,u28,u29,u30,u31,u32,u33,u34,u35,u36,u37,u38,u39,u40,u41,u42,u43,u44,u45,u46,u47,u48,u49,u50,u51,u52,u53,u54,u55,u56,u57,u58,u59,u60],defers:=Qu Ds }/\u2=.pointer (some ⟨tb,0,none⟩)/\Aside (∃v st cur outL done,RunI w0 wr xb hb back sb rb fb hp n va v st es S ro s cur outL done Ds tb u4/\Cz n st.far st.l<=m)
theorem RunM.next {X:Nat->Prop} {w0 wr w4:World} {xb hb:Nat} {back:Bool} {sb rb fb hp n:Nat} {va v v2:Value} {st st2:US} {outL:List LB} {Ds:List Nat} {tb:Nat} {v4:Value}
  (h:RunM w0 wr xb hb back sb rb fb hp n va v st outL Ds tb v4) (hu:UpW w0 w4 xb hb back sb rb fb hp n va v2 st2) (hX:∀k,k<wr.heap.size->X k->UX sb rb fb hp va v k) (ho:OffX X wr w4) (hux:∀k,UX sb rb fb hp va v2 k->UX sb rb fb hp va v k\/wr.heap.size<=k):RunM w0 w4 xb hb back sb rb fb hp n va v2 st2 outL Ds tb v4:=by
 have hblk:∀k,k<wr.heap.size->¬UX sb rb fb hp va v k->w4.heap[k]? =wr.heap[k]?:=fun k hk hn=>ho.block k hk (fun e=>hn (hX k hk e));have hno:∀k,k<wr.heap.size->¬UX sb rb fb hp va v k->¬UX sb rb fb hp va v2 k:=fun k hk hn e=>(hux k e).elim hn (fun h=>by omega);have htl:=Bj5 _ _ h.tbc;refine ⟨hu,(Bl2 (a:=⟨tb,0,none⟩) (hblk tb htl h.tbx)).trans h.tbc,hno tb htl h.tbx,Ai h.row (fun k e=>hblk k (h.row.lt k e).2 (h.rowx k e).1),fun k e=>⟨hno k (h.row.lt k e).2 (h.rowx k e).1,(h.rowx k e).2⟩,fun D hD=>?_,h.nod,h.ge,h.mkr⟩;obtain ⟨m1,m2,m3⟩:=h.mks D hD;have hlt:=(Bj2.1 m1).1;exact ⟨(hblk D hlt m2).trans m1,hno D hlt m2,m3⟩
theorem RunM.go {w0 wr w4:World} {xb hb:Nat} {back:Bool} {sb rb fb hp n:Nat} {va v:Value} {st:US} {outL:List LB} {Ds:List Nat} {tb:Nat} {v4:Value}
  (h:RunM w0 wr xb hb back sb rb fb hp n va v st outL Ds tb v4) (hz:Below wr.heap.size wr w4):RunM w0 w4 xb hb back sb rb fb hp n va v st outL Ds tb v4:=
 h.next (X:=fun _=>False) (h.up.go hz) (fun _ _ h=>h.elim) (.of_below hz) (fun _ h=>.inl h)
theorem RunM.pop {w0 wr w2 w4:World} {xb hb:Nat} {back:Bool} {sb rb fb hp n:Nat} {va v v2:Value} {st st2:US} {outL:List LB} {Ds:List Nat} {tb:Nat} {v4:Value}
  (h:RunM w0 wr xb hb back sb rb fb hp n va v st outL Ds tb v4) (hu:UpW w0 w2 xb hb back sb rb fb hp n va v2 st2) (ho:OffX (HX hp v va) wr w2) (hv:v2.ownBlock=v.ownBlock) (hb4:Below w2.heap.size w2 w4):RunM w0 w4 xb hb back sb rb fb hp n va v2 st2 outL Ds tb v4:=by
 refine h.next (X:=HX hp v va) (hu.go hb4) (fun k _ e=>.inr (.inr e)) (ho.then' (Y:=fun _=>False) (.of_below hb4) (fun j hj=>hj.elim)) ?_;rintro k (e|e|e|e|e)
 ·exact .inl (.inl e)
 ·exact .inl (.inr (.inl e))
 ·exact .inl (.inr (.inr (.inl e)))
 ·exact .inl (.inr (.inr (.inr (.inl (hv.symm.trans e)))))
 ·exact .inl (.inr (.inr (.inr (.inr e))))
theorem RunM.off {X:Nat->Prop} {w0 wr w4:World} {xb hb:Nat} {back:Bool} {sb rb fb hp n:Nat} {va v:Value} {st:US} {outL:List LB} {Ds:List Nat} {tb:Nat} {v4:Value}
  (h:RunM w0 wr xb hb back sb rb fb hp n va v st outL Ds tb v4) (ho:OffX X wr w4) (h1:∀k,UX sb rb fb hp va v k->¬X k) (h2:¬X tb) (h3:¬X xb) (h4:∀k,v4.ownBlock=some k->¬X k) (h5:∀D∈Ds,¬X D) (hge:∀k,X k->w0.heap.size<=k):RunM w0 w4 xb hb back sb rb fb hp n va v st outL Ds tb v4:=
 ⟨h.up.off ho h1 h3 hge,ho.cell h.tbc h2,h.tbx,Ai h.row (fun k e=>ho.block k (h.row.lt k e).2 (h4 k e)),h.rowx,fun D hD=>let ⟨m1,m2,m3⟩:=h.mks D hD;⟨(ho.block D (Bj2.1 m1).1 (h5 D hD)).trans m1,m2,m3⟩,h.nod,h.ge,h.mkr⟩
structure RngI (w0 Wl Wx:World) (xb hb:Nat) (back:Bool) (sb rb fb hp n:Nat) (va v2 v:Value) (st:US) (outL:List LB) (Ds:List Nat) (tb:Nat) (v4:Value) (es:List EdgeD) (S:List SC) (ro:List Int) (s:Nat) (done:Int->Int->Prop) (vn dB:Nat) (d:Int) (pre:List Bt) (M:Nat):Prop where
 m:RunM w0 Wx xb hb back sb rb fb hp n va v st outL Ds tb v4
 dc:Wx.cell? ⟨dB,0,none⟩=some (.int .u64 d)
 dx:¬UX sb rb fb hp va v dB
 ux:∀k,UX sb rb fb hp va v k->UX sb rb fb hp va v2 k\/Wl.heap.size+2<=k
 run:Run (Bw back (Am es)) (XN S back) (rk ro) (s:Int) (Em st.far) (Ru st.bys) st.l d (outL.map Cn) (fun u j=>done u j\/(u=(vn:Int)/\∃x∈pre,x.1=j))
 wn:Cz n st.far st.l<=M
 sz:Wl.heap.size<=Wx.heap.size
theorem RngI.turn {w0 Wl Wx Wy:World} {xb hb:Nat} {back:Bool} {sb rb fb hp n:Nat} {va v2 v:Value} {st:US} {outL:List LB} {Ds:List Nat} {tb:Nat} {v4:Value} {es:List EdgeD} {S:List SC} {ro:List Int} {s:Nat} {done:Int->Int->Prop} {vn dB:Nat} {d:Int} {pre:List Bt} {M:Nat} {st0:US}
  (h:RngI w0 Wl Wx xb hb back sb rb fb hp n va v2 v st outL Ds tb v4 es S ro s done vn dB d pre M) (h0:RunM w0 Wl xb hb back sb rb fb hp n va v2 st0 outL Ds tb v4) (hd:dB<Wl.heap.size) (ho:OffX (Au Wl.heap.size) Wx Wy):RngI w0 Wl Wy xb hb back sb rb fb hp n va v2 v st outL Ds tb v4 es S ro s done vn dB d pre M:=by
 have hn:∀k,k<Wl.heap.size->¬Au Wl.heap.size k:=fun k hk e=>by unfold Au at e;omega
 refine ⟨h.m.off ho (fun k hk e=>?_) (hn _ (Bj5 _ _ h0.tbc)) (hn _ h0.up.bx.lt) (fun k e=>hn _ (h0.row.lt k e).2) (fun D hD=>hn _ (Bj2.1 (h0.mks D hD).1).1) (fun k e=>?_),ho.cell h.dc (hn _ hd),h.dx,h.ux,h.run,h.wn,Bi9 h.sz ho.size⟩
 ·rcases h.ux k hk with e2|e2
  ·exact hn k (h0.up.ux k e2).2 e
  ·unfold Au at e;omega
 ·have:=h0.up.sr.bel.size
  unfold Au at e;omega
theorem RunM.app {w0 wr w4:World} {xb hb:Nat} {back:Bool} {sb rb fb hp n:Nat} {va v:Value} {st:US} {outL:List LB} {Ds:List Nat} {tb g cap:Nat} {v4:Value} {x:LB}
  (h:RunM w0 wr xb hb back sb rb fb hp n va v st outL Ds tb v4) (hown:w4.ownsRow w0.heap.size 150 3 (.slice (some ⟨g,0,none⟩) (outL.length+1) cap) (outL.length+1) (Ao outL++[.int .i64 x.v,.int .u64 x.d,.int .i64 x.b])) (hg:wr.grownBy w4 v4.ownBlock) (hat:v4.ownBlock=some g\/g=wr.heap.size):
  RunM w0 w4 xb hb back sb rb fb hp n va v st (outL++[x]) Ds tb (.slice (some ⟨g,0,none⟩) (outL++[x]).length cap):=by
 have ho:OffX (fun k=>v4.ownBlock=some k) wr w4:=⟨hg.os,hg.tape,hg.output,hg.size,fun k hk hn=>hg.block k hk (fun e=>hn e.symm)⟩;have htl:=Bj5 _ _ h.tbc;have hfl:Ao (outL++[x])=Ao outL++[.int .i64 x.v,.int .u64 x.d,.int .i64 x.b]:=by
  have:∀l:List LB,Ao (l++[x])=Ao l++[.int .i64 x.v,.int .u64 x.d,.int .i64 x.b]:=by
   intro l
   induction l with
   |nil=>rfl
   |cons a l ih=>show _::_::_::Ao (l++[x])=_;rw [ih];rfl
  exact this outL
 have hgx:¬UX sb rb fb hp va v g/\g≠tb/\g≠xb:=by
  rcases hat with e|e
  ·exact h.rowx g e
  ·have:=h.up.bx.lt
   have htl2:tb<wr.heap.size:=htl;exact ⟨fun k=>by have:=(h.up.ux g k).2;omega,by omega,by omega⟩
 refine ⟨h.up.off ho (fun k hk e=>(h.rowx k e).1 hk) (fun e=>(h.rowx xb e).2.2 rfl) (fun k e=>(h.row.lt k e).1),ho.cell h.tbc (fun e=>(h.rowx tb e).2.1 rfl),h.tbx,?_,?_,?_,h.nod,h.ge,?_⟩
 ·rw [Bl5,hfl]
  exact hown
 ·intro k e
  cases e
  exact hgx
 ·intro D hD
  obtain ⟨m1,m2,m3⟩:=h.mks D hD;exact ⟨(ho.block D (Bj2.1 m1).1 (fun e=>h.mkr D hD e)).trans m1,m2,m3⟩
 ·intro D hD e
  have e2:g=D:=by cases e;rfl
  subst e2;obtain ⟨m1,_,_⟩:=h.mks g hD
  rcases hat with e|e
  ·exact h.mkr g hD e
  ·have:=(Bj2.1 m1).1
   omega
theorem Rt (W:World) (x y z:Value) (T:TypeId):∀(j:Nat) (u:Value),[x,y,z][j]? =some u->(W.alloc (Obj.cells #[x,y,z] T)).cell? ((⟨W.heap.size,0,none⟩:Addr).add j)=some u:=by
 intro j u hj;rw [Addr.add_lit]
 match j with
 |0=>cases hj;go_simp
 |1=>cases hj;go_simp
 |2=>cases hj;go_simp
 |j+3=>simp at hj
theorem Bh5 (a b c:Int):∀u∈[Value.int .i64 a,.int .u64 b,Aj c],u.oneCell'=true:=by
 intro u hu;simp only [Bl7,List.not_mem_nil,or_false] at hu
 rcases hu with rfl|rfl|rfl<;>rfl
theorem Aq4 {P:Program} {c:Code} {K:Act->World->Prop} {Q':Exit->Act->World->Prop} {a:Act} {w:World} (h:c.wp P (Exit.then K (fun _ _ _=>False)) a w):c.wp P (Exit.then K Q') a w:=
 Code.wp_mono (fun e a w q=>by cases e<;>first|exact q|exact q.elim) h
theorem Aw6:Gq Tryz.prog 150 (.agg #[.int .i64 0,.int .u64 0,.int .i64 0]) 3 24:=⟨by kernel_rfl,rfl,by decide⟩
def Ai2 (w0:World) (es:List EdgeD) (S:List SC) (back:Bool) (ro:List Int) (s n:Nat) (e:Ending) (w':World):Prop:=
 ∃(ao:Option Addr) (cap:Nat) (l:List LB),e=.returned (.slice ao l.length cap)/\Cel w' ao (Ao l)/\Below w0.heap.size w0 w'/\Space (Bw back (Am es)) (XN S back) (rk ro) (s:Int) (l.map Cn)/\l.length<=n/\l.Pairwise (fun a b=>a.v<=b.v)/\w'.ownsRow w0.heap.size 150 3 (.slice ao l.length cap) l.length (Ao l)
section
variable {A:Int->Int->Int->Prop} {X:Nums} {r:Int->Int} {s cur:Int} {far:Int->Option Int} {by':Int->Int} {l l':List (Int×Int)} {out:List Lab} {done:Int->Int->Prop}
theorem Az5 (h:Run A X r s far by' l cur out done) (hl:∀y,y∈l'↔y∈l):Run A X r s far by' l' cur out done:=
 ⟨h.sound,h.start,fun v k hk=>h.heap v k ((hl _).1 hk),fun a ha=>let ⟨a1,a2,a3,a4⟩:=h.lab a ha;⟨a1,a2,fun k hk=>a3 k ((hl _).1 hk),a4⟩,fun v d hd=>(h.rest v d hd).imp (fun k=>(hl _).2 k) id,h.way,h.gone,h.once,h.low⟩
end
theorem An5 (n:Nat):Em (List.replicate n none)=fun _=>none:=by
 funext u
 unfold Em
 split
 ·rw [Bj1,Bm5]
  split<;>rfl
 ·rfl
theorem Va {n s:Nat} (hs:s<n):∃l p,Ct ⟨List.replicate n none,List.replicate n 0,[],List.replicate n (-1)⟩ s 0 (-1)=⟨(List.replicate n none).set s (some 0),(List.replicate n 0).set s (-1),l,p⟩/\∀y,y∈l↔y=((s:Int),0):=by
 obtain ⟨l1,l2,l3,l4,l5⟩:=Dt (Gb n) (v:=s) (by rw [Bl6];exact hs) 0;have hg:(List.replicate n (none:Option Int)).getD s none=none:=by rw [Bj1,Bm5];split<;>rfl
 have hle:As (List.replicate n none) s 0=(true,(List.replicate n none).set s (some 0)):=by unfold As;rw [hg]
 refine ⟨_,_,by unfold Ct;rw [hle];rfl,fun y=>?_⟩
 cases hb:(Bf [] (List.replicate n (-1)) s 0).1 with
 |true=>rw [l3 hb];simp
 |false=>
  obtain ⟨_,k,hk,_⟩:=l4 hb
  cases hk
theorem Aj4 {A:Int->Int->Int->Prop} {X:Nums} {r:Int->Int} {n s:Nat} (hs:s<n) (done:Int->Int->Prop):
  Run A X r (s:Int) (Em (Ct ⟨List.replicate n none,List.replicate n 0,[],List.replicate n (-1)⟩ s 0 (-1)).far) (Ru (Ct ⟨List.replicate n none,List.replicate n 0,[],List.replicate n (-1)⟩ s 0 (-1)).bys)
   (Ct ⟨List.replicate n none,List.replicate n 0,[],List.replicate n (-1)⟩ s 0 (-1)).l 0 [] done:=by
 obtain ⟨l,p,e,hl⟩:=Va hs;rw [e];simp only;rw [Mm (by rw [Bl6];exact hs),Yo (by rw [Bl6];exact hs),An5];exact Az5 (Run.begin (A:=A) (X:=X) (r:=r) (s:Int) _ done) (fun y=>by rw [hl y];simp)
theorem Aj0 {A:Int->Int->Int->Prop} {X:Nums} {r:Int->Int} {s:Int} {l l':List Lab} (h:Space A X r s l) (hp:l'.Perm l):Space A X r s l':=
 ⟨(hp.pairwise_iff (fun h e=>h e.symm)).2 h.once,fun a ha=>h.sound a (hp.mem_iff.1 ha),hp.mem_iff.2 h.root,fun a ha=>(h.way a (hp.mem_iff.1 ha)).imp id (fun ⟨x,w,h1,h2,b,hb,h3⟩=>⟨x,w,h1,h2,b,hp.mem_iff.2 hb,h3⟩),
  fun v d hd=>let ⟨a,ha,h1⟩:=h.peaks v d hd;⟨a,hp.mem_iff.2 ha,h1⟩⟩
theorem Kd {far:List (Option Int)} {u d:Int} (h:Em far u=some d):Aa far.length u:=by
 unfold Em at h
 split at h
 ·rename_i h0
  refine ⟨h0,?_⟩;rw [Bj1] at h
  rcases Nat.lt_or_ge u.toNat far.length with hl|hl
  ·omega
  ·rw [Bm2 hl] at h
   cases h
 ·cases h
theorem Qx {A:Int->Int->Int->Prop} {X:Nums} {r:Int->Int} {s cur:Int} {far:List (Option Int)} {by':Int->Int} {l:List (Int×Int)} {outL:List LB} {done:Int->Int->Prop} (h:Run A X r s (Em far) by' l cur (outL.map Cn) done):outL.length<=far.length:=by
 have hnd:(outL.map (·.v)).Nodup:=by
  have h1:=h.once;rw [List.pairwise_map] at h1;exact List.pairwise_map.2 h1
 have hs:=Da (outL.map (·.v)) (Kj far.length) hnd (fun u hu=>by
  obtain ⟨x,hx,rfl⟩:=List.mem_map.1 hu;exact Cm.2 (Kd (h.lab (Cn x) (List.mem_map.2 ⟨x,hx,rfl⟩)).1))
 rw [Bm7,Dn] at hs;exact hs
theorem Aw0 {A:Int->Int->Int->Prop} {X:Nums} {r:Int->Int} {s cur B:Int} {far:Int->Option Int} {by':Int->Int} {l:List (Int×Int)} {out:List Lab} {done:Int->Int->Prop} (h:Run A X r s far by' l cur out done) (hB:∀i u v w,X i u v w->w<=B) (hB0:0<=B) (hr0:∀v,0<=r v):
  ∀(k:Nat) (v d:Int),(r v).toNat=k->far v=some d->d<=(k:Int)*B:=by
 intro k
 induction k using Nat.strongRecOn with
 |_ k ih=>
  intro v d hk hf
  rcases h.way v d hf with ⟨_,hd,_⟩|⟨x,w,hx,hr,a,ha,e1,e2⟩
  ·rw [hd];exact Int.mul_nonneg (by omega) hB0
  ·obtain ⟨a1,_⟩:=h.lab a ha
   rw [e1] at a1;have h1:=hr0 x;have h2:=ih (r x).toNat (by omega) x a.d rfl a1;have h3:=hB _ _ _ _ hx;have h4:((r x).toNat:Int)+1<=(k:Int):=by omega
   have h5:=Int.mul_le_mul_of_nonneg_right h4 hB0;rw [Int.add_mul,Int.one_mul] at h5;omega
theorem Am1 {far:List (Option Int)} {d:Int} {l:List Bt} (h:Gl far d l=true):∃x∈l,∃e,far.getD x.2.1.toNat none=some e/\e+x.2.2<d:=by
 unfold Gl at h;obtain ⟨x,hx,h1⟩:=List.any_eq_true.1 h;unfold Am3 at h1
 cases hf:far.getD x.2.1.toNat none with
 |none=>rw [hf] at h1;cases h1
 |some e=>rw [hf] at h1;exact ⟨x,hx,e,hf,of_decide_eq_true h1⟩
theorem UpW.pop {w0 W W':World} {xb hb:Nat} {back:Bool} {sb rb fb hp n:Nat} {va v v':Value} {s:US} (h:UpW w0 W xb hb back sb rb fb hp n va v s) (hne:s.l≠[]) (hh:HeapW W' hp v' va (Az s.l s.p (gI s.l 0).1.toNat 0).1 (Az s.l s.p (gI s.l 0).1.toNat 0).2)
  (ho:OffX (HX hp v va) W W') (hv:v'.ownBlock=v.ownBlock):UpW w0 W' xb hb back sb rb fb hp n va v' ⟨s.far,s.bys,(Az s.l s.p (gI s.l 0).1.toNat 0).1,(Az s.l s.p (gI s.l 0).1.toNat 0).2⟩/\∀y,y∈(Az s.l s.p (gI s.l 0).1.toNat 0).1↔y∈s.l/\y.1≠(gI s.l 0).1:=by
 have h0:0<s.l.length:=List.length_pos_iff.2 hne;obtain ⟨p1,p2,p3⟩:=h.ok.c.pos 0 h0;have e:(((gI s.l 0).1.toNat:Nat):Int)=(gI s.l 0).1:=by omega
 obtain ⟨d1,d2,d3,d4⟩:=Ke h.ok p2 h0 p3 e.symm;rw [e] at d4;exact ⟨⟨h.bx.eq (ho.block _ h.bx.lt h.sx.2.2.2.2),h.sr.heap hh ho (.inl hv),d1,⟨h.lens.1,h.lens.2.1,d2.trans h.lens.2.2⟩,h.sx.1,h.sx.2.1,h.sx.2.2.1,h.sx.2.2.2.1,by
  rintro (e|e|e)
  ·exact h.sx.2.2.2.2 (.inl e)
  ·exact h.sx.2.2.2.2 (.inr (.inl (hv.symm.trans e)))
  ·exact h.sx.2.2.2.2 (.inr (.inr e))⟩,d4⟩
theorem Yr {n:Nat} (hn:n<=12):4294967296*2 ^ n<=(17592186044416:Int):=by
 have h1:(2:Nat) ^ n<=2 ^ 12:=Nat.pow_le_pow_right (by decide) hn;have h2:(2:Int) ^ n<=2 ^ 12:=by exact_mod_cast h1
 have h3:(2:Int) ^ 12=4096:=by decide
 omega
theorem Bh8 {es:List EdgeD} {n:Nat} {R:List Int} {S:List SC} {ro:List Int} {back:Bool} {s:Nat} {far:List (Option Int)} {by':Int->Int} {l:List (Int×Int)} {cur:Int} {out:List Lab} {done:Int->Int->Prop} (hok:HierOK es n R S ro) (h:Run (Bw back (Am es)) (XN S back) (rk ro) (s:Int) (Em far) by' l cur out done)
  (hlen:far.length=n) (hn:n<=12):∀i e,far.getD i none=some e->0<=e/\e<=1152921504606846976:=by
 intro i e he;rw [<-Co] at he;have hn1:=Kd he;rw [hlen] at hn1;refine ⟨(h.sound _ _ he).nonneg (fun u v w k=>(hok.hierB back).pos u v w k),?_⟩;have hr0:∀v,0<=rk ro v:=fun v=>by unfold rk;omega
 have hB:=Yr hn;have hB0:(0:Int)<=4294967296*2 ^ n:=by have:(0:Int)<=2 ^ n:=Int.le_of_lt (Int.pow_pos (by decide));omega
 have h1:=Aw0 (B:=4294967296*2 ^ n) h (fun i u v w hx=>by
  obtain ⟨x,_,hx1,hx2,_⟩:=hx;rw [<-hx2];exact hok.big x (Bl3 hx1)) hB0 hr0 _ (i:Int) e rfl he
 have h2:=hok.at1 (i:Int) hn1;have h3:=Es hok.rank (rk ro (i:Int)) (Bl3 h2);rw [hok.len] at h3;have h4:((rk ro (i:Int)).toNat:Int)<=12:=by omega
 have h5:=Int.mul_le_mul_of_nonneg_right h4 hB0;omega
def Ay2:Prop:=∀(W:World) (base:Nat) (v4:Value) (l:List LB),l≠[]->l.length<=12->W.ownsRow base 150 3 v4 l.length (Ao l)->
 Calls Tryz.prog 237 #[v4,.func (.func 238) #[] #[]] W fun e w'=>e=.returned (.tuple #[])/\∃l',l'.Perm l/\l'.Pairwise (fun a b=>a.v<=b.v)/\w'.ownsRow base 150 3 v4 l.length (Ao l')/\OffX (fun k=>v4.ownBlock=some k) W w'
theorem Az4 (w0 W:World) (xb hb:Nat) (back:Bool) (sb rb fb hp n:Nat) (va v:Value) (es:List EdgeD) (R:List Int) (S:List SC) (ro:List Int) (s:Nat) (h:UpW w0 W xb hb back sb rb fb hp n va v ⟨List.replicate n none,List.replicate n 0,[],List.replicate n (-1)⟩)
  (hh:HierM w0 hb n es R S (An R S n S.length).1 (An R S n S.length).2) (hok:HierOK es n R S ro) (hs:s<n) (hn:n<=12) (hso:Ay2):
  Calls Tryz.prog 182 #[.pointer (some ⟨xb,0,none⟩),.int .i64 (s:Int)] W (Ai2 w0 es S back ro s n):=by
 obtain ⟨V,hV⟩:∃V,V=W.alloc (Obj.cells #[.pointer (some ⟨xb,0,none⟩)] 271):=⟨_,rfl⟩;have hbV:Below W.heap.size W V:=by rw [hV];exact Below.of_al _ _
 have q0:V.cell? ⟨W.heap.size,0,none⟩=some (.pointer (some ⟨xb,0,none⟩)):=by rw [hV];go_simp
 have HUV:=Bi5 (h.go hbV);have HR1:=Bi5 (Gv w0 V xb hb back sb rb fb hp n va v _ s 0 (-1) (h.go hbV) hs (by omega));have HU:=Bi5 h;have HH:=Bi5 hh;have HOK:=Bi5 hok;have HV:=Bi5 hV;unfold Dg at HR1;clear h hh hok hbV hV;refine (callsIn_wide (n:=4)).1 (callsIn_of_wp_marks Tryz.func182 rfl trivial (wpIn_wide.2 ?_) rfl);simp only [Tryz.ntmps182,List.size_toArray,Bk0,Bk1,Nat.reduceAdd,Nat.reduceSub,Array.replicate_succ,Array.replicate_zero,List.push_toArray,List.append_toArray,List.nil_append,List.cons_append]
 repeat go_step
 refine wp_scope_straight ?_
 go_upto_region 1 with (fail)
 rw [<-HV.out]
 go_wp2_with (go_at_call 235;refine HR1.out.mono ?_;rintro e w1 ⟨rfl,v1,hu1,ho1,hv1⟩;(have tb1:=ho1.cell q0 (fun e=>by have:=(HU.out.ux _ e).2;simp only at this;omega)))
 go_step3
 repeat go_step
 refine wp_loop_ghost_k (Ay3 w0 xb hb back sb rb fb hp n va es S ro s W.heap.size) (Cz n (Ct ⟨List.replicate n none,List.replicate n 0,[],List.replicate n (-1)⟩ s 0 (-1)).far (Ct ⟨List.replicate n none,List.replicate n 0,[],List.replicate n (-1)⟩ s 0 (-1)).l) ?_ ?_
 ·have hx:=HU.out.ux
  have htb:¬UX sb rb fb hp va v1 W.heap.size:=by
   rintro (e|e|e|e|e)
   ·exact absurd (hx _ (.inl e)).2 (Nat.lt_irrefl _)
   ·exact absurd (hx _ (.inr (.inl e))).2 (Nat.lt_irrefl _)
   ·exact absurd (hx _ (.inr (.inr (.inl e)))).2 (Nat.lt_irrefl _)
   ·rcases hv1 with k|⟨g,k,hg⟩
    ·exact absurd (hx _ (.inr (.inr (.inr (.inl (k.symm.trans e)))))).2 (Nat.lt_irrefl _)
    ·rw [k] at e
     cases e
     rw [HV.out] at hg;simp at hg;omega
   ·exact absurd (hx _ (.inr (.inr (.inr (.inr e))))).2 (Nat.lt_irrefl _)
  unfold Ay3
  iterate 61 apply Exists.intro
  exact ⟨[],rfl,rfl,v1,_,0,[],fun _ _=>False,⟨⟨hu1,tb1,htb,World.ownsRow_nil w1 _ _ _,(fun k hk=>nomatch hk),(fun _ h=>nomatch h),List.nodup_nil,HU.out.sr.bel.size,(fun _ h=>nomatch h)⟩,Aj4 hs _,(fun _ h=>nomatch h),(fun _ _ h=>h.elim)⟩,Bi7 _⟩
 clear hu1 ho1 hv1 tb1 HR1 HUV HV q0;intro m a wr hI J K hJ hK;unfold Ay3 at hI;obtain ⟨u0,u1,u2,u3,u4,u5,u6,u7,u8,u9,u10,u11,u12,u13,u14,u15,u16,u17,u18,u19,u20,u21,u22,u23,u24,u25,u26,u27,u28,u29,u30,u31,u32,u33,u34,u35,u36,u37,u38,u39,u40,u41,u42,u43,u44,u45,u46,u47,u48,u49,u50,u51,u52,u53,u54,u55,u56,u57,u58,u59,u60,Ds,rfl,rfl,HA⟩:=hI;obtain ⟨v',st,cur,outL,done,hI,hw⟩:=HA.out;have HI:=Bi5 hI;have HWM:=Bi5 hw;have tbc:=hI.m.tbc;have x4:=(hI.m.up.bx 4 _ rfl).1;have HPP:=Bi5 (Mi hp v' va st.l st.p wr hI.m.up.sr.hp hI.m.up.ok (by have:=hI.m.up.llen;omega));unfold Kg at HPP;clear hI hw HA
 cases hl:st.l with
 |nil=>
  rw [hl] at HPP;have HPQ:=Bi5 (HPP.out.mono (R':=fun e w'=>e=.returned (Fa [])/\Below wr.heap.size wr w') (fun e w' h=>⟨h.1,h.2.elim (fun k=>k.2) (fun k=>absurd rfl k.1)⟩));unfold Fa at HPQ;have HL:=Bi5 hl;have HNE:=Bi5 (show outL≠[] from fun e=>by
   have hr:=HI.out.run;rw [hl] at hr;have h9:=(Run.space (HOK.out.hierB back) hr (fun a ha i=>by
    obtain ⟨x,hx,rfl⟩:=List.mem_map.1 ha;exact HI.out.dn x hx i) (fun v=>by unfold rk;omega)).root
   rw [e] at h9
   cases h9)
  have HLEN:=Bi5 (show outL.length<=12 by have:=Qx HI.out.run;have:=HI.out.m.up.lens.1;omega);clear hl HPP
  go_wp2_with (first
   |(go_at_call 165;refine HPQ.out.mono ?_;rintro e w2 ⟨rfl,hb2⟩;(have HB2:=Bi5 hb2);clear hb2)
   |(go_at_call 237;refine (hso _ w0.heap.size u4 outL HNE.out HLEN.out (Af HI.out.m.row (HB2.out.al _))).mono ?_;rintro e w4 ⟨rfl,l4,hp4,hs4,ho4,hf4⟩;(obtain ⟨ao4,cap4,rfl,hce4⟩:=Cel.of_owns ho4);(have HP4:=Bi5 hp4);(have HC4:=Bi5 hce4);(have HF4:=Bi5 hf4);(have HS4:=Bi5 hs4);(have HO4:=Bi5 ho4);clear hp4 hs4 ho4 hce4 hf4))
  have hIo:=HI.out;have hsz2:=HB2.out.size;have HBA:=Bi5 (show Below wr.heap.size wr (w2.alloc (Obj.cells #[.int .u64 0] 37)) from HB2.out.al _);have hrow:∀k,(Value.slice ao4 outL.length cap4).ownBlock=some k->k∉Ds/\w0.heap.size<=k:=fun k hk=>⟨fun hm=>hIo.m.mkr k hm hk,(hIo.m.row.lt k hk).1⟩;refine Eu Ds _ hIo.m.nod (fun D hD=>?_) (fun W9 ho9=>⟨.slice ao4 outL.length cap4,?_,?_⟩)
  ·obtain ⟨m1,m2,m3⟩:=hIo.m.mks D hD
   have hlt:D<wr.heap.size:=(Bj2.1 m1).1;rw [HF4.out.block D (Nat.lt_of_lt_of_le hlt HBA.out.size) (fun e=>hIo.m.mkr D hD e),HBA.out.block D hlt];exact m1
  ·simp [results,Tryz.results182,go_sem]
   try rfl
  ·have hlen:=HP4.out.length_eq
   have hruns:=hIo.run;rw [HL.out] at hruns;refine ⟨ao4,cap4,l4,by rw [hlen],Fm HC4.out ho9 (n:=outL.length) (c:=cap4) (fun k hk=>(hrow k hk).1),?_,Aj0 (Run.space (HOK.out.hierB back) hruns (fun a ha i=>?_) (fun v=>by unfold rk;omega)) (HP4.out.map _),by rw [hlen];have:=Qx hIo.run;have:=hIo.m.up.lens.1;omega,HS4.out,by rw [hlen];exact Ai HO4.out (fun k hk=>ho9.block k (HO4.out.lt k hk).2 (hrow k hk).1)⟩
   ·exact ((hIo.m.up.sr.bel.st HBA.out).trans (HF4.out.below (Bi9 hIo.m.up.sr.bel.size HBA.out.size) (fun k hk=>(hrow k hk).2))).trans (ho9.below (Bi9 (Bi9 hIo.m.up.sr.bel.size HBA.out.size) HF4.out.size) (fun k hk=>(hIo.m.mks k hk).2.2))
   ·obtain ⟨x,hx,rfl⟩:=List.mem_map.1 ha
    exact hIo.dn x hx i
 |cons y0 l0=>
  obtain ⟨y,d⟩:=y0;have hne:st.l≠[]:=by rw [hl];simp
  have hg0:gI st.l 0=(y,d):=by rw [hl];rfl
  have hin:(y,d)∈st.l:=by rw [hl];exact List.mem_cons_self ..
  have hfy:=(HI.out.run.heap y d hin).1;have hny:=Kd hfy;rw [HI.out.m.up.lens.1] at hny;obtain ⟨vn,rfl⟩:∃vn:Nat,y=vn:=⟨y.toNat,by have:=hny.1;omega⟩;have hvn:vn<n:=by have:=hny.2;omega
  have HPQ:=Bi5 (HPP.out.mono (R':=fun e w'=>e=.returned (.tuple #[.int .i64 (vn:Int),.int .u64 d,.bool true])/\∃v2,HeapW w' hp v2 va (Az st.l st.p (gI st.l 0).1.toNat 0).1 (Az st.l st.p (gI st.l 0).1.toNat 0).2/\OffX (HX hp v' va) wr w'/\v2.ownBlock=v'.ownBlock) (fun e w' h=>⟨by rw [h.1,hl];rfl,h.2.elim (fun k=>absurd k.1 hne) (fun k=>k.2)⟩));have HMIN:=Bi5 (show ∀z∈st.l,d<=z.2 from fun z hz=>by have:=HI.out.m.up.ok.least hz;rw [hg0] at this;exact this);have HFY:=Bi5 hfy;have HIN:=Bi5 hin;have HNE:=Bi5 hne;have HG0:=Bi5 hg0;have HL:=Bi5 hl;have HPOP:=Bi5 (fun w' v2 hh ho hv=>HI.out.m.up.pop (W':=w') (v':=v2) hne hh ho hv);have htbn:W.heap.size<wr.heap.size:=Bj5 _ _ tbc;have HNX:=Bi5 HI.out.m.tbx;have hFO:=Bh8 HOK.out HI.out.run HI.out.m.up.lens.1 hn;have HFO:=Bi5 hFO;have hdb:=hFO vn d (by rw [<-Co];exact hfy);rw [hg0] at HPQ HPOP;generalize (Az st.l st.p ((vn:Int),d).1.toNat 0).1=L2 at HPQ HPOP;generalize (Az st.l st.p ((vn:Int),d).1.toNat 0).2=P2 at HPQ HPOP;have HB12:=Bi5 (Yr hn);have HST:=Bi5 (fun Wz v2 (hz:UpW w0 Wz xb hb back sb rb fb hp n va v2 ⟨st.far,st.bys,L2,P2⟩)=>Zi w0 Wz xb hb back sb rb fb hp n va v2 _ es R S _ _ vn d hz HH.out hvn (Zq HOK.out _ hvn) (fun x hx=>⟨(HOK.out.ends x hx).1,(HOK.out.ends x hx).2.1⟩)
   (fun x hx=>by obtain ⟨_,k1,k2,k3⟩:=Nb HOK.out back hvn hx;have:=HB12.out;exact ⟨k1.1,k1.2,by omega,by omega⟩) hdb hFO)
  unfold Oi at HST;clear hl HPP hfy hny hin hne hg0 hFO
  go_upto_if 27 with (first
   |(go_at_call 165;refine HPQ.out.mono ?_;rintro e w2 ⟨rfl,v2,hh2,ho2,hv2⟩;(obtain ⟨hu2,hm2⟩:=HPOP.out w2 v2 hh2 ho2 hv2);(have tbc2:=ho2.cell tbc (fun e=>HNX.out (.inr (.inr e))));(have tbc3:=Bi6 (Below.of_al w2 (Obj.cells #[.int .u64 d] 37)) tbc2);(have HU2:=Bi5 hu2);(have HM2:=Bi5 hm2);(have HO2:=Bi5 ho2);(have HV2:=Bi5 hv2);clear hu2 hm2 hh2 ho2 hv2)
   |(go_at_call 236;refine (HST.out _ _ (HU2.out.go (Below.of_al _ _))).mono ?_;rintro e w4 ⟨rfl,hb4⟩;(have HB4:=Bi5 ((Below.of_al w2 (Obj.cells #[.int .u64 d] 37)).st hb4));(have HB4':=Bi5 hb4);clear hb4))
  have hbk:(back != true)=!back:=by cases back<;>rfl
  cases hsb:Gl st.far d (Kz S (An R S n S.length).1 (An R S n S.length).2 vn (!back)) with
  |true=>
   have HSB:=Bi5 (Am1 hsb);have HBK:=Bi5 hbk;clear hsb hbk
   go_wp2
   have hIo:=HI.out;obtain ⟨x,hx,e,he,hlt⟩:=HSB.out;rw [<-HBK.out] at hx;obtain ⟨k1,k2,k3,k4⟩:=Nb HOK.out back hvn hx;have hfe:Em st.far x.2.1=some e:=by unfold Em;rw [if_pos k2.1];exact he
   have hway:=(hIo.run.sound _ _ hfe).trans trivial (.inr (((HOK.out.hierB back).sound _ _ _ (Ae1.2 k1)).2.imp (fun _ _=>trivial)));have hst:=Run.stall hIo.run HIN.out HMIN.out (l':=L2) (fun z=>HM2.out z) hway hlt;have hwm:=Mv (n:=n) (far:=st.far) hvn HIN.out (by rw [<-Co];exact HFY.out) (fun z=>HM2.out z);have hwm2:=HWM.out;refine Handed.intro (Cz n st.far L2) (by omega) (hJ _ _ _ ?_);unfold Ay3
   iterate 61 apply Exists.intro
   exact ⟨Ds,rfl,rfl,v2,⟨st.far,st.bys,L2,P2⟩,d,outL,done,⟨hIo.m.pop HU2.out HO2.out HV2.out HB4.out,hst,hIo.dn,hIo.dn2⟩,Bi7 _⟩
  |false=>
   have HM4:=Bi5 (HI.out.m.pop HU2.out HO2.out HV2.out HB4.out);have d4:w4.cell? ⟨w2.heap.size,0,none⟩=some (.int .u64 d):=Bi6 HB4'.out (by go_simp);have t4:=HM4.out.tbc;have x34:=(HM4.out.up.bx 3 _ rfl).1;have hvb:vn<st.bys.length:=by rw [HM4.out.up.lens.2.1];exact hvn
   have y4:=(HM4.out.up.sr.sp.cellAt vn (by show vn<st.bys.length*1;omega)).trans (Bj0 (by rw [Bm7];exact hvb));rw [List.getElem_map] at y4;have hv0:(0:Int)<=(vn:Int):=by omega
   have hv1:(vn:Int)<(n:Int):=by omega
   have HBY:=Bi5 (show st.bys[vn]=Ru st.bys (vn:Int) by rw [Ax4,Bj1,Bj0 hvb];rfl);generalize st.bys[vn]=bv at*;have e0:=fun p=>Ac p d4;have e1:=fun p=>Ac p t4;have e2:=fun p=>Ac p x34;have e3:=fun p=>Ac p y4;clear hsb hbk tbc tbc2 tbc3 x4 d4 t4 x34 y4
   go_wp2
   refine Aq4 ?_;refine Fd 10 (by kernel_rfl) (by kernel_rfl) (fun _ _ _ h=>h) ?_;simp only [List.take_succ_cons,List.take_zero,List.drop_succ_cons,List.drop_zero,Act.put,Act.eval,Bk5,Bk8,Bk9]
   repeat (go_big_quiet_step (fail))
   refine wpQuiet_nil ?_;rintro _ ⟨p5,rfl⟩;have HB5:=Bi5 (Ah w4 p5);generalize ext w4 p5=w5 at HB5 ⊢;have HM5:=Bi5 (HM4.out.go HB5.out);have HD5:=Bi5 (show w5.cell? ⟨w2.heap.size,0,none⟩=some (.int .u64 d) from Bi6 HB5.out (Bi6 HB4'.out (by go_simp)));have HLN:=Bi5 (show outL.length<=12 by have h1:=Qx HI.out.run;have h2:=HI.out.m.up.lens.1;omega);clear e0 e1 e2 e3
   go_upto_region 6 with (at_builtin;go_must (refine Ce w0.heap.size 150 _ 3 24 Aw6 Tryz.underlying145 u4 outL.length (Ao outL) ⟨w5.heap.size,0,none⟩ 1 1 [.int .i64 (vn:Int),.int .u64 d,Aj bv] rfl rfl (World.ownsRow.alloc HM5.out.row _) (Rt _ _ _ _ _) (Bh5 _ _ _) ⟨rfl,by decide,(by have:=HLN.out;omega),(by have:=HLN.out;omega),(by have:=HM5.out.up.sr.bel.size;simp;omega)⟩ ?_);intro g6 cap6 w6 hown6 hgrow6 hbl6 hat6 hlt6;(have HM6:=Bi5 ((HM5.out.go (Below.of_al w5 (Obj.cells #[.int .i64 (vn:Int),.int .u64 d,Aj bv] 150))).app (x:=⟨(vn:Int),d,bv⟩) hown6 hgrow6 hat6));(have HG6:=Bi5 (And.intro hgrow6 (And.intro hat6 hown6)));clear hown6 hgrow6 hbl6 hat6 hlt6)
   have hdn:u4.ownBlock≠some w2.heap.size:=by
    intro e;have h8:=(HI.out.m.row.lt _ e).2;have h9:=HO2.out.size;omega
   have hd5:=Bi6 (Below.of_al w5 (Obj.cells #[.int .i64 (vn:Int),.int .u64 d,Aj bv] 150)) HD5.out;have HD6:=Bi5 ((Bl2 (a:=⟨w2.heap.size,0,none⟩) (HG6.out.1.block _ (Bj5 _ _ hd5) (fun e=>hdn e.symm))).trans hd5);clear hd5 hdn;have t6:=HM6.out.tbc;have x06:=(HM6.out.up.bx 0 _ rfl).1;have x16:=(HM6.out.up.bx 1 _ rfl).1;have HEA:=Bi5 (fun w=>Hg hb back false (vn:Int) w)
   go_wp2_with (go_at_call 199;refine (HEA.out _).mono ?_;rintro e w7 ⟨rfl,hb7,hz7,b0,b1,b2,b3⟩)
   have HM7:=Bi5 (HM6.out.go hb7);have hdl:w2.heap.size<w6.heap.size:=Bj5 _ _ HD6.out;have HDL:=Bi5 (show w2.heap.size<w7.heap.size by have:=hb7.size;omega);have hux6:∀k,UX sb rb fb hp va v2 k->k<w6.heap.size:=fun k hk=>(HM6.out.up.ux k hk).2;have hkB:∀j,KpU w0.heap.size w6.heap.size j->j<w7.heap.size:=by
    have h9:=HM6.out.up.sr.bel.size;rintro j (h|h)
    ·omega
    ·omega
   have HSEQ:=Bi5 (En 3 (by decide) hb n es R S (An R S n S.length).1 (An R S n S.length).2 back false vn w6.heap.size w0 w7 HH.out (fun k hk=>HM7.out.up.sr.bel.block k hk) hkB hvn (Zq HOK.out _ hvn) (fun x hx=>⟨(HOK.out.ends x hx).1,(HOK.out.ends x hx).2.1⟩) b0 b1 b2 b3);have HKB:=Bi5 hkB;have hdx2:¬UX sb rb fb hp va v2 w2.heap.size:=fun e=>by have:=(HU2.out.ux _ e).2;omega
   have hpop:=Run.pop HI.out.run HIN.out HMIN.out (l':=L2) (fun z=>HM2.out z) (fun i hi=>by
    obtain ⟨a,ha,e⟩:=HI.out.dn2 _ _ hi;have h9:=(HI.out.run.lab (Cn a) (List.mem_map.2 ⟨a,ha,rfl⟩)).2.2.1 d;exact h9 (by show (a.v,d)∈st.l;rw [e];exact HIN.out))
   rw [<-HBY.out] at hpop;have hwm:=Mv (n:=n) (far:=st.far) hvn HIN.out (by rw [<-Co];exact HFY.out) (fun z=>HM2.out z);have HWP:=Bi5 (show Cz n st.far L2<m from Nat.lt_of_lt_of_le hwm HWM.out);have HI0:=Bi5 (show RngI w0 w7 w7 xb hb back sb rb fb hp n va v2 v2 ⟨st.far,st.bys,L2,P2⟩ (outL++[(⟨(vn:Int),d,bv⟩:LB)]) Ds W.heap.size (.slice (some ⟨g6,0,none⟩) (outL++[(⟨(vn:Int),d,bv⟩:LB)]).length cap6) es S ro s done vn w2.heap.size d [] (Cz n st.far L2) from
    ⟨HM7.out,Bi6 hb7 HD6.out,hdx2,fun k hk=>.inl hk,by
     have h9:=hpop.1;rw [Bm6];exact Run.full h9 (fun a ha i v w hd' _ _=>hd'.elim id (fun k=>by obtain ⟨_,x,hx,_⟩:=k;cases hx)),Bi7 _,Bi7 _⟩)
   have HZ7:=Bi5 hz7;have HUX6:=Bi5 hux6;clear hb7 hz7 b0 b1 b2 b3 hkB hdx2 hpop hwm t6 x06 x16 hdl hux6 HEA HG6;refine (wpIn_wide (n:=4)).1 (Ge rfl (by decide) (gf:=250) rfl trivial (enters_of Tryz.func250 (by kernel_rfl) rfl) HSEQ.out HKB.out (fun _=>rfl)
    (fun pre Wx=>∃v st',RngI w0 w7 Wx xb hb back sb rb fb hp n va v2 v st' (outL++[(⟨(vn:Int),d,bv⟩:LB)]) Ds W.heap.size (.slice (some ⟨g6,0,none⟩) (outL++[(⟨(vn:Int),d,bv⟩:LB)]).length cap6) es S ro s done vn w2.heap.size d pre (Cz n st.far L2))
    (fun _ _ _=>False) (fun pre Wx Wy h ho=>by obtain ⟨v,st',h⟩:=h;exact ⟨v,st',h.turn HM7.out HDL.out ho⟩) (fun _ _ _ _ h _=>h) ⟨_,_,HI0.out⟩
    ?a1 (fun x Wx=>Wx.alloc (Obj.cells #[.int .i64 0,.int .i64 x.2.1,.int .u64 x.2.2,.int .i64 0,.int .i64 0,.int .i64 0] 187)) (fun x Wx=>Below.of_al _ _) ?assign ?body ?done ?stop)
   case assign=>
    intro l x Wx K hK
    dsimp only [Aw4]
    gi_wp2
    exact hK
   case stop=>exact fun _ _ _ _ _ _ h _=>h.elim
   case body=>
    rintro l pre ⟨xi,xt,xw⟩ W0 Wx ⟨v,st',hI9⟩ hpx hsz ho;have hxm:(xi,xt,xw)∈Cf R S n vn back:=by
     have h9:=hpx.subset (List.mem_append_right pre (Bk2.2 rfl))
     rwa [show (back != false)=back by cases back<;>rfl] at h9
    obtain ⟨_,_,⟨t0,t1⟩,k4,k5⟩:=Ae8 HOK.out back hvn hxm;simp only at t0 t1 k4 k5;have HXM:=Bi5 hxm;obtain ⟨t,rfl⟩:∃t:Nat,xt=t:=⟨xt.toNat,by omega⟩;have htn:t<n:=by omega
    have hxb:=HB12.out;obtain ⟨d0,d1⟩:=hdb;have hxw:xw<=17592186044416:=by omega
    have hDz:w7.heap.size+1≠W0.heap.size:=by omega
    have y1:=ho.cell (p:=⟨W0.heap.size,1,none⟩) (v:=.int .i64 (t:Int)) (by go_simp) (fun e=>hDz (by unfold Au at e;exact e.symm));have y2:=ho.cell (p:=⟨W0.heap.size,2,none⟩) (v:=.int .u64 xw) (by go_simp) (fun e=>hDz (by unfold Au at e;exact e.symm));have hWx:W0.heap.size+1<=Wx.heap.size:=by have h9:=ho.size;rwa [World.size_alloc] at h9
    have tb9:=hI9.m.tbc;have dc9:=hI9.dc;have HR9:=Bi5 (Gv w0 Wx xb hb back sb rb fb hp n va v st' t (d+xw) xi hI9.m.up htn (by omega));have HI9:=Bi5 hI9;unfold Dg at HR9;clear hI9 ho hxm k5 hxb
    gi_wp2_with (refine ⟨trivial,?_⟩;gi_at_call 235;refine (CallsIn.inRound l (callsIn_wide.2 HR9.out)).mono ?_;rintro e w8 ⟨rfl,v8,hu8,ho8,hv8⟩)
    have h9:=HI9.out;have hsz7:=HZ7.out;have h0l:=h9.m.up.sr.bel.size;have hux8:∀k,UX sb rb fb hp va v8 k->UX sb rb fb hp va v k\/Wx.heap.size<=k:=by
     rintro k (e|e|e|e|e)
     ·exact .inl (.inl e)
     ·exact .inl (.inr (.inl e))
     ·exact .inl (.inr (.inr (.inl e)))
     ·rcases hv8 with h|⟨g,h,hg⟩
      ·exact .inl (.inr (.inr (.inr (.inl (h.symm.trans e)))))
      ·rw [h] at e
       cases e
       exact .inr hg
     ·exact .inl (.inr (.inr (.inr (.inr e))))
    have hm7:=HM7.out.up.sr.bel.size;refine ⟨⟨ho8.size,fun k hk=>ho8.block k ?_ ?_⟩,v8,_,h9.m.next hu8 (fun k _ e=>e) ho8 hux8,ho8.cell h9.dc h9.dx,?_,?_,?_,?_,Bi9 h9.sz ho8.size⟩
    ·rcases hk with (h|h)|h|h
     ·omega
     ·omega
     ·omega
     ·omega
    ·intro e
     rcases h9.ux k e with e2|e2
     ·have h5:=HUX6.out k e2
      have h6:=(HM7.out.up.ux k e2).1
      rcases hk with (h|h)|h|h
      ·omega
      ·omega
      ·omega
      ·omega
     ·rcases hk with (h|h)|h|h
      ·omega
      ·omega
      ·omega
      ·omega
    ·intro e
     rcases hux8 _ e with e2|e2
     ·exact h9.dx e2
     ·have:=HDL.out
      omega
    ·intro k e
     rcases hux8 _ e with e2|e2
     ·exact h9.ux k e2
     ·exact .inr (by omega)
    ·have hst:=(Ti HOK.out back hvn HXM.out h9.m.up.ok h9.m.up.lens.1 h9.m.up.lens.2.1 h9.m.up.lens.2.2 (a:=⟨(vn:Int),d,bv⟩) (List.mem_map.2 ⟨(⟨(vn:Int),d,bv⟩:LB),by simp,rfl⟩) rfl rfl h9.run).1
     simp only [Bj9] at hst;exact Run.full hst (fun a ha i v w hd' _ _=>by
      rcases hd' with h|⟨h1,x,hx,h2⟩
      ·exact .inl (.inl h)
      ·rcases Bl8.1 hx with hx|hx
       ·exact .inl (.inr ⟨h1,x,hx,h2⟩)
       ·rw [Bk2] at hx
        subst hx;exact .inr ⟨h1,h2.symm⟩)
    ·have hst:=(Ti HOK.out back hvn HXM.out h9.m.up.ok h9.m.up.lens.1 h9.m.up.lens.2.1 h9.m.up.lens.2.2 (a:=⟨(vn:Int),d,bv⟩) (List.mem_map.2 ⟨(⟨(vn:Int),d,bv⟩:LB),by simp,rfl⟩) rfl rfl h9.run).2
     simp only [Bj9] at hst;exact Bi9 hst h9.wn
   case done=>
    rintro D Wx hD0 ⟨v,st',hI9⟩ hK9;have hlen:(outL++[(⟨(vn:Int),d,bv⟩:LB)]).length=outL.length+1:=by simp
    have hm7:=HM7.out;rw [hlen] at hI9 hm7
    show K _ _
    refine hK _ _ (Handed.intro (Cz n st.far L2) HWP.out (hJ _ _ _ ?_));unfold Ay3
    iterate 61 apply Exists.intro
    refine ⟨D::Ds,rfl,rfl,v,st',d,outL++[(⟨(vn:Int),d,bv⟩:LB)],fun u j=>done u j\/u=(vn:Int),⟨⟨hI9.m.up,hI9.m.tbc,hI9.m.tbx,hI9.m.row,hI9.m.rowx,?_,?_,hI9.m.ge,?_⟩,?_,?_,?_⟩,hI9.wn⟩
    ·intro E hE
     rcases Bl7.1 hE with rfl|hE
     ·refine ⟨hK9,fun e=>?_,by have:=hm7.up.sr.bel.size;omega⟩
      rcases hI9.ux _ e with e2|e2
      ·have:=(hm7.up.ux _ e2).2
       omega
      ·omega
     ·exact hI9.m.mks E hE
    ·refine List.nodup_cons.2 ⟨fun hE=>?_,hI9.m.nod⟩
     have:=(Bj2.1 (hm7.mks D hE).1).1;omega
    ·intro E hE e
     rcases Bl7.1 hE with rfl|hE
     ·have:=(hm7.row.lt _ e).2
      omega
     ·exact hI9.m.mkr E hE e
    ·refine Run.full hI9.run (fun a ha i v w hd' hx hr=>?_)
     rcases hd' with h|h
     ·exact .inl h
     ·refine .inr ⟨h,(i,v,w),?_,rfl⟩
      rw [h] at hx hr;rw [show (back != false)=back by cases back<;>rfl];exact Az1 HOK.out back hvn hx hr
    ·intro a ha i
     rcases Bl8.1 ha with ha|ha
     ·exact .inl (HI.out.dn a ha i)
     ·rw [Bk2] at ha
      subst ha;exact .inr rfl
    ·intro u i h
     rcases h with h|h
     ·obtain ⟨a,ha,e⟩:=HI.out.dn2 u i h
      exact ⟨a,List.mem_append_left _ ha,e⟩
     ·exact ⟨⟨(vn:Int),d,bv⟩,by simp,h.symm⟩
end Go.Proofs.YteaaapdjplbljaaGreat
