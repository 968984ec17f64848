/- Parts; no condition. -/
import Derived.Test.YteaaapdjplbljaaGreatVa29
set_option linter.unusedVariables false
set_option linter.unusedSimpArgs false
set_option linter.unnecessarySimpa false
set_option maxRecDepth 100000
set_option maxHeartbeats 8000000
namespace Go.Proofs.YteaaapdjplbljaaGreat
section
namespace Dj
open Go Go.Proofs Go.RowKit Go.Shelf Hp Ch Ad
structure OptB (W:World) (ob:Nat) (bk:Bool):Prop where
 o0:W.cell? ⟨ob,0,none⟩=some (.bool bk)
 o1:W.cell? ⟨ob,1,none⟩=some (.slice none 0 0)
 o2:W.cell? ⟨ob,2,none⟩=some (.slice none 0 0)
 o3:W.cell? ⟨ob,3,none⟩=some (.slice none 0 0)
 o4:W.cell? ⟨ob,4,none⟩=some (.int .u64 0)
theorem OptB.go {W W':World} {ob:Nat} {bk:Bool} (h:OptB W ob bk) (hb:Below W.heap.size W W'):OptB W' ob bk:=⟨Bj4 hb h.o0,Bj4 hb h.o1,Bj4 hb h.o2,Bj4 hb h.o3,Bj4 hb h.o4⟩
def WtR (L:Nat) (es:List EdgeD) (v:Value) (g:List Nat) (W:World):Prop:=∃a c,v=.slice a es.length c/\W.ownsRow 0 37 1 (.slice a es.length c) es.length ((Hv es).map Bi)/\∀k,(Value.slice a es.length c).ownBlock=some k->k∈g/\L<=k
def BiR (L n:Nat) (v:Value) (g:List Nat) (W:World):Prop:=∃b a,v=.pointer (some ⟨b,0,none⟩)/\BitZ W b a n/\(b∈g/\L<=b)/\(a∈g/\L<=a)
def StR (L n:Nat) (v:Value) (g:List Nat) (W:World):Prop:=∃b rb,v=.pointer (some ⟨b,0,none⟩)/\StW W b rb (List.replicate n none)/\(b∈g/\L<=b)/\(rb∈g/\L<=rb)
def HpR (L n:Nat) (v:Value) (g:List Nat) (W:World):Prop:=∃b a,v=.pointer (some ⟨b,0,none⟩)/\HeapW W b (.slice none 0 0) (.slice (some ⟨a,0,none⟩) n n) [] (List.replicate n (-1))/\(b∈g/\L<=b)/\(a∈g/\L<=a)
structure DjF (L:Nat) (W:World) (n:Nat) (es:List EdgeD) (nb na eb ea sb rb hp ha:Nat) (wa:Option Addr) (wc:Nat):Prop where
 nd:BitZ W nb na n
 ed:BitZ W eb ea es.length
 ws:W.ownsRow 0 37 1 (.slice wa es.length wc) es.length ((Hv es).map Bi)
 st:StW W sb rb (List.replicate n none)
 hw:HeapW W hp (.slice none 0 0) (.slice (some ⟨ha,0,none⟩) n n) [] (List.replicate n (-1))
 d1:∀k,(k=nb\/k=na\/k=eb\/k=ea\/(Value.slice wa es.length wc).ownBlock=some k)->¬(k=sb\/k=rb\/k=hp\/k=ha)
 d2:∀k,(k=sb\/k=rb)->¬(k=hp\/k=ha)
 ge:∀k,(k=nb\/k=na\/k=eb\/k=ea\/(Value.slice wa es.length wc).ownBlock=some k)\/(k=sb\/k=rb\/k=hp\/k=ha)->L<=k
theorem DjF.go {L:Nat} {W W':World} {n:Nat} {es:List EdgeD} {nb na eb ea sb rb hp ha:Nat} {wa:Option Addr} {wc:Nat} (h:DjF L W n es nb na eb ea sb rb hp ha wa wc) (hb:Below W.heap.size W W'):DjF L W' n es nb na eb ea sb rb hp ha wa wc:=
 ⟨h.nd.go hb,h.ed.go hb,Ag h.ws hb,h.st.go hb,h.hw.go hb,h.d1,h.d2,h.ge⟩
theorem Bh1 {L:Nat} {W:World} {n:Nat} {es:List EdgeD} {nb na eb ea sb rb hp ha:Nat} {wa:Option Addr} {wc:Nat} {g4 g9 g15 g18 g21:List Nat}
  (h4:W.ownsRow 0 37 1 (.slice wa es.length wc) es.length ((Hv es).map Bi)) (h9:BitZ W nb na n) (h15:BitZ W eb ea es.length) (h18:StW W sb rb (List.replicate n none)) (h21:HeapW W hp (.slice none 0 0) (.slice (some ⟨ha,0,none⟩) n n) [] (List.replicate n (-1)))
  (b4:∀k,(Value.slice wa es.length wc).ownBlock=some k->k∈g4/\L<=k) (b9:nb∈g9/\L<=nb) (c9:na∈g9/\L<=na) (b15:eb∈g15/\L<=eb) (c15:ea∈g15/\L<=ea) (b18:sb∈g18/\L<=sb) (c18:rb∈g18/\L<=rb) (b21:hp∈g21/\L<=hp) (c21:ha∈g21/\L<=ha)
  (d1:∀k,k∈g4->k∉g18) (d2:∀k,k∈g4->k∉g21) (d3:∀k,k∈g9->k∉g18) (d4:∀k,k∈g9->k∉g21) (d5:∀k,k∈g15->k∉g18) (d6:∀k,k∈g15->k∉g21) (d7:∀k,k∈g18->k∉g21):DjF L W n es nb na eb ea sb rb hp ha wa wc:=by
 have e1:∀k,(k=sb\/k=rb)->k∈g18:=by rintro k (rfl|rfl);exact b18.1;exact c18.1
 have e2:∀k,(k=hp\/k=ha)->k∈g21:=by rintro k (rfl|rfl);exact b21.1;exact c21.1
 refine ⟨h9,h15,h4,h18,h21,fun k hk hm=>?_,fun k hk hm=>d7 k (e1 k hk) (e2 k hm),?_⟩
 rotate_left
 ·rintro k ((h|h|h|h|h)|h|h|h|h)
  ·exact h▸b9.2
  ·exact h▸c9.2
  ·exact h▸b15.2
  ·exact h▸c15.2
  ·exact (b4 _ h).2
  ·exact h▸b18.2
  ·exact h▸c18.2
  ·exact h▸b21.2
  ·exact h▸c21.2
 have e3:k∈g18\/k∈g21:=by
  rcases hm with h|h|h|h
  ·exact .inl (e1 k (.inl h))
  ·exact .inl (e1 k (.inr h))
  ·exact .inr (e2 k (.inl h))
  ·exact .inr (e2 k (.inr h))
 rcases hk with rfl|rfl|rfl|rfl|h
 ·exact e3.elim (d3 _ b9.1) (d4 _ b9.1)
 ·exact e3.elim (d3 _ c9.1) (d4 _ c9.1)
 ·exact e3.elim (d5 _ b15.1) (d6 _ b15.1)
 ·exact e3.elim (d5 _ c15.1) (d6 _ c15.1)
 ·exact e3.elim (d1 _ (b4 k h).1) (d2 _ (b4 k h).1)
def xsD (ab nb eb sb hp:Nat) (es:List EdgeD) (bk:Bool) (wa:Option Addr) (wc:Nat):List Value:=[.pointer (some ⟨ab,0,none⟩),.bool bk,.slice none 0 0,.slice none 0 0,.slice none 0 0,.int .u64 0,.slice wa es.length wc,.pointer (some ⟨nb,0,none⟩),.pointer (some ⟨eb,0,none⟩),.pointer (some ⟨sb,0,none⟩),.pointer (some ⟨hp,0,none⟩)]
def AgR (L ab n:Nat) (es:List EdgeD) (bk:Bool) (v:Value) (W:World):Prop:=∃nb na eb ea sb rb hp ha wa wc,v=.agg (xsD ab nb eb sb hp es bk wa wc).toArray/\DjF L W n es nb na eb ea sb rb hp ha wa wc
def BxR (L ab n:Nat) (es:List EdgeD) (bk:Bool) (v:Value) (W:World):Prop:=∃nb na eb ea sb rb hp ha wa wc xb,v=.pointer (some ⟨xb,0,none⟩)/\PB W xb (xsD ab nb eb sb hp es bk wa wc)/\DjF L W n es nb na eb ea sb rb hp ha wa wc/\
 (xb≠sb/\xb≠rb/\xb≠hp/\xb≠ha)/\L<=xb
theorem Bd3 {L:Nat} {W:World} {ab n:Nat} {es:List EdgeD} {bk:Bool} {nb na eb ea sb rb hp ha:Nat} {wa:Option Addr} {wc:Nat} {T:TypeId} (h:DjF L W n es nb na eb ea sb rb hp ha wa wc):BxR L ab n es bk (.pointer (some ⟨W.heap.size,0,none⟩)) (W.alloc (Obj.cells (xsD ab nb eb sb hp es bk wa wc).toArray T)):=by
 have h1:=h.st.lt;have h2:=h.hw.pb.lt;have h3:=(h.hw.oa.lt ha rfl).2;refine ⟨nb,na,eb,ea,sb,rb,hp,ha,wa,wc,W.heap.size,rfl,fun i x hx=>?_,h.go (Below.of_al _ _),⟨by omega,by omega,by omega,by omega⟩,?_⟩
 rotate_left
 ·have:=h.ge sb (.inr (.inl rfl));omega
 have hi:i<11:=(Bk6.1 hx).1;unfold xsD at hx ⊢
 match i,hi with
 |0,_|1,_|2,_|3,_|4,_|5,_|6,_|7,_|8,_|9,_|10,_=>cases hx;exact ⟨by go_simp,by go_simp⟩
theorem DjF.mem {L lo ab:Nat} {W:World} {n:Nat} {es:List EdgeD} {bk:Bool} {nb na eb ea sb rb hp ha xb:Nat} {wa:Option Addr} {wc:Nat} (h:DjF L W n es nb na eb ea sb rb hp ha wa wc) (hx:PB W xb (xsD ab nb eb sb hp es bk wa wc))
  (hne:xb≠sb/\xb≠rb/\xb≠hp/\xb≠ha) (hxl:L<=xb) (hA:AdjM W lo L ab n es) (hl:lo<=L) (hL:L<=W.heap.size):
  DjK.Mem ⟨lo,ab,lo,L,nb,na,eb,ea,xb,sb,rb,hp,n,wc,es,bk,wa,.slice (some ⟨ha,0,none⟩) n n⟩ W (.slice none 0 0) (DS.zero n):=by
 have hM:∀k,DjK.M ⟨lo,ab,lo,L,nb,na,eb,ea,xb,sb,rb,hp,n,wc,es,bk,wa,.slice (some ⟨ha,0,none⟩) n n⟩ (.slice none 0 0) k->k=sb\/k=rb\/k=hp\/k=ha:=by
  rintro k ((hk|hk)|hk|hk|hk)
  ·exact .inl hk
  ·exact .inr (.inl hk)
  ·exact .inr (.inr (.inl hk))
  ·exact absurd hk (by simp [Value.ownBlock])
  ·exact .inr (.inr (.inr (Bm2 hk).symm))
 have hH:∀k,HX hp (.slice none 0 0) (.slice (some ⟨ha,0,none⟩) n n) k->k=hp\/k=ha:=by
  rintro k (hk|hk|hk)
  ·exact .inl hk
  ·exact absurd hk (by simp [Value.ownBlock])
  ·exact .inr (Bm2 hk).symm
 refine ⟨⟨hx,hA,h.nd,h.ed,h.ws,hL⟩,h.st,h.hw,Gh n,⟨Bm4,Bm4⟩,?_,?_,?_,by show lo<=_;omega⟩
 ·rintro k (hk|hk|hk) hm
  ·have hk:k=xb:=hk
   have:=hM k hm;omega
  ·have hk:lo<=k/\k<L:=hk
   have:=h.ge k (.inr (hM k hm));omega
  ·exact h.d1 k hk (hM k hm)
 ·rintro k (hk|hk) hm
  ·exact h.d2 k (.inl hk) (hH k hm)
  ·exact h.d2 k (.inr hk) (hH k hm)
 ·show ∀k,_->lo<=k
  rintro k ((hk|hk|hk)|hm)
  ·have hk:k=xb:=hk
   omega
  ·exact hk.1
  ·have:=h.ge k (.inl hk)
   omega
  ·have:=h.ge k (.inr (hM k hm))
   omega
def wkR (L0:Nat) (G GP OP G1 O1 O2 A L:Value) (n:Nat) (ab:Nat) (es:List EdgeD) (bk:Bool):Nat->Value->List Nat->World->Prop
 |0,v,_,_=>v=.pointer (some ⟨ab,0,none⟩)
 |1,v,_,_|3,v,_,_=>v=Ec bk
 |2,v,_,_=>v=G
 |4,v,g,W=>WtR L0 es v g W
 |5,v,_,_|16,v,_,_|19,v,_,_=>v=GP
 |6,v,_,_|17,v,_,_|20,v,_,_=>v=.int .i64 (n:Int)
 |7,v,_,_=>v=O1
 |8,v,_,_|14,v,_,_=>v=.slice none 0 0
 |9,v,g,W=>BiR L0 n v g W
 |10,v,_,_=>v=G1
 |11,v,_,_=>v=A
 |12,v,_,_=>v=L
 |13,v,_,_=>v=O2
 |15,v,g,W=>BiR L0 es.length v g W
 |18,v,g,W=>StR L0 n v g W
 |21,v,g,W=>HpR L0 n v g W
 |22,v,_,W=>AgR L0 ab n es bk v W
 |_,v,_,W=>BxR L0 ab n es bk v W
theorem Be8 {L0:Nat} {G GP OP G1 O1 O2 A L:Value} {n ab:Nat} {es:List EdgeD} {bk:Bool} (i:Nat) (v:Value) (g:List Nat) (w w':World) (hb:Below w.heap.size w w') (h:wkR L0 G GP OP G1 O1 O2 A L n ab es bk i v g w):wkR L0 G GP OP G1 O1 O2 A L n ab es bk i v g w':=by
 unfold wkR at h ⊢
 split at h
 case h_5=>obtain ⟨a,c,h1,h2,h3⟩:=h;exact ⟨a,c,h1,Ag h2 hb,h3⟩
 all_goals first
  |exact h
  |(obtain ⟨b,a,h1,h2,h3⟩:=h;exact ⟨b,a,h1,BitZ.go h2 hb,h3⟩)
  |(obtain ⟨b,a,h1,h2,h3⟩:=h;exact ⟨b,a,h1,StW.go h2 hb,h3⟩)
  |(obtain ⟨b,a,h1,h2,h3⟩:=h;exact ⟨b,a,h1,HeapW.go h2 hb,h3⟩)
  |(obtain ⟨nb,na,eb,ea,sb,rb,hp,ha,wa,wc,h1,h2⟩:=h;exact ⟨nb,na,eb,ea,sb,rb,hp,ha,wa,wc,h1,h2.go hb⟩)
  |(obtain ⟨nb,na,eb,ea,sb,rb,hp,ha,wa,wc,xb,h1,h2,h3,h4⟩:=h;exact ⟨nb,na,eb,ea,sb,rb,hp,ha,wa,wc,xb,h1,PB.go (x:=.pointer (some ⟨ab,0,none⟩)) h2 hb,h3.go hb,h4⟩)
theorem Aa6 (n:Nat) (es:List EdgeD) (ao:Option Addr) (cap gb ob sb0 s yl:Nat) (bk:Bool) (J Jx:List (Int×Int)->World->Prop) (W:World) (hg:Aj ⟨(n:Int),es⟩=0) (hE:EOK n es) (hs:s<n) (hn:n<=50000) (hm0:es.length<=50000)
  (g0:W.cell? ⟨gb,0,none⟩=some (.int .i64 (n:Int))) (g1:W.cell? ⟨gb,1,none⟩=some (.slice ao es.length cap)) (hO:OptB W ob bk) (s0:W.cell? ⟨sb0,0,none⟩=some (.int .i64 (s:Int))) (hc:Cel W ao (Ar es))
  (hJ:∀pre W1 W2,J pre W1->OffX (W.heap.size<=·) W1 W2->J pre W2) (hJx:∀pre W1 W2,Jx pre W1->OffX (W.heap.size<=·) W1 W2->Jx pre W2)
  (hY:∀m pre x W1,J pre W1->OkD es bk n (s:Int) (pre++[x])->W.heap.size<=W1.heap.size->YieldAt Fence.wide m Tryz.prog yl (Zk x) W1 fun e W'=>
   (e=.returned (.bool true)/\J (pre++[x]) W'/\OffX (fun k=>k<W.heap.size) W1 W')\/(e=.returned (.bool false)/\Jx (pre++[x]) W'/\OffX (fun k=>k<W.heap.size) W1 W')) (hJ0:J [] W):
  Calls Tryz.prog 191 #[.func (.yield yl) #[] #[],.pointer (some ⟨gb,0,none⟩),.pointer (some ⟨ob,0,none⟩),.pointer (some ⟨sb0,0,none⟩)] W fun e W'=>e=.returned (.tuple #[])/\((∃parts,Ak8 es bk n (s:Int) parts/\J parts W')\/∃pre,OkD es bk n (s:Int) pre/\Jx pre W'):=by
 have HNW:=Bj3 (Ad.Ah9 n es ao cap W hg hn hm0 hc (fun e he=>⟨(hE e he).1,(hE e he).2.1⟩));have HO:=Bj3 hO;have HES:=Bj3 hc;unfold Xh gV at HNW;clear hO hc
 go_enter Tryz.func191,Tryz.ntmps191
 go_upto_region 2 with (go_at_call 113;refine HNW.out.mono ?_;rintro e w1 ⟨ab,rfl,h1,h2⟩;(have HAJ:=Bj3 h1);(have HB1:=Bj3 h2);clear h1 h2)
 have HOO:=Bj3 (HO.out.go HB1.out);have g0:=Bj4 HB1.out g0;have g1:=Bj4 HB1.out g1;have HWT:=Bj3 (fun (U:World) (hz:Below w1.heap.size w1 U)=>Li n es ao cap bk U hg (by omega) (HES.out.go (HB1.out.st hz)));have HB1':=Bj3 (fun (U:World)=>Zr n (by omega) U);have HB2:=Bj3 (fun (U:World)=>Zr es.length (by omega) U);have HSN:=Bj3 (fun (U:World)=>Qr n (by omega) U);have HHN:=Bj3 (fun (U:World)=>My n (by omega) U);unfold Qj at HB1' HB2;clear HNW;refine Bw 24 _ rfl rfl (wkR w1.heap.size (.agg #[.int .i64 (n:Int),.slice ao es.length cap]) (.pointer (some ⟨gb,0,none⟩)) (.pointer (some ⟨ob,0,none⟩)) (.pointer (some ⟨gb,1,none⟩)) (.pointer (some ⟨ob,1,none⟩)) (.pointer (some ⟨ob,2,none⟩)) (.slice ao es.length cap) (.int .i64 (es.length:Int)) n ab es bk) (by kernel_rfl) (by kernel_rfl) (by kernel_rfl) Be8 ?_ ?_
 ·refine ⟨?_,?_,?_,?_,?_,?_,?_,?_,?_,?_,?_,?_,?_,?_,?_,?_,?_,?_,?_,?_,?_,?_,?_,?_,trivial⟩
  ·intro act gs w' hbe hd hdis ho KK hK
   have q0:act.tmps.getD 5 undef=.pointer (some ⟨ab,0,none⟩):=ho 5 (by kernel_rfl);refine .inl ⟨Aa rfl,?_⟩;simp [Oper.wp,execOp,Oper.upon,go_sem,Act.eval,q0];exact hK _ [] w' (Below.refl _ _) rfl (fun _ h=>nomatch h)
  ·intro act gs w' hbe hd hdis ho KK hK
   have q0:act.tmps.getD 2 undef=.pointer (some ⟨ob,0,none⟩):=ho 2 (by kernel_rfl);obtain ⟨f0,f1,f2,f3,f4⟩:=HOO.out.go hbe;refine .inl ⟨Aa rfl,?_⟩;simp [Oper.wp,execOp,Oper.upon,go_sem,Act.eval,q0,f0,f1,f2,f3,f4];exact hK _ [] w' (Below.refl _ _) rfl (fun _ h=>nomatch h)
  ·intro act gs w' hbe hd hdis ho KK hK
   have q0:act.tmps.getD 1 undef=.pointer (some ⟨gb,0,none⟩):=ho 1 (by kernel_rfl);have f0:=Bj4 hbe g0;have f1:=Bj4 hbe g1;refine .inl ⟨Aa rfl,?_⟩;simp [Oper.wp,execOp,Oper.upon,go_sem,Act.eval,q0,f0,f1];exact hK _ [] w' (Below.refl _ _) rfl (fun _ h=>nomatch h)
  ·intro act gs w' hbe hd hdis ho KK hK
   have q0:act.tmps.getD 2 undef=.pointer (some ⟨ob,0,none⟩):=ho 2 (by kernel_rfl);obtain ⟨f0,f1,f2,f3,f4⟩:=HOO.out.go hbe;refine .inl ⟨Aa rfl,?_⟩;simp [Oper.wp,execOp,Oper.upon,go_sem,Act.eval,q0,f0,f1,f2,f3,f4];exact hK _ [] w' (Below.refl _ _) rfl (fun _ h=>nomatch h)
  ·intro act gs w' hbe hd hdis ho KK hK
   have q0:act.tmps.getD 17 undef=.agg #[.int .i64 (n:Int),.slice ao es.length cap]:=hd 2 (by rfl);have q1:act.tmps.getD 18 undef=Ec bk:=hd 3 (by rfl);refine .inl ⟨Aa rfl,?_⟩;simp [Oper.wp,execOp,Oper.upon,go_sem,Act.eval,q0,q1];refine (HWT.out w' hbe).mono ?_;rintro e w6 ⟨a,c,rfl,h1,h2⟩;exact hK _ ((Value.slice a es.length c).ownBlock.toList) w6 h2 ⟨a,c,rfl,Rh h1 (Bj6 _),fun k hk=>⟨by rw [hk];simp,by have:=(Uz h1 k hk).1;have:=hbe.size;omega⟩⟩ (fun k hk=>Uz h1 k (by simpa using hk))
  ·intro act gs w' hbe hd hdis ho KK hK
   have q0:act.tmps.getD 1 undef=.pointer (some ⟨gb,0,none⟩):=ho 1 (by kernel_rfl);refine .inl ⟨Aa rfl,?_⟩;simp [Oper.wp,execOp,Oper.upon,go_sem,Act.eval,q0];exact hK _ [] w' (Below.refl _ _) rfl (fun _ h=>nomatch h)
  ·intro act gs w' hbe hd hdis ho KK hK
   have q0:act.tmps.getD 20 undef=.pointer (some ⟨gb,0,none⟩):=hd 5 (by rfl);have f0:=Bj4 hbe g0;refine .inl ⟨Aa rfl,?_⟩;simp [Oper.wp,execOp,Oper.upon,go_sem,Act.eval,q0,f0];exact hK _ [] w' (Below.refl _ _) rfl (fun _ h=>nomatch h)
  ·intro act gs w' hbe hd hdis ho KK hK
   have q0:act.tmps.getD 2 undef=.pointer (some ⟨ob,0,none⟩):=ho 2 (by kernel_rfl);refine .inl ⟨Aa rfl,?_⟩;simp [Oper.wp,execOp,Oper.upon,go_sem,Act.eval,q0];exact hK _ [] w' (Below.refl _ _) rfl (fun _ h=>nomatch h)
  ·intro act gs w' hbe hd hdis ho KK hK
   have q0:act.tmps.getD 22 undef=.pointer (some ⟨ob,1,none⟩):=hd 7 (by rfl);obtain ⟨f0,f1,f2,f3,f4⟩:=HOO.out.go hbe;refine .inl ⟨Aa rfl,?_⟩;simp [Oper.wp,execOp,Oper.upon,go_sem,Act.eval,q0,f1];exact hK _ [] w' (Below.refl _ _) rfl (fun _ h=>nomatch h)
  ·intro act gs w' hbe hd hdis ho KK hK
   have q0:act.tmps.getD 21 undef=.int .i64 (n:Int):=hd 6 (by rfl);have q1:act.tmps.getD 23 undef=.slice none 0 0:=hd 8 (by rfl);refine .inl ⟨Aa rfl,?_⟩;simp [Oper.wp,execOp,Oper.upon,go_sem,Act.eval,q0,q1];refine (HB1'.out w').mono ?_;rintro e w6 ⟨b,a,rfl,h1,h2,h3,h4⟩;exact hK _ [b,a] w6 h4 ⟨b,a,rfl,h1,⟨by simp,by have:=hbe.size;omega⟩,⟨by simp,by have:=hbe.size;omega⟩⟩ (by intro k hk;have h8:=h1.2.2.2.1;have h9:=h1.2.2.2.2;simp only [Bm5,List.not_mem_nil,or_false] at hk;rcases hk with rfl|rfl<;>exact ⟨by omega,by omega⟩)
  ·intro act gs w' hbe hd hdis ho KK hK
   have q0:act.tmps.getD 1 undef=.pointer (some ⟨gb,0,none⟩):=ho 1 (by kernel_rfl);refine .inl ⟨Aa rfl,?_⟩;simp [Oper.wp,execOp,Oper.upon,go_sem,Act.eval,q0];exact hK _ [] w' (Below.refl _ _) rfl (fun _ h=>nomatch h)
  ·intro act gs w' hbe hd hdis ho KK hK
   have q0:act.tmps.getD 25 undef=.pointer (some ⟨gb,1,none⟩):=hd 10 (by rfl);have f0:=Bj4 hbe g1;refine .inl ⟨Aa rfl,?_⟩;simp [Oper.wp,execOp,Oper.upon,go_sem,Act.eval,q0,f0];exact hK _ [] w' (Below.refl _ _) rfl (fun _ h=>nomatch h)
  ·intro act gs w' hbe hd hdis ho KK hK
   have q0:act.tmps.getD 26 undef=.slice ao es.length cap:=hd 11 (by rfl);refine .inl ⟨Aa rfl,?_⟩;simp [Oper.wp,execOp,Oper.upon,go_sem,Act.eval,q0];exact hK _ [] w' (Below.refl _ _) rfl (fun _ h=>nomatch h)
  ·intro act gs w' hbe hd hdis ho KK hK
   have q0:act.tmps.getD 2 undef=.pointer (some ⟨ob,0,none⟩):=ho 2 (by kernel_rfl);refine .inl ⟨Aa rfl,?_⟩;simp [Oper.wp,execOp,Oper.upon,go_sem,Act.eval,q0];exact hK _ [] w' (Below.refl _ _) rfl (fun _ h=>nomatch h)
  ·intro act gs w' hbe hd hdis ho KK hK
   have q0:act.tmps.getD 28 undef=.pointer (some ⟨ob,2,none⟩):=hd 13 (by rfl);obtain ⟨f0,f1,f2,f3,f4⟩:=HOO.out.go hbe;refine .inl ⟨Aa rfl,?_⟩;simp [Oper.wp,execOp,Oper.upon,go_sem,Act.eval,q0,f2];exact hK _ [] w' (Below.refl _ _) rfl (fun _ h=>nomatch h)
  ·intro act gs w' hbe hd hdis ho KK hK
   have q0:act.tmps.getD 27 undef=.int .i64 (es.length:Int):=hd 12 (by rfl);have q1:act.tmps.getD 29 undef=.slice none 0 0:=hd 14 (by rfl);refine .inl ⟨Aa rfl,?_⟩;simp [Oper.wp,execOp,Oper.upon,go_sem,Act.eval,q0,q1];refine (HB2.out w').mono ?_;rintro e w6 ⟨b,a,rfl,h1,h2,h3,h4⟩;exact hK _ [b,a] w6 h4 ⟨b,a,rfl,h1,⟨by simp,by have:=hbe.size;omega⟩,⟨by simp,by have:=hbe.size;omega⟩⟩ (by intro k hk;have h8:=h1.2.2.2.1;have h9:=h1.2.2.2.2;simp only [Bm5,List.not_mem_nil,or_false] at hk;rcases hk with rfl|rfl<;>exact ⟨by omega,by omega⟩)
  ·intro act gs w' hbe hd hdis ho KK hK
   have q0:act.tmps.getD 1 undef=.pointer (some ⟨gb,0,none⟩):=ho 1 (by kernel_rfl);refine .inl ⟨Aa rfl,?_⟩;simp [Oper.wp,execOp,Oper.upon,go_sem,Act.eval,q0];exact hK _ [] w' (Below.refl _ _) rfl (fun _ h=>nomatch h)
  ·intro act gs w' hbe hd hdis ho KK hK
   have q0:act.tmps.getD 31 undef=.pointer (some ⟨gb,0,none⟩):=hd 16 (by rfl);have f0:=Bj4 hbe g0;refine .inl ⟨Aa rfl,?_⟩;simp [Oper.wp,execOp,Oper.upon,go_sem,Act.eval,q0,f0];exact hK _ [] w' (Below.refl _ _) rfl (fun _ h=>nomatch h)
  ·intro act gs w' hbe hd hdis ho KK hK
   have q0:act.tmps.getD 32 undef=.int .i64 (n:Int):=hd 17 (by rfl);refine .inl ⟨Aa rfl,?_⟩;simp [Oper.wp,execOp,Oper.upon,go_sem,Act.eval,q0];refine (HSN.out w').mono ?_;rintro e w6 ⟨b,rb,rfl,h1,h2,h3,h4⟩;exact hK _ [b,rb] w6 h4 ⟨b,rb,rfl,h1,⟨by simp,by have:=hbe.size;omega⟩,⟨by simp,by have:=hbe.size;omega⟩⟩ (by intro k hk;have h8:=h1.lt;simp only [Bm5,List.not_mem_nil,or_false] at hk;rcases hk with rfl|rfl<;>exact ⟨by omega,by omega⟩)
  ·intro act gs w' hbe hd hdis ho KK hK
   have q0:act.tmps.getD 1 undef=.pointer (some ⟨gb,0,none⟩):=ho 1 (by kernel_rfl);refine .inl ⟨Aa rfl,?_⟩;simp [Oper.wp,execOp,Oper.upon,go_sem,Act.eval,q0];exact hK _ [] w' (Below.refl _ _) rfl (fun _ h=>nomatch h)
  ·intro act gs w' hbe hd hdis ho KK hK
   have q0:act.tmps.getD 34 undef=.pointer (some ⟨gb,0,none⟩):=hd 19 (by rfl);have f0:=Bj4 hbe g0;refine .inl ⟨Aa rfl,?_⟩;simp [Oper.wp,execOp,Oper.upon,go_sem,Act.eval,q0,f0];exact hK _ [] w' (Below.refl _ _) rfl (fun _ h=>nomatch h)
  ·intro act gs w' hbe hd hdis ho KK hK
   have q0:act.tmps.getD 35 undef=.int .i64 (n:Int):=hd 20 (by rfl);refine .inl ⟨Aa rfl,?_⟩;simp [Oper.wp,execOp,Oper.upon,go_sem,Act.eval,q0];refine (HHN.out w').mono ?_;rintro e w6 ⟨b,a,rfl,h1,h2,h3,h4⟩;exact hK _ [b,a] w6 h4 ⟨b,a,rfl,h1,⟨by simp,by have:=hbe.size;omega⟩,⟨by simp,by have:=hbe.size;omega⟩⟩ (by intro k hk;have h8:=h1.pb.lt;have h9:=(h1.oa.lt a rfl).2;simp only [Bm5,List.not_mem_nil,or_false] at hk;rcases hk with rfl|rfl<;>exact ⟨by omega,by omega⟩)
  ·intro act gs w' hbe hd hdis ho KK hK
   have q0:act.tmps.getD 15 undef=.pointer (some ⟨ab,0,none⟩):=hd 0 (by rfl);have q1:act.tmps.getD 16 undef=Ec bk:=hd 1 (by rfl);obtain ⟨wa,wc,e4,h4,b4⟩:WtR w1.heap.size es (act.tmps.getD 19 undef) (gs 4) w':=hd 4 (by rfl);obtain ⟨nb,na,e9,h9,b9,c9⟩:BiR w1.heap.size n (act.tmps.getD 24 undef) (gs 9) w':=hd 9 (by rfl);obtain ⟨eb,ea,e15,h15,b15,c15⟩:BiR w1.heap.size es.length (act.tmps.getD 30 undef) (gs 15) w':=hd 15 (by rfl);obtain ⟨sb,rb,e18,h18,b18,c18⟩:StR w1.heap.size n (act.tmps.getD 33 undef) (gs 18) w':=hd 18 (by rfl);obtain ⟨hp,ha,e21,h21,b21,c21⟩:HpR w1.heap.size n (act.tmps.getD 36 undef) (gs 21) w':=hd 21 (by rfl);have hdj:=fun (i j:Nat) (hi:Ce _ 22 i=true) (hj:Ce _ 22 j=true) (hne:i≠j) (k:Nat)=>hdis i j k hi hj hne;have hF:DjF w1.heap.size w' n es nb na eb ea sb rb hp ha wa wc:=Bh1 h4 h9 h15 h18 h21 b4 b9 c9 b15 c15 b18 c18 b21 c21 (hdj 4 18 (by rfl) (by rfl) (by decide)) (hdj 4 21 (by rfl) (by rfl) (by decide)) (hdj 9 18 (by rfl) (by rfl) (by decide)) (hdj 9 21 (by rfl) (by rfl) (by decide)) (hdj 15 18 (by rfl) (by rfl) (by decide)) (hdj 15 21 (by rfl) (by rfl) (by decide)) (hdj 18 21 (by rfl) (by rfl) (by decide));have z0:=(Bm8 (xs:=act.tmps) (i:=15) (d:=undef)).symm.trans q0;have z1:=(Bm8 (xs:=act.tmps) (i:=16) (d:=undef)).symm.trans q1;have z2:=(Bm8 (xs:=act.tmps) (i:=19) (d:=undef)).symm.trans e4;have z3:=(Bm8 (xs:=act.tmps) (i:=24) (d:=undef)).symm.trans e9;have z4:=(Bm8 (xs:=act.tmps) (i:=30) (d:=undef)).symm.trans e15;have z5:=(Bm8 (xs:=act.tmps) (i:=33) (d:=undef)).symm.trans e18
   have z6:=(Bm8 (xs:=act.tmps) (i:=36) (d:=undef)).symm.trans e21;refine .inl ⟨Aa rfl,?_⟩;simp [Oper.wp,execOp,Oper.upon,go_sem,Act.eval,q0,q1,e4,e9,e15,e18,e21,z0,z1,z2,z3,z4,z5,z6,Ec];exact hK _ [] w' (Below.refl _ _) ⟨nb,na,eb,ea,sb,rb,hp,ha,wa,wc,rfl,hF⟩ (fun _ h=>nomatch h)
  ·intro act gs w' hbe hd hdis ho KK hK
   obtain ⟨nb,na,eb,ea,sb,rb,hp,ha,wa,wc,e22,hF⟩:AgR w1.heap.size ab n es bk (act.tmps.getD 37 undef) w':=hd 22 (by rfl);refine .inl ⟨Aa rfl,?_⟩;simp [Oper.wp,execOp,Oper.upon,go_sem,Act.eval,e22];exact hK _ [] _ (Below.of_al _ _) (Bd3 hF) (fun _ h=>nomatch h)
 ·intro vs gs act w2 hb2 hR hgs hdis hon hoff hact
  obtain ⟨nb,na,eb,ea,sb,rb,hp,ha,wa,wc,xb,e23,hx,hF,⟨x1,x2,x3,x4⟩,xl⟩:BxR w1.heap.size ab n es bk (vs 23) w2:=hR 23 (by omega);have hv:=hon 23 (by omega);have HL:=Bj3 (show W.heap.size<=w1.heap.size from HB1.out.size);have hm:DjK.Mem ⟨W.heap.size,ab,W.heap.size,w1.heap.size,nb,na,eb,ea,xb,sb,rb,hp,n,wc,es,bk,wa,.slice (some ⟨ha,0,none⟩) n n⟩ w2 (.slice none 0 0) (DS.zero n):=hF.mem hx ⟨x1,x2,x3,x4⟩ xl (HAJ.out.go hb2 (Bj5 _)) HL.out hb2.size;obtain ⟨KK,hKK⟩:∃KK:DjK,KK=⟨W.heap.size,ab,W.heap.size,w1.heap.size,nb,na,eb,ea,xb,sb,rb,hp,n,wc,es,bk,wa,.slice (some ⟨ha,0,none⟩) n n⟩:=⟨_,rfl⟩;rw [<-hKK] at hm;have HK:=Bj3 (show KK.B=W.heap.size/\KK.n=n/\KK.es=es/\KK.bk=bk/\KK.nb=nb/\KK.xb=xb from by rw [hKK];exact ⟨rfl,rfl,rfl,rfl,rfl,rfl⟩);have HM:=Bj3 hm;have y0:=Bj4 (HB1.out.st hb2) s0;have y7:=(hx 7 _ rfl).1;have HHS:=Bj3 (fun (U:World) (hU:Below w2.heap.size w2 U)=>Ou nb na n (s:Int) U (hF.nd.go hU) (by omega) (by omega) (by omega));rw [hact];simp only [Al,Ae,Bl5,Bl4,Bl9,Bl8,Act.put,Bk8,Bk9,Nat.reduceAdd,Bl3,Bl6,Bl7];rw [e23];clear hR hgs hdis hoff hact hon hm hx hF hKK x1 x2 x3 x4 xl;generalize vs 0=a0;generalize vs 1=a1;generalize vs 2=a2;generalize vs 3=a3;generalize vs 4=a4;generalize vs 5=a5;generalize vs 6=a6;generalize vs 7=a7;generalize vs 8=a8;generalize vs 9=a9;generalize vs 10=a10;generalize vs 11=a11;generalize vs 12=a12;generalize vs 13=a13;generalize vs 14=a14;generalize vs 15=a15;generalize vs 16=a16;generalize vs 17=a17;generalize vs 18=a18;generalize vs 19=a19;generalize vs 20=a20
  generalize vs 21=a21;generalize vs 22=a22;clear hv
  go_upto_region 3 with fail
  refine Ky 6 rfl (fun i v _=>v=[Value.pointer (some ⟨xb,0,none⟩),.pointer (some ⟨xb,0,none⟩),.pointer (some ⟨xb,7,none⟩),.pointer (some ⟨nb,0,none⟩),.int .i64 (s:Int),.bool false].getD i undef) (by kernel_rfl) (by kernel_rfl) (fun _ _ _ _ _ h=>h) ?_ ?_
  ·refine ⟨?_,?_,?_,?_,?_,?_,trivial⟩
   ·intro act w' hbe hd ho KR hK
    have q0:act.tmps.getD 7 undef=.pointer (some ⟨xb,0,none⟩):=ho 7 (by kernel_rfl);simp [Oper.wp,execOp,Oper.upon,go_sem,Act.eval,q0];exact hK _ w' (Below.refl _ _) rfl
   ·intro act w' hbe hd ho KR hK
    have q0:act.tmps.getD 39 undef=.pointer (some ⟨xb,0,none⟩):=hd 0 (by rfl);simp [Oper.wp,execOp,Oper.upon,go_sem,Act.eval,q0];exact hK _ w' (Below.refl _ _) rfl
   ·intro act w' hbe hd ho KR hK
    have q0:act.tmps.getD 40 undef=.pointer (some ⟨xb,0,none⟩):=hd 1 (by rfl);simp [Oper.wp,execOp,Oper.upon,go_sem,Act.eval,q0];exact hK _ w' (Below.refl _ _) rfl
   ·intro act w' hbe hd ho KR hK
    have q0:act.tmps.getD 41 undef=.pointer (some ⟨xb,7,none⟩):=hd 2 (by rfl);have f0:=Bj4 hbe y7;simp [Oper.wp,execOp,Oper.upon,go_sem,Act.eval,q0,f0];exact hK _ w' (Below.refl _ _) rfl
   ·intro act w' hbe hd ho KR hK
    have q0:act.tmps.getD 3 undef=.pointer (some ⟨sb0,0,none⟩):=ho 3 (by kernel_rfl);have f0:=Bj4 hbe y0;simp [Oper.wp,execOp,Oper.upon,go_sem,Act.eval,q0,f0];exact hK _ w' (Below.refl _ _) rfl
   ·intro act w' hbe hd ho KR hK
    have q0:act.tmps.getD 42 undef=.pointer (some ⟨nb,0,none⟩):=hd 3 (by rfl);have q1:act.tmps.getD 43 undef=.int .i64 (s:Int):=hd 4 (by rfl);simp [Oper.wp,execOp,Oper.upon,go_sem,Act.eval,q0,q1];refine (HHS.out w' hbe).mono ?_;rintro e w6 ⟨rfl,hw6⟩;obtain rfl:=hw6.symm;exact hK _ w6 (Below.refl _ _) rfl
  intro vs w3 hb3 hR;have e5:vs 5=.bool false:=hR 5 (by omega);have y03:=Bj4 hb3 y0;have HM3:=Bj3 (HM.out.go hb3);have HOF:=Bj3 (show OffX (W.heap.size<=·) W w3 from .of_below ((HB1.out.st hb2).st hb3));simp only [Al,Ae,Bl5,Bl4,Bl9,Bl8,Act.put,Bk8,Bk9,Nat.reduceAdd,Bl3,Bl6,Bl7];rw [e5];clear hR e5 y0 y7 HM HHS;generalize vs 0=b0;generalize vs 1=b1;generalize vs 2=b2;generalize vs 3=b3;generalize vs 4=b4;have HRUN:=Bj3 (fun (w4:World) (v4:Value) (hm:KK.Mem w4 v4 (Cj (DS.zero n) s 0)) (ho:OffX (KK.M (.slice none 0 0)) w3 w4)=>Al6 KK w4 v4 s yl J Jx (by rw [HK.out.2.1];exact hm) (by rw [HK.out.2.1,HK.out.2.2.1];exact hE) (by rw [HK.out.2.1];exact hs) (by rw [HK.out.2.1];exact hn) (by rw [HK.out.2.2.1];exact hm0) (by rw [HK.out.1];exact hJ) (by rw [HK.out.1];exact hJx) (fun m pre x W1 h1 h2 h3=>by
   rw [HK.out.1] at h3 ⊢;rw [HK.out.2.1,HK.out.2.2.1,HK.out.2.2.2.1] at h2;exact hY m pre x W1 h1 h2 h3) (hJ _ _ _ hJ0 (HOF.out.trans (ho.mono (fun k hk=>HK.out.1▸HM3.out.ge k (.inr hk))))))
  rw [HK.out.2.2.2.2.2,HK.out.2.1,HK.out.2.2.1,HK.out.2.2.2.1] at HRUN;have HRE:=Bj3 (Hd KK w3 (.slice none 0 0) (DS.zero n) s 0 HM3.out (by have:=HK.out.2.1;omega) (by have:=HK.out.2.1;omega));unfold Dm at HRE;rw [HK.out.2.2.2.2.2] at HRE
  go_wp2_with (go_at_call 194;refine HRE.out.mono ?_;rintro e w4 ⟨rfl,v4,hm4,ho4,hv4⟩;(have HM4:=Bj3 hm4);(have HO4:=Bj3 ho4);clear hm4 ho4 hv4)
  have HRN:=Bj3 (HRUN.out w4 v4 HM4.out HO4.out);refine HRN.out.mono ?_;rintro e w5 ⟨rfl,hfin⟩;have HF:=Bj3 hfin;clear hfin
  go_wp2
  refine bodyPost_end (results_none rfl _ _ _) rfl ?_;exact ⟨rfl,HF.out⟩
end Dj
end
section
namespace Dj
open Go Go.Proofs Go.RowKit Go.Shelf Hp Ch Ad
theorem Aa4 {m:Nat} (m':Nat) {P:Program} {l:Nat} {args:Array Value} {W:World} {R:Ending->World->Prop} (h:YieldAt Fence.wide m P l args W R):YieldAt Fence.wide m' P l args W R:=by
 obtain ⟨a,b,c,d,h1,h2⟩:=h;exact ⟨a,b,c,d,h1,h2.1,fun x cs _=>h2.2 x cs (room_wide _)⟩
theorem As3 (n:Nat) (es:List EdgeD) (ao:Option Addr) (cap:Nat) (s:Int) (bk:Bool) (w:World):
  Calls Tryz.prog 139 #[gV n ao es.length cap,.int .i64 s,Ec bk] w fun e w'=>
   e=.returned (.func (.func 191) #[] #[.pointer (some ⟨w.heap.size,0,none⟩),.pointer (some ⟨w.heap.size+2,0,none⟩),.pointer (some ⟨w.heap.size+1,0,none⟩)])/\Below w.heap.size w w'/\w'.heap.size=w.heap.size+3/\
   w'.cell? ⟨w.heap.size,0,none⟩=some (.int .i64 (n:Int))/\w'.cell? ⟨w.heap.size,1,none⟩=some (.slice ao es.length cap)/\w'.cell? ⟨w.heap.size+1,0,none⟩=some (.int .i64 s)/\OptB w' (w.heap.size+2) bk:=by
 have hmf:∀(fn:Fn) (first cap:Array Value) (w:World),(Instr.makeFunc fn first cap).run Tryz.prog w=.ok (.func fn first cap) w:=fun _ _ _ _=>rfl;unfold Ec gV
 go_enter Tryz.func139,Tryz.ntmps139
 go_wp2
 go_ret
 refine ⟨rfl,((Below.of_al _ _).al _).al _,by simp,by go_simp,by go_simp,by go_simp,⟨by go_simp,by go_simp,by go_simp,by go_simp,by go_simp⟩⟩
def KpW (B:Nat) (ao:Option Addr) (es:List EdgeD) (k:Nat):Prop:=(B<=k/\k<B+3)\/(es≠[]/\∃x,ao=some x/\k=x.block)
theorem Ff {w W:World} {ao:Option Addr} {es:List EdgeD} {B:Nat} (h:Cel w ao (Ar es)) (hk:KeepX (KpW B ao es) w W):Cel W ao (Ar es):=by
 intro i u hu;obtain ⟨b,o,e,h1⟩:=h i u hu;refine ⟨b,o,e,(Bm0 (w:=w) (hk.2 b (.inr ⟨fun e9=>by rw [e9] at hu;simp [Ar] at hu,_,e,rfl⟩))).trans h1⟩
theorem As2 (m:Nat) (n:Nat) (es:List EdgeD) (ao:Option Addr) (cap B s:Nat) (bk:Bool) (w:World) (hg:Aj ⟨(n:Int),es⟩=0) (hE:EOK n es) (hs:s<n) (hn:n<=50000) (hm:es.length<=50000) (hc:Cel w ao (Ar es))
  (c0:w.cell? ⟨B,0,none⟩=some (.int .i64 (n:Int))) (c1:w.cell? ⟨B,1,none⟩=some (.slice ao es.length cap)) (c2:w.cell? ⟨B+1,0,none⟩=some (.int .i64 (s:Int))) (c3:OptB w (B+2) bk):
  Bj0 Fence.wide m Tryz.prog 191 #[.pointer (some ⟨B,0,none⟩),.pointer (some ⟨B+2,0,none⟩),.pointer (some ⟨B+1,0,none⟩)] Zk (OkD es bk n (s:Int)) (Ak8 es bk n (s:Int)) (KpW B ao es) w:=by
 intro l J Jx W hk hJ hJx hY hJ0;have hcB:∀{j k:Nat} {u:Value},j<3->w.cell? ⟨B+j,k,none⟩=some u->W.cell? ⟨B+j,k,none⟩=some u:=fun {j k u} hj hc=>(Bm0 (w:=w) (hk.2 (B+j) (.inl ⟨by omega,by omega⟩))).trans hc;refine (callsIn_wide (n:=m)).2 ?_;refine (Aa6 n es ao cap B (B+2) (B+1) s l bk J Jx W hg hE hs hn hm (hcB (j:=0) (by omega) c0) (hcB (j:=0) (by omega) c1) ⟨hcB (j:=2) (by omega) c3.o0,hcB (j:=2) (by omega) c3.o1,hcB (j:=2) (by omega) c3.o2,hcB (j:=2) (by omega) c3.o3,hcB (j:=2) (by omega) c3.o4⟩ (hcB (j:=1) (by omega) c2) (Ff hc hk) hJ hJx (fun m' pre x W1 h1 h2 h3=>Aa4 (m:=m-1) m' ?_) hJ0).mono ?_
 ·obtain ⟨a,b,c,d,h4,h5⟩:=hY pre x W1 h1 h2 h3
  refine ⟨a,b,c,d,h4,h5.mono ?_⟩;rintro e W' (⟨r1,r2,r3⟩|⟨r1,r2,r3⟩)
  ·exact .inl ⟨r1,r2,r3.mono fun _ h=>h.1⟩
  ·exact .inr ⟨r1,r2,r3.mono fun _ h=>h.1⟩
 ·rintro e W' ⟨rfl,h⟩
  exact ⟨⟨_,rfl⟩,h⟩
end Dj
end
end Go.Proofs.YteaaapdjplbljaaGreat
