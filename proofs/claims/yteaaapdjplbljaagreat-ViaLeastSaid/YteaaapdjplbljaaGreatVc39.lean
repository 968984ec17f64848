/- Parts; no condition. -/
import Derived.Test.YteaaapdjplbljaaGreatVc38
set_option linter.unusedVariables false
set_option linter.unusedSimpArgs false
set_option linter.unnecessarySimpa false
set_option maxRecDepth 100000
set_option maxHeartbeats 8000000
namespace Go.Proofs.YteaaapdjplbljaaGreat
section
namespace Dj
open Go Go.Proofs Go.RowKit Go.Shelf Hp Ch Ad
theorem Ze {m:Nat} (m':Nat) {P:Program} {l:Nat} {args:Array Value} {W:World} {R:Ending->World->Prop} (h:YieldAt Fence.wide m P l args W R):YieldAt Fence.wide m' P l args W R:=by
 obtain ⟨a,b,c,d,h1,h2⟩:=h;exact ⟨a,b,c,d,h1,h2.1,fun x cs _=>h2.2 x cs (room_wide _)⟩
theorem Aq7 (n:Nat) (es:List EdgeD) (ao:Option Addr) (cap:Nat) (s:Int) (bk:Bool) (w:World):
  Calls Tryz.prog 139 #[gV n ao es.length cap,.int .i64 s,Eb bk] w fun e w'=>
   e=.returned (.func (.func 191) #[] #[.pointer (some ⟨w.heap.size,0,none⟩),.pointer (some ⟨w.heap.size+2,0,none⟩),.pointer (some ⟨w.heap.size+1,0,none⟩)])/\Below w.heap.size w w'/\w'.heap.size=w.heap.size+3/\
   w'.cell? ⟨w.heap.size,0,none⟩=some (.int .i64 (n:Int))/\w'.cell? ⟨w.heap.size,1,none⟩=some (.slice ao es.length cap)/\w'.cell? ⟨w.heap.size+1,0,none⟩=some (.int .i64 s)/\OptB w' (w.heap.size+2) bk:=by
 have hmf:∀(fn:Fn) (first cap:Array Value) (w:World),(Instr.makeFunc fn first cap).run Tryz.prog w=.ok (.func fn first cap) w:=fun _ _ _ _=>rfl;unfold Eb gV
 go_enter Tryz.func139,Tryz.ntmps139
 go_wp2
 go_ret
 refine ⟨rfl,((Below.of_al _ _).al _).al _,by simp,by go_simp,by go_simp,by go_simp,⟨by go_simp,by go_simp,by go_simp,by go_simp,by go_simp⟩⟩
def KpW (B:Nat) (ao:Option Addr) (es:List EdgeD) (k:Nat):Prop:=(B<=k/\k<B+3)\/(es≠[]/\∃x,ao=some x/\k=x.block)
theorem Ey {w W:World} {ao:Option Addr} {es:List EdgeD} {B:Nat} (h:Cel w ao (Ax es)) (hk:KeepX (KpW B ao es) w W):Cel W ao (Ax es):=by
 intro i u hu;obtain ⟨b,o,e,h1⟩:=h i u hu;refine ⟨b,o,e,(Bl2 (w:=w) (hk.2 b (.inr ⟨fun e9=>by rw [e9] at hu;simp [Ax] at hu,_,e,rfl⟩))).trans h1⟩
theorem Aq5 (m:Nat) (n:Nat) (es:List EdgeD) (ao:Option Addr) (cap B s:Nat) (bk:Bool) (w:World) (hg:Ak ⟨(n:Int),es⟩=0) (hE:EOK n es) (hs:s<n) (hn:n<=50000) (hm:es.length<=50000) (hc:Cel w ao (Ax es))
  (c0:w.cell? ⟨B,0,none⟩=some (.int .i64 (n:Int))) (c1:w.cell? ⟨B,1,none⟩=some (.slice ao es.length cap)) (c2:w.cell? ⟨B+1,0,none⟩=some (.int .i64 (s:Int))) (c3:OptB w (B+2) bk):
  Bi2 Fence.wide m Tryz.prog 191 #[.pointer (some ⟨B,0,none⟩),.pointer (some ⟨B+2,0,none⟩),.pointer (some ⟨B+1,0,none⟩)] Yj (OkD es bk n (s:Int)) (Ai3 es bk n (s:Int)) (KpW B ao es) w:=by
 intro l J Jx W hk hJ hJx hY hJ0;have hcB:∀{j k:Nat} {u:Value},j<3->w.cell? ⟨B+j,k,none⟩=some u->W.cell? ⟨B+j,k,none⟩=some u:=fun {j k u} hj hc=>(Bl2 (w:=w) (hk.2 (B+j) (.inl ⟨by omega,by omega⟩))).trans hc;refine (callsIn_wide (n:=m)).2 ?_;refine (Zg n es ao cap B (B+2) (B+1) s l bk J Jx W hg hE hs hn hm (hcB (j:=0) (by omega) c0) (hcB (j:=0) (by omega) c1) ⟨hcB (j:=2) (by omega) c3.o0,hcB (j:=2) (by omega) c3.o1,hcB (j:=2) (by omega) c3.o2,hcB (j:=2) (by omega) c3.o3,hcB (j:=2) (by omega) c3.o4⟩ (hcB (j:=1) (by omega) c2) (Ey hc hk) hJ hJx (fun m' pre x W1 h1 h2 h3=>Ze (m:=m-1) m' ?_) hJ0).mono ?_
 ·obtain ⟨a,b,c,d,h4,h5⟩:=hY pre x W1 h1 h2 h3
  refine ⟨a,b,c,d,h4,h5.mono ?_⟩;rintro e W' (⟨r1,r2,r3⟩|⟨r1,r2,r3⟩)
  ·exact .inl ⟨r1,r2,r3.mono fun _ h=>h.1⟩
  ·exact .inr ⟨r1,r2,r3.mono fun _ h=>h.1⟩
 ·rintro e W' ⟨rfl,h⟩
  exact ⟨⟨_,rfl⟩,h⟩
end Dj
end
section
namespace Dj
open Go Go.Proofs Go.RowKit Go.Shelf Hp Ch Ad
attribute [local go_sem] Oper.semAt_some
def FarL (es:List EdgeD) (bk:Bool) (n:Nat) (s:Int) (l:List Int):Prop:=
 l.length=n/\∀v:Nat,v<n->(∃d,Dist (XD es bk).rel s (v:Int) d/\l[v]? =some d)\/((∀e,¬Way0 (XD es bk).rel Any s (v:Int) e)/\l[v]? =some 4611686018427387904)
def LayD (n:Nat) (pre:List (Int×Int)) (l:List Int):Prop:=
 l.length=n/\(∀a∈pre,l[a.1.toNat]? =some a.2)/\∀v:Nat,v<n->(∀a∈pre,a.1≠(v:Int))->l[v]? =some 4611686018427387904
theorem LayD.start (n:Nat):LayD n [] (List.replicate n 4611686018427387904):=
 ⟨Bl6,fun _ h=>(nomatch h),fun v hv _=>by rw [Bm5,if_pos hv]⟩
theorem LayD.next {n:Nat} {es:List EdgeD} {bk:Bool} {s:Int} {pre:List (Int×Int)} {x:Int×Int} {l:List Int} (h:LayD n pre l) (hk:OkD es bk n s (pre++[x])):LayD n (pre++[x]) (l.set x.1.toNat x.2):=by
 obtain ⟨h1,h2,h3⟩:=h;have hx:=(hk.2 x (by simp)).2;have hp:=Bn5.1 hk.1;refine ⟨by rw [Bj6];exact h1,fun a ha=>?_,fun v hv ha=>?_⟩
 ·rcases Bl8.1 ha with ha|ha
  ·have hne:=hp.2.2 a ha x (by simp)
   have hy:=(hk.2 a (by simp [ha])).2;rw [Bn3 (by have:=hx.1;have:=hy.1;omega)];exact h2 a ha
  ·rw [Bk2] at ha
   subst ha;rw [Bn4 (by have:=hx.1;have:=hx.2;omega)]
 ·have hne:=ha x (by simp)
  rw [Bn3 (by have:=hx.1;omega)];exact h3 v hv fun a h=>ha a (by simp [h])
theorem LayD.far {n:Nat} {es:List EdgeD} {bk:Bool} {s:Int} {parts:List (Int×Int)} {l:List Int} (h:LayD n parts l) (hd:Ai3 es bk n s parts):FarL es bk n s l:=by
 obtain ⟨h1,h2,h3⟩:=h;refine ⟨h1,fun v hv=>?_⟩
 by_cases he:∃a∈parts,a.1=(v:Int)
 ·obtain ⟨a,ha,e⟩:=he
  refine .inl ⟨a.2,e▸(hd.1.2 a ha).1,?_⟩;have:=h2 a ha;rw [e,Bj9] at this;exact this
 ·refine .inr ⟨fun e hw=>he (hd.2 _ e hw),h3 v hv fun a ha e=>he ⟨a,ha,e⟩⟩
def AllPost (es:List EdgeD) (bk:Bool) (n:Nat) (s:Int) (w:World) (e:Ending) (w':World):Prop:=
 ∃(b:Nat) (l:List Int),e=.returned (.tuple #[.slice (some ⟨b,0,none⟩) n n,.int .i64 0])/\w'.ownsRow w.heap.size 37 1 (.slice (some ⟨b,0,none⟩) n n) n (l.map Bz)/\Below w.heap.size w w'/\FarL es bk n s l
def AlI (n rb bx:Nat) (w:World) (pre:List (Int×Int)) (W:World):Prop:=
 ∃l,LayD n pre l/\W.cell? ⟨bx,0,none⟩=some (.slice (some ⟨rb,0,none⟩) n n)/\W.ownsRow w.heap.size 37 1 (.slice (some ⟨rb,0,none⟩) n n) n (l.map Bz)/\Below w.heap.size w W
theorem AlI.off {n rb bx:Nat} {w W W':World} {pre:List (Int×Int)} {X:Nat->Prop} (h:AlI n rb bx w pre W) (ho:OffX X W W') (hX:∀k,X k->w.heap.size<=k/\k≠rb/\k≠bx):AlI n rb bx w pre W':=by
 obtain ⟨l,h1,h2,h3,h4⟩:=h;exact ⟨l,h1,ho.cell h2 (fun e=>(hX _ e).2.2 rfl),Ai h3 (fun k e=>by cases e;exact ho.block _ (h3.lt rb rfl).2 (fun e=>(hX _ e).2.1 rfl)),h4.trans (ho.below h4.size (fun k e=>(hX k e).1))⟩
theorem Bc5 (n:Nat) (es:List EdgeD) (ao:Option Addr) (cap s:Nat) (bk:Bool) (w:World) (hg:Ak ⟨(n:Int),es⟩=0) (hE:EOK n es) (hs:s<n) (hn:n<=50000) (hm:es.length<=50000) (hc:Cel w ao (Ax es)):
  Calls Tryz.prog 82 #[gV n ao es.length cap,.int .i64 (s:Int),Eb bk] w (AllPost es bk n (s:Int) w):=by
 have HCK:=Bi5 (fun (U:World) (hz:Below w.heap.size w U)=>Pb n es ao cap (s:Int) bk U hg (by omega) ⟨by omega,by omega⟩ (hc.go hz));have HWA:=Bi5 (fun (U:World)=>Aq7 n es ao cap (s:Int) bk U);have HRP:=Bi5 (fun bx W (hx:W.cell? ⟨bx,0,none⟩=some (.int .u64 4611686018427387904))=>Qc bx 0 1 n 4611686018427387904 W (by omega) hx);have HC:=Bi5 hc;unfold AllPost;unfold gV at HWA;unfold Eb at HCK HWA;clear hc;unfold gV Eb;refine (callsIn_wide (n:=4)).1 (callsIn_of_wp_marks Tryz.func82 rfl trivial (wpIn_wide.2 ?_) rfl);simp only [Tryz.ntmps82,List.size_toArray,Bk0,Bk1,Nat.reduceAdd,Nat.reduceSub,Array.replicate_succ,Array.replicate_zero,List.push_toArray,List.append_toArray,List.nil_append,List.cons_append]
 go_upto_region 1 with (fail)
 obtain ⟨W,hW⟩:∃W,W=(w.alloc (Obj.cells #[.int .i64 (n:Int),.slice ao es.length cap] 24)).alloc (Obj.cells #[.bool bk,.slice none 0 0,.slice none 0 0,.slice none 0 0,.int .u64 0] 135):=⟨_,rfl⟩;rw [<-hW];have g0:W.cell? ⟨w.heap.size,0,none⟩=some (.int .i64 (n:Int)):=by rw [hW];go_simp
 have g1:W.cell? ⟨w.heap.size,1,none⟩=some (.slice ao es.length cap):=by rw [hW];go_simp
 have f0:W.cell? ⟨w.heap.size+1,0,none⟩=some (.bool bk):=by rw [hW];go_simp
 have f1:W.cell? ⟨w.heap.size+1,1,none⟩=some (.slice none 0 0):=by rw [hW];go_simp
 have f2:W.cell? ⟨w.heap.size+1,2,none⟩=some (.slice none 0 0):=by rw [hW];go_simp
 have f3:W.cell? ⟨w.heap.size+1,3,none⟩=some (.slice none 0 0):=by rw [hW];go_simp
 have f4:W.cell? ⟨w.heap.size+1,4,none⟩=some (.int .u64 0):=by rw [hW];go_simp
 have HBW:=Bi5 (show Below w.heap.size w W by rw [hW];exact (Below.of_al _ _).al _);clear hW
 go_upto_region 4 with (go_at_call 133;refine (HCK.out _ HBW.out).mono ?_;rintro e w1 ⟨rfl,hb1⟩;(have HB1:=Bi5 (HBW.out.st hb1));replace g0:=Bi6 hb1 g0;replace g1:=Bi6 hb1 g1;replace f0:=Bi6 hb1 f0;replace f1:=Bi6 hb1 f1;replace f2:=Bi6 hb1 f2;replace f3:=Bi6 hb1 f3;replace f4:=Bi6 hb1 f4;clear hb1)
 clear HCK HBW;have y0:(w1.alloc (Obj.cells #[.int .u64 4611686018427387904] 37)).cell? ⟨w.heap.size,0,none⟩=some (.int .i64 (n:Int)):=Bi6 (Below.of_al _ _) g0
 go_upto_region 5 with (go_at_call 124;refine (HRP.out _ _ (by go_simp)).mono ?_;rintro e w3 ⟨rfl,ho3,hb3⟩;(have HO3:=Bi5 ho3);(have HB3:=Bi5 (show Below w1.heap.size w1 w3 from (Below.of_al _ _).st hb3));clear ho3 hb3)
 clear y0;obtain ⟨W4,hW4⟩:∃W4,W4=w3.alloc (Obj.cells #[.slice (some ⟨w1.heap.size+1,0,none⟩) n n] 60):=⟨_,rfl⟩;have hb4:Below w1.heap.size w1 W4:=HB3.out.st (by rw [hW4];exact Below.of_al _ _)
 replace g0:=Bi6 hb4 g0
 replace g1:=Bi6 hb4 g1
 replace f0:=Bi6 hb4 f0
 replace f1:=Bi6 hb4 f1
 replace f2:=Bi6 hb4 f2
 replace f3:=Bi6 hb4 f3
 replace f4:=Bi6 hb4 f4
 have hI4:AlI n (w1.heap.size+1) w3.heap.size w [] W4:=by
  refine ⟨_,LayD.start n,by rw [hW4];go_simp,?_,HB1.out.st hb4⟩;have h9:=Af HO3.out (show Below w3.heap.size w3 W4 by rw [hW4];exact Below.of_al _ _);simp only [World.size_alloc] at h9;exact Qm h9 (by have:=HB1.out.size;omega)
 have hz4:W4.heap.size=w3.heap.size+1:=by rw [hW4];simp
 have hz3:w1.heap.size+1<w3.heap.size:=by have h9:=(HO3.out.lt _ rfl).2;simpa using h9
 rw [<-hW4];have HI4:=Bi5 hI4;have HB4:=Bi5 (HB1.out.st hb4);have HZ:=Bi5 (show w.heap.size<=w1.heap.size from HB1.out.size);clear hW4 hI4 hb4 HO3 HB3 HRP HB1;generalize hrb:w1.heap.size+1=rb at*;generalize hbx:w3.heap.size=bx at*;have HRB:=Bi5 hrb;clear hrb;clear hbx
 go_upto_region 6 with (go_at_call 139;refine (HWA.out _).mono ?_;rintro e w5 ⟨rfl,hb5,hz5,k0,k1,k2,k3⟩;(have HB5:=Bi5 hb5);(have HZ5:=Bi5 hz5);(have K0:=Bi5 k0);(have K1:=Bi5 k1);(have K2:=Bi5 k2);(have K3:=Bi5 k3);clear hb5 hz5 k0 k1 k2 k3)
 rw [hz4] at HZ5 K0 K1 K2 K3;obtain ⟨B,hB⟩:∃B,B=bx+1:=⟨_,rfl⟩;rw [<-hB] at HZ5 K0 K1 K2 K3 hz4;rw [<-hB];have HB45:=Bi5 (show Below w.heap.size w w5 from HB4.out.st HB5.out);have HC5:=Bi5 (HC.out.go HB45.out);have HSEQ:=Bi5 (Aq5 3 n es ao cap B s bk w5 hg hE hs hn hm HC5.out K0.out K1.out K2.out K3.out);have hkl:∀k,KpW B ao es k->(B<=k/\k<B+3)\/k<w.heap.size:=by
  rintro k (h|⟨hne,x,hx,rfl⟩)
  ·exact .inl h
  ·right
   match es,hne,HC with
   |e::t,_,HC=>
    obtain ⟨b',o',e',c5⟩:=HC.out 0 _ rfl;rw [hx] at e'
    cases e'
    exact Bj5 _ _ c5
 have HKL:=Bi5 hkl;have HKB:=Bi5 (fun k (hk:KpW B ao es k)=>show k<w5.heap.size by
  have:=HZ5.out
  rcases HKL.out k hk with h|h
  ·omega
  ·have:=HB45.out.size;omega)
 have HB0:=Bi5 (show w.heap.size<rb/\rb<bx/\B=bx+1 from ⟨by have:=HZ.out;have:=HRB.out;omega,hz3,hB⟩);have HI5:=Bi5 (HI4.out.off (X:=fun _=>False) (.of_below HB5.out) (fun _ h=>h.elim));clear hkl hz4 hz3 hB HI4 HB4 HB5 HZ HRB K0 K1 K2 K3 HC HC5 HWA hg hE g0 g1 f0 f1 f2 f3 f4;refine (wpIn_wide (n:=4)).1 (Wg rfl (by decide) (gf:=191) rfl trivial (enters_of Tryz.func191 (by kernel_rfl) rfl) HSEQ.out HKB.out (fun _=>rfl) (AlI n rb bx w) (fun _ _ _=>False) ?hI (fun _ _ _ _ h _=>h) HI5.out ?a1 (fun _ Wx=>Wx) (fun _ _=>Below.refl _ _) ?assign ?body ?done ?stop)
 case assign=>
  intro l x Wx K3 hK3
  dsimp only [Yj]
  gi_wp2
  exact hK3
 case hI=>
  intro pre W W' h ho;refine h.off ho (fun k e=>?_);have e:w5.heap.size+1<=k:=e;have:=HB45.out.size;have:=HZ5.out;have:=HB0.out;omega
 case stop=>exact fun _ _ _ _ _ _ h _=>h.elim
 case done=>
  rintro D parts W hD0 hdn hI hK;have HDN:=Bi5 hdn;have HI:=Bi5 hI;have HK:=Bi5 hK;have HD:=Bi5 hD0;obtain ⟨l9,-,b9,-,-⟩:=hI;clear hdn hK hD0
  go_wp2
  refine Gi (a:=_) rfl HK.out (fun W9 ho=>⟨.tuple #[.slice (some ⟨rb,0,none⟩) n n,.int .i64 0],?_,?_⟩)
  ·simp [results,Tryz.results82,go_sem]
   try rfl
  ·obtain ⟨l,h1,h2,h3,h4⟩:=HI.out.off ho (fun k e=>by have e:k=D:=e;have:=HD.out;have:=HB45.out.size;have:=HZ5.out;have:=HB0.out;omega)
   exact ⟨rb,l,rfl,h3,h4,h1.far HDN.out⟩
 case body=>
  rintro l pre ⟨xv,xd⟩ W0 Wx ⟨lx,h1,h2,h3,h4⟩ hok hsz ho;have hxn:=(hok.2 (xv,xd) (by simp)).2;obtain ⟨v,rfl⟩:∃v:Nat,xv=(v:Int):=⟨xv.toNat,by have:=hxn.1;omega⟩;have hvn:(v:Int)<(n:Int):=hxn.2;have hv0:(0:Int)<=(v:Int):=by omega
  have HL:=Bi5 h1;have HO:=Bi5 h3;have HB:=Bi5 h4;have HOK:=Bi5 hok;have HB2:=Bi5 h2;have hc:Wx.cell? ⟨rb,v,none⟩=some (.int .u64 (lx.getD v 0)):=by
   rw [h3.cellAt v (by omega),Bk4,Bj1,Bj0 (by have:=h1.1;omega)];rfl
  have z0:=h3.frozenAt v;clear h1 h3 h4 hok ho hxn
  gi_wp2
  have hnk:Ay7 (KpW B ao es) w5.heap.size rb:=⟨by have:=HZ5.out;have:=HB0.out;omega,fun e=>by have:=HKL.out _ e;have:=HB0.out;omega⟩;have hoS:OffX (· =rb) Wx (Wx.setCell ⟨rb,v,none⟩ (.int .u64 xd)):=.set _ rfl;have h1:=(HO.out.stored v (.int .u64 xd)).1;rw [show (lx.map Bz).set v (.int .u64 xd)=(lx.set v xd).map Bz by rw [List.map_set]] at h1;refine ⟨hoS.mono (fun k e=>by rw [show k=rb from e];exact hnk),lx.set v xd,HL.out.next HOK.out,hoS.cell HB2.out (fun e=>by have e:bx=rb:=e;have:=HB0.out;omega),h1,HB.out.setCell (by show w.heap.size<=rb;have:=HB0.out;omega) _⟩
end Dj
end
section
open Go Go.Proofs Go.RowKit Go.Shelf
theorem St (x:Int) (w:World):Calls Tryz.prog 125 #[.slice none 0 0,.int .i64 x] w fun e w'=>e=.returned (.int .i64 (-1))/\w=w':=by
 go_enter Tryz.func125,Tryz.ntmps125
 go_wp2
 refine wp_loop_rounds 1 ?_;rw [rounds_succ]
 go_wp2
 go_ret
 exact ⟨rfl,rfl⟩
theorem Oa (x:Int) (w:World):Calls Tryz.prog 68 #[.slice none 0 0,.int .i64 x] w fun e w'=>e=.returned (.bool false)/\w=w':=by
 have HI:=Bi5 (St x w)
 go_enter Tryz.func68,Tryz.ntmps68
 go_wp2_with (go_at_call 125;refine HI.out.mono ?_;rintro e w1 ⟨rfl,hw1⟩;obtain rfl:=hw1.symm)
 go_ret
 exact ⟨rfl,rfl⟩
end
section
namespace Dj
open Go Go.Proofs Go.RowKit Go.Shelf Hp Ch Ad
theorem Ll {es:List EdgeD} {bk:Bool} {u v w:Int}:(XD es bk).rel u v w↔Bw bk (Am es) u v w:=by
 constructor
 ·rintro ⟨i,j,rfl,h,h1,h2,h3⟩
  cases bk with
  |false=>exact ⟨es[j],Bj7 h,h1,h2,h3⟩
  |true=>exact ⟨es[j],Bj7 h,h2,h1,h3⟩
 ·intro h
  cases bk with
  |false=>
   obtain ⟨x,hx,h1,h2,h3⟩:=h;obtain ⟨j,hj,e⟩:=List.getElem_of_mem hx;exact ⟨(j:Int),j,rfl,hj,by rw [e];exact h1,by rw [e];exact h2,by rw [e];exact h3⟩
  |true=>
   obtain ⟨x,hx,h1,h2,h3⟩:=h;obtain ⟨j,hj,e⟩:=List.getElem_of_mem hx;exact ⟨(j:Int),j,rfl,hj,by rw [e];exact h2,by rw [e];exact h1,by rw [e];exact h3⟩
theorem Bd1 (es:List EdgeD) (bk:Bool):(XD es bk).rel=Bw bk (Am es):=funext fun _=>funext fun _=>funext fun _=>propext Ll
theorem FarL.farV {n:Nat} {es:List EdgeD} {bk:Bool} {s:Int} {l:List Int} (h:FarL es bk n s l) (hE:EOK n es) (hn:n<=50000) {v:Nat} (hv:v<n):FarV (Bw bk (Am es)) s (v:Int) (gD l (v:Int)):=by
 have hg:gD l (v:Int)=(l[v]?).getD FAR:=by unfold gD;rw [Bj9,Bj1]
 have hA:∀u v w,Bw bk (Am es) u v w->Aa n u/\Aa n v/\1<=w/\w<=4294967296:=fun u v w hx=>XD.ok hE u v w (Ll.2 hx)
 rcases h.2 v hv with ⟨d,h1,h2⟩|⟨h1,h2⟩
 ·rw [hg,h2]
  rw [Bd1] at h1;have h3:=Vq (n:=n) (M:=4294967296) (s:=s) (by omega) hA n (v:Int) d [] ⟨by omega,by omega⟩ h1 (fun _ h=>(nomatch h)) List.nodup_nil (by simp);have h4:0<=d:=by
   have h5:=h1.1;exact Way0.nonneg (fun u v w hx=>by have:=(hA u v w hx).2.2.1;omega) h5
  exact .inl ⟨h1,h4,by show d<=_;omega⟩
 ·rw [hg,h2]
  rw [Bd1] at h1;exact .inr ⟨rfl,h1⟩
theorem Aj8 (bk:Bool) (w:World):Calls Tryz.prog 132 #[Eb bk] w fun e w'=>e=.returned (Eb false)/\Below w.heap.size w w':=by
 unfold Eb
 go_enter Tryz.func132,Tryz.ntmps132
 go_wp2
 refine bodyPost_ret (v:=.agg #[.bool false,.slice none 0 0,.slice none 0 0,.slice none 0 0,.int .u64 0]) ?_ rfl ?_
 ·simp [results,Tryz.results132,go_sem]
 ·exact ⟨rfl,(Below.of_al _ _).al _⟩
def Bh (es:List EdgeD) (l:List Int) (v:Int) (e:EdgeD):Bool:=decide (gD l e.t<4611686018427387904)&&decide (gD l e.t+e.w=gD l v)
theorem Aa0 (n:Nat) (es:List EdgeD) (l:List Int) (fb wb vb ob:Nat) (fa wa:Option Addr) (fc wc:Nat) (i t v:Nat) (ef ew:Int) (W:World) (hn:n<=50000) (hm:es.length<=50000) (hi:es[i]? =some ⟨ef,(t:Int),ew⟩) (ht:t<n) (hv:v<n) (hl:l.length=n) (hb:∀x∈l,0<=x/\x<=4611686018427387904) (hw:0<=ew/\ew<=4294967296)
  (c0:W.cell? ⟨fb,0,none⟩=some (.slice fa n fc)) (c1:W.cell? ⟨wb,0,none⟩=some (.slice wa es.length wc)) (c2:W.cell? ⟨vb,0,none⟩=some (.int .i64 (v:Int))) (c3:W.cell? ⟨ob,2,none⟩=some (.slice none 0 0)) (hF:Cel W fa (l.map Bz)) (hW:Cel W wa ((Hk es).map Bz)):
  Calls Tryz.prog 187 #[.int .i64 (i:Int),.agg #[.int .i64 ef,.int .i64 (t:Int),.int .u64 ew],.pointer (some ⟨fb,0,none⟩),.pointer (some ⟨wb,0,none⟩),.pointer (some ⟨vb,0,none⟩),.pointer (some ⟨ob,0,none⟩)] W fun e w'=>
   e=.returned (.bool (Bh es l (v:Int) ⟨ef,(t:Int),ew⟩))/\Below W.heap.size W w':=by
 obtain ⟨V,hV⟩:∃V,V=W.alloc (Obj.cells #[.int .i64 ef,.int .i64 (t:Int),.int .u64 ew] 109):=⟨_,rfl⟩;have hbV:Below W.heap.size W V:=by rw [hV];exact Below.of_al _ _
 have y1:V.cell? ⟨W.heap.size,1,none⟩=some (.int .i64 (t:Int)):=by rw [hV];go_simp
 have x0:=Bi6 hbV c0;have x1:=Bi6 hbV c1;have x2:=Bi6 hbV c2;have x3:=Bi6 hbV c3;obtain ⟨tb,t9,hta,ct⟩:=(hF.go hbV) t (.int .u64 (gD l (t:Int))) (by rw [Bk4];unfold gD;rw [Bj9,Bj1,Bj0 (by omega)];rfl);obtain ⟨v8,v9,hva,cv⟩:=(hF.go hbV) v (.int .u64 (gD l (v:Int))) (by rw [Bk4];unfold gD;rw [Bj9,Bj1,Bj0 (by omega)];rfl);obtain ⟨w8,w9,hwa,cw⟩:=(hW.go hbV) i (.int .u64 ew) (by unfold Hk;rw [List.map_map,Bk4,hi];rfl);subst hta
 cases hva
 subst hwa;have hil:i<es.length:=(Bj8.1 hi).1;have hgt:0<=gD l (t:Int)/\gD l (t:Int)<=4611686018427387904:=by
  unfold gD;rw [Bj9,Bj1,Bj0 (by omega)];exact hb _ (Bj7 _)
 have t0:(0:Int)<=(t:Int):=by omega
 have t1:(t:Int)<(n:Int):=by omega
 have v0:(0:Int)<=(v:Int):=by omega
 have v1:(v:Int)<(n:Int):=by omega
 have i0:(0:Int)<=(i:Int):=by omega
 have i1:(i:Int)<(es.length:Int):=by omega
 have HC:=Bi5 (fun (U:World)=>(Oa (i:Int) U).mono (R':=fun e w'=>e=.returned (.bool false)/\Below U.heap.size U w') (fun e w' h=>⟨h.1,h.2▸Below.refl _ _⟩));have HBV:=Bi5 hbV;have HE:=Bi5 (show Bh es l (v:Int) ⟨ef,(t:Int),ew⟩=(decide (gD l (t:Int)<4611686018427387904)&&decide (gD l (t:Int)+ew=gD l (v:Int))) from rfl);rw [HE.out];have hwr:IntKind.u64.wrap (gD l (t:Int)+ew)=gD l (t:Int)+ew:=by
  rw [Bn7];omega
 generalize gD l (t:Int)=gt at*;generalize gD l (v:Int)=gv at*;clear hF hW c0 c1 c2 c3 hb hi hbV HE;have e0:=fun p=>Ac p x0;have e1:=fun p=>Ac p x1;have e2:=fun p=>Ac p x2;have e3:=fun p=>Ac p x3;have e4:=fun p=>Ac p y1;have e5:=fun p=>Ac p ct;have e6:=fun p=>Ac p cv;have e7:=fun p=>Ac p cw
 by_cases h1:gt<4611686018427387904
 ·by_cases h2:gt+ew=gv
  ·have HD:=Bi5 (show (decide (gt<4611686018427387904)&&decide (gt+ew=gv))=true by simp [h1,h2])
   rw [HD.out];have h3:(gt+ew==gv)=true:=by simpa using h2
   clear h2 hgt hw
   go_enter Tryz.func187,Tryz.ntmps187
   go_upto_region 1 with (fail)
   rw [<-hV];clear hV;refine Ag (by kernel_rfl) (by kernel_rfl) ?_
   repeat (go_big_quiet_step ((go_at_call 68;exact Calls.ext_of (HC.out _))))
   refine wpQuiet_nil ?_;rintro _ ⟨pa,rfl⟩;have HBa:=Bi5 (Ah V pa);generalize ext V pa=wa at HBa ⊢;have HBZ:=Bi5 (HBV.out.st HBa.out);clear e0 e1 e2 e3 e4 e5 e6 e7 x0 x1 x2 x3 y1 ct cv cw
   go_wp2
   go_ret
   exact ⟨rfl,HBZ.out⟩
  ·have HD:=Bi5 (show (decide (gt<4611686018427387904)&&decide (gt+ew=gv))=false by simp [h2])
   rw [HD.out];have h3:(gt+ew==gv)=false:=by rw [beq_eq_false_iff_ne];exact h2
   clear h2 hgt hw
   go_enter Tryz.func187,Tryz.ntmps187
   go_upto_region 1 with (fail)
   rw [<-hV];clear hV;refine Ag (by kernel_rfl) (by kernel_rfl) ?_
   repeat (go_big_quiet_step (fail))
   refine wpQuiet_nil ?_;rintro _ ⟨pa,rfl⟩;have HBa:=Bi5 (Ah V pa);generalize ext V pa=wa at HBa ⊢;have HBZ:=Bi5 (HBV.out.st HBa.out);clear e0 e1 e2 e3 e4 e5 e6 e7 x0 x1 x2 x3 y1 ct cv cw
   go_wp2
   go_ret
   exact ⟨rfl,HBZ.out⟩
 ·have HD:=Bi5 (show (decide (gt<4611686018427387904)&&decide (gt+ew=gv))=false by simp [h1])
  rw [HD.out];clear hgt hw
  go_enter Tryz.func187,Tryz.ntmps187
  go_upto_region 1 with (fail)
  rw [<-hV];clear hV;refine Ag (by kernel_rfl) (by kernel_rfl) ?_
  repeat (go_big_quiet_step (fail))
  refine wpQuiet_nil ?_;rintro _ ⟨pa,rfl⟩;have HBa:=Bi5 (Ah V pa);generalize ext V pa=wa at HBa ⊢;have HBZ:=Bi5 (HBV.out.st HBa.out);clear e0 e1 e2 e3 e4 e5 e6 e7 x0 x1 x2 x3 y1 ct cv cw
  go_wp2
  go_ret
  exact ⟨rfl,HBZ.out⟩
end Dj
end
section
namespace Ro
open Ch
def edZ:EdgeD:=⟨0,0,0⟩
def Ew (D:Int->Int) (e:EdgeD):Prop:=D e.t<4611686018427387904/\D e.t+e.w=D e.f
def FirstE (es:List EdgeD) (D:Int->Int) (v:Int) (i:Nat):Prop:=∃h:i<es.length,es[i].f=v/\Ew D es[i]/\∀j (hj:j<es.length),j<i->es[j].f=v->¬Ew D es[j]
theorem FirstE.uniq {es:List EdgeD} {D:Int->Int} {v:Int} {i j:Nat} (h:FirstE es D v i) (k:FirstE es D v j):i=j:=by
 obtain ⟨h1,h2,h3,h4⟩:=h;obtain ⟨k1,k2,k3,k4⟩:=k
 rcases Nat.lt_trichotomy i j with e|e|e
 ·exact absurd h3 (k4 i h1 e h2)
 ·exact e
 ·exact absurd k3 (h4 j k1 e k2)
inductive RP (es:List EdgeD) (D:Int->Int):Int->List Int->Prop
 |stop {v:Int} (h:D v=0):RP es D v []
 |go {v:Int} {i:Nat} {l:List Int} (h:FirstE es D v i) (h0:D v≠0) (hr:RP es D (es.getD i edZ).t l):RP es D v ((i:Int)::l)
theorem RP.uniq {es:List EdgeD} {D:Int->Int} {v:Int} {l:List Int} (h:RP es D v l):∀{l'},RP es D v l'->l=l':=by
 induction h with
 |stop h=>
  intro l' k
  cases k with
  |stop _=>rfl
  |go _ h0 _=>exact absurd h h0
 |go h h0 hr ih=>
  intro l' k
  cases k with
  |stop h'=>exact absurd h' h0
  |go h' _ hr'=>
   obtain rfl:=h.uniq h';rw [ih hr']
def Seg (es:List EdgeD) (D:Int->Int) (s:Int) (l:List Int) (v:Int):Prop:=∀r,RP es D v r->RP es D s (l++r)
theorem Seg.start {es:List EdgeD} {D:Int->Int} (s:Int):Seg es D s [] s:=fun r h=>h
theorem Seg.step {es:List EdgeD} {D:Int->Int} {s v:Int} {l:List Int} {i:Nat} (h:Seg es D s l v) (hf:FirstE es D v i) (h0:D v≠0):Seg es D s (l++[(i:Int)]) (es.getD i edZ).t:=fun r hr=>by
 have:=h _ (.go hf h0 hr)
 rwa [Bm8]
theorem Seg.stop {es:List EdgeD} {D:Int->Int} {s v:Int} {l:List Int} (h:Seg es D s l v) (h0:D v=0):RP es D s l:=by
 have:=h [] (.stop h0)
 rwa [List.append_nil] at this
theorem FarV.turn {A:Int->Int->Int->Prop} {s v x:Int} (h:FarV (Pk A) s v x):FarV A v s x:=by
 rcases h with ⟨h1,h2⟩|⟨h1,h2⟩
 ·exact .inl ⟨h1.turn,h2⟩
 ·exact .inr ⟨h1,fun e h=>h2 e h.turn⟩
def ToD (es:List EdgeD) (n:Nat) (t:Int) (D:Int->Int):Prop:=∀v,Aa n v->FarV (Am es) v t (D v)
theorem Ak5 {es:List EdgeD} {n:Nat} {t:Int} {D:Int->Int} (hA:∀u v w,Am es u v w->Aa n u/\Aa n v/\1<=w) (hD:ToD es n t D) {v:Int} (hv:Aa n v) (h0:D v≠0) (hF:D v<4611686018427387904):
  ∃i,FirstE es D v i:=by
 obtain ⟨hd,hn,_⟩:=(hD v hv).lt hF;have hne:v≠t:=fun e=>by
  subst e;exact h0 (hd.uniq (Dist.self (fun u v w h=>(hA u v w h).2.2) v))
 obtain ⟨m,w,h1,h2⟩:=Dist.pred hd.turn (fun e=>hne e.symm);have h1':Am es v m w:=h1;have h2':Dist (Am es) m t (D v-w):=h2.turn;obtain ⟨e,he,e1,e2,e3⟩:=h1';have hm:=(hA v m w ⟨e,he,e1,e2,e3⟩).2;have hx:0<=D v-w:=h2'.1.nonneg (fun u v w h=>(hA u v w h).2.2);have hDm:D m=D v-w:=by
  rcases hD m hm.1 with ⟨k1,_⟩|⟨_,k2⟩
  ·exact k1.uniq h2'
  ·exact absurd h2'.1 (k2 _)
 have hgood:Ew D e:=by
  unfold Ew;rw [e1,e2,e3,hDm];omega
 obtain ⟨i,hi,ei⟩:=List.getElem_of_mem he;have key:∀k i (hi:i<es.length),i<=k->es[i].f=v->Ew D es[i]->∃j,FirstE es D v j:=by
  intro k
  induction k with
  |zero=>
   intro i hi hk h3 h4;have:i=0:=by omega
   subst this;exact ⟨0,hi,h3,h4,fun j _ hj=>by omega⟩
  |succ k ih=>
   intro i hi hk h3 h4
   by_cases hex:∃j,∃hj:j<es.length,j<i/\es[j].f=v/\Ew D es[j]
   ·obtain ⟨j,hj,h5,h6,h7⟩:=hex
    exact ih j hj (by omega) h6 h7
   ·exact ⟨i,hi,h3,h4,fun j hj h5 h6 h7=>hex ⟨j,hj,h5,h6,h7⟩⟩
 exact key i i hi (Bi7 _) (by rw [ei];exact e1) (by rw [ei];exact hgood)
theorem Rm {es:List EdgeD} {n:Nat} {t:Int} {D:Int->Int} (hA:∀u v w,Am es u v w->Aa n u/\Aa n v/\1<=w) (hD:ToD es n t D) {v:Int} {i:Nat} (h:FirstE es D v i):
  Aa n (es.getD i edZ).t/\0<=D (es.getD i edZ).t/\D (es.getD i edZ).t<D v/\D (es.getD i edZ).t<4611686018427387904/\D (es.getD i edZ).t+(es.getD i edZ).w=D v:=by
 obtain ⟨hi,h1,h2,_⟩:=h;have e:es.getD i edZ=es[i]:=by simp [List.getD,hi]
 rw [e];have hm:=(hA _ _ _ ⟨es[i],Bj7 hi,rfl,rfl,rfl⟩).2;have:=(hD _ hm.1).in;unfold Ew at h2;rw [h1] at h2;exact ⟨hm.1,this.1,by omega,h2.1,h2.2⟩
theorem Av9 {es:List EdgeD} {D:Int->Int} {v:Nat} {pre:List Int} {i:Nat} {suf:List Int} (hn:∀e∈es,0<=e.f) (h:Ad.Ec (fun i=>(es.getD i edZ).f.toNat) es.length v=pre++(i:Int)::suf) (hg:Ew D (es.getD i edZ)) (hp:∀j:Nat,(j:Int)∈pre->¬Ew D (es.getD j edZ)):FirstE es D (v:Int) i:=by
 have hmem:(i:Int)∈Ad.Ec (fun i=>(es.getD i edZ).f.toNat) es.length v:=by rw [h];simp
 obtain ⟨i',e,hi,hk⟩:=Ad.Dk.1 hmem;have:i'=i:=by omega
 subst this;have e1:∀{j} (hj:j<es.length),es.getD j edZ=es[j]:=fun hj=>by simp [List.getD,hj]
 have hf:es[i'].f=(v:Int):=by
  have:=hn _ (Bj7 hi);rw [e1 hi] at hk;omega
 refine ⟨hi,hf,by rw [<-e1 hi];exact hg,fun j hj hji hjf hjg=>?_⟩;have hjm:(j:Int)∈Ad.Ec (fun i=>(es.getD i edZ).f.toNat) es.length v:=Ad.Dk.2 ⟨j,rfl,hj,by rw [e1 hj,hjf];rfl⟩;have hsort:=Ad.Rd (fun i=>(es.getD i edZ).f.toNat) v es.length;rw [h] at hjm hsort
 rcases Bl8.1 hjm with hm|hm
 ·exact hp j hm (by rw [e1 hj];exact hjg)
 ·rcases Bl7.1 hm with hm|hm
  ·omega
  ·have h1:=(Bn5.1 hsort).2.1
   have h2:=(List.pairwise_cons.1 h1).1 _ hm;omega
theorem Ba6 {es:List EdgeD} {D:Int->Int} {v:Nat} (h:∀j:Nat,(j:Int)∈Ad.Ec (fun i=>(es.getD i edZ).f.toNat) es.length v->¬Ew D (es.getD j edZ)):¬∃i,FirstE es D (v:Int) i:=by
 rintro ⟨i,hi,h1,h2,_⟩;have e1:es.getD i edZ=es[i]:=by simp [List.getD,hi]
 exact h i (Ad.Dk.2 ⟨i,rfl,hi,by rw [e1,h1];rfl⟩) (by rw [e1];exact h2)
theorem RP.congr {es:List EdgeD} {n:Nat} {D D':Int->Int} (hN:∀e∈es,Aa n e.f/\Aa n e.t) (hD:∀v,Aa n v->D v=D' v) {v:Int} {l:List Int} (h:RP es D v l):Aa n v->RP es D' v l:=by
 induction h with
 |stop h=>exact fun hv=>.stop (by rw [<-hD _ hv];exact h)
 |go h h0 hr ih=>
  intro hv;obtain ⟨hi,h1,h2,h3⟩:=h
  rename_i v i l
  have e:es.getD i edZ=es[i]:=by simp [List.getD,hi]
  have gd:∀e∈es,Ew D e↔Ew D' e:=fun e he=>by
   have:=hN e he;unfold Ew;rw [hD _ this.1,hD _ this.2]
  refine .go ⟨hi,h1,(gd _ (Bj7 hi)).1 h2,fun j hj a b c=>h3 j hj a b ((gd _ (Bj7 hj)).2 c)⟩ (by rw [<-hD _ hv];exact h0) (ih ?_);rw [e];exact (hN _ (Bj7 hi)).2
theorem ToD.uniq {es:List EdgeD} {n:Nat} {t:Int} {D D':Int->Int} (h:ToD es n t D) (h':ToD es n t D'):∀v,Aa n v->D v=D' v:=fun v hv=>(h v hv).uniq (h' v hv)
end Ro
end
section
namespace Dj
open Go Go.Proofs Go.RowKit Go.Shelf Hp Ch Ad Ro
theorem Bm {w w':World} {p:Addr} {u:Value} (hk:w'.heap[p.block]? =w.heap[p.block]?) (h:w.cell? p=some u):w'.cell? p=some u:=(Bl2 hk).trans h
theorem Hx {w w':World} {p:Addr} {b:Bool} (hk:w'.heap[p.block]? =w.heap[p.block]?) (h:w.frozen? p=b):w'.frozen? p=b:=(World.frozen?_of_block hk).trans h
structure FoS (W0:World) (B:Nat) (wr:World) (n:Nat) (es:List EdgeD) (D:Int->Int) (s:Int) (Ds:List Nat) (v:Nat) (l:List Int) (la:Option Addr) (lc:Nat):Prop where
 cv:wr.cell? ⟨B,0,none⟩=some (.int .i64 (v:Int))/\wr.frozen? ⟨B,0,none⟩=false
 cr:wr.cell? ⟨B+4,0,none⟩=some (.slice la l.length lc)/\wr.cell? ⟨B+4,1,none⟩=some (.int .u64 (D s))/\wr.frozen? ⟨B+4,0,none⟩=false/\wr.frozen? ⟨B+4,1,none⟩=false
 kp:∀k,k<B+6->k≠B->k≠B+4->wr.heap[k]? =W0.heap[k]?
 own:wr.ownsRow (B+6) 3 1 (.slice la l.length lc) l.length (l.map Aj)
 la:∀x,la=some x->B+6<=x.block/\x.block∉Ds
 mks:∀E∈Ds,wr.heap[E]? =some (.deferred (some []))/\B+6<=E
 nod:Ds.Nodup
 sz:B+6<=wr.heap.size
 vn:v<n
 seg:Seg es D s l (v:Int)
 dlt:D (v:Int)<=D s/\D s<=1152921504606846976
 vis:∃vs:List Int,vs.length=l.length/\vs.Nodup/\∀x∈vs,Aa n x/\D (v:Int)<D x
section
variable {W0 wr wr':World} {B n:Nat} {es:List EdgeD} {D:Int->Int} {s:Int} {Ds:List Nat} {v:Nat} {l:List Int} {la:Option Addr} {lc:Nat}
theorem FoS.cl (h:FoS W0 B wr n es D s Ds v l la lc):Cel wr la (l.map Aj):=by
 obtain ⟨ao,cap,e,hc⟩:=Cel.of_owns h.own
 injection e with e1 e2 e3
 rw [e1];exact hc
theorem Vo {la:Option Addr} {m c k:Nat} (e:(Value.slice la m c).ownBlock=some k):∃x,la=some x/\x.block=k:=by
 cases la with
 |none=>cases e
 |some x=>exact ⟨x,rfl,Bl4 e⟩
theorem FoS.lab (h:FoS W0 B wr n es D s Ds v l la lc):∀x,la=some x->x.block<wr.heap.size:=fun x hx=>(Ub h.own x.block (by rw [hx];rfl)).2
theorem FoS.off {X:Nat->Prop} (h:FoS W0 B wr n es D s Ds v l la lc) (ho:OffX X wr wr') (h1:∀k,X k->B+6<=k) (h2:∀x,la=some x->¬X x.block) (h3:∀E∈Ds,¬X E):FoS W0 B wr' n es D s Ds v l la lc:=by
 have hsz:=h.sz;have keep:∀k,k<B+6->wr'.heap[k]? =wr.heap[k]?:=fun k hk=>ho.block k (by omega) (fun e=>by have:=h1 k e;omega);have k0:=keep B (by omega);have k4:=keep (B+4) (by omega);refine ⟨⟨Bm k0 h.cv.1,Hx k0 h.cv.2⟩,⟨Bm k4 h.cr.1,Bm k4 h.cr.2.1,Hx k4 h.cr.2.2.1,Hx k4 h.cr.2.2.2⟩,fun k a b c=>(keep k a).trans (h.kp k a b c),?_,h.la,fun E hE=>?_,h.nod,by have:=ho.size;omega,h.vn,h.seg,h.dlt,h.vis⟩
 ·refine Ai h.own fun k e=>?_
  obtain ⟨x,hx,rfl⟩:=Vo e;exact ho.block _ (h.lab x hx) (h2 x hx)
 ·obtain ⟨m1,m2⟩:=h.mks E hE
  exact ⟨(ho.block E (Bj2.1 m1).1 (h3 E hE)).trans m1,m2⟩
theorem FoS.go (h:FoS W0 B wr n es D s Ds v l la lc) (hz:Below wr.heap.size wr wr'):FoS W0 B wr' n es D s Ds v l la lc:=
 h.off (X:=fun _=>False) (OffX.of_below hz) (fun _ h=>h.elim) (fun _ _ h=>h) (fun _ _ h=>h)
theorem FoS.mark {E:Nat} (h:FoS W0 B wr n es D s Ds v l la lc) (hE:wr.heap[E]? =some (.deferred (some []))) (hB:B+6<=E) (hn:E∉Ds) (hl:∀x,la=some x->x.block≠E):FoS W0 B wr n es D s (E::Ds) v l la lc:=
 ⟨h.cv,h.cr,h.kp,h.own,fun x hx=>⟨(h.la x hx).1,fun hm=>by rcases Bl7.1 hm with e|e;exact hl x hx e;exact (h.la x hx).2 e⟩,fun F hF=>by rcases Bl7.1 hF with rfl|e;exact ⟨hE,hB⟩;exact h.mks F e,List.nodup_cons.2 ⟨hn,h.nod⟩,h.sz,h.vn,h.seg,h.dlt,h.vis⟩
theorem FoS.next {wr2:World} {v' i:Nat} {la':Option Addr} {lc':Nat} (h:FoS W0 B wr n es D s Ds v l la lc) (ho2:OffX (fun k=>∃x,la=some x/\x.block=k) wr wr2) (hl:wr2.ownsRow (B+6) 3 1 (.slice la' (l++[(i:Int)]).length lc') (l++[(i:Int)]).length ((l++[(i:Int)]).map Aj)) (hla:∀x,la'=some x->x.block∉Ds) (hv:v'<n) (hs:Seg es D s (l++[(i:Int)]) (v':Int)) (hd:D (v':Int)<D (v:Int)):
  FoS W0 B ((wr2.setCell ⟨B+4,0,none⟩ (.slice la' (l++[(i:Int)]).length lc')).setCell ⟨B,0,none⟩ (.int .i64 (v':Int))) n es D s Ds v' (l++[(i:Int)]) la' lc':=by
 have hsz:=h.sz;have hsz2:=ho2.size;have keep:∀k,k<B+6->wr2.heap[k]? =wr.heap[k]?:=fun k hk=>ho2.block k (by omega) (fun ⟨x,hx,e⟩=>by have:=(h.la x hx).1;omega);have ho:OffX (fun k=>k=B\/k=B+4) wr2 ((wr2.setCell ⟨B+4,0,none⟩ (.slice la' (l++[(i:Int)]).length lc')).setCell ⟨B,0,none⟩ (.int .i64 (v':Int))):=(OffX.set _ (.inr rfl)).trans (.set _ (.inl rfl));obtain ⟨r1,r2,r3,r4⟩:=h.cr;have k0:=keep B (by omega);have k4:=keep (B+4) (by omega);have r1:=Bm (p:=⟨B+4,0,none⟩) k4 r1;have r2:=Bm (p:=⟨B+4,1,none⟩) k4 r2;have r3:=Hx (p:=⟨B+4,0,none⟩) k4 r3;have r4:=Hx (p:=⟨B+4,1,none⟩) k4 r4;have c0:=Bm (p:=⟨B,0,none⟩) k0 h.cv.1;have c1:=Hx (p:=⟨B,0,none⟩) k0 h.cv.2;have hla2:∀x,la'=some x->B+6<=x.block/\x.block∉Ds:=fun x hx=>⟨(Ub hl x.block (by rw [hx];rfl)).1,hla x hx⟩;refine ⟨⟨?_,by rw [Bm1,Bm1];exact c1⟩,⟨?_,?_,by rw [Bm1,Bm1];exact r3,by rw [Bm1,Bm1];exact r4⟩,fun k a b c=>?_,?_,hla2,fun E hE=>?_,h.nod,by have:=ho.size;omega,hv,hs,⟨by have:=h.dlt.1;omega,h.dlt.2⟩,?_⟩
 ·exact Bj4 _ _ _ (by rw [Bj3 _ _ _ _ (by simp)];exact c0)
 ·rw [Bj3 _ _ _ _ (by simp)]
  exact Bj4 _ _ _ r1
 ·rw [Bj3 _ _ _ _ (by simp),Bj3 _ _ _ _ (by simp)]
  exact r2
 ·exact (ho.block k (by omega) (fun e=>by omega)).trans ((keep k a).trans (h.kp k a b c))
 ·refine Ai hl fun k e=>?_
  have h8:=Ub hl k e;exact ho.block k h8.2 (fun e=>by omega)
 ·obtain ⟨m1,m2⟩:=h.mks E hE
  have hlt:=(Bj2.1 m1).1;exact ⟨((ho.block E (by omega) (fun e=>by omega)).trans (ho2.block E hlt (fun ⟨x,hx,e⟩=>(h.la x hx).2 (e▸hE)))).trans m1,m2⟩
 ·obtain ⟨vs,e1,e2,e3⟩:=h.vis
  refine ⟨(v:Int)::vs,by simp [e1],List.nodup_cons.2 ⟨fun hm=>?_,e2⟩,fun x hx=>?_⟩
  ·have:=(e3 _ hm).2
   omega
  ·rcases Bl7.1 hx with rfl|hx
   ·exact ⟨⟨by omega,by have:=h.vn;omega⟩,hd⟩
   ·have:=(e3 x hx).2
    exact ⟨(e3 x hx).1,by omega⟩
theorem FoS.short (h:FoS W0 B wr n es D s Ds v l la lc):l.length<=n:=by
 obtain ⟨vs,e1,e2,e3⟩:=h.vis;rw [<-e1];exact Di (fun x hx=>(e3 x hx).1) e2
end
end Dj
end
end Go.Proofs.YteaaapdjplbljaaGreat
