/- Parts; no condition. -/
import Derived.Test.YteaaapdjplbljaaGreatVa45
set_option linter.unusedVariables false
set_option linter.unusedSimpArgs false
set_option linter.unnecessarySimpa false
set_option maxRecDepth 100000
set_option maxHeartbeats 8000000
namespace Go.Proofs.YteaaapdjplbljaaGreat
open Go Go.Proofs Go.RowKit Go.Shelf Hp Ch
attribute [local go_sem] Oper.semAt_some
structure SwM (w W:World) (fb B8 hb n:Nat) (back:Bool) (f:List Int):Prop where
 x0:W.cell? ⟨w.heap.size,0,none⟩=some (.pointer (some ⟨hb,0,none⟩))
 x1:W.cell? ⟨w.heap.size,1,none⟩=some (.bool back)
 bx:W.cell? ⟨B8,0,none⟩=some (.slice (some ⟨fb,0,none⟩) n n)
 own:W.ownsRow w.heap.size 37 1 (.slice (some ⟨fb,0,none⟩) n n) n (f.map Bi)
 bel:Below w.heap.size w W
 ge:w.heap.size<fb/\fb<B8
section
variable {w W W':World} {fb B8 hb n:Nat} {back:Bool} {f:List Int}
theorem SwM.off {X:Nat->Prop} (h:SwM w W fb B8 hb n back f) (ho:OffX X W W') (hX:∀k,X k->w.heap.size<k/\k≠fb/\k≠B8):SwM w W' fb B8 hb n back f:=
 ⟨ho.cell h.x0 (fun e=>absurd (hX _ e).1 (Nat.lt_irrefl _)),ho.cell h.x1 (fun e=>absurd (hX _ e).1 (Nat.lt_irrefl _)),ho.cell h.bx (fun e=>(hX _ e).2.2 rfl),
  Ak h.own (fun k e=>by cases e;exact ho.block _ (h.own.lt fb rfl).2 (fun e=>(hX _ e).2.1 rfl)),h.bel.trans (ho.below h.bel.size (fun k e=>Nat.le_of_lt (hX k e).1)),h.ge⟩
theorem SwM.go (h:SwM w W fb B8 hb n back f) (hz:Below W.heap.size W W'):SwM w W' fb B8 hb n back f:=h.off (X:=fun _=>False) (.of_below hz) (fun _ h=>h.elim)
theorem SwM.flen (h:SwM w W fb B8 hb n back f):f.length=n:=by have:=h.own.1;simpa using this
theorem SwM.cell (h:SwM w W fb B8 hb n back f) {v:Nat} (hv:v<n):W.cell? ⟨fb,v,none⟩=some (.int .u64 (gD f (v:Int))):=by
 have hl:=h.flen;have h1:=h.own.cellAt v (by omega);rw [h1,Bl2,Bj8 (by omega)];unfold gD;rw [Bk7,Bj9,Bj8 (by omega)];rfl
theorem SwM.set (h:SwM w W fb B8 hb n back f) (v:Nat) (x:Int):SwM w (W.setCell ⟨fb,v,none⟩ (.int .u64 x)) fb B8 hb n back (f.set v x):=by
 have ho:OffX (· =fb) W (W.setCell ⟨fb,v,none⟩ (.int .u64 x)):=.set _ rfl;have hg:=h.ge;have h1:=(h.own.stored v (.int .u64 x)).1;rw [show (f.map Bi).set v (.int .u64 x)=(f.set v x).map Bi by rw [List.map_set]] at h1;exact ⟨ho.cell h.x0 (by show ¬w.heap.size=fb;omega),ho.cell h.x1 (by show ¬w.heap.size=fb;omega),ho.cell h.bx (by show ¬B8=fb;omega),h1,h.bel.setCell (by show w.heap.size<=fb;omega) _,h.ge⟩
end
theorem Am1 {w:World} {base base' size n:Nat} {e:TypeId} {v:Value} {xs:List Value} (h:w.ownsRow base e size v n xs) (hb:base'<=base):w.ownsRow base' e size v n xs:=by
 refine ⟨h.1,?_⟩
 rcases h.2 with h2|⟨g,cap,cur,hv,hbg,r⟩
 ·exact .inl h2
 ·exact .inr ⟨g,cap,cur,hv,Bj7 hb hbg,r⟩
def Oz (es:List EdgeD) (n:Nat) (back:Bool) (s:Nat) (w:World) (e:Ending) (w':World):Prop:=
 ∃(b:Nat) (f:List Int),e=.returned (.slice (some ⟨b,0,none⟩) n n)/\Cel w' (some ⟨b,0,none⟩) (f.map Bi)/\f.length=n/\w.heap.size<=b/\Below w.heap.size w w'/\∀v,Ac n v->FarV (Ca back (Am es)) (s:Int) v (gD f v)
theorem Ab2 (a b:Option Addr) (l k m q:Nat) (w:World):(Instr.field 81 (.agg #[.slice a l k,.slice b m q]) 0).run Tryz.prog w=.ok (.slice a l k) w:=by
 kernel_rfl
theorem Aw0 {es:List EdgeD} {n:Nat} {R:List Int} {S:List SC} {ro:List Int} (hok:HierOK es n R S ro) {i:Nat} (hi:i<n):∃v:Nat,v<n/\(Fq R).getD i 0=(v:Int)/\rk ro (v:Int)=(i:Int):=by
 have hl:=hok.len;obtain ⟨p,hp,e⟩:=Ra hok.rank (i:=i) (by omega);have h1:=Mt hok.rank hp;have h2:=hok.at1 (p:Int) ⟨by omega,by omega⟩;rw [Bk7,Bj8 hp,e] at h2;rw [e,Bk7] at h1;exact ⟨p,by omega,by rw [Bj9,h1];rfl,(Bm2 h2).symm⟩
def SwO (w w5:World) (fb B8 hb n:Nat) (back:Bool) (es:List EdgeD) (ro:List Int) (s:Nat) (pre:List (Nat×Int)) (W:World):Prop:=
 ∃f,SwM w W fb B8 hb n back f/\Swp (Ca back (Am es)) (rk ro) (s:Int) n (n-pre.length) f/\w5.heap.size<=W.heap.size
def SwN (w Wb w6:World) (Kx:Nat->Prop) (fb B8 hb n v Bv:Nat) (back:Bool) (f:List Int) (pre:List Bx) (W:World):Prop:=
 SwM w W fb B8 hb n back (Br v f pre)/\W.cell? ⟨Bv,0,none⟩=some (.int .i64 (v:Int))/\KeepX Kx Wb W/\w6.heap.size<=W.heap.size
theorem Bg4 {n v:Nat} {f:List Int} {l:List Bx} {B:Int} (hlen:f.length=n) (hv:v<n) (hf:∀u,Ac n u->0<=gD f u/\gD f u<=B) (hl:∀x∈l,Ac n x.2.1/\x.2.1≠(v:Int)/\1<=x.2.2):∀u,Ac n u->0<=gD (Br v f l) u/\gD (Br v f l) u<=B:=by
 obtain ⟨i1,i2,i3,i4⟩:=Lw (v:=v) l f (by omega) (fun x hx=>⟨(hl x hx).1.1,(hl x hx).2.1⟩);intro u hu
 by_cases e:u=(v:Int)
 ·subst e
  refine ⟨?_,Int.le_trans i2 (hf _ hu).2⟩
  rcases i4 with h|⟨x,hx,h⟩
  ·rw [h];exact (hf _ hu).1
  ·have:=(hf _ (hl x hx).1).1
   have:=(hl x hx).2.2;omega
 ·rw [i1 u hu.1 e]
  exact hf u hu
theorem SeqK.inRound {α:Type} {F:Fence} {n:Nat} {P:Program} {g:Nat} {lb:Array Value} {encs:α->Array Value} {parts:List α} {Kp:Nat->Prop} {w:World} (l:Nat) (h:SeqK F n P g lb encs parts Kp w):SeqK (F.inRound l) n P g lb encs parts Kp w:=h
theorem Al2 (hb n:Nat) (es:List EdgeD) (R:List Int) (S:List SC) (ro:List Int) (back:Bool) (s:Nat) (l:List LB) (ao:Option Addr) (cap:Nat) (w:World) (hh:HierM w hb n es R S (An R S n S.length).1 (An R S n S.length).2) (hok:HierOK es n R S ro) (hn:n<=12) (hs:s<n)
  (hc:Cel w ao (Ao l)) (hsp:Space (Ca back (Am es)) (XN S back) (rk ro) (s:Int) (l.map Cq)) (hl:l.length<=n):
  Calls Tryz.prog 144 #[.pointer (some ⟨hb,0,none⟩),.slice ao l.length cap,.bool back] w (Oz es n back s w):=by
 have HH:=Bj3 hh;have HOK:=Bj3 hok;have HC:=Bj3 hc;have HSP:=Bj3 hsp;have HL:=Bj3 (Lx hok hsp hs hn);have HEA:=Bj3 (fun v w=>Hr hb back true v w);have hfd:=Ab2;have hl2:(l.length:Int)<=12:=by omega
 have HNN:=Bj3 (fun W (hz:Below w.heap.size w W)=>Fw hb n es R S _ _ W (hh.go hz));have HRP:=Bj3 (fun bx W (hx:W.cell? ⟨bx,0,none⟩=some (.int .u64 4611686018427387904))=>Qu bx 0 1 n 4611686018427387904 W (by omega) hx);have HHI:=Bj3 (fun W (hz:Below w.heap.size w W)=>Tt hb n es R S _ _ W (hh.go hz) (by omega));have HRL:=Bj3 hok.len;have HIV:=Bj3 (fun a q W hc=>Gw R a q W (by have:=hok.len;omega) hc);have HIL:=Bj3 (show (Fq R).length=n by rw [Dz hok.rank,hok.len]);unfold Tg at HHI;unfold Ni at HIV;unfold Oz;clear hh hok hc hsp;refine (callsIn_wide (n:=4)).1 (callsIn_of_wp_marks Tryz.func144 rfl trivial (wpIn_wide.2 ?_) rfl);simp only [Tryz.ntmps144,List.size_toArray,Bk8,Bk9,Nat.reduceAdd,Nat.reduceSub,Array.replicate_succ,Array.replicate_zero,List.push_toArray,List.append_toArray,List.nil_append,List.cons_append]
 go_upto_region 3 with (first
  |(go_at_call 175;refine (HNN.out _ ((Below.of_al _ _).al _)).mono ?_;rintro e w1 ⟨rfl,rfl⟩)
  |(go_at_call 124;refine (HRP.out _ _ (by go_simp)).mono ?_;rintro e w3 ⟨rfl,ho3,hb3⟩;(have HO3:=Bj3 ho3);(have HB3:=Bj3 hb3);clear ho3 hb3))
 obtain ⟨W4,hW4⟩:∃W4,W4=w3.alloc (Obj.cells #[.slice (some ⟨w.heap.size+1+1,0,none⟩) n n] 60):=⟨_,rfl⟩;rw [<-hW4];have hb34:Below w3.heap.size w3 W4:=by rw [hW4];exact Below.of_al _ _
 have hfb:w.heap.size+1+1<w3.heap.size:=by have h9:=(HO3.out.lt _ rfl).2;simpa using h9
 have hM0:SwM w W4 (w.heap.size+1+1) w3.heap.size hb n back (List.replicate n FAR):=by
  refine ⟨Bj4 hb34 (Bj4 HB3.out (by go_simp)),Bj4 hb34 (Bj4 HB3.out (by go_simp)),by rw [hW4];go_simp,?_,(((Below.of_al _ _).al _).st HB3.out).st hb34,by omega,hfb⟩;have h9:=Ag HO3.out hb34;simp only [World.size_alloc] at h9;exact Am1 h9 (by omega)
 have HM0:=Bj3 hM0;have HB4:=Bj3 hM0.bel;clear HO3 HB3 hb34 hM0 hW4 HRP HNN;generalize hfbe:w.heap.size+1+1=fb at*;generalize w3.heap.size=B8 at*;clear hfbe
 go_wp2
 go_loopg [24] l.length (fun gg v24 wr=>∃k:Nat,k<=l.length/\l.length-k<=gg/\v24=.int .i64 k/\Aside (SwM w wr fb B8 hb n back (Lb (List.replicate n FAR) (l.take k))))
 case atStart=>exact ⟨0,Bj6 _,by omega,rfl,by rw [List.take_zero];exact HM0.out⟩
 case round=>
  obtain ⟨k,hk,hgg,rfl,HM⟩:=hrel
  by_cases hlt:k<l.length
  ·have hlt3:(k:Int)<(l.length:Int):=by omega
   have hk0:(0:Int)<=(k:Int):=by omega
   obtain ⟨lb,lo,rfl,y0,y1,y2⟩:=(HC.out.go HM.out.bel).lab hlt;obtain ⟨⟨i0,i1⟩,i2,i3⟩:=HL.out l[k] (Bk5 hlt);have HTK:=Bj3 (show Lb (List.replicate n FAR) (l.take (k+1))=(Lb (List.replicate n FAR) (l.take k)).set l[k].v.toNat l[k].d by rw [Bl1 hlt,An2]);generalize l[k]=a at*;obtain ⟨av,ad,ab⟩:=a;simp only at y0 y1 y2 i0 i1 i2 i3 HTK;obtain ⟨v,rfl⟩:∃v:Nat,av=v:=⟨av.toNat,by omega⟩;rw [Bk7] at HTK;have hv:v<n:=by omega
   generalize Lb (List.replicate n FAR) (l.take k)=f at*
   go_upto_region 6 with (fail)
   obtain ⟨wa,hwa⟩:∃wa,wa=wr.alloc (Obj.cells #[.int .i64 (v:Int),.int .u64 ad,.int .i64 ab] 150):=⟨_,rfl⟩;rw [<-hwa];have HMA:=Bj3 (show SwM w wa fb B8 hb n back f by rw [hwa];exact HM.out.go (Below.of_al _ _));have e0:wa.cell? ⟨wr.heap.size,0,none⟩=some (.int .i64 (v:Int)):=by rw [hwa];go_simp
   have e1:wa.cell? ⟨wr.heap.size,1,none⟩=some (.int .u64 ad):=by rw [hwa];go_simp
   have e2:=HMA.out.bx;have e3:=HMA.out.cell hv;have e4:=HMA.out.own.frozenAt v;clear y0 y1 y2 hwa;have hv3:(v:Int)<(n:Int):=by omega
   go_wp2
   have HM2:=Bj3 (HMA.out.set v ad)
   go_roundg (l.length-(k+1))
   case measure=>omega
   case rel=>exact ⟨k+1,by omega,Bj5 _,by go_num,by rw [HTK.out];exact HM2.out⟩
  ·obtain rfl:k=l.length:=by omega
   have HM1:=Bj3 (show SwM w wr fb B8 hb n back (Lb (List.replicate n FAR) l) by have h9:=HM.out;rwa [Bn9] at h9);have HS0:=Bj3 (Swp.start HOK.out hn hs HSP.out);clear HM HC HL hk hgg hlt HM0 HB4;generalize Lb (List.replicate n FAR) l=f0 at*
   go_upto_region 9 with (first
    |(go_at_call 40;refine (HHI.out _ HM1.out.bel).mono ?_;rintro e w1 ⟨a1,q1,b1,q2,rfl,h1,h2,hb1,hf1,hf2⟩;(have HR1:=Bj3 h1);(have HB1:=Bj3 hb1);clear h1 h2 hb1 hf1 hf2)
    |(go_at_call 108;refine (HIV.out _ _ _ HR1.out).mono ?_;rintro e w2 ⟨ra,rc,rfl,h1,h2,h3⟩;(have HI2:=Bj3 h1);(have HB2:=Bj3 (HB1.out.st h2));(have HF2:=Bj3 h3);clear h1 h2 h3)
    |(go_at_call 198;refine (Xg _ _ _ _).mono ?_;rintro e w5 ⟨rfl,hb5,hz5,k5⟩;(have HI5:=Bj3 (HI2.out.go hb5));(have HB5:=Bj3 (HB2.out.st hb5));(have HZ5:=Bj3 hz5);(have K5:=Bj3 k5);clear hb5 hz5 k5))
   have hB8:B8<wr.heap.size:=Bk3 _ _ HM1.out.bx;have hkB:∀k,KpB w2.heap.size ra k->k<w5.heap.size/\B8<k:=by
    have h9:=HB1.out.size;have h8:=HB2.out.size;have h7:=HZ5.out;rintro k (e|⟨b,o,e,e2⟩)
    ·omega
    ·obtain ⟨b',o',e',c5⟩:=HI5.out.at (i:=0) (by rw [HIL.out];omega)
     have h6:=HF2.out k (by rw [e,e2];rfl);rw [e] at e'
     cases e'
     have h5:=Bk3 _ _ c5;simp only at h5;omega
   have HKB:=Bj3 hkB;have HSEQ:=Bj3 (Sw 3 (by decide) ra rc w2.heap.size (Fq R) w5 (by rw [HIL.out];omega) K5.out HI5.out);have HIN:=Bj3 (fun i hi=>Aw0 HOK.out (i:=i) hi);have HM5:=Bj3 (HM1.out.go HB5.out);have hB85:B8<w5.heap.size:=by have:=HB5.out.size;omega
   have hge:=HM1.out.ge;clear HHI HIV HR1 HB1 HI2 HB2 HF2 HI5 HB5 K5 hkB HM1 hB8;rw [HIL.out];refine (wpIn_wide (n:=4)).1 (Vm rfl (by decide) (gf:=249) rfl trivial (enters_of Tryz.func249 (by kernel_rfl) rfl) HSEQ.out (fun k hk=>(HKB.out k hk).1) (fun _=>rfl) (SwO w w5 fb B8 hb n back es ro s) (fun _ _ _=>False) ?hI (fun _ _ _ _ h _=>h) ?h0 ?round ?done ?stop)
   case stop=>rintro D c pre W hD0 hpp hf;exact hf.elim
   case hI=>
    rintro pre W W' ⟨f,h1,h2,h3⟩ ho;exact ⟨f,h1.off ho (fun k e=>by unfold Av at e;omega),h2,Bj7 h3 ho.size⟩
   case h0=>exact ⟨f0,HM5.out,HS0.out,Bj5 _⟩
   case done=>
    rintro D W hD0 ⟨f,h1,h2,h3⟩ hK;rw [St,HIL.out,Nat.sub_self] at h2;have HM9:=Bj3 h1;have HS9:=Bj3 h2;have b9:=h1.bx;have HK9:=Bj3 hK;clear h1 h2 h3 hK
    go_wp2
    refine Gq (a:=_) rfl HK9.out (fun W9 ho=>⟨.slice (some ⟨fb,0,none⟩) n n,?_,?_⟩)
    ·simp [results,Tryz.results144,go_sem]
     try rfl
    ·have h9:=HM9.out.off ho (fun k e=>by omega)
     obtain ⟨ao9,cap9,e9,hc9⟩:=Cel.of_owns h9.own
     cases e9
     exact ⟨fb,f,rfl,hc9,h9.flen,by omega,h9.bel,fun v hv=>HS9.out.far (HOK.out.hierB back).pos hn (fun v=>by unfold rk;omega) hv⟩
   case round=>
    rintro l' pre ⟨xi,xv⟩ W0 K hI hpx hl1 hl2 hsz hK;obtain ⟨hx1,hx2⟩:=Ak2 hpx;simp only [HIL.out] at hx1 hx2;obtain ⟨v,hv,hvr,hvk⟩:=HIN.out xi (by omega);rw [hvr] at hx2;subst hx2
    gi_wp2
    refine hK _ _ (Below.of_al _ _) (fun Wb ho hi hrec=>?_);obtain ⟨f,hM,hS,hsz2⟩:=hi;have cv:=ho.cell (p:=⟨W0.heap.size,0,none⟩) (v:=.int .i64 (v:Int)) (by go_simp) (fun e=>by unfold Av at e;simp only at e;omega);have hbv:W0.heap.size<Wb.heap.size:=Bk3 _ _ cv;have cx0:=hM.x0;have cx1:=hM.x1;have HM6:=Bj3 hM;have HS6:=Bj3 hS;clear hM hS hK hI ho
    gi_wp2_with (refine ⟨trivial,?_⟩;gi_at_call 199;refine (CallsIn.inRound l' (callsIn_wide.2 (HEA.out _ _))).mono ?_;rintro e w6 ⟨rfl,hb6,hz6,b0,b1,b2,b3⟩)
    obtain ⟨rl,hrl⟩:=hrec;have hl6:w6.heap[l']? =some (.loop rl):=(hb6.block l' (Bk0.1 hrl).1).trans hrl;have hMl:=HM6.out.bel;have hMz:=hMl.size;have hkB6:∀j,KpU w.heap.size Wb.heap.size j->j<w6.heap.size:=by
     rintro j (h|h)<;>omega
    have HSQ6:=Bj3 (SeqK.inRound l' (Ew 1 (by decide) hb n es R S (An R S n S.length).1 (An R S n S.length).2 back true v Wb.heap.size w w6 HH.out (fun k hk=>(hMl.st hb6).block k hk) hkB6 hv (Ab5 HOK.out _ hv) (fun x hx=>⟨(HOK.out.ends x hx).1,(HOK.out.ends x hx).2.1⟩) b0 b1 b2 b3));have HTO:=Bj3 (Xn HOK.out hn back hv);have HKx:∀k,Nj (KpB w2.heap.size ra) w5.heap.size k->k<W0.heap.size/\k≠fb:=by
     rintro k (h|h|h)
     ·have:=HKB.out k h;omega
     ·omega
     ·omega
    have HI6:=Bj3 (show SwN w Wb w6 (Nj (KpB w2.heap.size ra) w5.heap.size) fb B8 hb n v W0.heap.size back f [] w6 from ⟨HM6.out.go hb6,Bj4 hb6 cv,⟨hb6.size,fun k hk=>hb6.block k (by have:=(HKx k hk).1;omega)⟩,Bj5 _⟩);have HST:=Bj3 (fun (h:n-pre.length=xi+1)=>Swp.step HOK.out hn hv hvk (show Swp (Ca back (Am es)) (rk ro) (s:Int) n (xi+1) f by rw [<-h];exact HS6.out));have HBD:=Bj3 (fun (pre2:List Bx) (hp:pre2 <+:Ci R S n v (back != true))=>Bg4 (n:=n) (v:=v) (f:=f) (l:=pre2) (B:=4611686018427387904) HM6.out.flen hv (fun u hu=>HS6.out.bd (HOK.out.hierB back).pos hn hu) (fun x hx=>by
     obtain ⟨_,k1,k2,k3,_⟩:=HTO.out x (hp.subset hx);exact ⟨k2,k1,k3⟩))
    have HB6:=Bj3 hb6;have hs6:=hb6.size;clear b0 b1 b2 b3 hb6 hrl cv cx0 cx1 HM6 HS6 hMl;refine Vn (F:=Fence.wide.inRound l') (l₀:=l') (r₀:=rl) rfl hl6 (by decide) (gf:=250) rfl trivial (enters_of Tryz.func250 (by kernel_rfl) rfl) HSQ6.out hkB6 (fun _=>rfl) (SwN w Wb w6 (Nj (KpB w2.heap.size ra) w5.heap.size) fb B8 hb n v W0.heap.size back f) (fun _ _ _=>False) ?hI2 (fun _ _ _ _ h _=>h) HI6.out ?round2 ?done2 ?stop2
    case stop2=>rintro c pre W hpp hf;exact hf.elim
    case hI2=>
     rintro pre2 W W' ⟨h1,h2,h3,h4⟩ ho;refine ⟨h1.off ho (fun k e=>by unfold Ka at e;omega),ho.cell h2 (by intro e;unfold Ka at e;simp only at e;omega),⟨Bj7 h3.1 ho.size,fun k hk=>?_⟩,Bj7 h4 ho.size⟩;have h9:=(HKx k hk).1;exact (ho.block k (by omega) (by intro e;unfold Ka at e;omega)).trans (h3.2 k hk)
    case done2=>
     rintro W ⟨h1,h2,h3,h4⟩;have H1:=Bj3 h1;have H3:=Bj3 h3;clear h1 h2 h3
     gi_wp2
     exact ⟨H3.out,_,H1.out,by rw [Bm3,List.length_singleton,show n-(pre.length+1)=xi by omega];exact HST.out (by omega),by omega⟩
    case round2=>
     rintro l2 pre2 ⟨xi2,xt,xw⟩ W1 K2 hI2 hpx2 hl2e hsz2' hK2;obtain ⟨t1,t2,⟨t3,t4⟩,t5,t6⟩:=HTO.out (xi2,xt,xw) (hpx2.subset (by simp));simp only at t2 t3 t4 t5 t6;obtain ⟨t,rfl⟩:∃t:Nat,xt=t:=⟨xt.toNat,by omega⟩;clear t1
     dsimp only [Ax7]
     gi_wp2
     refine hK2 _ _ (Below.of_al _ _) (fun Wc ho2 hi2=>?_);obtain ⟨hM,c8,hKX,hs4⟩:=hi2;have hDz:w6.heap.size≠W1.heap.size:=by omega
     have y1:=ho2.cell (p:=⟨W1.heap.size,1,none⟩) (v:=.int .i64 (t:Int)) (by go_simp) (fun e=>hDz (by unfold Ka at e;exact e.symm));have y2:=ho2.cell (p:=⟨W1.heap.size,2,none⟩) (v:=.int .u64 xw) (by go_simp) (fun e=>hDz (by unfold Ka at e;exact e.symm));have htn:t<n:=by omega
     have hWc:W1.heap.size+1<=Wc.heap.size:=by have h9:=ho2.size;rwa [World.size_alloc] at h9
     have hpp2:pre2 <+:Ci R S n v (back != true):=(List.prefix_append pre2 [(xi2,(t:Int),xw)]).trans hpx2;obtain ⟨bx0,bx1⟩:=HBD.out pre2 hpp2 (v:Int) ⟨by omega,by omega⟩;obtain ⟨by0,by1⟩:=HBD.out pre2 hpp2 (t:Int) ⟨by omega,by omega⟩;have HSN:=Bj3 (show Br v f (pre2++[(xi2,(t:Int),xw)])=(Br v f pre2).set v (min (gD (Br v f pre2) (v:Int)) (gD (Br v f pre2) (t:Int)+xw)) from Ac8 v f pre2 _);have cb:=hM.bx;have cx:=hM.cell hv;have cy:=hM.cell htn;have zf:=hM.own.frozenAt v;have HMC:=Bj3 hM;have HKC:=Bj3 hKX;have hv3:(v:Int)<(n:Int):=by omega
     have hv0:(0:Int)<=(v:Int):=by omega
     generalize gD (Br v f pre2) (v:Int)=x at*;generalize gD (Br v f pre2) (t:Int)=y at*;generalize Br v f pre2=f2 at*;clear hM hKX hI2 hK2 hpx2 hpp2 ho2
     gi_wp2
     rename_i K3 Q3 hK3
     have hwr:IntKind.u64.wrap (y+xw)=y+xw:=by rw [Bo5];omega
     refine Gc 16 _ [.slice (some ⟨fb,0,none⟩) n n,.int .i64 (v:Int),.slice (some ⟨fb,0,none⟩) n n,.int .i64 (v:Int),.pointer (some ⟨fb,v,none⟩),.int .u64 x,.slice (some ⟨fb,0,none⟩) n n,.pointer (some ⟨W1.heap.size,1,none⟩),.int .i64 (t:Int),.pointer (some ⟨fb,t,none⟩),.int .u64 y,.pointer (some ⟨W1.heap.size,2,none⟩),.int .u64 xw,.int .u64 (y+xw),.int .u64 (min x (y+xw)),.pointer (some ⟨fb,v,none⟩)] rfl rfl (by kernel_rfl) (by kernel_rfl) (by kernel_rfl) (by kernel_rfl) ?_ ?_
     ·refine ⟨?_,?_,?_,?_,?_,?_,?_,?_,?_,?_,?_,?_,?_,?_,?_,?_,trivial⟩
      ·intro act w' hbe hd ho K hK
       have g8:act.tmps.getD 8 undef=.pointer (some ⟨B8,0,none⟩):=ho 8 (by kernel_rfl);have f0:=Bj4 hbe cb;simp [Oper.wp,execOp,Oper.upon,go_sem,Act.eval,g8,f0];exact hK w' (Below.refl _ _)
      ·intro act w' hbe hd ho K hK
       have g12:act.tmps.getD 12 undef=.pointer (some ⟨W0.heap.size,0,none⟩):=ho 12 (by kernel_rfl);have f0:=Bj4 hbe c8;simp [Oper.wp,execOp,Oper.upon,go_sem,Act.eval,g12,f0];exact hK w' (Below.refl _ _)
      ·intro act w' hbe hd ho K hK
       have g8:act.tmps.getD 8 undef=.pointer (some ⟨B8,0,none⟩):=ho 8 (by kernel_rfl);have f0:=Bj4 hbe cb;simp [Oper.wp,execOp,Oper.upon,go_sem,Act.eval,g8,f0];exact hK w' (Below.refl _ _)
      ·intro act w' hbe hd ho K hK
       have g12:act.tmps.getD 12 undef=.pointer (some ⟨W0.heap.size,0,none⟩):=ho 12 (by kernel_rfl);have f0:=Bj4 hbe c8;simp [Oper.wp,execOp,Oper.upon,go_sem,Act.eval,g12,f0];exact hK w' (Below.refl _ _)
      ·intro act w' hbe hd ho K hK
       have e2:act.tmps.getD 49 undef=.slice (some ⟨fb,0,none⟩) n n:=hd 2 (by rfl);have e3:act.tmps.getD 50 undef=.int .i64 (v:Int):=hd 3 (by rfl);simp [Oper.wp,execOp,Oper.upon,go_sem,Act.eval,e2,e3,hv];exact hK w' (Below.refl _ _)
      ·intro act w' hbe hd ho K hK
       have e4:act.tmps.getD 51 undef=.pointer (some ⟨fb,v,none⟩):=hd 4 (by rfl);have f0:=Bj4 hbe cx;simp [Oper.wp,execOp,Oper.upon,go_sem,Act.eval,e4,f0];exact hK w' (Below.refl _ _)
      ·intro act w' hbe hd ho K hK
       have g8:act.tmps.getD 8 undef=.pointer (some ⟨B8,0,none⟩):=ho 8 (by kernel_rfl);have f0:=Bj4 hbe cb;simp [Oper.wp,execOp,Oper.upon,go_sem,Act.eval,g8,f0];exact hK w' (Below.refl _ _)
      ·intro act w' hbe hd ho K hK
       have g14:act.tmps.getD 14 undef=.pointer (some ⟨W1.heap.size,0,none⟩):=ho 14 (by kernel_rfl);simp [Oper.wp,execOp,Oper.upon,go_sem,Act.eval,g14];exact hK w' (Below.refl _ _)
      ·intro act w' hbe hd ho K hK
       have e7:act.tmps.getD 54 undef=.pointer (some ⟨W1.heap.size,1,none⟩):=hd 7 (by rfl);have f0:=Bj4 hbe y1;simp [Oper.wp,execOp,Oper.upon,go_sem,Act.eval,e7,f0];exact hK w' (Below.refl _ _)
      ·intro act w' hbe hd ho K hK
       have e6:act.tmps.getD 53 undef=.slice (some ⟨fb,0,none⟩) n n:=hd 6 (by rfl);have e8:act.tmps.getD 55 undef=.int .i64 (t:Int):=hd 8 (by rfl);simp [Oper.wp,execOp,Oper.upon,go_sem,Act.eval,e6,e8,htn];exact hK w' (Below.refl _ _)
      ·intro act w' hbe hd ho K hK
       have e9:act.tmps.getD 56 undef=.pointer (some ⟨fb,t,none⟩):=hd 9 (by rfl);have f0:=Bj4 hbe cy;simp [Oper.wp,execOp,Oper.upon,go_sem,Act.eval,e9,f0];exact hK w' (Below.refl _ _)
      ·intro act w' hbe hd ho K hK
       have g14:act.tmps.getD 14 undef=.pointer (some ⟨W1.heap.size,0,none⟩):=ho 14 (by kernel_rfl);simp [Oper.wp,execOp,Oper.upon,go_sem,Act.eval,g14];exact hK w' (Below.refl _ _)
      ·intro act w' hbe hd ho K hK
       have e11:act.tmps.getD 58 undef=.pointer (some ⟨W1.heap.size,2,none⟩):=hd 11 (by rfl);have f0:=Bj4 hbe y2;simp [Oper.wp,execOp,Oper.upon,go_sem,Act.eval,e11,f0];exact hK w' (Below.refl _ _)
      ·intro act w' hbe hd ho K hK
       have e10:act.tmps.getD 57 undef=.int .u64 y:=hd 10 (by rfl);have e12:act.tmps.getD 59 undef=.int .u64 xw:=hd 12 (by rfl);simp [Oper.wp,execOp,Oper.upon,go_sem,Act.eval,e10,e12,hwr];exact hK w' (Below.refl _ _)
      ·intro act w' hbe hd ho K hK
       have e5:act.tmps.getD 52 undef=.int .u64 x:=hd 5 (by rfl);have e13:act.tmps.getD 60 undef=.int .u64 (y+xw):=hd 13 (by rfl);simp [Oper.wp,execOp,Oper.upon,go_sem,Act.eval,e5,e13];exact hK w' (Below.refl _ _)
      ·intro act w' hbe hd ho K hK
       have e0:act.tmps.getD 47 undef=.slice (some ⟨fb,0,none⟩) n n:=hd 0 (by rfl);have e1:act.tmps.getD 48 undef=.int .i64 (v:Int):=hd 1 (by rfl);simp [Oper.wp,execOp,Oper.upon,go_sem,Act.eval,e0,e1,hv];exact hK w' (Below.refl _ _)
     ·intro act w7 hb7 hd _
      have e14:act.tmps.getD 61 undef=.int .u64 (min x (y+xw)):=hd 14 (by omega);have e15:act.tmps.getD 62 undef=.pointer (some ⟨fb,v,none⟩):=hd 15 (by omega);have f0:=Bj4 hb7 cx;have z0:=(hb7.frozen (p:=⟨fb,v,none⟩) (Bk3 _ _ cx)).trans zf;simp [Oper.wp,execOp,Oper.upon,go_sem,Act.eval,e14,e15,f0,z0];have hlW:W0.heap.size<Wc.heap.size:=Bk3 _ _ c8;have hb9:∀k,k≠fb->k<Wc.heap.size->(w7.setCell ⟨fb,v,none⟩ (.int .u64 (min x (y+xw)))).heap[k]? =Wc.heap[k]?:=fun k hk hl=>(Below.heap_setCell _ _ _ _ hk).trans (hb7.block k hl);have hz9:Wc.heap.size<=(w7.setCell ⟨fb,v,none⟩ (.int .u64 (min x (y+xw)))).heap.size:=by simpa [World.setCell] using hb7.size
      refine ⟨⟨hz9,fun k hk=>hb9 k ?_ ?_⟩,(show SwM w _ fb B8 hb n back (Br v f (pre2++[(xi2,(t:Int),xw)])) by rw [HSN.out];exact (HMC.out.go hb7).set v _),(Bm0 (a:=⟨W0.heap.size,0,none⟩) (hb9 _ (by show W0.heap.size≠fb;omega) hlW)).trans c8,HKC.out.trans ⟨hz9,fun k hk=>hb9 k (HKx k hk).2 (by have:=(HKx k hk).1;omega)⟩,by omega⟩
      ·rcases hk with (h|h)|h
       ·omega
       ·omega
       ·omega
      ·rcases hk with (h|h)|h
       ·have:=HMC.out.bel.size;omega
       ·omega
       ·omega
end Go.Proofs.YteaaapdjplbljaaGreat
