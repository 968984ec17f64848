/- Parts; no condition. -/
import Derived.Test.YteaaapdjplbljaaGreatVb29
set_option linter.unusedVariables false
set_option linter.unusedSimpArgs false
set_option linter.unnecessarySimpa false
set_option maxRecDepth 100000
set_option maxHeartbeats 8000000
namespace Go.Proofs.YteaaapdjplbljaaGreat
section
open Go Go.Proofs Go.RowKit Go.Shelf Hp Ch
theorem Sg:∀(l:List LB) (i:Nat) (q:LB) (b:Int),l[i]? =some q->(Ap l).set (i*3+2) (.int .i64 b)=Ap (l.set i ⟨q.v,q.d,b⟩)
 |[],i,q,b,h=>by simp at h
 |x::l,0,q,b,h=>by cases h;rfl
 |x::l,i+1,q,b,h=>by
  rw [show (i+1)*3+2=i*3+2+1+1+1 by omega]
  show _=_::_::_::Ap (l.set i _)
  rw [<-Sg l i q b (by simpa using h)];rfl
def Vl (es:List EdgeD) (n:Nat) (R:List Int) (S:List SC) (ro:List Int) (back:Bool) (s:Nat) (w:World) (e:Ending) (w':World):Prop:=
 ∃(ao:Option Addr) (cap:Nat) (l:List LB),e=.returned (.tuple #[.slice ao l.length cap,.int .i64 0])/\Cel w' ao (Ap l)/\Below w.heap.size w w'/\ExIs (Bd back (Am es)) (rk ro) (s:Int) l/\(∀a∈l,a.b=Er R S (Fb l) back a.v a.d)/\l.length<=n/\∀a∈l,Ac n a.v/\0<=a.d/\a.d<=211106232532992
theorem Bc3 (R:List Int) (S:List SC) (back:Bool) (l:List LB):∀a∈withB R S back l,a.b=Er R S (Fb (withB R S back l)) back a.v a.d:=by
 have hl:Fb (withB R S back l)=Fb l:=Og (by simp [withB,Function.comp_def]);intro a ha;rw [hl];unfold withB at ha;obtain ⟨y,_,rfl⟩:=List.mem_map.1 ha;rfl
theorem Vd (hb n:Nat) (es:List EdgeD) (R:List Int) (S:List SC) (ro:List Int) (back:Bool) (s:Nat) (w:World) (hh:HierM w hb n es R S (An R S n S.length).1 (An R S n S.length).2) (hok:HierOK es n R S ro) (hn:n<=12) (hs:s<n):
  Calls Tryz.prog 88 #[.pointer (some ⟨hb,0,none⟩),.int .i64 (s:Int),.bool back] w (Vl es n R S ro back s w):=by
 have HH:=Bm0 (fun W (hz:Below w.heap.size w W)=>hh.same (fun k hk=>hz.block k hk));have HSA:=Bm0 (Kd hb n es R S ro s back w hh hok hn hs);have HSW:=Bm0 (fun l ao cap W (hz:Below w.heap.size w W) hc hsp hl=>Am3 hb n es R S ro back s l ao cap W (hh.go hz) hok hn hs hc hsp hl);have HOK:=Bm0 hok;unfold Hy at HSA;unfold Pe at HSW;clear hh hok
 go_enter Tryz.func88,Tryz.ntmps88
 go_upto_region 4 with (go_at_call 123;refine HSA.out.mono ?_;rintro e w1 ⟨ao,cap,l,rfl,h1,h2,h3,h4,h5,h6⟩;(have HC1:=Bm0 h1);(have HB1:=Bm0 h2);(have HS1:=Bm0 h3);(have HL1:=Bm0 (And.intro h4 h5));(have HO1:=Bm0 h6);clear h1 h2 h3 h4 h5 h6)
 go_upto_region 5 with (go_at_call 144;refine (HSW.out l ao cap w1 HB1.out HC1.out HS1.out HL1.out.1).mono ?_;rintro e w2 ⟨fb,f,rfl,h1,h2,h3,h4,h5⟩;(have HF2:=Bm0 h1);(have HFL:=Bm0 h2);(have HFB:=Bm0 h3);(have HB2:=Bm0 h4);(have HFV:=Bm0 h5);clear h1 h2 h3 h4 h5)
 obtain ⟨W3,hW3⟩:∃W3,W3=w2.alloc (Obj.cells #[.slice (some ⟨fb,0,none⟩) n n] 60):=⟨_,rfl⟩;rw [<-hW3];have hb23:Below w2.heap.size w2 W3:=by rw [hW3];exact Below.of_al _ _
 have cB:W3.cell? ⟨w2.heap.size,0,none⟩=some (.slice (some ⟨fb,0,none⟩) n n):=by rw [hW3];go_simp
 have hL:=Me HOK.out HS1.out hs hn;have hrow:∀k,(Value.slice ao l.length cap).ownBlock=some k->k<w1.heap.size:=fun k e=>(HO1.out.lt k e).2;have HDEL:=Bm0 (Af4 w.heap.size #[.pointer (some ⟨w2.heap.size,0,none⟩)] (fun a=>decide (gD f a.v<a.d)) l ao cap W3 (Ag (Ag HO1.out HB2.out) hb23) (fun W x ho hx=>by
  have hs2:=HB2.out.size;have hfb:=HFB.out;refine Af1 x w2.heap.size fb n f W (ho.cell cB (fun e=>by have h9:w2.heap.size<w1.heap.size:=hrow _ e;omega)) ?_ HFL.out (hL x hx).1;exact Ev (HF2.out.go hb23) ho (n:=n) (c:=n) (fun k hk e=>by cases hk;have h9:fb<w1.heap.size:=hrow _ e;omega)) (by have:=HL1.out.1;omega))
 have hex:=Aq8 (HOK.out.hierB back) (fun v=>by unfold rk;omega) HS1.out HL1.out.2 (fun x hx=>⟨(hL x hx).1,by have:=(hL x hx).2.2;unfold FAR;omega⟩) HFV.out;have HEX:=Bm0 hex;have HSUB:=Bm0 (show ∀a∈Sh f l,Ac n a.v/\0<=a.d/\a.d<=211106232532992 from fun a ha=>hL a (List.mem_filter.1 ha).1);have HLEN:=Bm0 (show (Sh f l).length<=n from Bm4 (List.length_filter_le _ _) HL1.out.1);have HB3:=Bm0 ((HB1.out.st HB2.out).st hb23);have HRW:=Bm0 (fun k (e:(Value.slice ao l.length cap).ownBlock=some k)=>And.intro (HO1.out.lt k e).1 (show k<W3.heap.size from by have h1:=hrow k e;have h2:=HB2.out.size;have h3:=hb23.size;omega));unfold Tc at HDEL;rw [show l.filter (fun a=>!decide (gD f a.v<a.d))=Sh f l from rfl] at HDEL;clear hW3 hL hrow hex hb23 cB HSA HSW HC1 HB1 HS1 HL1 HO1 HF2 HFL HFB HB2 HFV;generalize Sh f l=out at*
 go_upto_region 7 with (go_at_call 145;refine HDEL.out.mono ?_;rintro e w4 ⟨rfl,h1,h2⟩;(have HO4:=Bm0 h1);(have HF4:=Bm0 h2);clear h1 h2)
 obtain ⟨W5,hW5⟩:∃W5,W5=w4.alloc (Obj.cells #[.pointer (some ⟨hb,0,none⟩),.bool back] 228):=⟨_,rfl⟩;rw [<-hW5];have hb45:Below w4.heap.size w4 W5:=by rw [hW5];exact Below.of_al _ _
 have c0:W5.cell? ⟨w4.heap.size,0,none⟩=some (.pointer (some ⟨hb,0,none⟩)):=by rw [hW5];go_simp
 have c1:W5.cell? ⟨w4.heap.size,1,none⟩=some (.bool back):=by rw [hW5];go_simp
 have hrow4:∀k,(Value.slice ao out.length cap).ownBlock=some k->w.heap.size<=k/\k≠w4.heap.size:=fun k e=>by
  have h1:=HRW.out k (by cases ao<;>exact e);have h2:=HF4.out.size;omega
 have HRO:=Bm0 hrow4;have hbl4:Below w.heap.size w w4:=HB3.out.trans (HF4.out.below HB3.out.size (fun k e=>(HRW.out k e).1));have HO5:=Bm0 (show W5.ownsRow w.heap.size 150 3 (.slice ao out.length cap) out.length (Ap (Gh R S back out 0)) by rw [Ao1];exact Ag HO4.out hb45);have HB5:=Bm0 (hbl4.st hb45);have HCW:=Bm0 (And.intro c0 c1);have hl2:(out.length:Int)<=12:=by have:=HLEN.out;omega
 clear hW5 hb45 c0 c1 hrow4 hbl4 HO4 HF4 HB3 HRW HDEL
 go_wp2
 go_loopg [34] out.length (fun gg v34 wr=>∃k:Nat,k<=out.length/\out.length-k<=gg/\v34=.int .i64 k/\Aside (wr.ownsRow w.heap.size 150 3 (.slice ao out.length cap) out.length (Ap (Gh R S back out k)))/\Aside (Below w.heap.size w wr)/\Aside (wr.cell? ⟨w4.heap.size,0,none⟩=some (.pointer (some ⟨hb,0,none⟩))/\wr.cell? ⟨w4.heap.size,1,none⟩=some (.bool back)))
 case atStart=>exact ⟨0,Bm3 _,by omega,rfl,HO5.out,HB5.out,HCW.out⟩
 case round=>
  clear HO5 HB5 HCW;obtain ⟨k,hk,hgg,rfl,HO,HB,HX⟩:=hrel
  by_cases hlt:k<out.length
  ·have hlt3:(k:Int)<(out.length:Int):=by omega
   have hk0:(0:Int)<=(k:Int):=by omega
   have hml:(Gh R S back out k).length=out.length:=Yk;obtain ⟨g,cg,e⟩:=Ao HO.out (by omega)
   cases e
   obtain ⟨x0,x1,x2⟩:=Fy (Gh R S back out k) k (by omega);have hmk:(Gh R S back out k)[k]'(by omega)=out[k]:=Bo9 ((Bm5 (by omega)).symm.trans (Yl hlt));rw [hmk] at x0 x1 x2;have y0:=(HO.out.cellAt (k*3) (by omega)).trans x0;have y1:=(HO.out.cellAt (k*3+1) (by omega)).trans x1;have y2:=(HO.out.cellAt (k*3+2) (by omega)).trans x2;have zf:=HO.out.frozenAt (k*3+2);obtain ⟨ao9,cap9,e9,hce⟩:=Cel.of_owns HO.out
   cases e9
   have HFI:=Bm0 (fun p=>Ap9 hb n es R S (An R S n S.length).1 (An R S n S.length).2 (Gh R S back out k) (some ⟨g,0,none⟩) cap out[k] back (ext wr p) (HH.out _ (HB.out.st (Ah wr p))) (fun x hx=>by
     have h1:=HOK.out.ends x hx;have h2:=HOK.out.big x hx;have h3:=Zs hn;exact ⟨h1.1,h1.2.1,by omega,by omega⟩) (hce.go (Ah wr p)) (by omega) (fun x hx=>by
     have hv:(x.v,x.d)∈out.map (fun a=>(a.v,a.d)):=by rw [<-Ai7 R S back out k];exact List.mem_map.2 ⟨x,hx,rfl⟩
     obtain ⟨y,hy,e⟩:=List.mem_map.1 hv;have h1:=HSUB.out y hy;have e2:y.d=x.d:=(Prod.mk.inj e).2;omega))
   rw [Og (Ai7 R S back out k)] at HFI;have HST:=Bm0 (show (Ap (Gh R S back out k)).set (k*3+2) (.int .i64 (Er R S (Fb out) back out[k].v out[k].d))=Ap (Gh R S back out (k+1)) by rw [Sg _ k out[k] _ (Yl hlt),Aw4 hlt]);obtain ⟨c0,c1⟩:=HX.out;rw [hml] at HFI;clear x0 x1 x2 hce hmk HX;generalize out[k]=a at*;obtain ⟨av,ad,ab⟩:=a;simp only [Jd] at y0 y1 y2 HFI HST;generalize Er R S (Fb out) back av ad=r at*;have e0:=fun p=>Ab p c0;have e1:=fun p=>Ab p c1;have e2:=fun p=>Ab p y0;have e3:=fun p=>Ab p y1;have e4:=fun p=>Ab p y2
   go_upto_region 10 with (fail)
   refine Gc 11 (by kernel_rfl) (by kernel_rfl) ?_;simp only [List.take_succ_cons,List.take_zero,List.drop_succ_cons,List.drop_zero]
   repeat (go_big_quiet_step ((go_at_call 147;exact Calls.ext_of (HFI.out _))))
   refine wpQuiet_nil ?_;rintro _ ⟨p5,rfl⟩;have HB5:=Bm0 (Ah wr p5);generalize ext wr p5=w5 at HB5 ⊢;have z5:=(HB5.out.frozen (p:=⟨g,k*3+2,none⟩) (Bn0 _ _ y2)).trans zf;have q5:=Bm1 HB5.out y2;have HO6:=Bm0 (show (w5.setCell ⟨g,k*3+2,none⟩ (.int .i64 r)).ownsRow w.heap.size 150 3 (.slice (some ⟨g,0,none⟩) out.length cap) out.length (Ap (Gh R S back out (k+1))) by
    have h9:=((Ag HO.out HB5.out).stored (k*3+2) (.int .i64 r)).1;rw [HST.out] at h9;exact h9)
   have hgb:=HRO.out g rfl;have HB6:=Bm0 (show Below w.heap.size w (w5.setCell ⟨g,k*3+2,none⟩ (.int .i64 r)) from (HB.out.st HB5.out).setCell hgb.1 _);have HX6:=Bm0 (show (w5.setCell ⟨g,k*3+2,none⟩ (.int .i64 r)).cell? ⟨w4.heap.size,0,none⟩=some (.pointer (some ⟨hb,0,none⟩))/\(w5.setCell ⟨g,k*3+2,none⟩ (.int .i64 r)).cell? ⟨w4.heap.size,1,none⟩=some (.bool back) from
    ⟨(Bo7 (a:=⟨w4.heap.size,0,none⟩) (Below.heap_setCell _ _ _ _ (fun e=>hgb.2 e.symm))).trans (Bm1 HB5.out c0),(Bo7 (a:=⟨w4.heap.size,1,none⟩) (Below.heap_setCell _ _ _ _ (fun e=>hgb.2 e.symm))).trans (Bm1 HB5.out c1)⟩)
   clear e0 e1 e2 e3 e4 y0 y1 y2 c0 c1 zf HFI hgb
   go_wp2
   go_roundg (out.length-(k+1))
   case measure=>omega
   case rel=>exact ⟨k+1,by omega,Bm2 _,by go_num,HO6.out,HB6.out,HX6.out⟩
  ·obtain rfl:k=out.length:=by omega
   have hO:=HO.out;rw [Aw5] at hO;obtain ⟨ao9,cap9,e9,hce⟩:=Cel.of_owns hO
   cases e9
   have HC9:=Bm0 hce;have HL9:=Bm0 (Kb R S back out);clear hO hce
   go_wp2
   refine bodyPost_ret (v:=.tuple #[.slice ao out.length cap,.int .i64 0]) (by simp [results,Tryz.results88,go_sem];try rfl) rfl ?_;exact ⟨ao,cap,withB R S back out,by rw [HL9.out],HC9.out,HB.out,HEX.out.withB R S back,Bc3 R S back out,by rw [HL9.out];exact HLEN.out,fun a ha=>by
    unfold withB at ha;obtain ⟨y,hy,rfl⟩:=List.mem_map.1 ha;exact HSUB.out y hy⟩
end
section
open Go Go.Proofs Go.RowKit Go.Shelf Hp Ch
end
section
open Go Go.Proofs Go.RowKit Go.Shelf Hp Ch
theorem Zo (W:World) (x y z:Value) (T:TypeId):Cel (W.alloc (Obj.cells #[x,y,z] T)) (some ⟨W.heap.size,0,none⟩) [x,y,z]:=by
 intro j u hj;have h:=So W x y z T j u hj;rw [Addr.add_lit] at h;exact ⟨_,_,rfl,h⟩
abbrev exE:List EdgeD:=[⟨0,1,3⟩]
theorem Ot {u v w:Int}:Am exE u v w↔u=0/\v=1/\w=3:=by
 unfold Am exE;constructor
 ·rintro ⟨x,hx,h1,h2,h3⟩
  rw [Bn7] at hx;subst hx;exact ⟨h1.symm,h2.symm,h3.symm⟩
 ·rintro ⟨rfl,rfl,rfl⟩
  exact ⟨_,Bn7.2 rfl,rfl,rfl,rfl⟩
theorem Af2:∀u v w,Am exE u v w->1<=w:=by
 intro u v w h;obtain ⟨_,_,rfl⟩:=Ot.1 h
 decide
theorem Az2 {p:Int->Prop} {u v d:Int} (h:Ch.Way (Am exE) p u v d):u=0/\v=1/\d=3:=by
 induction h with
 |one h=>exact Ot.1 h
 |cons h1 _ _ ih=>
  obtain ⟨_,h2,_⟩:=Ot.1 h1;obtain ⟨h3,_⟩:=ih;rw [h2] at h3
  cases h3
theorem Bf3 {d k:Int} (h:DistIs 2 (Am exE) 0 1 d k):d=3/\k=0:=by
 have hw:Way0 (Am exE) Any 0 1 3:=.inr (.one (Ot.2 ⟨rfl,rfl,rfl⟩))
 rcases h with ⟨hk,_,_,h,_⟩|⟨_,_,_,_,h⟩|⟨_,_,h⟩
 ·refine ⟨?_,hk⟩
  rcases h.1 with ⟨e,_⟩|h
  ·cases e
  ·exact (Az2 h).2.2
 ·exact absurd hw (h _)
 ·exact absurd ⟨⟨by decide,by decide⟩,⟨by decide,by decide⟩⟩ h
theorem Aj9 {d k:Int} (h:DistIs 2 (Am exE) 1 1 d k):d=0/\k=0:=by
 have hw:=Dist.self (A:=Am exE) Af2 1
 rcases h with ⟨hk,_,_,h,_⟩|⟨_,_,_,_,h⟩|⟨_,_,h⟩
 ·exact ⟨h.uniq hw,hk⟩
 ·exact absurd hw.1 (h _)
 ·exact absurd ⟨⟨by decide,by decide⟩,⟨by decide,by decide⟩⟩ h
theorem BltPost.good {g:GD} {k:Int} {w w':World} {e:Ending} (h:BltPost g k w e w') (hk:k=0) (hg:Ak g=0) (hn:g.n<=12):∃hb R S ro,e=.returned (.tuple #[.pointer (some ⟨hb,0,none⟩),.int .i64 0])/\BH w' hb g.n.toNat g.es R S ro/\Below w.heap.size w w':=by
 obtain ⟨h1|h1,h2⟩:=h
 ·obtain ⟨_,hb,R,S,ro,e,hm,ho⟩:=h1
  have:=Ke hg;exact ⟨hb,R,S,ro,e,⟨hm,ho,by omega,by omega⟩,h2⟩
 ·exact absurd hk h1.1
end
section
open Go Go.Proofs Go.RowKit Go.Shelf Hp Ch
theorem Bb0 (s t:Int) (w:World):Calls Tryz.prog 141 #[.pointer none,.int .i64 s,.int .i64 t] w fun e w'=>e=.returned (.tuple #[.slice none 0 0,.slice none 0 0,.int .i64 1])/\Below w.heap.size w w':=by
 have HA:=Bm0 (Am4 s false w)
 go_enter Tryz.func141,Tryz.ntmps141
 go_wp2_with (go_at_call 123;refine HA.out.mono ?_;rintro e w1 ⟨rfl,h2⟩;(have H1:=Bm0 h2);clear h2)
 refine bodyPost_ret (v:=.tuple #[.slice none 0 0,.slice none 0 0,.int .i64 1]) (by simp [results,Tryz.results141,go_sem];try rfl) rfl ?_;exact ⟨rfl,H1.out⟩
theorem Az8 (s t:Int) (w:World):Calls Tryz.prog 87 #[.pointer none,.int .i64 s,.int .i64 t] w fun e w'=>e=.returned (.tuple #[.int .u64 0,.int .i64 1])/\Below w.heap.size w w':=by
 have HA:=Bm0 (Bb0 s t w)
 go_enter Tryz.func87,Tryz.ntmps87
 go_wp2_with (go_at_call 141;refine HA.out.mono ?_;rintro e w1 ⟨rfl,h2⟩;(have H1:=Bm0 h2);clear h2)
 refine bodyPost_ret (v:=.tuple #[.int .u64 0,.int .i64 1]) (by simp [results,Tryz.results87,go_sem];try rfl) rfl ?_;exact ⟨rfl,H1.out⟩
end
section
namespace Vi
open Go Go.Proofs Go.RowKit Go.Shelf Hp Ch
def Nz (f:Int->Option Int) (l:List LB):List Int:=(l.filter fun x=>(f x.v).isSome).map (·.v)
theorem Am9 {f:Int->Option Int} {l:List LB} {k:Nat} (h:k<l.length):Nz f (l.take (k+1))=if (f l[k].v).isSome then Nz f (l.take k)++[l[k].v] else Nz f (l.take k):=by
 unfold Nz;rw [Bn8 h,List.filter_append,Bq1]
 cases h9:(f l[k].v).isSome
 ·simp [h9]
 ·simp [h9]
theorem Xo (f:Int->Option Int) (l:List LB):(Nz f l).length<=l.length:=by
 unfold Nz;rw [Bq2];exact List.length_filter_le _ _
def VnIs (n:Nat) (es:List EdgeD) (ro:List Int) (s t:Int) (L:List Int) (k:Int):Prop:=
 (k=0/\Ac n s/\Ac n t/\(∃d,Dist (Am es) s t d)/\L.Pairwise (· <·)/\L.length<=n/\∀v,v∈L↔(∃d,Peak (Bd false (Am es)) (rk ro) s v d)/\∃d,Peak (Bd true (Am es)) (rk ro) t v d)\/(k≠0/\L=[]/\DistIs n (Am es) s t 0 k)
def Jz (n:Nat) (es:List EdgeD) (ro:List Int) (s t:Int) (w:World) (e:Ending) (w':World):Prop:=
 ∃(ao:Option Addr) (cap:Nat) (L:List Int) (k:Int),e=.returned (.tuple #[.slice ao L.length cap,.int .i64 k])/\Cel w' ao (L.map Ai)/\Below w.heap.size w w'/\VnIs n es ro s t L k
theorem Pk (s t:Int) (w:World):Calls Tryz.prog 38 #[.pointer none,.int .i64 s,.int .i64 t] w fun e w'=>e=.returned (.tuple #[.slice none 0 0,.int .i64 1])/\Below w.heap.size w w':=by
 have HD:=Bm0 (Az8 s t w)
 go_enter Tryz.func38,Tryz.ntmps38
 go_wp2_with (go_at_call 87;refine HD.out.mono ?_;rintro e w1 ⟨rfl,hb1⟩;(have HB1:=Bm0 hb1);clear hb1)
 refine bodyPost_ret (v:=.tuple #[.slice none 0 0,.int .i64 1]) (by simp [results,Tryz.results38,go_sem];try rfl) rfl ?_;exact ⟨rfl,HB1.out⟩
theorem Jh (hb n:Nat) (es:List EdgeD) (R:List Int) (S:List SC) (ro:List Int) (s t:Int) (w:World) (h:BH w hb n es R S ro):
  Calls Tryz.prog 38 #[.pointer (some ⟨hb,0,none⟩),.int .i64 s,.int .i64 t] w (Jz n es ro s t w):=by
 have HD:=Bm0 (Az9 hb n es R S ro s t w h);have hmm:=@run_makeMap Tryz.prog;have HH:=Bm0 (fun U (hz:Below w.heap.size w U)=>h.go hz);have hle:=h.le;unfold DistPost at HD;unfold Jz;clear h
 go_enter Tryz.func38,Tryz.ntmps38
 go_upto_region 2 with (go_at_call 87;refine HD.out.mono ?_;rintro e w1 ⟨⟨d,k,rfl,h1⟩,h2⟩;(have HI:=Bm0 h1);(have HB1:=Bm0 h2);clear h1 h2)
 rcases HI.out with ⟨rfl,hs,ht,hd,_⟩|hbad
 ·obtain ⟨s,rfl⟩:∃q:Nat,s=(q:Int):=⟨s.toNat,by have:=hs.1;omega⟩
  obtain ⟨t,rfl⟩:∃q:Nat,t=(q:Int):=⟨t.toNat,by have:=ht.1;omega⟩;have hsn:s<n:=by have:=hs.2;omega
  have htn:t<n:=by have:=ht.2;omega
  have HST:=Bm0 (And.intro hs (And.intro ht (Exists.intro d hd)));have HXA:=Bm0 (fun U (hz:Below w.heap.size w U)=>Vd hb n es R S ro false s U (HH.out U hz).mem (HH.out U hz).ok hle hsn);have HXB:=Bm0 (fun U (hz:Below w.heap.size w U)=>Vd hb n es R S ro true t U (HH.out U hz).mem (HH.out U hz).ok hle htn);unfold Vl at HXA HXB;clear hs ht hd HD HI
  go_upto_region 6 with (first
   |(go_at_call_of 88 (#[.pointer (some ⟨hb,0,none⟩),.int .i64 (s:Int),.bool false]:Array Value);refine (HXA.out _ HB1.out).mono ?_;rintro e w2 ⟨ao,ca,la,rfl,h1,h2,h3,-,h5,h6⟩;(have HC2:=Bm0 h1);(have HB2:=Bm0 (HB1.out.st h2));(have HEA:=Bm0 h3);(have HLA:=Bm0 (And.intro h5 h6));clear h1 h2 h3 h5 h6)
   |(go_at_call_of 88 (#[.pointer (some ⟨hb,0,none⟩),.int .i64 (t:Int),.bool true]:Array Value);refine (HXB.out _ HB2.out).mono ?_;rintro e w3 ⟨bo,cb,lb,rfl,h1,h2,h3,-,h5,h6⟩;(have HD3:=Bm0 h1);(have HC3:=Bm0 (HC2.out.go h2));(have HB3:=Bm0 (HB2.out.st h2));(have HEB:=Bm0 h3);(have HLB:=Bm0 (And.intro h5 h6));clear h1 h2 h3 h5 h6))
  have HM0:=Bm0 (MapW.new w3);have hbl:(lb.length:Int)<=12:=by have:=HLB.out.1;omega
  have hal:(la.length:Int)<=12:=by have:=HLA.out.1;omega
  go_wp2
  go_loopg [46] lb.length (fun gm v46 wr=>∃k:Nat,k<=lb.length/\lb.length-k<=gm/\v46=.int .i64 k/\Aside (MapW wr w3.heap.size k (byF (lb.take k)))/\Aside (Below w3.heap.size w3 wr))
  case atStart=>exact ⟨0,Bm3 _,by omega,rfl,by rw [List.take_zero];exact HM0.out,Below.of_al _ _⟩
  case round=>
   obtain ⟨k,hk,hg,rfl,HM,HB⟩:=hrel
   by_cases hlt:k<lb.length
   ·have hlt2:(k:Int)<(lb.length:Int):=by omega
    have hk0:(0:Int)<=(k:Int):=by omega
    obtain ⟨qb,qo,rfl,y0,y1,y2⟩:=(HD3.out.go HB.out).lab hlt;obtain ⟨i1,i2,i3⟩:=HLB.out.2 lb[k] (Bn2 hlt);have HTK:=Bm0 (Sq hlt);generalize lb[k]=x at*;obtain ⟨w2',hup,hm2,ho2⟩:=(HM.out.go (Below.of_al wr (Obj.cells #[.int .i64 x.v,.int .u64 x.d,.int .i64 x.b] 150))).put (by omega) (u:=x.v) (x:=x.d) (Wk i1 hle) ⟨i2,by omega⟩;have HM2:=Bm0 (show MapW w2' w3.heap.size (k+1) (byF (lb.take (k+1))) by rw [HTK.out];exact hm2);have HB2':=Bm0 (show Below w3.heap.size w3 w2' from (HB.out.st (Below.of_al wr _)).trans (ho2.below ((HB.out.st (Below.of_al wr (Obj.cells #[.int .i64 x.v,.int .u64 x.d,.int .i64 x.b] 150))).size) (fun j hj=>by have e:j=w3.heap.size:=hj;omega)));clear hm2 ho2 i1 i2 i3
    go_wp2
    go_roundg (lb.length-(k+1))
    case measure=>omega
    case rel=>exact ⟨k+1,by omega,Bm2 _,by go_num,HM2.out,HB2'.out⟩
   ·obtain rfl:k=lb.length:=by omega
    have HM4:=Bm0 (show MapW wr w3.heap.size lb.length (byF lb) by have:=HM.out;rw [Bq6] at this;exact this);have HB4:=Bm0 HB.out;have HBw:=Bm0 (HB3.out.st HB.out);have HC4:=Bm0 (HC3.out.go HB.out);clear HM HB hlt hg hk HM0;generalize wr=w4 at*;have HSEL:=Bm0 (fun k (hk:k<la.length)=>Am9 (f:=byF lb) hk);have HSL:=Bm0 (fun k=>Bm4 (Xo (byF lb) (la.take k)) (show (la.take k).length<=12 by rw [List.length_take];omega));have HS0:=Bm0 (show Nz (byF lb) (la.take 0)=[] from rfl);have HSE:=Bm0 (show Nz (byF lb) (la.take la.length)=Nz (byF lb) la by rw [Bq6]);obtain ⟨pk,hpk⟩:∃pk:Nat->List Int,pk=fun k=>Nz (byF lb) (la.take k):=⟨_,rfl⟩;have HPE:=Bm0 hpk;clear hpk
    go_wp2
    go_loopg [6,58] la.length (fun gm v6 v58 wr=>∃k:Nat,k<=la.length/\la.length-k<=gm/\v58=.int .i64 k/\Aside (wr.ownsRow w4.heap.size 3 1 v6 (pk k).length ((pk k).map Ai))/\Aside (Below w4.heap.size w4 wr))
    case atStart=>exact ⟨0,Bm3 _,by omega,rfl,by rw [HPE.out];exact World.ownsRow_nil _ _ _ _,Below.refl _ _⟩
    case round=>
     obtain ⟨k,hk,hg,rfl,HR,HB⟩:=hrel
     by_cases hlt2:k<la.length
     ·have hlt3:(k:Int)<(la.length:Int):=by omega
      have hk0:(0:Int)<=(k:Int):=by omega
      have HST9:=Bm0 (show pk (k+1)=if (byF lb la[k].v).isSome then pk k++[la[k].v] else pk k by rw [HPE.out];exact HSEL.out k hlt2);have HPL:=Bm0 (show (pk k).length<=12 by rw [HPE.out];exact HSL.out k);obtain ⟨qb,qo,rfl,y0,y1,y2⟩:=(HC4.out.go HB.out).lab hlt2;obtain ⟨i1,i2,i3⟩:=HLA.out.2 la[k] (Bn2 hlt2);have i6:=Wk i1 hle;generalize la[k]=x at*;have lk:=((HM4.out.go HB.out).go (Below.of_al wr (Obj.cells #[.int .i64 x.v,.int .u64 x.d,.int .i64 x.b] 150))).look i6;have HB2':=Bm0 (HB.out.st (Below.of_al wr (Obj.cells #[.int .i64 x.v,.int .u64 x.d,.int .i64 x.b] 150)));have HR2:=Bm0 (World.ownsRow.alloc HR.out (Obj.cells #[.int .i64 x.v,.int .u64 x.d,.int .i64 x.b] 150))
      cases hy:byF lb x.v with
      |none=>
       rw [hy] at lk;have HST2:=Bm0 (show pk (k+1)=pk k by rw [HST9.out,hy];rfl);simp only [Option.isSome,Option.getD] at lk;clear hy i1 i6 i2 i3
       go_wp2
       go_roundg (la.length-(k+1))
       case measure=>omega
       case rel=>exact ⟨k+1,by omega,Bm2 _,by go_num,by rw [HST2.out];exact HR2.out,HB2'.out⟩
      |some y=>
       rw [hy] at lk;have HST2:=Bm0 (show pk (k+1)=pk k++[x.v] by rw [HST9.out,hy];rfl);simp only [Option.isSome,Option.getD] at lk;clear hy i1 i6 i2 i3 HST9;generalize pk k=row at*
       go_wp2_with (at_builtin;go_must (refine Ca w4.heap.size 3 _ 1 8 Ce Tryz.underlying25 _ row.length (row.map Ai) ⟨wr.heap.size+1,0,none⟩ 1 1 [.int .i64 x.v] rfl rfl (World.ownsRow.alloc HR2.out _) (Ef _ _ _ (by simp)) (Cd rfl) ⟨rfl,by decide,(by have:=HPL.out;omega),(by have:=HPL.out;omega),(by have:=HB2'.out.size;simp at this;simp;omega)⟩ ?_);intro g6 cap6 w6 hown6 hgrow6 hbl6 hat6 hlt6;(have HO6:=Bm0 hown6);(have HB6:=Bm0 ((HB2'.out.al _).trans hbl6));clear hown6 hgrow6 hbl6 hat6 hlt6)
       go_roundg (la.length-(k+1))
       case measure=>omega
       case rel=>exact ⟨k+1,by omega,Bm2 _,by go_num,by rw [HST2.out,Bp0,Bq1];exact HO6.out,HB6.out⟩
     ·obtain rfl:k=la.length:=by omega
      have HFE:=Bm0 (show pk la.length=Nz (byF lb) la by rw [HPE.out];exact HSE.out)
      go_wp2
      obtain ⟨ao9,cap9,rfl,hce9⟩:=Cel.of_owns HR.out;refine bodyPost_ret (v:=.tuple #[.slice ao9 (pk la.length).length cap9,.int .i64 0]) (by simp [results,Tryz.results38,go_sem];try rfl) rfl ?_;refine ⟨ao9,cap9,pk la.length,0,rfl,hce9,HBw.out.st HB.out,?_⟩;rw [HFE.out];obtain ⟨ea1,ea2⟩:=HEA.out;obtain ⟨eb1,eb2⟩:=HEB.out;have HSV:=Bm0 (fun v=>(show (∃x∈la,x.v=v)↔∃d,Peak (Bd false (Am es)) (rk ro) (s:Int) v d from
       ⟨fun ⟨x,hx,e⟩=>⟨x.d,(ea2 v x.d).1 ⟨x,hx,e,rfl⟩⟩,fun ⟨d,hd⟩=>by obtain ⟨x,hx,e,_⟩:=(ea2 v d).2 hd;exact ⟨x,hx,e⟩⟩))
      have HTV:=Bm0 (fun v=>(show (∃x∈lb,x.v=v)↔∃d,Peak (Bd true (Am es)) (rk ro) (t:Int) v d from
       ⟨fun ⟨x,hx,e⟩=>⟨x.d,(eb2 v x.d).1 ⟨x,hx,e,rfl⟩⟩,fun ⟨d,hd⟩=>by obtain ⟨x,hx,e,_⟩:=(eb2 v d).2 hd;exact ⟨x,hx,e⟩⟩))
      refine .inl ⟨rfl,HST.out.1,HST.out.2.1,HST.out.2.2,?_,?_,fun v=>?_⟩
      ·unfold Nz
       rw [List.pairwise_map];exact ea1.filter _
      ·exact Bm4 (Xo _ _) HLA.out.1
      ·have hpw:lb.Pairwise (fun a b=>a.v≠b.v):=eb1.imp (fun h=>by omega)
       rw [<-HSV.out v,<-HTV.out v];unfold Nz;simp only [List.mem_map,List.mem_filter];constructor
       ·rintro ⟨x,⟨hx,hs⟩,rfl⟩
        refine ⟨⟨x,hx,rfl⟩,?_⟩;obtain ⟨y,hy⟩:=Option.isSome_iff_exists.1 hs;obtain ⟨z,hz,hz1,_⟩:=(Hx lb hpw _ _).1 hy;exact ⟨z,hz,hz1⟩
       ·rintro ⟨⟨x,hx,rfl⟩,z,hz,hz1⟩
        refine ⟨x,⟨hx,?_⟩,rfl⟩;rw [(Hx lb hpw x.v z.d).2 ⟨z,hz,hz1,rfl⟩];rfl
 ·have hk0:k≠0:=by
   rcases hbad with ⟨h,_⟩|⟨h,_⟩<;>omega
  have hk2:(k != 0)=true:=by simpa using hk0
  have HBD:=Bm0 (show DistIs n (Am es) s t 0 k by
   rcases hbad with ⟨h1,h2,h3⟩|⟨h1,h2,h3⟩
   ·exact .inr (.inl ⟨h1,rfl,h3⟩)
   ·exact .inr (.inr ⟨h1,rfl,h3⟩))
  have HK0:=Bm0 hk0;clear hbad hk0
  go_wp2
  refine bodyPost_ret (v:=.tuple #[.slice none 0 0,.int .i64 k]) (by simp [results,Tryz.results38,go_sem];try rfl) rfl ?_;exact ⟨none,0,[],k,rfl,Cel.nil _ _,HB1.out,.inr ⟨HK0.out,rfl,HBD.out⟩⟩
end Vi
end
section
namespace Dj
open Ch
structure Dj (X:Nums) (s:Int) (far:Int->Option Int) (l:List (Int×Int)) (cur:Int) (out:List (Int×Int)) (done:Int->Int->Prop):Prop where
 sound:∀v d,far v=some d->Way0 X.rel Any s v d
 start:far s=some 0
 heap:∀v k,(v,k)∈l->far v=some k/\cur<=k
 lab:∀a∈out,far a.1=some a.2/\a.2<=cur/\(∀k,(a.1,k)∉l)/\Dist X.rel s a.1 a.2
 rest:∀v d,far v=some d->(v,d)∈l\/∃a∈out,a.1=v
 gone:∀a∈out,∀i v w,done a.1 i->X i a.1 v w->∃e,far v=some e/\e<=a.2+w
 once:out.Pairwise (fun a b=>a.1≠b.1)
 low:0<=cur
variable {X:Nums} {s:Int} {far:Int->Option Int} {l:List (Int×Int)} {cur:Int} {out:List (Int×Int)} {done:Int->Int->Prop}
theorem Dj.begin (X:Nums) (s:Int) (done:Int->Int->Prop):Dj X s (upd (fun _=>none) s (some 0)) [(s,0)] 0 [] done:=by
 refine ⟨?_,Ax _ _ _,?_,by simp,?_,by simp,.nil,Int.le_refl _⟩
 ·intro v d h
  by_cases e:v=s
  ·subst e
   rw [Ax] at h
   cases h
   exact .inl ⟨rfl,rfl⟩
  ·rw [As _ _ e] at h
   cases h
 ·intro v k h
  simp at h;obtain ⟨rfl,rfl⟩:=h;exact ⟨Ax _ _ _,Int.le_refl _⟩
 ·intro v d h
  by_cases e:v=s
  ·subst e
   rw [Ax] at h
   cases h
   exact .inl (by simp)
  ·rw [As _ _ e] at h
   cases h
theorem Dj.front (hA:∀u v w,X.rel u v w->1<=w) (h:Dj X s far l cur out done) (hd:∀a∈out,∀i v w,X i a.1 v w->done a.1 i):∀(k:Nat) (v e:Int),e.toNat<=k->Way0 X.rel Any s v e->(∃a∈out,a.1=v/\a.2<=e)\/∃y∈l,y.2<=e
 |k,v,e,hk,hw=>by
  rcases hw with ⟨rfl,rfl⟩|hw
  ·rcases h.rest _ _ h.start with h1|⟨a,ha,h1⟩
   ·exact .inr ⟨_,h1,Int.le_refl _⟩
   ·have:=(h.lab a ha).1
    rw [h1,h.start] at this;exact .inl ⟨a,ha,h1,by have:=Bo9 this;omega⟩
  ·have hpos:=hw.pos hA
   obtain ⟨m,w,h1,h2⟩:=hw.lastArc;have hw1:=hA _ _ _ h1;have h3:Way0 X.rel Any s m (e-w):=by
    rcases h2 with ⟨rfl,rfl⟩|⟨_,h2⟩
    ·exact .inl ⟨rfl,by omega⟩
    ·exact .inr h2
   have h4:=h3.nonneg hA
   cases k with
   |zero=>omega
   |succ k=>
    rcases Dj.front hA h hd k m (e-w) (by omega) h3 with ⟨a,ha,rfl,h5⟩|⟨y,hy,h5⟩
    ·obtain ⟨i,hi⟩:=h1
     obtain ⟨f,h6,h7⟩:=h.gone a ha i v w (hd a ha i v w hi) hi
     rcases h.rest _ _ h6 with h8|⟨b,hb,rfl⟩
     ·exact .inr ⟨_,h8,by show f<=e;omega⟩
     ·have:=(h.lab b hb).1
      rw [h6] at this;have:=Bo9 this;exact .inl ⟨b,hb,rfl,by omega⟩
    ·exact .inr ⟨y,hy,by omega⟩
theorem Dj.pop (hA:∀u v w,X.rel u v w->1<=w) (h:Dj X s far l cur out done) (hd:∀a∈out,∀i v w,X i a.1 v w->done a.1 i) {v d:Int} {l':List (Int×Int)} (hin:(v,d)∈l) (hmin:∀y∈l,d<=y.2) (hl:∀y,y∈l'↔y∈l/\y.1≠v)
  (hdone:∀i,¬done v i):Dj X s far l' d (out++[(v,d)]) done/\(∀a∈out,a.1≠v)/\Dist X.rel s v d:=by
 obtain ⟨hf,hc⟩:=h.heap v d hin;have hnew:∀a∈out,a.1≠v:=by
  intro a ha e;have:=(h.lab a ha).2.2.1 d;rw [e] at this;exact this hin
 have hdist:Dist X.rel s v d:=by
  refine ⟨h.sound _ _ hf,fun e he=>?_⟩
  rcases Dj.front hA h hd _ v e (Bm2 _) he with ⟨a,ha,h1,-⟩|⟨y,hy,h1⟩
  ·exact absurd h1 (hnew a ha)
  ·have:=hmin y hy
   omega
 refine ⟨⟨h.sound,h.start,?_,?_,?_,?_,?_,by have:=h.low;omega⟩,hnew,hdist⟩
 ·intro u k hk
  have:=(hl _).1 hk;exact ⟨(h.heap u k this.1).1,hmin _ this.1⟩
 ·intro a ha
  rcases Bp3.1 ha with ha|ha
  ·obtain ⟨a1,a2,a3,a4⟩:=h.lab a ha
   exact ⟨a1,by omega,fun k hk=>a3 k ((hl _).1 hk).1,a4⟩
  ·rw [Bn7] at ha
   subst ha;exact ⟨hf,Int.le_refl _,fun k hk=>((hl _).1 hk).2 rfl,hdist⟩
 ·intro u k hk
  rcases h.rest u k hk with h1|⟨a,ha,h1⟩
  ·by_cases e2:u=v
   ·subst e2
    rw [hk] at hf
    cases hf
    exact .inr ⟨(u,d),by simp,rfl⟩
   ·exact .inl ((hl _).2 ⟨h1,e2⟩)
  ·exact .inr ⟨a,by simp [ha],h1⟩
 ·intro a ha i u w hd hx
  rcases Bp3.1 ha with ha|ha
  ·exact h.gone a ha i u w hd hx
  ·rw [Bn7] at ha
   subst ha;exact absurd hd (hdone i)
 ·rw [Br0]
  refine ⟨h.once,by simp,?_⟩;intro a ha b hb;rw [Bn7] at hb;subst hb;exact hnew a ha
theorem Dj.skip (h:Dj X s far l cur out done) {a:Int×Int} (ha:a∈out) {i v w e:Int} (huniq:∀v' w',X i a.1 v' w'->v'=v/\w'=w) (hfar:far v=some e) (he:e<=a.2+w):
  Dj X s far l cur out (fun u j=>done u j\/(u=a.1/\j=i)):=by
 refine ⟨h.sound,h.start,h.heap,h.lab,h.rest,?_,h.once,h.low⟩;intro b hb j u x hd hx
 rcases hd with hd|⟨e1,rfl⟩
 ·exact h.gone b hb j u x hd hx
 ·have hba:b.2=a.2:=by
   have h1:=(h.lab b hb).1;rw [e1,(h.lab a ha).1] at h1;exact (Bo9 h1).symm
  rw [e1] at hx;obtain ⟨rfl,rfl⟩:=huniq _ _ hx;exact ⟨e,hfar,by omega⟩
theorem Dj.reach (hA:∀u v w,X.rel u v w->1<=w) (h:Dj X s far l cur out done) {a:Int×Int} (ha:a∈out) (hcur:a.2=cur) {i v w:Int} (hx:X i a.1 v w)
  (huniq:∀v' w',X i a.1 v' w'->v'=v/\w'=w) (hfar:∀e,far v=some e->a.2+w<e) {l':List (Int×Int)} (hl:∀y,y∈l'↔y=(v,a.2+w)\/(y∈l/\y.1≠v)):
  Dj X s (upd far v (some (a.2+w))) l' cur out (fun u j=>done u j\/(u=a.1/\j=i)):=by
 have hw1:=hA _ _ _ ⟨i,hx⟩;have hlow:=h.low;have hav:Way0 X.rel Any s v (a.2+w):=(h.sound _ _ (h.lab a ha).1).trans trivial (.inr (.one ⟨i,hx⟩));have hvo:∀b∈out,b.1≠v:=by
  intro b hb e;obtain ⟨b1,b2,_⟩:=h.lab b hb;rw [e] at b1;have:=hfar _ b1;omega
 have hvs:v≠s:=by
  intro e;have:=hfar 0 (by rw [e];exact h.start);omega
 refine ⟨?_,?_,?_,?_,?_,?_,h.once,hlow⟩
 ·intro u d hd
  by_cases e:u=v
  ·subst e
   rw [Ax] at hd
   cases hd
   exact hav
  ·rw [As _ _ e] at hd
   exact h.sound _ _ hd
 ·rw [As _ _ (fun e=>hvs e.symm)]
  exact h.start
 ·intro u k hk
  rcases (hl _).1 hk with e|⟨h1,h2⟩
  ·cases e
   exact ⟨Ax _ _ _,by omega⟩
  ·rw [As _ _ h2]
   exact h.heap u k h1
 ·intro b hb
  obtain ⟨b1,b2,b3,b4⟩:=h.lab b hb;have hne:=hvo b hb;refine ⟨by rw [As _ _ hne];exact b1,b2,?_,b4⟩;intro k hk
  rcases (hl _).1 hk with e|⟨h1,h2⟩
  ·exact hne (Prod.mk.inj e).1
  ·exact b3 k h1
 ·intro u d hd
  by_cases e:u=v
  ·subst e
   rw [Ax] at hd
   cases hd
   exact .inl ((hl _).2 (.inl rfl))
  ·rw [As _ _ e] at hd
   rcases h.rest u d hd with h1|h1
   ·exact .inl ((hl _).2 (.inr ⟨h1,e⟩))
   ·exact .inr h1
 ·intro b hb j u x hd hx'
  by_cases e:u=v
  ·subst e
   rw [Ax]
   rcases hd with hd|⟨e1,rfl⟩
   ·obtain ⟨f,h1,h2⟩:=h.gone b hb j u x hd hx'
    exact ⟨_,rfl,by have:=hfar _ h1;omega⟩
   ·have hba:b.2=a.2:=by
     have h1:=(h.lab b hb).1;rw [e1,(h.lab a ha).1] at h1;exact (Bo9 h1).symm
    rw [e1] at hx';have:=(huniq _ _ hx').2;exact ⟨_,rfl,by omega⟩
  ·rw [As _ _ e]
   rcases hd with hd|⟨e1,rfl⟩
   ·exact h.gone b hb j u x hd hx'
   ·rw [e1] at hx'
    exact absurd (huniq _ _ hx').1 e
theorem Dj.all (hA:∀u v w,X.rel u v w->1<=w) (h:Dj X s far [] cur out done) (hd:∀a∈out,∀i v w,X i a.1 v w->done a.1 i) {v e:Int} (hw:Way0 X.rel Any s v e):∃a∈out,a.1=v:=by
 rcases Dj.front hA h hd _ v e (Bm2 _) hw with ⟨a,ha,h1,-⟩|⟨y,hy,-⟩
 ·exact ⟨a,ha,h1⟩
 ·cases hy
end Dj
end
section
namespace Ad
def Cs (kf:Nat->Nat):Nat->Nat->Nat
 |0,_=>0
 |k+1,v=>Cs kf k v+(if kf k=v then 1 else 0)
def Ck (kf:Nat->Nat):Nat->Nat->Nat
 |0,_=>0
 |k+1,j=>Ck kf k j+(if kf k<j then 1 else 0)
theorem Kh (kf:Nat->Nat) (j:Nat):∀k,Ck kf k (j+1)=Ck kf k j+Cs kf k j
 |0=>rfl
 |k+1=>by
  unfold Ck Cs;rw [Kh kf j k]
  by_cases h1:kf k<j
  ·rw [if_pos h1,if_pos (by omega),if_neg (by omega)]
   omega
  ·by_cases h2:kf k=j
   ·rw [if_neg h1,if_pos h2,if_pos (by omega)]
    omega
   ·rw [if_neg h1,if_neg h2,if_neg (by omega)]
    omega
theorem Ug (kf:Nat->Nat):∀k,Ck kf k 0=0
 |0=>rfl
 |k+1=>by unfold Ck;rw [Ug kf k,if_neg (by omega)]
theorem Hj (kf:Nat->Nat) {i j:Nat} (h:i<=j):∀k,Ck kf k i<=Ck kf k j
 |0=>Bm2 _
 |k+1=>by
  have:=Hj kf h k;unfold Ck
  split<;>split<;>omega
theorem Ye {kf:Nat->Nat} {n:Nat}:∀k,(∀i,i<k->kf i<n)->Ck kf k n=k
 |0,_=>rfl
 |k+1,h=>by
  unfold Ck;rw [Ye k (fun i hi=>h i (by omega)),if_pos (h k (by omega))]
theorem Vz (kf:Nat->Nat) (j:Nat):∀k,Ck kf k j<=k
 |0=>Bm2 _
 |k+1=>by
  have:=Vz kf j k;unfold Ck
  split<;>omega
theorem Ql (kf:Nat->Nat) (v:Nat):∀k,Cs kf k v<=k
 |0=>Bm2 _
 |k+1=>by
  have:=Ql kf v k;unfold Cs
  split<;>omega
theorem Vg (kf:Nat->Nat) (v:Nat) {i:Nat}:∀{j},i<=j->Cs kf i v<=Cs kf j v
 |0,h=>by
  have:i=0:=by omega
  subst this;exact Bm2 _
 |j+1,h=>by
  by_cases e:i=j+1
  ·subst e;exact Bm2 _
  ·have:=Vg kf v (i:=i) (j:=j) (by omega)
   show _<=Cs kf j v+_
   omega
theorem Ak5 (kf:Nat->Nat) {i j:Nat} (h:i<j):Cs kf i (kf i)<Cs kf j (kf i):=by
 have h1:=Vg kf (kf i) (show i+1<=j by omega);have h2:Cs kf (i+1) (kf i)=Cs kf i (kf i)+1:=by
  show Cs kf i (kf i)+(if kf i=kf i then 1 else 0)=_
  rw [if_pos rfl]
 omega
def Ly (kf:Nat->Nat) (m i:Nat):Nat:=Ck kf m (kf i)+Cs kf i (kf i)
theorem Rg (kf:Nat->Nat) {m i:Nat} (h:i<m):Ly kf m i<Ck kf m (kf i+1):=by
 have:=Ak5 kf h;unfold Ly;rw [Kh];omega
theorem Ai1 {kf:Nat->Nat} {m n i:Nat} (h:i<m) (hk:∀i,i<m->kf i<n):Ly kf m i<m:=by
 have h1:=Rg kf h;have h2:=Hj kf (show kf i+1<=n from hk i h) m;rw [Ye m hk] at h2;omega
theorem Bd6 {kf:Nat->Nat} {m i j:Nat} (hj:j<m) (hij:i<j):Ly kf m i≠Ly kf m j:=by
 have hi:i<m:=by omega
 rcases Nat.lt_trichotomy (kf i) (kf j) with h|h|h
 ·have h1:=Rg kf hi
  have h2:=Hj kf (show kf i+1<=kf j by omega) m;unfold Ly at*;omega
 ·have h1:=Ak5 kf hij
  unfold Ly;rw [<-h];omega
 ·have h1:=Rg kf hj
  have h2:=Hj kf (show kf j+1<=kf i by omega) m;unfold Ly at*;omega
def Ei (kf:Nat->Nat):Nat->Nat->List Int
 |0,_=>[]
 |k+1,v=>if kf k=v then Ei kf k v++[(k:Int)] else Ei kf k v
theorem Ju (kf:Nat->Nat) (v:Nat):∀k,(Ei kf k v).length=Cs kf k v
 |0=>rfl
 |k+1=>by
  unfold Ei Cs
  split
  ·rw [Bp0,Ju kf v k];rfl
  ·rw [Ju kf v k];rfl
theorem Wm (kf:Nat->Nat) (v:Nat):∀k j x,(Ei kf k v)[j]? =some x->∃i:Nat,x=(i:Int)/\i<k/\kf i=v/\Cs kf i v=j
 |0,j,x,h=>by simp [Ei] at h
 |k+1,j,x,h=>by
  unfold Ei at h
  split at h
  ·rename_i e
   rcases Nat.lt_or_ge j (Ei kf k v).length with hj|hj
   ·rw [Bp9 hj] at h
    obtain ⟨i,h1,h2,h3⟩:=Wm kf v k j x h;exact ⟨i,h1,by omega,h3⟩
   ·rw [Bp8 hj] at h
    have hj0:j=(Ei kf k v).length:=by
     have:=(Bn3.1 h).1;simp at this;omega
    subst hj0;rw [Nat.sub_self] at h
    cases h
    exact ⟨k,rfl,by omega,e,(Ju kf v k).symm⟩
  ·obtain ⟨i,h1,h2,h3⟩:=Wm kf v k j x h
   exact ⟨i,h1,by omega,h3⟩
theorem Dn {kf:Nat->Nat} {v:Nat} {x:Int}:∀{k},x∈Ei kf k v↔∃i:Nat,x=(i:Int)/\i<k/\kf i=v
 |0=>by simp [Ei]
 |k+1=>by
  unfold Ei;have ih:=@Dn kf v x k
  split
  ·rename_i e
   rw [Bp3,Bn7,ih];constructor
   ·rintro (⟨i,h1,h2,h3⟩|rfl)
    ·exact ⟨i,h1,by omega,h3⟩
    ·exact ⟨k,rfl,by omega,e⟩
   ·rintro ⟨i,rfl,h2,h3⟩
    by_cases e2:i=k
    ·subst e2;exact .inr rfl
    ·exact .inl ⟨i,rfl,by omega,h3⟩
  ·rename_i e
   rw [ih];constructor
   ·rintro ⟨i,h1,h2,h3⟩
    exact ⟨i,h1,by omega,h3⟩
   ·rintro ⟨i,rfl,h2,h3⟩
    refine ⟨i,rfl,?_,h3⟩
    by_cases e2:i=k
    ·subst e2;exact absurd h3 e
    ·omega
theorem Rz (kf:Nat->Nat) (v:Nat):∀k,(Ei kf k v).Pairwise (· <·)
 |0=>List.Pairwise.nil
 |k+1=>by
  unfold Ei
  split
  ·refine Br0.2 ⟨Rz kf v k,List.pairwise_singleton _ _,fun a ha b hb=>?_⟩
   obtain rfl:=Bn7.1 hb;obtain ⟨i,rfl,hi,_⟩:=Dn.1 ha;omega
  ·exact Rz kf v k
def EdgP (kf:Nat->Nat) (m k:Nat) (xs:List Int):Prop:=xs.length=m/\∀i,i<k->xs[Ly kf m i]? =some (i:Int)
theorem EdgP.step {kf:Nat->Nat} {m n k:Nat} {xs:List Int} (h:EdgP kf m k xs) (hk:k<m) (hn:∀i,i<m->kf i<n):EdgP kf m (k+1) (xs.set (Ly kf m k) (k:Int)):=by
 refine ⟨by rw [Bn1];exact h.1,fun i hi=>?_⟩;have hp:=Ai1 hk hn
 by_cases e:i=k
 ·subst e
  rw [Bq9 (by rw [h.1];exact hp)]
 ·have:=Bd6 (kf:=kf) (m:=m) hk (show i<k by omega)
  rw [Bq8 (fun e2=>this e2.symm)];exact h.2 i (by omega)
theorem EdgP.row {kf:Nat->Nat} {m:Nat} {xs:List Int} (h:EdgP kf m m xs) (v:Nat) {j:Nat} {x:Int} (hx:(Ei kf m v)[j]? =some x):xs[Ck kf m v+j]? =some x:=by
 obtain ⟨i,rfl,h1,h2,h3⟩:=Wm kf v m j x hx;have:=h.2 i h1;unfold Ly at this;rw [h2,h3] at this;exact this
def Pa (kf:Nat->Nat) (n k:Nat):List Int:=(List.range (n+1)).map fun j=>if j=0 then 0 else (Cs kf k (j-1):Int)
def Gp (kf:Nat->Nat) (n m v:Nat):List Int:=(List.range (n+1)).map fun j=>if j<=v then (Ck kf m j:Int) else (Cs kf m (j-1):Int)
def atL (kf:Nat->Nat) (n m k:Nat):List Int:=(List.range (n+1)).map fun j=>((Ck kf m j+Cs kf k j:Nat):Int)
theorem St (kf:Nat->Nat) (n k:Nat):(Pa kf n k).length=n+1:=by simp [Pa]
theorem Mv (kf:Nat->Nat) (n m v:Nat):(Gp kf n m v).length=n+1:=by simp [Gp]
theorem Wv (kf:Nat->Nat) (n m k:Nat):(atL kf n m k).length=n+1:=by simp [atL]
theorem Al0 {kf:Nat->Nat} {n k v:Nat} (h:v<n):(Pa kf n k)[v+1]? =some (Cs kf k v:Int):=by
 unfold Pa;rw [Bn9,List.getElem?_range (by omega)];simp
theorem Ag6 (kf:Nat->Nat) (n:Nat):Pa kf n 0=List.replicate (n+1) 0:=by
 apply List.ext_getElem?
 intro j;unfold Pa;rw [Bn9,Bq0]
 by_cases h:j<n+1
 ·rw [List.getElem?_range h,if_pos h]
  simp [Cs]
 ·rw [Bp7 (by simp;omega),if_neg h]
  rfl
theorem As5 {kf:Nat->Nat} {n k:Nat} (h:kf k<n):(Pa kf n k).set (kf k+1) ((Cs kf k (kf k):Int)+1)=Pa kf n (k+1):=by
 apply List.ext_getElem?
 intro j
 by_cases hj:j<n+1
 ·by_cases e:kf k+1=j
  ·subst e
   rw [Bq9 (by rw [St];exact hj),Al0 h]
   show _=some ((Cs kf k (kf k)+(if kf k=kf k then 1 else 0):Nat):Int)
   rw [if_pos rfl];rfl
  ·rw [Bq8 e]
   unfold Pa;rw [Bn9,Bn9,List.getElem?_range hj];simp only [Option.map_some]
   by_cases h0:j=0
   ·rw [if_pos h0,if_pos h0]
   ·rw [if_neg h0,if_neg h0]
    show _=some ((Cs kf k (j-1)+(if kf k=j-1 then 1 else 0):Nat):Int)
    rw [if_neg (by omega)];rfl
 ·rw [Bp7 (by rw [Bn1,St];omega),Bp7 (by rw [St];omega)]
theorem Ac9 (kf:Nat->Nat) (n m:Nat):Gp kf n m 0=Pa kf n m:=by
 unfold Gp Pa
 apply List.map_congr_left
 intro j _
 by_cases h:j=0
 ·subst h
  rw [if_pos (Bm2 _),if_pos rfl,Ug];rfl
 ·rw [if_neg (by omega),if_neg h]
theorem Aw7 {kf:Nat->Nat} {n m v:Nat} (h:v<n):(Gp kf n m v)[v]? =some (Ck kf m v:Int):=by
 unfold Gp;rw [Bn9,List.getElem?_range (by omega)];simp
theorem Aw6 {kf:Nat->Nat} {n m v:Nat} (h:v<n):(Gp kf n m v)[v+1]? =some (Cs kf m v:Int):=by
 unfold Gp;rw [Bn9,List.getElem?_range (by omega)];simp only [Option.map_some];rw [if_neg (by omega)];rfl
theorem Ao2 {kf:Nat->Nat} {n m v:Nat} (h:v<n):(Gp kf n m v).set (v+1) ((Cs kf m v:Int)+(Ck kf m v:Int))=Gp kf n m (v+1):=by
 apply List.ext_getElem?
 intro j
 by_cases hj:j<n+1
 ·by_cases e:v+1=j
  ·subst e
   rw [Bq9 (by rw [Mv];exact hj)];unfold Gp;rw [Bn9,List.getElem?_range hj];simp only [Option.map_some];rw [if_pos (Bm2 _),Kh]
   congr 1
   omega
  ·rw [Bq8 e]
   unfold Gp;rw [Bn9,Bn9,List.getElem?_range hj];simp only [Option.map_some]
   by_cases h0:j<=v
   ·rw [if_pos h0,if_pos (by omega)]
   ·rw [if_neg h0,if_neg (by omega)]
 ·rw [Bp7 (by rw [Bn1,Mv];omega),Bp7 (by rw [Mv];omega)]
theorem Pb (kf:Nat->Nat) (n m:Nat):Gp kf n m n=atL kf n m 0:=by
 unfold Gp atL
 apply List.map_congr_left
 intro j hj;have:=Bp4.1 hj;rw [if_pos (by omega)];rfl
theorem Pc {kf:Nat->Nat} {n m k v:Nat} (h:v<n+1):(atL kf n m k)[v]? =some ((Ck kf m v+Cs kf k v:Nat):Int):=by
 unfold atL;rw [Bn9,List.getElem?_range h];rfl
theorem Bb1 {kf:Nat->Nat} {n m k:Nat} (h:kf k<n):(atL kf n m k).set (kf k) ((Ly kf m k:Int)+1)=atL kf n m (k+1):=by
 apply List.ext_getElem?
 intro j
 by_cases hj:j<n+1
 ·by_cases e:kf k=j
  ·subst e
   rw [Bq9 (by rw [Wv];exact hj),Pc hj]
   show _=some ((Ck kf m (kf k)+(Cs kf k (kf k)+(if kf k=kf k then 1 else 0)):Nat):Int)
   rw [if_pos rfl];unfold Ly
   congr 1
  ·rw [Bq8 e,Pc hj,Pc hj]
   show _=some ((Ck kf m j+(Cs kf k j+(if kf k=j then 1 else 0)):Nat):Int)
   rw [if_neg e];rfl
 ·rw [Bp7 (by rw [Bn1,Wv];omega),Bp7 (by rw [Wv];omega)]
end Ad
end
end Go.Proofs.YteaaapdjplbljaaGreat
