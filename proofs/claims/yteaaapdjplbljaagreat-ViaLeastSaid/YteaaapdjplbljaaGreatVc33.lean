/- Parts; no condition. -/
import Derived.Test.YteaaapdjplbljaaGreatVc32
set_option linter.unusedVariables false
set_option linter.unusedSimpArgs false
set_option linter.unnecessarySimpa false
set_option maxRecDepth 100000
set_option maxHeartbeats 8000000
namespace Go.Proofs.YteaaapdjplbljaaGreat
section
open Go Go.Proofs Go.RowKit Go.Shelf Hp Ch
theorem Rl:∀(l:List LB) (i:Nat) (q:LB) (b:Int),l[i]? =some q->(Ao l).set (i*3+2) (.int .i64 b)=Ao (l.set i ⟨q.v,q.d,b⟩)
 |[],i,q,b,h=>by simp at h
 |x::l,0,q,b,h=>by cases h;rfl
 |x::l,i+1,q,b,h=>by
  rw [show (i+1)*3+2=i*3+2+1+1+1 by omega]
  show _=_::_::_::Ao (l.set i _)
  rw [<-Rl l i q b (by simpa using h)];rfl
def Un (es:List EdgeD) (n:Nat) (R:List Int) (S:List SC) (ro:List Int) (back:Bool) (s:Nat) (w:World) (e:Ending) (w':World):Prop:=
 ∃(ao:Option Addr) (cap:Nat) (l:List LB),e=.returned (.tuple #[.slice ao l.length cap,.int .i64 0])/\Cel w' ao (Ao l)/\Below w.heap.size w w'/\ExIs (Bw back (Am es)) (rk ro) (s:Int) l/\(∀a∈l,a.b=El R S (Ev l) back a.v a.d)/\l.length<=n/\∀a∈l,Aa n a.v/\0<=a.d/\a.d<=211106232532992
theorem Az0 (R:List Int) (S:List SC) (back:Bool) (l:List LB):∀a∈withB R S back l,a.b=El R S (Ev (withB R S back l)) back a.v a.d:=by
 have hl:Ev (withB R S back l)=Ev l:=Nm (by simp [withB,Function.comp_def]);intro a ha;rw [hl];unfold withB at ha;obtain ⟨y,_,rfl⟩:=List.mem_map.1 ha;rfl
theorem Uf (hb n:Nat) (es:List EdgeD) (R:List Int) (S:List SC) (ro:List Int) (back:Bool) (s:Nat) (w:World) (hh:HierM w hb n es R S (An R S n S.length).1 (An R S n S.length).2) (hok:HierOK es n R S ro) (hn:n<=12) (hs:s<n):
  Calls Tryz.prog 88 #[.pointer (some ⟨hb,0,none⟩),.int .i64 (s:Int),.bool back] w (Un es n R S ro back s w):=by
 have HH:=Bi5 (fun W (hz:Below w.heap.size w W)=>hh.same (fun k hk=>hz.block k hk));have HSA:=Bi5 (Jo hb n es R S ro s back w hh hok hn hs);have HSW:=Bi5 (fun l ao cap W (hz:Below w.heap.size w W) hc hsp hl=>Ai9 hb n es R S ro back s l ao cap W (hh.go hz) hok hn hs hc hsp hl);have HOK:=Bi5 hok;unfold Hj at HSA;unfold Oh at HSW;clear hh hok
 go_enter Tryz.func88,Tryz.ntmps88
 go_upto_region 4 with (go_at_call 123;refine HSA.out.mono ?_;rintro e w1 ⟨ao,cap,l,rfl,h1,h2,h3,h4,h5,h6⟩;(have HC1:=Bi5 h1);(have HB1:=Bi5 h2);(have HS1:=Bi5 h3);(have HL1:=Bi5 (And.intro h4 h5));(have HO1:=Bi5 h6);clear h1 h2 h3 h4 h5 h6)
 go_upto_region 5 with (go_at_call 144;refine (HSW.out l ao cap w1 HB1.out HC1.out HS1.out HL1.out.1).mono ?_;rintro e w2 ⟨fb,f,rfl,h1,h2,h3,h4,h5⟩;(have HF2:=Bi5 h1);(have HFL:=Bi5 h2);(have HFB:=Bi5 h3);(have HB2:=Bi5 h4);(have HFV:=Bi5 h5);clear h1 h2 h3 h4 h5)
 obtain ⟨W3,hW3⟩:∃W3,W3=w2.alloc (Obj.cells #[.slice (some ⟨fb,0,none⟩) n n] 60):=⟨_,rfl⟩;rw [<-hW3];have hb23:Below w2.heap.size w2 W3:=by rw [hW3];exact Below.of_al _ _
 have cB:W3.cell? ⟨w2.heap.size,0,none⟩=some (.slice (some ⟨fb,0,none⟩) n n):=by rw [hW3];go_simp
 have hL:=Li HOK.out HS1.out hs hn;have hrow:∀k,(Value.slice ao l.length cap).ownBlock=some k->k<w1.heap.size:=fun k e=>(HO1.out.lt k e).2;have HDEL:=Bi5 (Ac7 w.heap.size #[.pointer (some ⟨w2.heap.size,0,none⟩)] (fun a=>decide (gD f a.v<a.d)) l ao cap W3 (Af (Af HO1.out HB2.out) hb23) (fun W x ho hx=>by
  have hs2:=HB2.out.size;have hfb:=HFB.out;refine Ac2 x w2.heap.size fb n f W (ho.cell cB (fun e=>by have h9:w2.heap.size<w1.heap.size:=hrow _ e;omega)) ?_ HFL.out (hL x hx).1;exact Fm (HF2.out.go hb23) ho (n:=n) (c:=n) (fun k hk e=>by cases hk;have h9:fb<w1.heap.size:=hrow _ e;omega)) (by have:=HL1.out.1;omega))
 have hex:=An6 (HOK.out.hierB back) (fun v=>by unfold rk;omega) HS1.out HL1.out.2 (fun x hx=>⟨(hL x hx).1,by have:=(hL x hx).2.2;unfold FAR;omega⟩) HFV.out;have HEX:=Bi5 hex;have HSUB:=Bi5 (show ∀a∈Rn f l,Aa n a.v/\0<=a.d/\a.d<=211106232532992 from fun a ha=>hL a (List.mem_filter.1 ha).1);have HLEN:=Bi5 (show (Rn f l).length<=n from Bi9 (List.length_filter_le _ _) HL1.out.1);have HB3:=Bi5 ((HB1.out.st HB2.out).st hb23);have HRW:=Bi5 (fun k (e:(Value.slice ao l.length cap).ownBlock=some k)=>And.intro (HO1.out.lt k e).1 (show k<W3.heap.size from by have h1:=hrow k e;have h2:=HB2.out.size;have h3:=hb23.size;omega));unfold Sh at HDEL;rw [show l.filter (fun a=>!decide (gD f a.v<a.d))=Rn f l from rfl] at HDEL;clear hW3 hL hrow hex hb23 cB HSA HSW HC1 HB1 HS1 HL1 HO1 HF2 HFL HFB HB2 HFV;generalize Rn f l=out at*
 go_upto_region 7 with (go_at_call 145;refine HDEL.out.mono ?_;rintro e w4 ⟨rfl,h1,h2⟩;(have HO4:=Bi5 h1);(have HF4:=Bi5 h2);clear h1 h2)
 obtain ⟨W5,hW5⟩:∃W5,W5=w4.alloc (Obj.cells #[.pointer (some ⟨hb,0,none⟩),.bool back] 228):=⟨_,rfl⟩;rw [<-hW5];have hb45:Below w4.heap.size w4 W5:=by rw [hW5];exact Below.of_al _ _
 have c0:W5.cell? ⟨w4.heap.size,0,none⟩=some (.pointer (some ⟨hb,0,none⟩)):=by rw [hW5];go_simp
 have c1:W5.cell? ⟨w4.heap.size,1,none⟩=some (.bool back):=by rw [hW5];go_simp
 have hrow4:∀k,(Value.slice ao out.length cap).ownBlock=some k->w.heap.size<=k/\k≠w4.heap.size:=fun k e=>by
  have h1:=HRW.out k (by cases ao<;>exact e);have h2:=HF4.out.size;omega
 have HRO:=Bi5 hrow4;have hbl4:Below w.heap.size w w4:=HB3.out.trans (HF4.out.below HB3.out.size (fun k e=>(HRW.out k e).1));have HO5:=Bi5 (show W5.ownsRow w.heap.size 150 3 (.slice ao out.length cap) out.length (Ao (Ga R S back out 0)) by rw [Ak7];exact Af HO4.out hb45);have HB5:=Bi5 (hbl4.st hb45);have HCW:=Bi5 (And.intro c0 c1);have hl2:(out.length:Int)<=12:=by have:=HLEN.out;omega
 clear hW5 hb45 c0 c1 hrow4 hbl4 HO4 HF4 HB3 HRW HDEL
 go_wp2
 go_loopg [34] out.length (fun gg v34 wr=>∃k:Nat,k<=out.length/\out.length-k<=gg/\v34=.int .i64 k/\Aside (wr.ownsRow w.heap.size 150 3 (.slice ao out.length cap) out.length (Ao (Ga R S back out k)))/\Aside (Below w.heap.size w wr)/\Aside (wr.cell? ⟨w4.heap.size,0,none⟩=some (.pointer (some ⟨hb,0,none⟩))/\wr.cell? ⟨w4.heap.size,1,none⟩=some (.bool back)))
 case atStart=>exact ⟨0,Bi8 _,by omega,rfl,HO5.out,HB5.out,HCW.out⟩
 case round=>
  clear HO5 HB5 HCW;obtain ⟨k,hk,hgg,rfl,HO,HB,HX⟩:=hrel
  by_cases hlt:k<out.length
  ·have hlt3:(k:Int)<(out.length:Int):=by omega
   have hk0:(0:Int)<=(k:Int):=by omega
   have hml:(Ga R S back out k).length=out.length:=Xj;obtain ⟨g,cg,e⟩:=Ap HO.out (by omega)
   cases e
   obtain ⟨x0,x1,x2⟩:=Fs (Ga R S back out k) k (by omega);have hmk:(Ga R S back out k)[k]'(by omega)=out[k]:=Bl4 ((Bj0 (by omega)).symm.trans (Xk hlt));rw [hmk] at x0 x1 x2;have y0:=(HO.out.cellAt (k*3) (by omega)).trans x0;have y1:=(HO.out.cellAt (k*3+1) (by omega)).trans x1;have y2:=(HO.out.cellAt (k*3+2) (by omega)).trans x2;have zf:=HO.out.frozenAt (k*3+2);obtain ⟨ao9,cap9,e9,hce⟩:=Cel.of_owns HO.out
   cases e9
   have HFI:=Bi5 (fun p=>Am7 hb n es R S (An R S n S.length).1 (An R S n S.length).2 (Ga R S back out k) (some ⟨g,0,none⟩) cap out[k] back (ext wr p) (HH.out _ (HB.out.st (Ah wr p))) (fun x hx=>by
     have h1:=HOK.out.ends x hx;have h2:=HOK.out.big x hx;have h3:=Yr hn;exact ⟨h1.1,h1.2.1,by omega,by omega⟩) (hce.go (Ah wr p)) (by omega) (fun x hx=>by
     have hv:(x.v,x.d)∈out.map (fun a=>(a.v,a.d)):=by rw [<-Af9 R S back out k];exact List.mem_map.2 ⟨x,hx,rfl⟩
     obtain ⟨y,hy,e⟩:=List.mem_map.1 hv;have h1:=HSUB.out y hy;have e2:y.d=x.d:=(Prod.mk.inj e).2;omega))
   rw [Nm (Af9 R S back out k)] at HFI;have HST:=Bi5 (show (Ao (Ga R S back out k)).set (k*3+2) (.int .i64 (El R S (Ev out) back out[k].v out[k].d))=Ao (Ga R S back out (k+1)) by rw [Rl _ k out[k] _ (Xk hlt),At3 hlt]);obtain ⟨c0,c1⟩:=HX.out;rw [hml] at HFI;clear x0 x1 x2 hce hmk HX;generalize out[k]=a at*;obtain ⟨av,ad,ab⟩:=a;simp only [Im] at y0 y1 y2 HFI HST;generalize El R S (Ev out) back av ad=r at*;have e0:=fun p=>Ac p c0;have e1:=fun p=>Ac p c1;have e2:=fun p=>Ac p y0;have e3:=fun p=>Ac p y1;have e4:=fun p=>Ac p y2
   go_upto_region 10 with (fail)
   refine Fw 11 (by kernel_rfl) (by kernel_rfl) ?_;simp only [List.take_succ_cons,List.take_zero,List.drop_succ_cons,List.drop_zero]
   repeat (go_big_quiet_step ((go_at_call 147;exact Calls.ext_of (HFI.out _))))
   refine wpQuiet_nil ?_;rintro _ ⟨p5,rfl⟩;have HB5:=Bi5 (Ah wr p5);generalize ext wr p5=w5 at HB5 ⊢;have z5:=(HB5.out.frozen (p:=⟨g,k*3+2,none⟩) (Bj5 _ _ y2)).trans zf;have q5:=Bi6 HB5.out y2;have HO6:=Bi5 (show (w5.setCell ⟨g,k*3+2,none⟩ (.int .i64 r)).ownsRow w.heap.size 150 3 (.slice (some ⟨g,0,none⟩) out.length cap) out.length (Ao (Ga R S back out (k+1))) by
    have h9:=((Af HO.out HB5.out).stored (k*3+2) (.int .i64 r)).1;rw [HST.out] at h9;exact h9)
   have hgb:=HRO.out g rfl;have HB6:=Bi5 (show Below w.heap.size w (w5.setCell ⟨g,k*3+2,none⟩ (.int .i64 r)) from (HB.out.st HB5.out).setCell hgb.1 _);have HX6:=Bi5 (show (w5.setCell ⟨g,k*3+2,none⟩ (.int .i64 r)).cell? ⟨w4.heap.size,0,none⟩=some (.pointer (some ⟨hb,0,none⟩))/\(w5.setCell ⟨g,k*3+2,none⟩ (.int .i64 r)).cell? ⟨w4.heap.size,1,none⟩=some (.bool back) from
    ⟨(Bl2 (a:=⟨w4.heap.size,0,none⟩) (Below.heap_setCell _ _ _ _ (fun e=>hgb.2 e.symm))).trans (Bi6 HB5.out c0),(Bl2 (a:=⟨w4.heap.size,1,none⟩) (Below.heap_setCell _ _ _ _ (fun e=>hgb.2 e.symm))).trans (Bi6 HB5.out c1)⟩)
   clear e0 e1 e2 e3 e4 y0 y1 y2 c0 c1 zf HFI hgb
   go_wp2
   go_roundg (out.length-(k+1))
   case measure=>omega
   case rel=>exact ⟨k+1,by omega,Bi7 _,by go_num,HO6.out,HB6.out,HX6.out⟩
  ·obtain rfl:k=out.length:=by omega
   have hO:=HO.out;rw [At4] at hO;obtain ⟨ao9,cap9,e9,hce⟩:=Cel.of_owns hO
   cases e9
   have HC9:=Bi5 hce;have HL9:=Bi5 (Jm R S back out);clear hO hce
   go_wp2
   refine bodyPost_ret (v:=.tuple #[.slice ao out.length cap,.int .i64 0]) (by simp [results,Tryz.results88,go_sem];try rfl) rfl ?_;exact ⟨ao,cap,withB R S back out,by rw [HL9.out],HC9.out,HB.out,HEX.out.withB R S back,Az0 R S back out,by rw [HL9.out];exact HLEN.out,fun a ha=>by
    unfold withB at ha;obtain ⟨y,hy,rfl⟩:=List.mem_map.1 ha;exact HSUB.out y hy⟩
end
section
open Go Go.Proofs Go.RowKit Go.Shelf Hp Ch
end
section
open Go Go.Proofs Go.RowKit Go.Shelf Hp Ch
theorem Ym (W:World) (x y z:Value) (T:TypeId):Cel (W.alloc (Obj.cells #[x,y,z] T)) (some ⟨W.heap.size,0,none⟩) [x,y,z]:=by
 intro j u hj;have h:=Rt W x y z T j u hj;rw [Addr.add_lit] at h;exact ⟨_,_,rfl,h⟩
abbrev exE:List EdgeD:=[⟨0,1,3⟩]
theorem Nx {u v w:Int}:Am exE u v w↔u=0/\v=1/\w=3:=by
 unfold Am exE;constructor
 ·rintro ⟨x,hx,h1,h2,h3⟩
  rw [Bk2] at hx;subst hx;exact ⟨h1.symm,h2.symm,h3.symm⟩
 ·rintro ⟨rfl,rfl,rfl⟩
  exact ⟨_,Bk2.2 rfl,rfl,rfl,rfl⟩
theorem Ac3:∀u v w,Am exE u v w->1<=w:=by
 intro u v w h;obtain ⟨_,_,rfl⟩:=Nx.1 h
 decide
theorem Aw1 {p:Int->Prop} {u v d:Int} (h:Ch.Way (Am exE) p u v d):u=0/\v=1/\d=3:=by
 induction h with
 |one h=>exact Nx.1 h
 |cons h1 _ _ ih=>
  obtain ⟨_,h2,_⟩:=Nx.1 h1;obtain ⟨h3,_⟩:=ih;rw [h2] at h3
  cases h3
theorem Bb8 {d k:Int} (h:DistIs 2 (Am exE) 0 1 d k):d=3/\k=0:=by
 have hw:Way0 (Am exE) Any 0 1 3:=.inr (.one (Nx.2 ⟨rfl,rfl,rfl⟩))
 rcases h with ⟨hk,_,_,h,_⟩|⟨_,_,_,_,h⟩|⟨_,_,h⟩
 ·refine ⟨?_,hk⟩
  rcases h.1 with ⟨e,_⟩|h
  ·cases e
  ·exact (Aw1 h).2.2
 ·exact absurd hw (h _)
 ·exact absurd ⟨⟨by decide,by decide⟩,⟨by decide,by decide⟩⟩ h
theorem Ah1 {d k:Int} (h:DistIs 2 (Am exE) 1 1 d k):d=0/\k=0:=by
 have hw:=Dist.self (A:=Am exE) Ac3 1
 rcases h with ⟨hk,_,_,h,_⟩|⟨_,_,_,_,h⟩|⟨_,_,h⟩
 ·exact ⟨h.uniq hw,hk⟩
 ·exact absurd hw.1 (h _)
 ·exact absurd ⟨⟨by decide,by decide⟩,⟨by decide,by decide⟩⟩ h
theorem BltPost.good {g:GD} {k:Int} {w w':World} {e:Ending} (h:BltPost g k w e w') (hk:k=0) (hg:Ak g=0) (hn:g.n<=12):∃hb R S ro,e=.returned (.tuple #[.pointer (some ⟨hb,0,none⟩),.int .i64 0])/\BH w' hb g.n.toNat g.es R S ro/\Below w.heap.size w w':=by
 obtain ⟨h1|h1,h2⟩:=h
 ·obtain ⟨_,hb,R,S,ro,e,hm,ho⟩:=h1
  have:=Jr hg;exact ⟨hb,R,S,ro,e,⟨hm,ho,by omega,by omega⟩,h2⟩
 ·exact absurd hk h1.1
end
section
open Go Go.Proofs Go.RowKit Go.Shelf Hp Ch
end
section
namespace Vi
open Go Go.Proofs Go.RowKit Go.Shelf Hp Ch
def Nd (f:Int->Option Int) (l:List LB):List Int:=(l.filter fun x=>(f x.v).isSome).map (·.v)
theorem Aj3 {f:Int->Option Int} {l:List LB} {k:Nat} (h:k<l.length):Nd f (l.take (k+1))=if (f l[k].v).isSome then Nd f (l.take k)++[l[k].v] else Nd f (l.take k):=by
 unfold Nd;rw [Bk3 h,List.filter_append,Bm6]
 cases h9:(f l[k].v).isSome
 ·simp [h9]
 ·simp [h9]
theorem Wo (f:Int->Option Int) (l:List LB):(Nd f l).length<=l.length:=by
 unfold Nd;rw [Bm7];exact List.length_filter_le _ _
def VnIs (n:Nat) (es:List EdgeD) (ro:List Int) (s t:Int) (L:List Int) (k:Int):Prop:=
 (k=0/\Aa n s/\Aa n t/\(∃d,Dist (Am es) s t d)/\L.Pairwise (· <·)/\L.length<=n/\∀v,v∈L↔(∃d,Peak (Bw false (Am es)) (rk ro) s v d)/\∃d,Peak (Bw true (Am es)) (rk ro) t v d)\/(k≠0/\L=[]/\DistIs n (Am es) s t 0 k)
def Vv (n:Nat) (es:List EdgeD) (ro:List Int) (s t:Int) (w:World) (e:Ending) (w':World):Prop:=
 ∃(ao:Option Addr) (cap:Nat) (L:List Int) (k:Int),e=.returned (.tuple #[.slice ao L.length cap,.int .i64 k])/\Cel w' ao (L.map Aj)/\Below w.heap.size w w'/\VnIs n es ro s t L k
theorem Oo (hb n:Nat) (es:List EdgeD) (R:List Int) (S:List SC) (ro:List Int) (s t:Int) (w:World) (h:BH w hb n es R S ro):
  Calls Tryz.prog 38 #[.pointer (some ⟨hb,0,none⟩),.int .i64 s,.int .i64 t] w (Vv n es ro s t w):=by
 have HD:=Bi5 (Ax0 hb n es R S ro s t w h);have hmm:=@run_makeMap Tryz.prog;have HH:=Bi5 (fun U (hz:Below w.heap.size w U)=>h.go hz);have hle:=h.le;unfold DistPost at HD;unfold Vv;clear h
 go_enter Tryz.func38,Tryz.ntmps38
 go_upto_region 2 with (go_at_call 87;refine HD.out.mono ?_;rintro e w1 ⟨⟨d,k,rfl,h1⟩,h2⟩;(have HI:=Bi5 h1);(have HB1:=Bi5 h2);clear h1 h2)
 rcases HI.out with ⟨rfl,hs,ht,hd,_⟩|hbad
 ·obtain ⟨s,rfl⟩:∃q:Nat,s=(q:Int):=⟨s.toNat,by have:=hs.1;omega⟩
  obtain ⟨t,rfl⟩:∃q:Nat,t=(q:Int):=⟨t.toNat,by have:=ht.1;omega⟩;have hsn:s<n:=by have:=hs.2;omega
  have htn:t<n:=by have:=ht.2;omega
  have HST:=Bi5 (And.intro hs (And.intro ht (Exists.intro d hd)));have HXA:=Bi5 (fun U (hz:Below w.heap.size w U)=>Uf hb n es R S ro false s U (HH.out U hz).mem (HH.out U hz).ok hle hsn);have HXB:=Bi5 (fun U (hz:Below w.heap.size w U)=>Uf hb n es R S ro true t U (HH.out U hz).mem (HH.out U hz).ok hle htn);unfold Un at HXA HXB;clear hs ht hd HD HI
  go_upto_region 6 with (first
   |(go_at_call_of 88 (#[.pointer (some ⟨hb,0,none⟩),.int .i64 (s:Int),.bool false]:Array Value);refine (HXA.out _ HB1.out).mono ?_;rintro e w2 ⟨ao,ca,la,rfl,h1,h2,h3,-,h5,h6⟩;(have HC2:=Bi5 h1);(have HB2:=Bi5 (HB1.out.st h2));(have HEA:=Bi5 h3);(have HLA:=Bi5 (And.intro h5 h6));clear h1 h2 h3 h5 h6)
   |(go_at_call_of 88 (#[.pointer (some ⟨hb,0,none⟩),.int .i64 (t:Int),.bool true]:Array Value);refine (HXB.out _ HB2.out).mono ?_;rintro e w3 ⟨bo,cb,lb,rfl,h1,h2,h3,-,h5,h6⟩;(have HD3:=Bi5 h1);(have HC3:=Bi5 (HC2.out.go h2));(have HB3:=Bi5 (HB2.out.st h2));(have HEB:=Bi5 h3);(have HLB:=Bi5 (And.intro h5 h6));clear h1 h2 h3 h5 h6))
  have HM0:=Bi5 (MapW.new w3);have hbl:(lb.length:Int)<=12:=by have:=HLB.out.1;omega
  have hal:(la.length:Int)<=12:=by have:=HLA.out.1;omega
  go_wp2
  go_loopg [46] lb.length (fun gm v46 wr=>∃k:Nat,k<=lb.length/\lb.length-k<=gm/\v46=.int .i64 k/\Aside (MapW wr w3.heap.size k (byF (lb.take k)))/\Aside (Below w3.heap.size w3 wr))
  case atStart=>exact ⟨0,Bi8 _,by omega,rfl,by rw [List.take_zero];exact HM0.out,Below.of_al _ _⟩
  case round=>
   obtain ⟨k,hk,hg,rfl,HM,HB⟩:=hrel
   by_cases hlt:k<lb.length
   ·have hlt2:(k:Int)<(lb.length:Int):=by omega
    have hk0:(0:Int)<=(k:Int):=by omega
    obtain ⟨qb,qo,rfl,y0,y1,y2⟩:=(HD3.out.go HB.out).lab hlt;obtain ⟨i1,i2,i3⟩:=HLB.out.2 lb[k] (Bj7 hlt);have HTK:=Bi5 (Rv hlt);generalize lb[k]=x at*;obtain ⟨w2',hup,hm2,ho2⟩:=(HM.out.go (Below.of_al wr (Obj.cells #[.int .i64 x.v,.int .u64 x.d,.int .i64 x.b] 150))).put (by omega) (u:=x.v) (x:=x.d) (Vh i1 hle) ⟨i2,by omega⟩;have HM2:=Bi5 (show MapW w2' w3.heap.size (k+1) (byF (lb.take (k+1))) by rw [HTK.out];exact hm2);have HB2':=Bi5 (show Below w3.heap.size w3 w2' from (HB.out.st (Below.of_al wr _)).trans (ho2.below ((HB.out.st (Below.of_al wr (Obj.cells #[.int .i64 x.v,.int .u64 x.d,.int .i64 x.b] 150))).size) (fun j hj=>by have e:j=w3.heap.size:=hj;omega)));clear hm2 ho2 i1 i2 i3
    go_wp2
    go_roundg (lb.length-(k+1))
    case measure=>omega
    case rel=>exact ⟨k+1,by omega,Bi7 _,by go_num,HM2.out,HB2'.out⟩
   ·obtain rfl:k=lb.length:=by omega
    have HM4:=Bi5 (show MapW wr w3.heap.size lb.length (byF lb) by have:=HM.out;rw [Bn1] at this;exact this);have HB4:=Bi5 HB.out;have HBw:=Bi5 (HB3.out.st HB.out);have HC4:=Bi5 (HC3.out.go HB.out);clear HM HB hlt hg hk HM0;generalize wr=w4 at*;have HSEL:=Bi5 (fun k (hk:k<la.length)=>Aj3 (f:=byF lb) hk);have HSL:=Bi5 (fun k=>Bi9 (Wo (byF lb) (la.take k)) (show (la.take k).length<=12 by rw [List.length_take];omega));have HS0:=Bi5 (show Nd (byF lb) (la.take 0)=[] from rfl);have HSE:=Bi5 (show Nd (byF lb) (la.take la.length)=Nd (byF lb) la by rw [Bn1]);obtain ⟨pk,hpk⟩:∃pk:Nat->List Int,pk=fun k=>Nd (byF lb) (la.take k):=⟨_,rfl⟩;have HPE:=Bi5 hpk;clear hpk
    go_wp2
    go_loopg [6,58] la.length (fun gm v6 v58 wr=>∃k:Nat,k<=la.length/\la.length-k<=gm/\v58=.int .i64 k/\Aside (wr.ownsRow w4.heap.size 3 1 v6 (pk k).length ((pk k).map Aj))/\Aside (Below w4.heap.size w4 wr))
    case atStart=>exact ⟨0,Bi8 _,by omega,rfl,by rw [HPE.out];exact World.ownsRow_nil _ _ _ _,Below.refl _ _⟩
    case round=>
     obtain ⟨k,hk,hg,rfl,HR,HB⟩:=hrel
     by_cases hlt2:k<la.length
     ·have hlt3:(k:Int)<(la.length:Int):=by omega
      have hk0:(0:Int)<=(k:Int):=by omega
      have HST9:=Bi5 (show pk (k+1)=if (byF lb la[k].v).isSome then pk k++[la[k].v] else pk k by rw [HPE.out];exact HSEL.out k hlt2);have HPL:=Bi5 (show (pk k).length<=12 by rw [HPE.out];exact HSL.out k);obtain ⟨qb,qo,rfl,y0,y1,y2⟩:=(HC4.out.go HB.out).lab hlt2;obtain ⟨i1,i2,i3⟩:=HLA.out.2 la[k] (Bj7 hlt2);have i6:=Vh i1 hle;generalize la[k]=x at*;have lk:=((HM4.out.go HB.out).go (Below.of_al wr (Obj.cells #[.int .i64 x.v,.int .u64 x.d,.int .i64 x.b] 150))).look i6;have HB2':=Bi5 (HB.out.st (Below.of_al wr (Obj.cells #[.int .i64 x.v,.int .u64 x.d,.int .i64 x.b] 150)));have HR2:=Bi5 (World.ownsRow.alloc HR.out (Obj.cells #[.int .i64 x.v,.int .u64 x.d,.int .i64 x.b] 150))
      cases hy:byF lb x.v with
      |none=>
       rw [hy] at lk;have HST2:=Bi5 (show pk (k+1)=pk k by rw [HST9.out,hy];rfl);simp only [Option.isSome,Option.getD] at lk;clear hy i1 i6 i2 i3
       go_wp2
       go_roundg (la.length-(k+1))
       case measure=>omega
       case rel=>exact ⟨k+1,by omega,Bi7 _,by go_num,by rw [HST2.out];exact HR2.out,HB2'.out⟩
      |some y=>
       rw [hy] at lk;have HST2:=Bi5 (show pk (k+1)=pk k++[x.v] by rw [HST9.out,hy];rfl);simp only [Option.isSome,Option.getD] at lk;clear hy i1 i6 i2 i3 HST9;generalize pk k=row at*
       go_wp2_with (at_builtin;go_must (refine Ce w4.heap.size 3 _ 1 8 Dc Tryz.underlying25 _ row.length (row.map Aj) ⟨wr.heap.size+1,0,none⟩ 1 1 [.int .i64 x.v] rfl rfl (World.ownsRow.alloc HR2.out _) (Ea _ _ _ (by simp)) (Cr rfl) ⟨rfl,by decide,(by have:=HPL.out;omega),(by have:=HPL.out;omega),(by have:=HB2'.out.size;simp at this;simp;omega)⟩ ?_);intro g6 cap6 w6 hown6 hgrow6 hbl6 hat6 hlt6;(have HO6:=Bi5 hown6);(have HB6:=Bi5 ((HB2'.out.al _).trans hbl6));clear hown6 hgrow6 hbl6 hat6 hlt6)
       go_roundg (la.length-(k+1))
       case measure=>omega
       case rel=>exact ⟨k+1,by omega,Bi7 _,by go_num,by rw [HST2.out,Bl5,Bm6];exact HO6.out,HB6.out⟩
     ·obtain rfl:k=la.length:=by omega
      have HFE:=Bi5 (show pk la.length=Nd (byF lb) la by rw [HPE.out];exact HSE.out)
      go_wp2
      obtain ⟨ao9,cap9,rfl,hce9⟩:=Cel.of_owns HR.out;refine bodyPost_ret (v:=.tuple #[.slice ao9 (pk la.length).length cap9,.int .i64 0]) (by simp [results,Tryz.results38,go_sem];try rfl) rfl ?_;refine ⟨ao9,cap9,pk la.length,0,rfl,hce9,HBw.out.st HB.out,?_⟩;rw [HFE.out];obtain ⟨ea1,ea2⟩:=HEA.out;obtain ⟨eb1,eb2⟩:=HEB.out;have HSV:=Bi5 (fun v=>(show (∃x∈la,x.v=v)↔∃d,Peak (Bw false (Am es)) (rk ro) (s:Int) v d from
       ⟨fun ⟨x,hx,e⟩=>⟨x.d,(ea2 v x.d).1 ⟨x,hx,e,rfl⟩⟩,fun ⟨d,hd⟩=>by obtain ⟨x,hx,e,_⟩:=(ea2 v d).2 hd;exact ⟨x,hx,e⟩⟩))
      have HTV:=Bi5 (fun v=>(show (∃x∈lb,x.v=v)↔∃d,Peak (Bw true (Am es)) (rk ro) (t:Int) v d from
       ⟨fun ⟨x,hx,e⟩=>⟨x.d,(eb2 v x.d).1 ⟨x,hx,e,rfl⟩⟩,fun ⟨d,hd⟩=>by obtain ⟨x,hx,e,_⟩:=(eb2 v d).2 hd;exact ⟨x,hx,e⟩⟩))
      refine .inl ⟨rfl,HST.out.1,HST.out.2.1,HST.out.2.2,?_,?_,fun v=>?_⟩
      ·unfold Nd
       rw [List.pairwise_map];exact ea1.filter _
      ·exact Bi9 (Wo _ _) HLA.out.1
      ·have hpw:lb.Pairwise (fun a b=>a.v≠b.v):=eb1.imp (fun h=>by omega)
       rw [<-HSV.out v,<-HTV.out v];unfold Nd;simp only [List.mem_map,List.mem_filter];constructor
       ·rintro ⟨x,⟨hx,hs⟩,rfl⟩
        refine ⟨⟨x,hx,rfl⟩,?_⟩;obtain ⟨y,hy⟩:=Option.isSome_iff_exists.1 hs;obtain ⟨z,hz,hz1,_⟩:=(Hi lb hpw _ _).1 hy;exact ⟨z,hz,hz1⟩
       ·rintro ⟨⟨x,hx,rfl⟩,z,hz,hz1⟩
        refine ⟨x,⟨hx,?_⟩,rfl⟩;rw [(Hi lb hpw x.v z.d).2 ⟨z,hz,hz1,rfl⟩];rfl
 ·have hk0:k≠0:=by
   rcases hbad with ⟨h,_⟩|⟨h,_⟩<;>omega
  have hk2:(k != 0)=true:=by simpa using hk0
  have HBD:=Bi5 (show DistIs n (Am es) s t 0 k by
   rcases hbad with ⟨h1,h2,h3⟩|⟨h1,h2,h3⟩
   ·exact .inr (.inl ⟨h1,rfl,h3⟩)
   ·exact .inr (.inr ⟨h1,rfl,h3⟩))
  have HK0:=Bi5 hk0;clear hbad hk0
  go_wp2
  refine bodyPost_ret (v:=.tuple #[.slice none 0 0,.int .i64 k]) (by simp [results,Tryz.results38,go_sem];try rfl) rfl ?_;exact ⟨none,0,[],k,rfl,Cel.nil _ _,HB1.out,.inr ⟨HK0.out,rfl,HBD.out⟩⟩
end Vi
end
section
namespace Dj
open Ch
structure Dj (X:Nums) (s:Int) (far:Int->Option Int) (l:List (Int×Int)) (cur:Int) (out:List (Int×Int)) (done:Int->Int->Prop):Prop where
 sound:∀v d,far v=some d->Way0 X.rel Any s v d
 start:far s=some 0
 heap:∀v k,(v,k)∈l->far v=some k/\cur<=k
 lab:∀a∈out,far a.1=some a.2/\a.2<=cur/\(∀k,(a.1,k)∉l)/\Dist X.rel s a.1 a.2
 rest:∀v d,far v=some d->(v,d)∈l\/∃a∈out,a.1=v
 gone:∀a∈out,∀i v w,done a.1 i->X i a.1 v w->∃e,far v=some e/\e<=a.2+w
 once:out.Pairwise (fun a b=>a.1≠b.1)
 low:0<=cur
variable {X:Nums} {s:Int} {far:Int->Option Int} {l:List (Int×Int)} {cur:Int} {out:List (Int×Int)} {done:Int->Int->Prop}
theorem Dj.begin (X:Nums) (s:Int) (done:Int->Int->Prop):Dj X s (upd (fun _=>none) s (some 0)) [(s,0)] 0 [] done:=by
 refine ⟨?_,Aw _ _ _,?_,by simp,?_,by simp,.nil,Int.le_refl _⟩
 ·intro v d h
  by_cases e:v=s
  ·subst e
   rw [Aw] at h
   cases h
   exact .inl ⟨rfl,rfl⟩
  ·rw [Ar _ _ e] at h
   cases h
 ·intro v k h
  simp at h;obtain ⟨rfl,rfl⟩:=h;exact ⟨Aw _ _ _,Int.le_refl _⟩
 ·intro v d h
  by_cases e:v=s
  ·subst e
   rw [Aw] at h
   cases h
   exact .inl (by simp)
  ·rw [Ar _ _ e] at h
   cases h
theorem Dj.front (hA:∀u v w,X.rel u v w->1<=w) (h:Dj X s far l cur out done) (hd:∀a∈out,∀i v w,X i a.1 v w->done a.1 i):∀(k:Nat) (v e:Int),e.toNat<=k->Way0 X.rel Any s v e->(∃a∈out,a.1=v/\a.2<=e)\/∃y∈l,y.2<=e
 |k,v,e,hk,hw=>by
  rcases hw with ⟨rfl,rfl⟩|hw
  ·rcases h.rest _ _ h.start with h1|⟨a,ha,h1⟩
   ·exact .inr ⟨_,h1,Int.le_refl _⟩
   ·have:=(h.lab a ha).1
    rw [h1,h.start] at this;exact .inl ⟨a,ha,h1,by have:=Bl4 this;omega⟩
  ·have hpos:=hw.pos hA
   obtain ⟨m,w,h1,h2⟩:=hw.lastArc;have hw1:=hA _ _ _ h1;have h3:Way0 X.rel Any s m (e-w):=by
    rcases h2 with ⟨rfl,rfl⟩|⟨_,h2⟩
    ·exact .inl ⟨rfl,by omega⟩
    ·exact .inr h2
   have h4:=h3.nonneg hA
   cases k with
   |zero=>omega
   |succ k=>
    rcases Dj.front hA h hd k m (e-w) (by omega) h3 with ⟨a,ha,rfl,h5⟩|⟨y,hy,h5⟩
    ·obtain ⟨i,hi⟩:=h1
     obtain ⟨f,h6,h7⟩:=h.gone a ha i v w (hd a ha i v w hi) hi
     rcases h.rest _ _ h6 with h8|⟨b,hb,rfl⟩
     ·exact .inr ⟨_,h8,by show f<=e;omega⟩
     ·have:=(h.lab b hb).1
      rw [h6] at this;have:=Bl4 this;exact .inl ⟨b,hb,rfl,by omega⟩
    ·exact .inr ⟨y,hy,by omega⟩
theorem Dj.pop (hA:∀u v w,X.rel u v w->1<=w) (h:Dj X s far l cur out done) (hd:∀a∈out,∀i v w,X i a.1 v w->done a.1 i) {v d:Int} {l':List (Int×Int)} (hin:(v,d)∈l) (hmin:∀y∈l,d<=y.2) (hl:∀y,y∈l'↔y∈l/\y.1≠v)
  (hdone:∀i,¬done v i):Dj X s far l' d (out++[(v,d)]) done/\(∀a∈out,a.1≠v)/\Dist X.rel s v d:=by
 obtain ⟨hf,hc⟩:=h.heap v d hin;have hnew:∀a∈out,a.1≠v:=by
  intro a ha e;have:=(h.lab a ha).2.2.1 d;rw [e] at this;exact this hin
 have hdist:Dist X.rel s v d:=by
  refine ⟨h.sound _ _ hf,fun e he=>?_⟩
  rcases Dj.front hA h hd _ v e (Bi7 _) he with ⟨a,ha,h1,-⟩|⟨y,hy,h1⟩
  ·exact absurd h1 (hnew a ha)
  ·have:=hmin y hy
   omega
 refine ⟨⟨h.sound,h.start,?_,?_,?_,?_,?_,by have:=h.low;omega⟩,hnew,hdist⟩
 ·intro u k hk
  have:=(hl _).1 hk;exact ⟨(h.heap u k this.1).1,hmin _ this.1⟩
 ·intro a ha
  rcases Bl8.1 ha with ha|ha
  ·obtain ⟨a1,a2,a3,a4⟩:=h.lab a ha
   exact ⟨a1,by omega,fun k hk=>a3 k ((hl _).1 hk).1,a4⟩
  ·rw [Bk2] at ha
   subst ha;exact ⟨hf,Int.le_refl _,fun k hk=>((hl _).1 hk).2 rfl,hdist⟩
 ·intro u k hk
  rcases h.rest u k hk with h1|⟨a,ha,h1⟩
  ·by_cases e2:u=v
   ·subst e2
    rw [hk] at hf
    cases hf
    exact .inr ⟨(u,d),by simp,rfl⟩
   ·exact .inl ((hl _).2 ⟨h1,e2⟩)
  ·exact .inr ⟨a,by simp [ha],h1⟩
 ·intro a ha i u w hd hx
  rcases Bl8.1 ha with ha|ha
  ·exact h.gone a ha i u w hd hx
  ·rw [Bk2] at ha
   subst ha;exact absurd hd (hdone i)
 ·rw [Bn5]
  refine ⟨h.once,by simp,?_⟩;intro a ha b hb;rw [Bk2] at hb;subst hb;exact hnew a ha
theorem Dj.skip (h:Dj X s far l cur out done) {a:Int×Int} (ha:a∈out) {i v w e:Int} (huniq:∀v' w',X i a.1 v' w'->v'=v/\w'=w) (hfar:far v=some e) (he:e<=a.2+w):
  Dj X s far l cur out (fun u j=>done u j\/(u=a.1/\j=i)):=by
 refine ⟨h.sound,h.start,h.heap,h.lab,h.rest,?_,h.once,h.low⟩;intro b hb j u x hd hx
 rcases hd with hd|⟨e1,rfl⟩
 ·exact h.gone b hb j u x hd hx
 ·have hba:b.2=a.2:=by
   have h1:=(h.lab b hb).1;rw [e1,(h.lab a ha).1] at h1;exact (Bl4 h1).symm
  rw [e1] at hx;obtain ⟨rfl,rfl⟩:=huniq _ _ hx;exact ⟨e,hfar,by omega⟩
theorem Dj.reach (hA:∀u v w,X.rel u v w->1<=w) (h:Dj X s far l cur out done) {a:Int×Int} (ha:a∈out) (hcur:a.2=cur) {i v w:Int} (hx:X i a.1 v w)
  (huniq:∀v' w',X i a.1 v' w'->v'=v/\w'=w) (hfar:∀e,far v=some e->a.2+w<e) {l':List (Int×Int)} (hl:∀y,y∈l'↔y=(v,a.2+w)\/(y∈l/\y.1≠v)):
  Dj X s (upd far v (some (a.2+w))) l' cur out (fun u j=>done u j\/(u=a.1/\j=i)):=by
 have hw1:=hA _ _ _ ⟨i,hx⟩;have hlow:=h.low;have hav:Way0 X.rel Any s v (a.2+w):=(h.sound _ _ (h.lab a ha).1).trans trivial (.inr (.one ⟨i,hx⟩));have hvo:∀b∈out,b.1≠v:=by
  intro b hb e;obtain ⟨b1,b2,_⟩:=h.lab b hb;rw [e] at b1;have:=hfar _ b1;omega
 have hvs:v≠s:=by
  intro e;have:=hfar 0 (by rw [e];exact h.start);omega
 refine ⟨?_,?_,?_,?_,?_,?_,h.once,hlow⟩
 ·intro u d hd
  by_cases e:u=v
  ·subst e
   rw [Aw] at hd
   cases hd
   exact hav
  ·rw [Ar _ _ e] at hd
   exact h.sound _ _ hd
 ·rw [Ar _ _ (fun e=>hvs e.symm)]
  exact h.start
 ·intro u k hk
  rcases (hl _).1 hk with e|⟨h1,h2⟩
  ·cases e
   exact ⟨Aw _ _ _,by omega⟩
  ·rw [Ar _ _ h2]
   exact h.heap u k h1
 ·intro b hb
  obtain ⟨b1,b2,b3,b4⟩:=h.lab b hb;have hne:=hvo b hb;refine ⟨by rw [Ar _ _ hne];exact b1,b2,?_,b4⟩;intro k hk
  rcases (hl _).1 hk with e|⟨h1,h2⟩
  ·exact hne (Prod.mk.inj e).1
  ·exact b3 k h1
 ·intro u d hd
  by_cases e:u=v
  ·subst e
   rw [Aw] at hd
   cases hd
   exact .inl ((hl _).2 (.inl rfl))
  ·rw [Ar _ _ e] at hd
   rcases h.rest u d hd with h1|h1
   ·exact .inl ((hl _).2 (.inr ⟨h1,e⟩))
   ·exact .inr h1
 ·intro b hb j u x hd hx'
  by_cases e:u=v
  ·subst e
   rw [Aw]
   rcases hd with hd|⟨e1,rfl⟩
   ·obtain ⟨f,h1,h2⟩:=h.gone b hb j u x hd hx'
    exact ⟨_,rfl,by have:=hfar _ h1;omega⟩
   ·have hba:b.2=a.2:=by
     have h1:=(h.lab b hb).1;rw [e1,(h.lab a ha).1] at h1;exact (Bl4 h1).symm
    rw [e1] at hx';have:=(huniq _ _ hx').2;exact ⟨_,rfl,by omega⟩
  ·rw [Ar _ _ e]
   rcases hd with hd|⟨e1,rfl⟩
   ·exact h.gone b hb j u x hd hx'
   ·rw [e1] at hx'
    exact absurd (huniq _ _ hx').1 e
theorem Dj.all (hA:∀u v w,X.rel u v w->1<=w) (h:Dj X s far [] cur out done) (hd:∀a∈out,∀i v w,X i a.1 v w->done a.1 i) {v e:Int} (hw:Way0 X.rel Any s v e):∃a∈out,a.1=v:=by
 rcases Dj.front hA h hd _ v e (Bi7 _) hw with ⟨a,ha,h1,-⟩|⟨y,hy,-⟩
 ·exact ⟨a,ha,h1⟩
 ·cases hy
end Dj
end
section
namespace Ad
def Cp (kf:Nat->Nat):Nat->Nat->Nat
 |0,_=>0
 |k+1,v=>Cp kf k v+(if kf k=v then 1 else 0)
def Ci (kf:Nat->Nat):Nat->Nat->Nat
 |0,_=>0
 |k+1,j=>Ci kf k j+(if kf k<j then 1 else 0)
theorem Ju (kf:Nat->Nat) (j:Nat):∀k,Ci kf k (j+1)=Ci kf k j+Cp kf k j
 |0=>rfl
 |k+1=>by
  unfold Ci Cp;rw [Ju kf j k]
  by_cases h1:kf k<j
  ·rw [if_pos h1,if_pos (by omega),if_neg (by omega)]
   omega
  ·by_cases h2:kf k=j
   ·rw [if_neg h1,if_pos h2,if_pos (by omega)]
    omega
   ·rw [if_neg h1,if_neg h2,if_neg (by omega)]
    omega
theorem Tk (kf:Nat->Nat):∀k,Ci kf k 0=0
 |0=>rfl
 |k+1=>by unfold Ci;rw [Tk kf k,if_neg (by omega)]
theorem Gx (kf:Nat->Nat) {i j:Nat} (h:i<=j):∀k,Ci kf k i<=Ci kf k j
 |0=>Bi7 _
 |k+1=>by
  have:=Gx kf h k;unfold Ci
  split<;>split<;>omega
theorem Xe {kf:Nat->Nat} {n:Nat}:∀k,(∀i,i<k->kf i<n)->Ci kf k n=k
 |0,_=>rfl
 |k+1,h=>by
  unfold Ci;rw [Xe k (fun i hi=>h i (by omega)),if_pos (h k (by omega))]
theorem Vb (kf:Nat->Nat) (j:Nat):∀k,Ci kf k j<=k
 |0=>Bi7 _
 |k+1=>by
  have:=Vb kf j k;unfold Ci
  split<;>omega
theorem Pq (kf:Nat->Nat) (v:Nat):∀k,Cp kf k v<=k
 |0=>Bi7 _
 |k+1=>by
  have:=Pq kf v k;unfold Cp
  split<;>omega
theorem Uh (kf:Nat->Nat) (v:Nat) {i:Nat}:∀{j},i<=j->Cp kf i v<=Cp kf j v
 |0,h=>by
  have:i=0:=by omega
  subst this;exact Bi7 _
 |j+1,h=>by
  by_cases e:i=j+1
  ·subst e;exact Bi7 _
  ·have:=Uh kf v (i:=i) (j:=j) (by omega)
   show _<=Cp kf j v+_
   omega
theorem Ah4 (kf:Nat->Nat) {i j:Nat} (h:i<j):Cp kf i (kf i)<Cp kf j (kf i):=by
 have h1:=Uh kf (kf i) (show i+1<=j by omega);have h2:Cp kf (i+1) (kf i)=Cp kf i (kf i)+1:=by
  show Cp kf i (kf i)+(if kf i=kf i then 1 else 0)=_
  rw [if_pos rfl]
 omega
def Ld (kf:Nat->Nat) (m i:Nat):Nat:=Ci kf m (kf i)+Cp kf i (kf i)
theorem Qi (kf:Nat->Nat) {m i:Nat} (h:i<m):Ld kf m i<Ci kf m (kf i+1):=by
 have:=Ah4 kf h;unfold Ld;rw [Ju];omega
theorem Af5 {kf:Nat->Nat} {m n i:Nat} (h:i<m) (hk:∀i,i<m->kf i<n):Ld kf m i<m:=by
 have h1:=Qi kf h;have h2:=Gx kf (show kf i+1<=n from hk i h) m;rw [Xe m hk] at h2;omega
theorem Ba3 {kf:Nat->Nat} {m i j:Nat} (hj:j<m) (hij:i<j):Ld kf m i≠Ld kf m j:=by
 have hi:i<m:=by omega
 rcases Nat.lt_trichotomy (kf i) (kf j) with h|h|h
 ·have h1:=Qi kf hi
  have h2:=Gx kf (show kf i+1<=kf j by omega) m;unfold Ld at*;omega
 ·have h1:=Ah4 kf hij
  unfold Ld;rw [<-h];omega
 ·have h1:=Qi kf hj
  have h2:=Gx kf (show kf j+1<=kf i by omega) m;unfold Ld at*;omega
def Ec (kf:Nat->Nat):Nat->Nat->List Int
 |0,_=>[]
 |k+1,v=>if kf k=v then Ec kf k v++[(k:Int)] else Ec kf k v
theorem Je (kf:Nat->Nat) (v:Nat):∀k,(Ec kf k v).length=Cp kf k v
 |0=>rfl
 |k+1=>by
  unfold Ec Cp
  split
  ·rw [Bl5,Je kf v k];rfl
  ·rw [Je kf v k];rfl
theorem Vj (kf:Nat->Nat) (v:Nat):∀k j x,(Ec kf k v)[j]? =some x->∃i:Nat,x=(i:Int)/\i<k/\kf i=v/\Cp kf i v=j
 |0,j,x,h=>by simp [Ec] at h
 |k+1,j,x,h=>by
  unfold Ec at h
  split at h
  ·rename_i e
   rcases Nat.lt_or_ge j (Ec kf k v).length with hj|hj
   ·rw [Bm4 hj] at h
    obtain ⟨i,h1,h2,h3⟩:=Vj kf v k j x h;exact ⟨i,h1,by omega,h3⟩
   ·rw [Bm3 hj] at h
    have hj0:j=(Ec kf k v).length:=by
     have:=(Bj8.1 h).1;simp at this;omega
    subst hj0;rw [Nat.sub_self] at h
    cases h
    exact ⟨k,rfl,by omega,e,(Je kf v k).symm⟩
  ·obtain ⟨i,h1,h2,h3⟩:=Vj kf v k j x h
   exact ⟨i,h1,by omega,h3⟩
theorem Dk {kf:Nat->Nat} {v:Nat} {x:Int}:∀{k},x∈Ec kf k v↔∃i:Nat,x=(i:Int)/\i<k/\kf i=v
 |0=>by simp [Ec]
 |k+1=>by
  unfold Ec;have ih:=@Dk kf v x k
  split
  ·rename_i e
   rw [Bl8,Bk2,ih];constructor
   ·rintro (⟨i,h1,h2,h3⟩|rfl)
    ·exact ⟨i,h1,by omega,h3⟩
    ·exact ⟨k,rfl,by omega,e⟩
   ·rintro ⟨i,rfl,h2,h3⟩
    by_cases e2:i=k
    ·subst e2;exact .inr rfl
    ·exact .inl ⟨i,rfl,by omega,h3⟩
  ·rename_i e
   rw [ih];constructor
   ·rintro ⟨i,h1,h2,h3⟩
    exact ⟨i,h1,by omega,h3⟩
   ·rintro ⟨i,rfl,h2,h3⟩
    refine ⟨i,rfl,?_,h3⟩
    by_cases e2:i=k
    ·subst e2;exact absurd h3 e
    ·omega
theorem Rd (kf:Nat->Nat) (v:Nat):∀k,(Ec kf k v).Pairwise (· <·)
 |0=>List.Pairwise.nil
 |k+1=>by
  unfold Ec
  split
  ·refine Bn5.2 ⟨Rd kf v k,List.pairwise_singleton _ _,fun a ha b hb=>?_⟩
   obtain rfl:=Bk2.1 hb;obtain ⟨i,rfl,hi,_⟩:=Dk.1 ha;omega
  ·exact Rd kf v k
def EdgP (kf:Nat->Nat) (m k:Nat) (xs:List Int):Prop:=xs.length=m/\∀i,i<k->xs[Ld kf m i]? =some (i:Int)
theorem EdgP.step {kf:Nat->Nat} {m n k:Nat} {xs:List Int} (h:EdgP kf m k xs) (hk:k<m) (hn:∀i,i<m->kf i<n):EdgP kf m (k+1) (xs.set (Ld kf m k) (k:Int)):=by
 refine ⟨by rw [Bj6];exact h.1,fun i hi=>?_⟩;have hp:=Af5 hk hn
 by_cases e:i=k
 ·subst e
  rw [Bn4 (by rw [h.1];exact hp)]
 ·have:=Ba3 (kf:=kf) (m:=m) hk (show i<k by omega)
  rw [Bn3 (fun e2=>this e2.symm)];exact h.2 i (by omega)
theorem EdgP.row {kf:Nat->Nat} {m:Nat} {xs:List Int} (h:EdgP kf m m xs) (v:Nat) {j:Nat} {x:Int} (hx:(Ec kf m v)[j]? =some x):xs[Ci kf m v+j]? =some x:=by
 obtain ⟨i,rfl,h1,h2,h3⟩:=Vj kf v m j x hx;have:=h.2 i h1;unfold Ld at this;rw [h2,h3] at this;exact this
def Od (kf:Nat->Nat) (n k:Nat):List Int:=(List.range (n+1)).map fun j=>if j=0 then 0 else (Cp kf k (j-1):Int)
def Gd (kf:Nat->Nat) (n m v:Nat):List Int:=(List.range (n+1)).map fun j=>if j<=v then (Ci kf m j:Int) else (Cp kf m (j-1):Int)
def atL (kf:Nat->Nat) (n m k:Nat):List Int:=(List.range (n+1)).map fun j=>((Ci kf m j+Cp kf k j:Nat):Int)
theorem Ry (kf:Nat->Nat) (n k:Nat):(Od kf n k).length=n+1:=by simp [Od]
theorem Mb (kf:Nat->Nat) (n m v:Nat):(Gd kf n m v).length=n+1:=by simp [Gd]
theorem Vt (kf:Nat->Nat) (n m k:Nat):(atL kf n m k).length=n+1:=by simp [atL]
theorem Ah8 {kf:Nat->Nat} {n k v:Nat} (h:v<n):(Od kf n k)[v+1]? =some (Cp kf k v:Int):=by
 unfold Od;rw [Bk4,List.getElem?_range (by omega)];simp
theorem Ad9 (kf:Nat->Nat) (n:Nat):Od kf n 0=List.replicate (n+1) 0:=by
 apply List.ext_getElem?
 intro j;unfold Od;rw [Bk4,Bm5]
 by_cases h:j<n+1
 ·rw [List.getElem?_range h,if_pos h]
  simp [Cp]
 ·rw [Bm2 (by simp;omega),if_neg h]
  rfl
theorem Ap4 {kf:Nat->Nat} {n k:Nat} (h:kf k<n):(Od kf n k).set (kf k+1) ((Cp kf k (kf k):Int)+1)=Od kf n (k+1):=by
 apply List.ext_getElem?
 intro j
 by_cases hj:j<n+1
 ·by_cases e:kf k+1=j
  ·subst e
   rw [Bn4 (by rw [Ry];exact hj),Ah8 h]
   show _=some ((Cp kf k (kf k)+(if kf k=kf k then 1 else 0):Nat):Int)
   rw [if_pos rfl];rfl
  ·rw [Bn3 e]
   unfold Od;rw [Bk4,Bk4,List.getElem?_range hj];simp only [Option.map_some]
   by_cases h0:j=0
   ·rw [if_pos h0,if_pos h0]
   ·rw [if_neg h0,if_neg h0]
    show _=some ((Cp kf k (j-1)+(if kf k=j-1 then 1 else 0):Nat):Int)
    rw [if_neg (by omega)];rfl
 ·rw [Bm2 (by rw [Bj6,Ry];omega),Bm2 (by rw [Ry];omega)]
theorem Aa2 (kf:Nat->Nat) (n m:Nat):Gd kf n m 0=Od kf n m:=by
 unfold Gd Od
 apply List.map_congr_left
 intro j _
 by_cases h:j=0
 ·subst h
  rw [if_pos (Bi7 _),if_pos rfl,Tk];rfl
 ·rw [if_neg (by omega),if_neg h]
theorem At6 {kf:Nat->Nat} {n m v:Nat} (h:v<n):(Gd kf n m v)[v]? =some (Ci kf m v:Int):=by
 unfold Gd;rw [Bk4,List.getElem?_range (by omega)];simp
theorem At5 {kf:Nat->Nat} {n m v:Nat} (h:v<n):(Gd kf n m v)[v+1]? =some (Cp kf m v:Int):=by
 unfold Gd;rw [Bk4,List.getElem?_range (by omega)];simp only [Option.map_some];rw [if_neg (by omega)];rfl
theorem Ak8 {kf:Nat->Nat} {n m v:Nat} (h:v<n):(Gd kf n m v).set (v+1) ((Cp kf m v:Int)+(Ci kf m v:Int))=Gd kf n m (v+1):=by
 apply List.ext_getElem?
 intro j
 by_cases hj:j<n+1
 ·by_cases e:v+1=j
  ·subst e
   rw [Bn4 (by rw [Mb];exact hj)];unfold Gd;rw [Bk4,List.getElem?_range hj];simp only [Option.map_some];rw [if_pos (Bi7 _),Ju]
   congr 1
   omega
  ·rw [Bn3 e]
   unfold Gd;rw [Bk4,Bk4,List.getElem?_range hj];simp only [Option.map_some]
   by_cases h0:j<=v
   ·rw [if_pos h0,if_pos (by omega)]
   ·rw [if_neg h0,if_neg (by omega)]
 ·rw [Bm2 (by rw [Bj6,Mb];omega),Bm2 (by rw [Mb];omega)]
theorem Oe (kf:Nat->Nat) (n m:Nat):Gd kf n m n=atL kf n m 0:=by
 unfold Gd atL
 apply List.map_congr_left
 intro j hj;have:=Bl9.1 hj;rw [if_pos (by omega)];rfl
theorem Of {kf:Nat->Nat} {n m k v:Nat} (h:v<n+1):(atL kf n m k)[v]? =some ((Ci kf m v+Cp kf k v:Nat):Int):=by
 unfold atL;rw [Bk4,List.getElem?_range h];rfl
theorem Ax9 {kf:Nat->Nat} {n m k:Nat} (h:kf k<n):(atL kf n m k).set (kf k) ((Ld kf m k:Int)+1)=atL kf n m (k+1):=by
 apply List.ext_getElem?
 intro j
 by_cases hj:j<n+1
 ·by_cases e:kf k=j
  ·subst e
   rw [Bn4 (by rw [Vt];exact hj),Of hj]
   show _=some ((Ci kf m (kf k)+(Cp kf k (kf k)+(if kf k=kf k then 1 else 0)):Nat):Int)
   rw [if_pos rfl];unfold Ld
   congr 1
  ·rw [Bn3 e,Of hj,Of hj]
   show _=some ((Ci kf m j+(Cp kf k j+(if kf k=j then 1 else 0)):Nat):Int)
   rw [if_neg e];rfl
 ·rw [Bm2 (by rw [Bj6,Vt];omega),Bm2 (by rw [Vt];omega)]
end Ad
end
end Go.Proofs.YteaaapdjplbljaaGreat
