/- Parts; no condition. -/
import Derived.Test.YteaaapdjplbljaaGreatVc16
set_option linter.unusedVariables false
set_option linter.unusedSimpArgs false
set_option linter.unnecessarySimpa false
set_option maxRecDepth 100000
set_option maxHeartbeats 8000000
namespace Go.Proofs.YteaaapdjplbljaaGreat
open Go Go.Proofs Go.RowKit Go.Shelf Hp Ch
def Cb (g:GD) (hops settles:Int) (r:List Int):Int:=
 if Ak g≠0\/Ak1 hops settles r=false then 1 else if 0<r.length/\(r.length:Int)≠g.n then 2 else 0
def Fv (r:List Int) (g:GD) (k:Int) (w:World) (e:Ending) (w':World):Prop:=
 ∃(R:List Int) (S:List SC) (ao bo:Option Addr) (ca cb:Nat),e=.returned (.tuple #[.agg #[.slice ao R.length ca,.slice bo S.length cb],.int .i64 k])/\Cel w' ao (R.map Aj)/\Cel w' bo (Be S)/\(k=0->BuiltOK g.es g.n.toNat R S)/\(k≠0->R=[]/\S=[])/\Below w.heap.size w w'/\S.length<=cb/\S.length<=1000000/\(k=0->r≠[]->R=r)
theorem As5 {w:World} {base size n cap:Nat} {e:TypeId} {ao:Option Addr} {xs:List Value} (h:w.ownsRow base e size (.slice ao n cap) n xs):n<=cap:=by
 rcases h.2 with ⟨e,_⟩|⟨g,cap',cur,e,_,_,hc,_⟩
 ·cases e;exact Bi7 _
 ·cases e;exact hc
theorem Jk {g:GD} {n:Nat} (h:Ak g=0) (hn:g.n=(n:Int)):EdgesOK n g.es:=by
 unfold Ak at h
 split at h
 ·cases h
 ·split at h
  ·cases h
  ·split at h
   ·cases h
   ·rename_i h3
    split at h
    ·cases h
    ·rename_i h4
     refine ⟨fun x hx=>?_⟩;have h3':=fun hh=>h3 (List.any_eq_true.2 ⟨x,hx,hh⟩);have h4':=fun hh=>h4 (List.any_eq_true.2 ⟨x,hx,hh⟩);simp only [Cv,Bs,Bg,hn] at h3' h4';simp only [Bool.or_eq_true,Bool.not_eq_true',Bool.and_eq_false_iff,decide_eq_false_iff_not,beq_iff_eq,not_or] at h3' h4';obtain ⟨a,c⟩:=not_or.1 h3';obtain ⟨a,b⟩:=not_or.1 a;obtain ⟨d,e⟩:=not_or.1 h4';refine ⟨⟨by omega,by omega⟩,⟨by omega,by omega⟩,c,by omega,by omega⟩
theorem Jr {g:GD} (h:Ak g=0):1<=g.n/\g.n<=4096:=by
 unfold Ak at h
 split at h
 ·cases h
 ·omega
structure BuB (W:World) (b:Nat) (g:GD) (ao:Option Addr) (cap:Nat) (hops settles:Int) (vr:Value):Prop where
 g0:W.cell? ⟨b,0,none⟩=some (.int .i64 g.n)
 g1:W.cell? ⟨b,1,none⟩=some (.slice ao g.es.length cap)
 o0:W.cell? ⟨b+1,0,none⟩=some (.int .i64 hops)
 o1:W.cell? ⟨b+1,1,none⟩=some (.int .i64 settles)
 o2:W.cell? ⟨b+1,2,none⟩=some vr
theorem BuB.off {X:Nat->Prop} {W W':World} {b cap:Nat} {g:GD} {ao:Option Addr} {hops settles:Int} {vr:Value} (h:BuB W b g ao cap hops settles vr) (ho:OffX X W W') (h1:¬X b) (h2:¬X (b+1)):BuB W' b g ao cap hops settles vr:=
 ⟨ho.cell h.g0 h1,ho.cell h.g1 h1,ho.cell h.o0 h2,ho.cell h.o1 h2,ho.cell h.o2 h2⟩
theorem Ep {W:World} {b:Nat} {a0 a1:Value} (x y:Value) (h0:W.cell? ⟨b,0,none⟩=some a0) (h1:W.cell? ⟨b,1,none⟩=some a1):
  ((W.setCell ⟨b,0,none⟩ x).setCell ⟨b,1,none⟩ y).cell? ⟨b,0,none⟩=some x/\((W.setCell ⟨b,0,none⟩ x).setCell ⟨b,1,none⟩ y).cell? ⟨b,1,none⟩=some y:=by
 constructor
 ·rw [Bj3 _ _ _ _ (by simp)]
  exact Bj4 _ _ _ h0
 ·refine Bj4 (u:=a1) _ _ _ ?_
  rw [Bj3 _ _ _ _ (by simp)];exact h1
theorem BegS.coI {w wr:World} {es:List EdgeD} {n cb se:Nat} {hops:Int} {vr:Value} {s:CS} (h:BegS w es n cb hops (se:Int) vr es.length s wr) (hE:EdgesOK n es):CoI (Am es) (Yl es) n cb se hops vr [] es.length wr s:=by
 refine ⟨h.core,by rw [h.c];exact Ad8 hE,?_,?_,h.opt,h.cb,h.room,by simp,by simp⟩
 ·intro u hu
  rw [h.gone,Bj1,Bm5]
  split
  ·simp
  ·rename_i h2
   exact absurd (by have:=hu.1;have:=hu.2;omega) h2
 ·intro d hd
  rw [h.dep] at hd;rw [List.eq_of_mem_replicate hd];simp
theorem Ey {W:World} {ao:Option Addr} {R:List Int} {q:Addr} {a:Option Addr} {n c:Nat} (h:Cel W ao (R.map Aj)) (hq:W.cell? q=some (.slice a n c)) (u:Value):Cel (W.setCell q u) ao (R.map Aj):=by
 intro j x hx;obtain ⟨b,o,e,hc⟩:=h j x hx;refine ⟨b,o,e,?_⟩;rw [Bj3 _ _ _ _ ?_]
 ·exact hc
 ·rintro rfl
  rw [hq] at hc;obtain ⟨y,_,rfl⟩:=List.mem_map.1 (Bl3 hx)
  cases hc
theorem Fm {W W':World} {ao:Option Addr} {xs:List Value} {X:Nat->Prop} {n c:Nat} (h:Cel W ao xs) (ho:OffX X W W') (hX:∀k,(Value.slice ao n c).ownBlock=some k->¬X k):Cel W' ao xs:=by
 intro j x hx;obtain ⟨b,o,e,hc⟩:=h j x hx;exact ⟨b,o,e,ho.cell hc (hX b (by rw [e];rfl))⟩
def Bd4 (r:List Int) (es:List EdgeD) (n cb se:Nat) (hops:Int) (vr:Value) (w:World) (W:World):Prop:=
 ∃(R:List Int) (ao:Option Addr) (ca:Nat) (out:List Int) (m:Nat) (s:CS),W.cell? ⟨w.heap.size+1+1,0,none⟩=some (.slice ao R.length ca)/\W.cell? ⟨w.heap.size+1+1,1,none⟩=some (.slice none 0 0)/\
  W.frozen? ⟨w.heap.size+1+1,0,none⟩=false/\W.frozen? ⟨w.heap.size+1+1,1,none⟩=false/\Cel W ao (R.map Aj)/\CoI (Am es) (Yl es) n cb se hops vr out m W s/\Bb out=true/\out.length=n/\R=Fj out/\
  Below w.heap.size w W/\(∀k,s.X k->w.heap.size+2<k)/\m<=1000000/\(r≠[]->R=r)
theorem Ag0 {a b n:Nat} (ha:a<=1000) (hb:b=n) (hn:n<=26):a+b*(n*n)<=1000000:=by
 subst hb;have h1:=Nat.mul_le_mul hn hn;have h2:=Nat.mul_le_mul hn h1;omega
theorem Ao9 {r:List Int} {es:List EdgeD} {n cb se m ci:Nat} {hops:Int} {vr:Value} {w W:World} {R out:List Int} {ai:Option Addr} {s:CS}
  (k0:W.cell? ⟨w.heap.size+1+1,0,none⟩=some (.slice none 0 0)) (k1:W.cell? ⟨w.heap.size+1+1,1,none⟩=some (.slice none 0 0)) (z0:W.frozen? ⟨w.heap.size+1+1,0,none⟩=false) (z1:W.frozen? ⟨w.heap.size+1+1,1,none⟩=false)
  (hR:Cel W ai (R.map Aj)) (hci:CoI (Am es) (Yl es) n cb se hops vr out m W s) (hr:Bb out=true) (hl:out.length=n) (hRo:R=Fj out) (hb:Below w.heap.size w W) (hx:∀k,s.X k->w.heap.size+2<k) (hm:m<=1000000) (hq:r≠[]->R=r):
  Bd4 r es n cb se hops vr w (W.setCell ⟨w.heap.size+1+1,0,none⟩ (.slice ai R.length ci)):=by
 refine ⟨R,ai,ci,out,m,s,Bj4 _ _ _ k0,?_,?_,?_,Ey hR k0 _,hci.off (X:=(· =w.heap.size+1+1)) (.set _ rfl) ?_,hr,hl,hRo,hb.setCell (by show w.heap.size<=w.heap.size+1+1;omega) _,hx,hm,hq⟩
 ·rw [Bj3 _ _ _ _ (by simp)]
  exact k1
 ·rw [Bm1]
  exact z0
 ·rw [Bm1]
  exact z1
 ·intro j hj e
  have:=hx j hj;omega
theorem Uj {s:CS} {w W W':World} {a0 a1:Value} (ho:OffX s.X W W') (hx:∀k,s.X k->w.heap.size+2<k) (hsz:w.heap.size+3<=W.heap.size)
  (k0:W.cell? ⟨w.heap.size+1+1,0,none⟩=some a0) (k1:W.cell? ⟨w.heap.size+1+1,1,none⟩=some a1) (z0:W.frozen? ⟨w.heap.size+1+1,0,none⟩=false) (z1:W.frozen? ⟨w.heap.size+1+1,1,none⟩=false) (hb:Below w.heap.size w W):
  W'.cell? ⟨w.heap.size+1+1,0,none⟩=some a0/\W'.cell? ⟨w.heap.size+1+1,1,none⟩=some a1/\W'.frozen? ⟨w.heap.size+1+1,0,none⟩=false/\W'.frozen? ⟨w.heap.size+1+1,1,none⟩=false/\Below w.heap.size w W'/\w.heap.size+3<=W'.heap.size:=by
 have hn:¬s.X (w.heap.size+1+1):=fun k=>by have:=hx _ k;omega
 refine ⟨ho.cell k0 hn,ho.cell k1 hn,(ho.frozen (p:=⟨w.heap.size+1+1,0,none⟩) (by show w.heap.size+1+1<_;omega) hn).trans z0,(ho.frozen (p:=⟨w.heap.size+1+1,1,none⟩) (by show w.heap.size+1+1<_;omega) hn).trans z1,hb.trans (ho.below (by omega) (fun k hk=>by have:=hx k hk;omega)),Bi9 hsz ho.size⟩
theorem Ao7 (g:GD) (ao ro:Option Addr) (cap rc:Nat) (hops settles:Int) (r:List Int) (w:World) (hc:Cel w ao (Ax g.es)) (hr:Cel w ro (r.map Aj)) (hgz:Ak g≠0) (hl:g.es.length<=1000) (hrl:r.length<=1000000):
  Calls Tryz.prog 58 #[.agg #[.int .i64 g.n,.slice ao g.es.length cap],.agg #[.int .i64 hops,.int .i64 settles,.slice ro r.length rc]] w (Fv r g (Cb g hops settles r) w):=by
 obtain ⟨W,hW⟩:∃W,W=((w.alloc (Obj.cells #[.int .i64 g.n,.slice ao g.es.length cap] 24)).alloc (Obj.cells #[.int .i64 hops,.int .i64 settles,.slice ro r.length rc] 27)).alloc (Obj.cells #[.slice none 0 0,.slice none 0 0] 81):=⟨_,rfl⟩;have hbw:Below w.heap.size w W:=by rw [hW];exact ((Below.of_al _ _).al _).al _
 have hsz:W.heap.size=w.heap.size+3:=by rw [hW];simp
 have hbx:BuB W w.heap.size g ao cap hops settles (.slice ro r.length rc):=by rw [hW];constructor<;>go_simp
 have k0:W.cell? ⟨w.heap.size+1+1,0,none⟩=some (.slice none 0 0):=by rw [hW];go_simp
 have k1:W.cell? ⟨w.heap.size+1+1,1,none⟩=some (.slice none 0 0):=by rw [hW];go_simp
 have z0:W.frozen? ⟨w.heap.size+1+1,0,none⟩=false:=by rw [hW];go_simp
 have z1:W.frozen? ⟨w.heap.size+1+1,1,none⟩=false:=by rw [hW];go_simp
 have HGR:=Bi5 (Dm g ao cap W (by omega) (hc.go hbw));have HOR:=Bi5 (fun W' (h:Below W.heap.size W W')=>Pc hops settles r ro rc W' hrl ((hr.go hbw).go h));have HB:=Bi5 hbw;have HW:=Bi5 hW;have HSZ:=Bi5 hsz;have HBX:=Bi5 hbx;have HC:=Bi5 (hc.go hbw);have HR:=Bi5 (hr.go hbw);obtain ⟨c0,c1,d0,d1,d2⟩:=hbx;have hgl:(g.es.length:Int)<=1000:=by omega
 have hrl2:(r.length:Int)<=1000000:=by omega
 unfold Fv;clear hW hbw hsz hc hr;have hk:Cb g hops settles r=1:=by unfold Cb;rw [if_pos (.inl hgz)]
 rw [hk];have hb:(Ak g==0)=false:=by simpa using hgz
 have hb2:(Ak g != 0)=true:=by simpa using hgz
 clear hk hgz;generalize Ak g=rg at*
 go_enter Tryz.func58,Tryz.ntmps58
 go_upto_region 1 with (fail)
 rw [<-HW.out]
 go_wp2_with (go_at_call 72;refine HGR.out.mono ?_;rintro e w1 ⟨rfl,hb1⟩;(have k0':=Bi6 hb1 k0);(have k1':=Bi6 hb1 k1);(have z0':=(hb1.frozen (p:=⟨w.heap.size+1+1,0,none⟩) (by show w.heap.size+1+1<_;rw [HSZ.out];omega)).trans z0);(have z1':=(hb1.frozen (p:=⟨w.heap.size+1+1,1,none⟩) (by show w.heap.size+1+1<_;rw [HSZ.out];omega)).trans z1);(have HB1:=Bi5 (HB.out.st hb1));clear hb1)
 obtain ⟨r0,r1⟩:=Ep (.slice none 0 0) (.slice none 0 0) k0' k1';refine bodyPost_ret (v:=.tuple #[.agg #[.slice none 0 0,.slice none 0 0],.int .i64 1]) (by simp [results,Tryz.results58,go_sem,r0,r1];try rfl) rfl ?_;exact ⟨[],[],none,none,0,0,rfl,Cel.nil _ _,Cel.nil _ _,fun h=>absurd h (by decide),fun _=>⟨rfl,rfl⟩,((HB1.out.setCell (p:=⟨w.heap.size+1+1,0,none⟩) (by show w.heap.size<=w.heap.size+1+1;omega) _).setCell (p:=⟨w.heap.size+1+1,1,none⟩) (by show w.heap.size<=w.heap.size+1+1;omega) _),Bi7 _,Bi8 _,fun h=>absurd h (by decide)⟩
theorem Ax7 (n:Nat) (es:List EdgeD) (ao ro:Option Addr) (cap rc:Nat) (hops settles:Int) (r:List Int) (w:World) (hc:Cel w ao (Ax es)) (hr:Cel w ro (r.map Aj)) (hgz:Ak ⟨n,es⟩=0) (hn26:n<=26) (hl:es.length<=1000) (hrl:r.length<=1000000):
  Calls Tryz.prog 58 #[.agg #[.int .i64 (n:Int),.slice ao es.length cap],.agg #[.int .i64 hops,.int .i64 settles,.slice ro r.length rc]] w (Fv r ⟨n,es⟩ (Cb ⟨n,es⟩ hops settles r) w):=by
 obtain ⟨W,hW⟩:∃W,W=((w.alloc (Obj.cells #[.int .i64 (n:Int),.slice ao es.length cap] 24)).alloc (Obj.cells #[.int .i64 hops,.int .i64 settles,.slice ro r.length rc] 27)).alloc (Obj.cells #[.slice none 0 0,.slice none 0 0] 81):=⟨_,rfl⟩;have hbw:Below w.heap.size w W:=by rw [hW];exact ((Below.of_al _ _).al _).al _
 have hsz:W.heap.size=w.heap.size+3:=by rw [hW];simp
 have hbx:BuB W w.heap.size ⟨n,es⟩ ao cap hops settles (.slice ro r.length rc):=by rw [hW];constructor<;>go_simp
 have k0:W.cell? ⟨w.heap.size+1+1,0,none⟩=some (.slice none 0 0):=by rw [hW];go_simp
 have k1:W.cell? ⟨w.heap.size+1+1,1,none⟩=some (.slice none 0 0):=by rw [hW];go_simp
 have z0:W.frozen? ⟨w.heap.size+1+1,0,none⟩=false:=by rw [hW];go_simp
 have z1:W.frozen? ⟨w.heap.size+1+1,1,none⟩=false:=by rw [hW];go_simp
 have HGR:=Bi5 (show Calls Tryz.prog 72 #[.agg #[.int .i64 (n:Int),.slice ao es.length cap]] W (fun e w'=>e=.returned (.int .i64 (Ak ⟨n,es⟩))/\Below W.heap.size W w') from Dm ⟨n,es⟩ ao cap W (show es.length<=9223372036854775807 by omega) (hc.go hbw));have HOR:=Bi5 (fun W' (h:Below W.heap.size W W')=>Pc hops settles r ro rc W' hrl ((hr.go hbw).go h));have HB:=Bi5 hbw;have HW:=Bi5 hW;have HSZ:=Bi5 hsz;have HBX:=Bi5 hbx;have HC:=Bi5 (hc.go hbw);have HR:=Bi5 (hr.go hbw);obtain ⟨c0,c1,d0,d1,d2⟩:=hbx
 dsimp only at c0 c1
 have hgl:(es.length:Int)<=1000:=by omega
 have hrl2:(r.length:Int)<=1000000:=by omega
 unfold Fv;clear hW hbw hsz hc hr;rw [hgz] at HGR;have HGZ:=Bi5 hgz
 cases hob:Ak1 hops settles r with
 |false=>
  have hk:Cb ⟨n,es⟩ hops settles r=1:=by unfold Cb;rw [if_pos (.inr hob)]
  rw [hk];rw [hob] at HOR;clear hk hob hgz
  go_enter Tryz.func58,Tryz.ntmps58
  go_upto_region 1 with (fail)
  rw [<-HW.out]
  go_wp2_with (first
   |(go_at_call 72;refine HGR.out.mono ?_;rintro e w0 ⟨rfl,hb0⟩;(have d0':=Bi6 hb0 d0);(have d1':=Bi6 hb0 d1);(have d2':=Bi6 hb0 d2);(have HB0:=Bi5 hb0);clear hb0)
   |(go_at_call 106;refine (HOR.out _ HB0.out).mono ?_;rintro e w1 ⟨rfl,hb1⟩;(have hb2:=HB0.out.st hb1);(have k0':=Bi6 hb2 k0);(have k1':=Bi6 hb2 k1);(have z0':=(hb2.frozen (p:=⟨w.heap.size+1+1,0,none⟩) (by show w.heap.size+1+1<_;have:=HSZ.out;omega)).trans z0);(have z1':=(hb2.frozen (p:=⟨w.heap.size+1+1,1,none⟩) (by show w.heap.size+1+1<_;have:=HSZ.out;omega)).trans z1);(have HB1:=Bi5 (HB.out.st hb2));clear hb1 hb2))
  obtain ⟨r0,r1⟩:=Ep (.slice none 0 0) (.slice none 0 0) k0' k1';refine bodyPost_ret (v:=.tuple #[.agg #[.slice none 0 0,.slice none 0 0],.int .i64 1]) (by simp [results,Tryz.results58,go_sem,r0,r1];try rfl) rfl ?_;exact ⟨[],[],none,none,0,0,rfl,Cel.nil _ _,Cel.nil _ _,fun h=>absurd h (by decide),fun _=>⟨rfl,rfl⟩,((HB1.out.setCell (p:=⟨w.heap.size+1+1,0,none⟩) (by show w.heap.size<=w.heap.size+1+1;omega) _).setCell (p:=⟨w.heap.size+1+1,1,none⟩) (by show w.heap.size<=w.heap.size+1+1;omega) _),Bi7 _,Bi8 _,fun h=>absurd h (by decide)⟩
 |true=>
  rw [hob] at HOR
  by_cases hrg:0<r.length/\(r.length:Int)≠(n:Int)
  ·have hk:Cb ⟨n,es⟩ hops settles r=2:=by unfold Cb;rw [if_neg (by rw [hob];simp [hgz]),if_pos hrg]
   rw [hk];obtain ⟨hr1,hr2⟩:=hrg;have hr3:((r.length:Int) != (n:Int))=true:=by simpa using hr2
   have hr4:((r.length:Int)==(n:Int))=false:=by simpa using hr2
   have hr5:decide ((0:Int)<(r.length:Int))=true:=by simp;exact hr1
   clear hk hob hgz hr2
   go_enter Tryz.func58,Tryz.ntmps58
   go_upto_region 1 with (fail)
   rw [<-HW.out]
   go_wp2_with (first
    |(go_at_call 72;refine HGR.out.mono ?_;rintro e w0 ⟨rfl,hb0⟩;(have d0':=Bi6 hb0 d0);(have d1':=Bi6 hb0 d1);(have d2':=Bi6 hb0 d2);(have HB0:=Bi5 hb0);clear hb0)
    |(go_at_call 106;refine (HOR.out _ HB0.out).mono ?_;rintro e w1 ⟨rfl,hb1⟩;(have hb2:=HB0.out.st hb1);(have c0':=Bi6 hb2 c0);(have d2'':=Bi6 hb2 d2);(have k0':=Bi6 hb2 k0);(have k1':=Bi6 hb2 k1);(have z0':=(hb2.frozen (p:=⟨w.heap.size+1+1,0,none⟩) (by show w.heap.size+1+1<_;have:=HSZ.out;omega)).trans z0);(have z1':=(hb2.frozen (p:=⟨w.heap.size+1+1,1,none⟩) (by show w.heap.size+1+1<_;have:=HSZ.out;omega)).trans z1);(have HB1:=Bi5 (HB.out.st hb2));clear hb1 hb2))
   obtain ⟨r0,r1⟩:=Ep (.slice none 0 0) (.slice none 0 0) k0' k1';refine bodyPost_ret (v:=.tuple #[.agg #[.slice none 0 0,.slice none 0 0],.int .i64 2]) (by simp [results,Tryz.results58,go_sem,r0,r1];try rfl) rfl ?_;exact ⟨[],[],none,none,0,0,rfl,Cel.nil _ _,Cel.nil _ _,fun h=>absurd h (by decide),fun _=>⟨rfl,rfl⟩,((HB1.out.setCell (p:=⟨w.heap.size+1+1,0,none⟩) (by show w.heap.size<=w.heap.size+1+1;omega) _).setCell (p:=⟨w.heap.size+1+1,1,none⟩) (by show w.heap.size<=w.heap.size+1+1;omega) _),Bi7 _,Bi8 _,fun h=>absurd h (by decide)⟩
  ·have hk:Cb ⟨n,es⟩ hops settles r=0:=by unfold Cb;rw [if_neg (by rw [hob];simp [hgz]),if_neg hrg]
   rw [hk];obtain ⟨hob1,hrk⟩:(inB hops&&inB settles)=true/\Bb r=true:=by unfold Ak1 at hob;simpa using hob
   have hse1:1<=settles/\settles<=1000:=by simp [inB] at hob1;omega
   obtain ⟨se,rfl⟩:∃se:Nat,settles=(se:Int):=⟨settles.toNat,by omega⟩;have hE:EdgesOK n es:=Jk hgz rfl;have HE:=Bi5 hE;have HRK:=Bi5 hrk;have HRG:=Bi5 hrg;have hdec:r=[]\/(0<r.length/\r.length=n):=by
    rcases r with _|⟨x,r'⟩
    ·exact .inl rfl
    ·by_cases h:((x::r').length:Int)=(n:Int)
     ·exact .inr ⟨by simp,by omega⟩
     ·exact absurd ⟨by simp,h⟩ hrg
   have hA:∀u v w,Am es u v w->1<=w:=by
    rintro u v w ⟨x,hx,_,_,rfl⟩;exact (hE.ok x hx).2.2.2.1
   have HA:=Bi5 hA;have HBG:=Bi5 (fun W' (hb:Below W.heap.size W W')=>(show Calls Tryz.prog 107 #[.agg #[.int .i64 (n:Int),.slice ao es.length cap],.agg #[.int .i64 hops,.int .i64 (se:Int),.slice ro r.length rc]] W' (Pu W' es n hops se (.slice ro r.length rc)) from Ap3 ⟨n,es⟩ n ao cap hops se (.slice ro r.length rc) W' rfl (by omega) (HC.out.go hb) hE (show es.length<=20000 by omega)));have HSE:=Bi5 (show se<=1000000 by omega);have HNN:=Bi5 (show es.length+n*(n*n)<=1000000 by
    have h1:n*n<=26*26:=Nat.mul_le_mul hn26 hn26;have h2:n*(n*n)<=26*(26*26):=Nat.mul_le_mul hn26 h1;omega)
   have hg1:decide ((0:Int)<(r.length:Int))=true->((r.length:Int) != (n:Int))=false:=by
    intro hh
    rcases hdec with rfl|⟨_,e⟩
    ·simp at hh
    ·simp [e]
   have HDC:=Bi5 hdec;unfold Pu at HBG;clear hk hob hob1 hrk hgz hrg hse1 hE hA hdec;have HG1:=Bi5 hg1;clear hg1
   go_enter Tryz.func58,Tryz.ntmps58
   go_upto_region 1 with (fail)
   rw [<-HW.out]
   go_upto_region 3 with (first
    |(go_at_call 72;refine HGR.out.mono ?_;rintro e w0 ⟨rfl,hb0⟩;(have d0':=Bi6 hb0 d0);(have d1':=Bi6 hb0 d1);(have d2':=Bi6 hb0 d2);(have HB0:=Bi5 hb0);clear hb0)
    |(go_at_call 106;refine (HOR.out _ HB0.out).mono ?_;rintro e w1 ⟨rfl,hb1⟩;(have HB1:=Bi5 (HB0.out.st hb1));clear hb1 d0' d1' d2'))
   have c0:=Bi6 HB1.out c0;have c1:=Bi6 HB1.out c1;have d0:=Bi6 HB1.out d0;have d1:=Bi6 HB1.out d1;have d2:=Bi6 HB1.out d2
   go_cut [19] from 9 (fun v wc=>v=.bool false/\wc=w1)
   case first=>
    rcases HDC.out with hh|⟨h1,h2⟩
    ·have h3:decide (0<r.length)=false:=by rw [hh];rfl
     have h5:¬0<r.length:=by rw [hh];simp
     clear hh
     go_wp2
     go_meet
     exact ⟨rfl,rfl⟩
    ·have h3:decide (0<r.length)=true:=by simpa using h1
     have h4:=HG1.out (by simp;exact h1);clear h2
     go_wp2
     go_meet
     exact ⟨rfl,rfl⟩
   case rest=>
    obtain ⟨rfl,hw1⟩:=hcut;subst hw1
    go_upto_if 39 with (go_at_call 107;refine (HBG.out wc HB1.out).mono ?_;rintro e w2 ⟨cb,s,rfl,hbs⟩;(have HBS:=Bi5 hbs);(have d2':=Bi6 hbs.fr.b d2);clear hbs)
    have HCI:=Bi5 (HBS.out.coI HE.out);have hfr:=HBS.out.fr.b;have hbk:=HB1.out.st hfr;have hz3:wc.heap.size<=w2.heap.size:=hfr.size;have hz1:w.heap.size+3<=wc.heap.size:=by have:=HB1.out.size;have:=HSZ.out;omega
    have HXX:=Bi5 (fun k (hk:s.X k)=>(show w.heap.size+2<k by have:=HBS.out.fr.x k hk;omega));have k0':=Bi6 hbk k0;have k1':=Bi6 hbk k1;have z0':=(hbk.frozen (p:=⟨w.heap.size+1+1,0,none⟩) (by show w.heap.size+1+1<_;have:=HSZ.out;omega)).trans z0;have z1':=(hbk.frozen (p:=⟨w.heap.size+1+1,1,none⟩) (by show w.heap.size+1+1<_;have:=HSZ.out;omega)).trans z1;have HB2:=Bi5 (HB.out.st hbk);have HSZ2:=Bi5 (show w.heap.size+3<=w2.heap.size by omega);have HR2:=Bi5 (HR.out.go hbk);clear hfr hbk hz3 hz1 k0 k1 z0 z1 c0 c1 d0 d1 d2 HBG HGR HOR HB0
    go_cut [] from 9 (fun W'=>Bd4 r es n cb se hops (.slice ro r.length rc) w W')
    case first=>
     rcases HDC.out with hh|⟨h1,h2⟩
     ·have hq:(((r.length:Nat):Int)==0)=true:=by rw [hh];rfl
      have HOD:=Bi5 (Ak0 HA.out n cb se hops (.slice ro r.length rc) es.length w2 s HCI.out hn26 HNN.out HSE.out ⟨_,_,_,rfl⟩);unfold Vy at HOD;have HRN:=Bi5 hh;clear hh
      go_wp2_with fail
      refine HOD.out.mono ?_;rintro e w3 ⟨out,ao',cap',s',rfl,hcel,hci,hall,hoff,hx⟩;obtain ⟨k0,k1,z0,z1,hb3,hz3⟩:=Uj hoff HXX.out HSZ2.out k0' k1' z0' z1' HB2.out;obtain ⟨hrk,hlen⟩:=Ba1 hci.nodes.1 hci.nodes.2 hall;have HIN:=Bi5 (Gn out ao' cap' w3 (by omega) hcel);have HRL:=Bi5 (And.intro hrk hlen);have HCI3:=Bi5 hci;have HB3:=Bi5 hb3;have HX3:=Bi5 (show ∀k,s'.X k->w.heap.size+2<k from fun k hk=>by
       rcases hx k hk with h|h
       ·exact HXX.out k h
       ·have:=HSZ2.out;omega)
      have HZ3:=Bi5 hz3;unfold Mq at HIN;clear hcel hci hall hoff hx hrk hlen hb3 hz3 k0' k1' z0' z1' HOD
      go_wp2_with fail
      refine HIN.out.mono ?_;rintro e w4 ⟨ai,ci,rfl,hci4,hb4,-⟩;have HC4:=Bi5 hci4;have k0':=Bi6 hb4 k0;have k1':=Bi6 hb4 k1;have z0':=(hb4.frozen (p:=⟨w.heap.size+1+1,0,none⟩) (by show w.heap.size+1+1<_;have:=HZ3.out;omega)).trans z0;have z1':=(hb4.frozen (p:=⟨w.heap.size+1+1,1,none⟩) (by show w.heap.size+1+1<_;have:=HZ3.out;omega)).trans z1;have HB4:=Bi5 hb4;clear hci4 hb4 k0 k1 z0 z1 HIN
      go_wp2_with fail
      go_meet
      exact Ao9 k0' k1' z0' z1' HC4.out (HCI3.out.go HB4.out) HRL.out.1 HRL.out.2 rfl (HB3.out.st HB4.out) HX3.out (Ag0 hl HRL.out.2 hn26) (fun h=>absurd HRN.out h)
     ·have hq:(((r.length:Nat):Int)==0)=false:=by rw [beq_eq_false_iff_ne];omega
      have HCL:=Bi5 (Rr r.length (r.map Aj) ro rc w2 (by simp) HR2.out (fun u hu=>by obtain ⟨x,_,rfl⟩:=List.mem_map.1 hu;rfl) hrl);unfold Fp at HCL;have HLEN:=Bi5 h2;clear h1 h2
      go_wp2_with fail
      refine HCL.out.mono ?_;rintro e w3 ⟨a3,c3,rfl,hc3,hb3,hf3⟩;have k0w:=Bi6 hb3 k0';have d2w:=Bi6 hb3 d2';obtain ⟨W4,hW4⟩:∃W4,W4=w3.setCell ⟨w.heap.size+1+1,0,none⟩ (.slice a3 r.length c3):=⟨_,rfl⟩;have hlt3:w.heap.size+3<=w3.heap.size:=by have:=HSZ2.out;have:=hb3.size;omega
      have ho4:OffX (· =w.heap.size+1+1) w3 W4:=by rw [hW4];exact .set _ rfl
      have zw0:=(hb3.frozen (p:=⟨w.heap.size+1+1,0,none⟩) (by show w.heap.size+1+1<_;have:=HSZ2.out;omega)).trans z0';have m0:W4.cell? ⟨w.heap.size+1+1,0,none⟩=some (.slice a3 r.length c3):=by rw [hW4];exact Bj4 _ _ _ k0w
      have m1:W4.cell? ⟨w.heap.size+1+1,1,none⟩=some (.slice none 0 0):=by
       rw [hW4,Bj3 _ _ _ _ (by simp)];exact Bi6 hb3 k1'
      have n0:W4.frozen? ⟨w.heap.size+1+1,0,none⟩=false:=by rw [hW4,Bm1];exact zw0
      have n1:W4.frozen? ⟨w.heap.size+1+1,1,none⟩=false:=by
       rw [hW4,Bm1];exact (hb3.frozen (p:=⟨w.heap.size+1+1,1,none⟩) (by show w.heap.size+1+1<_;have:=HSZ2.out;omega)).trans z1'
      have d4:W4.cell? ⟨w.heap.size+1,2,none⟩=some (.slice ro r.length rc):=ho4.cell (Bi6 hb3 d2') (fun e=>by have e2:w.heap.size+1=w.heap.size+1+1:=e;omega);have HR4:=Bi5 (show Cel W4 ro (r.map Aj) by rw [hW4];exact Ey (HR2.out.go hb3) k0w _);have HC4:=Bi5 (show Cel W4 a3 (r.map Aj) by rw [hW4];exact Ey hc3 k0w _);have HCI4:=Bi5 ((HCI.out.go hb3).off ho4 (fun k hk e=>by have:=HXX.out k hk;omega));have HB4:=Bi5 (show Below w.heap.size w W4 by rw [hW4];exact (HB2.out.st hb3).setCell (by show w.heap.size<=w.heap.size+1+1;omega) _);have HSZ4:=Bi5 (show w3.heap.size<=W4.heap.size from ho4.size);have HXL:=Bi5 (fun k (hk:s.X k)=>(show k<w2.heap.size by obtain ⟨i,hi⟩:=hk;exact (HCI.out.core.ge i k hi).2));have HF3:=Bi5 (fun k hk (h:s.X k)=>(show False by have:=hf3 k hk;have:=HXL.out k h;omega));have HIN:=Bi5 (Gn r ro rc W4 hrl HR4.out);have HW4:=Bi5 hW4;have HZ3:=Bi5 hlt3;have HS23:=Bi5 hb3.size;unfold Mq at HIN;have hLr:=Nn HRK.out;have hLl:=Dp HRK.out;have hLL:=Al5 HRK.out;obtain ⟨L,hL⟩:∃L,L=Fj r:=⟨_,rfl⟩;rw [<-hL] at hLr hLl hLL HIN;have HLL:=Bi5 (And.intro hLr (And.intro (hLl.trans HLEN.out) hLL));clear hc3 hb3 hf3 k0' k1' z0' z1' hlt3 ho4 HCL hLr hLl hLL hL hW4
      go_wp2_with fail
      rw [<-HW4.out];clear k0w zw0 d2' d2w;refine HIN.out.mono ?_;rintro e w5 ⟨ai,ci,rfl,hci5,hb5,hf5⟩;have HC5:=Bi5 hci5;have HF5:=Bi5 (fun k hk (h:s.X k)=>(show False by have:=hf5 k hk;have:=HXL.out k h;have:=HSZ4.out;have:=HS23.out;omega));have HCI5:=Bi5 (HCI4.out.go hb5);have HB5:=Bi5 hb5;have hln:L.length=n:=HLL.out.2.1;have hln2:(L.length:Int)<=26:=by omega
      have HND:=Bi5 (Jc (Iz HLL.out.1));have HNO:=Bi5 (fun x (hx:x∈L)=>(show Aa n x by have:=Es HLL.out.1 x hx;rw [hln] at this;exact this));have HLN:=Bi5 hln;clear hci5 hb5 hf5 hln HIN
      go_wp2
      go_loopg [52] L.length (fun gm v52 wr=>∃k:Nat,k<=L.length/\L.length-k<=gm/\v52=.int .i64 k/\Aside (∃s',CoI (Am es) (Yl es) n cb se hops (.slice ro r.length rc) (L.take k) (es.length+k*(n*n)) wr s'/\OffX s.X w5 wr/\∀j,s'.X j->s.X j\/w5.heap.size<=j))
      case atStart=>exact ⟨0,Bi8 _,by omega,rfl,s,by rw [List.take_zero,Nat.zero_mul,Nat.add_zero];exact HCI5.out,.of_below (Below.refl _ _),fun j hj=>.inl hj⟩
      case round=>
       obtain ⟨k,hk,hg,rfl,hs⟩:=hrel;obtain ⟨s',hs1,hs2,hs3⟩:=hs.out;have HS1:=Bi5 hs1;have HS2:=Bi5 hs2;have HS3:=Bi5 hs3;clear hs hs1 hs2 hs3
       by_cases hlt:k<L.length
       ·have hlt2:(k:Int)<(L.length:Int):=by omega
        have hk0:(0:Int)<=(k:Int):=by omega
        obtain ⟨lb,lo,e,y0⟩:=HC5.out.at hlt;subst e;have q0:=HS2.out.cell y0 (fun h=>HF5.out lb rfl h);have hxn:=HNO.out _ (Bj7 hlt);have htk:L.take (k+1)=L.take k++[L[k]]:=Bk3 hlt;have hxo:L[k]∉L.take k:=by
         intro hm;have h1:(L.take (k+1)).Nodup:=HND.out.sublist (List.take_sublist _ _);rw [htk,List.nodup_append] at h1;exact h1.2.2 _ hm _ (by simp) rfl
        have HTK:=Bi5 htk;have hnn:es.length+k*(n*n)+n*n<=1000000:=by
         have h1:(k+1)*(n*n)<=n*(n*n):=Nat.mul_le_mul_right _ (by have:=HLN.out;omega);rw [Nat.add_mul,Nat.one_mul] at h1;have:=HNN.out;omega
        generalize L[k]=x at*;obtain ⟨v,rfl⟩:∃v:Nat,x=(v:Int):=⟨x.toNat,by have:=hxn.1;omega⟩;have HCN:=Bi5 (Mo HA.out n cb se hops (.slice ro r.length rc) (L.take k) _ wr s' v HS1.out (by have:=hxn.2;omega) hxo hn26 hnn HSE.out ⟨_,_,_,rfl⟩);unfold Ps at HCN;clear y0 hxn htk hxo hnn
        go_wp2_with fail
        refine HCN.out.mono ?_;rintro e w6 ⟨rfl,s6,hc6,ho6,hx6⟩;have HC6:=Bi5 (show CoI (Am es) (Yl es) n cb se hops (.slice ro r.length rc) (L.take (k+1)) (es.length+(k+1)*(n*n)) w6 s6 by
         rw [HTK.out,Nat.add_mul,Nat.one_mul,<-Nat.add_assoc];exact hc6)
        have HO6:=Bi5 (HS2.out.then' ho6 HS3.out);have HX6:=Bi5 (show ∀j,s6.X j->s.X j\/w5.heap.size<=j from fun j hj=>by
         rcases hx6 j hj with h|h
         ·exact HS3.out j h
         ·exact .inr (by have:=HS2.out.size;omega))
        clear hc6 ho6 hx6 HCN
        go_wp2
        go_roundg (L.length-(k+1))
        case measure=>omega
        case rel=>exact ⟨k+1,by omega,Bi7 _,by go_num,s6,HC6.out,HO6.out,HX6.out⟩
       ·obtain rfl:k=L.length:=by omega
        go_wp2_with fail
        go_meet
        obtain ⟨e0,e1,f0,f1,hb6,hz6⟩:=Uj HS2.out HXX.out (show w.heap.size+3<=w5.heap.size by have:=HZ3.out;have:=HSZ4.out;have:=HB5.out.size;omega) (Bi6 HB5.out m0) (Bi6 HB5.out m1) ((HB5.out.frozen (p:=⟨w.heap.size+1+1,0,none⟩) (by show w.heap.size+1+1<_;have:=HZ3.out;have:=HSZ4.out;omega)).trans n0) ((HB5.out.frozen (p:=⟨w.heap.size+1+1,1,none⟩) (by show w.heap.size+1+1<_;have:=HZ3.out;have:=HSZ4.out;omega)).trans n1) (HB4.out.st HB5.out);have hci:=HS1.out;rw [Bn1] at hci;exact ⟨r,a3,c3,L,_,s',e0,e1,f0,f1,Fm (HC4.out.go HB5.out) HS2.out (fun k hk h=>HF3.out k hk h),hci,HLL.out.1,HLL.out.2.1,HLL.out.2.2.symm,hb6,fun k hk=>by
         rcases HS3.out k hk with h|h
         ·exact HXX.out k h
         ·have:=HZ3.out;have:=HSZ4.out;have:=HB5.out.size;omega,Ag0 hl HLL.out.2.1 hn26,fun _=>rfl⟩
    case rest=>
     obtain ⟨R,ai,ci,out,m,s',k0,k1,z0,z1,hR,hci,hrk,hlen,hRo,hb,hx,hmm,hrr⟩:=hcut;have r3:wc.cell? ⟨cb,3,none⟩=some s'.vS:=by
      have:=(hci.core.re 3 _ rfl).1;rw [hci.cb] at this;exact this
     obtain ⟨aS,cS,eS,hSc⟩:=Cel.of_owns hci.core.ss;rw [eS] at r3;have hne:∀k,(Value.slice aS s'.c.S.length cS).ownBlock=some k->k≠w.heap.size+1+1:=by
      intro k hk e;have:s'.X k:=⟨5,by show s'.vS.ownBlock=_;rw [eS];exact hk⟩;have:=hx k this;omega
     have HB:=Bi5 (show BuiltOK es n R s'.c.S from ⟨out,s'.c,by have:=hci.cc;exact hci.cc,rfl,hrk,hlen,hRo⟩);have HRM:=Bi5 (Bi9 hci.room.S hmm);have HRR:=Bi5 hrr;have HNE:=Bi5 hne;have HRC:=Bi5 hR;have HSC:=Bi5 hSc;have HBB:=Bi5 hb;have HCC:=Bi5 hci.core.ss;rw [eS] at HCC;have HNI:=Bi5 (And.intro k0 k1);clear hne hR hSc hb hci hrk hlen hRo hx eS hrr
     go_wp2
     have w1:(wc.setCell ⟨w.heap.size+1+1,1,none⟩ (.slice aS s'.c.S.length cS)).cell? ⟨w.heap.size+1+1,1,none⟩=some (.slice aS s'.c.S.length cS):=Bj4 _ _ _ k1;have w0:(wc.setCell ⟨w.heap.size+1+1,1,none⟩ (.slice aS s'.c.S.length cS)).cell? ⟨w.heap.size+1+1,0,none⟩=some (.slice ai R.length ci):=by
      rw [Bj3 _ _ _ _ (by simp)];exact k0
     obtain ⟨r0,r1⟩:=Ep (.slice ai R.length ci) (.slice aS s'.c.S.length cS) w0 w1;refine bodyPost_ret (v:=.tuple #[.agg #[.slice ai R.length ci,.slice aS s'.c.S.length cS],.int .i64 0]) (by simp [results,Tryz.results58,go_sem,r0,r1];try rfl) rfl ?_;have h1:=Ey HRC.out k1 (.slice aS s'.c.S.length cS);have h2:=Ey h1 w0 (.slice ai R.length ci);have w1':((wc.setCell ⟨w.heap.size+1+1,1,none⟩ (.slice aS s'.c.S.length cS)).setCell ⟨w.heap.size+1+1,0,none⟩ (.slice ai R.length ci)).cell? ⟨w.heap.size+1+1,1,none⟩=some (.slice aS s'.c.S.length cS):=by
      rw [Bj3 _ _ _ _ (by simp)];exact w1
     have h3:=Ey h2 w1' (.slice aS s'.c.S.length cS);have ho:OffX (· =w.heap.size+1+1) wc (((wc.setCell ⟨w.heap.size+1+1,1,none⟩ (.slice aS s'.c.S.length cS)).setCell ⟨w.heap.size+1+1,0,none⟩ (.slice ai R.length ci)).setCell ⟨w.heap.size+1+1,1,none⟩ (.slice aS s'.c.S.length cS)):=
      ((show OffX (· =w.heap.size+1+1) wc (wc.setCell ⟨w.heap.size+1+1,1,none⟩ (.slice aS s'.c.S.length cS)) from .set _ rfl).trans (.set _ rfl)).trans (.set _ rfl)
     exact ⟨R,s'.c.S,ai,aS,ci,cS,rfl,h3,Fm HSC.out ho (fun k hk=>HNE.out k hk),fun _=>HB.out,fun h=>absurd rfl h,HBB.out.trans (ho.below HBB.out.size (fun k hk=>by have e:k=w.heap.size+1+1:=hk;omega)),As5 HCC.out,HRM.out,fun _ h=>HRR.out h⟩
theorem Ao8 (g:GD) (ao ro:Option Addr) (cap rc:Nat) (hops settles:Int) (r:List Int) (w:World) (hc:Cel w ao (Ax g.es)) (hr:Cel w ro (r.map Aj)) (hg:Ak g=0->g.n<=26) (hl:g.es.length<=1000) (hrl:r.length<=1000000):
  Calls Tryz.prog 58 #[.agg #[.int .i64 g.n,.slice ao g.es.length cap],.agg #[.int .i64 hops,.int .i64 settles,.slice ro r.length rc]] w (Fv r g (Cb g hops settles r) w):=by
 by_cases hgz:Ak g=0
 ·have h1:=Jr hgz
  have h2:=hg hgz;obtain ⟨gn,es⟩:=g;obtain ⟨n,rfl⟩:∃n:Nat,gn=(n:Int):=⟨gn.toNat,by simp only at h1;omega⟩;exact Ax7 n es ao ro cap rc hops settles r w hc hr hgz (by simp only at h2;omega) hl hrl
 ·exact Ao7 g ao ro cap rc hops settles r w hc hr hgz hl hrl
end Go.Proofs.YteaaapdjplbljaaGreat
