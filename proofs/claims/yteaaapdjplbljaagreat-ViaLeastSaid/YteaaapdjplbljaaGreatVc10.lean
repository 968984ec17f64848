/- Parts; no condition. -/
import Derived.Test.YteaaapdjplbljaaGreatVc09
import Derived.StillTailTactics
set_option linter.unusedVariables false
set_option linter.unusedSimpArgs false
set_option linter.unnecessarySimpa false
set_option maxRecDepth 100000
set_option maxHeartbeats 8000000
namespace Go.Proofs.YteaaapdjplbljaaGreat
open Go Go.Proofs Go.RowKit Go.Shelf Hp Ch
abbrev scV (x:SC):Value:=.agg #[.int .i64 x.f,.int .i64 x.t,.int .u64 x.w,.int .i64 x.e,.int .i64 x.a,.int .i64 x.b]
theorem Ah3:Gq Tryz.prog 187 (.agg #[.int .i64 0,.int .i64 0,.int .u64 0,.int .i64 0,.int .i64 0,.int .i64 0]) 6 48:=⟨by kernel_rfl,rfl,by decide⟩
theorem As7 (x:SC):∀u∈Cw x,u.oneCell'=true:=by
 intro u hu;simp [Cw] at hu
 rcases hu with rfl|rfl|rfl|rfl|rfl|rfl<;>rfl
theorem Bf0 (w:World) (x:SC) (T:TypeId) {k:Nat} (hk:k=w.heap.size):∀j u,(Cw x)[j]? =some u->(w.alloc (.cells #[.int .i64 x.f,.int .i64 x.t,.int .u64 x.w,.int .i64 x.e,.int .i64 x.a,.int .i64 x.b] T)).cell? ((⟨k,0,none⟩:Addr).add j)=some u:=by
 intro j u hu;subst hk;rw [Addr.add_lit];rw [World.cell?_alloc_mark w _ T (0,0) (0+j)]
 simpa [Cw] using hu
theorem CoreW.sapp1 {w w':World} {base:Nat} {s:CS} (h:CoreW w base s) {v':Value} {x:SC} (hown:w'.ownsRow base 187 6 v' (s.c.S.length+1) (Be s.c.S++Cw x)) (ho:OffX (fun k=>s.vS.ownBlock=some k) w w') (hb:v'.ownBlock=s.vS.ownBlock\/∃g,v'.ownBlock=some g/\w.heap.size<=g):
  CoreW (w'.setCell ⟨s.cb,3,none⟩ v') base { s with vS:=v',c:=⟨s.c.O,s.c.p,s.c.S++[x]⟩ }:=by
 refine h.sapp (S':=s.c.S++[x]) ?_ ho hb;rw [Mk,Bl5]
 show World.ownsRow _ _ _ _ _ _ (Be s.c.S++(Cw x++Be []))
 rw [show Be ([]:List SC)=[] from rfl,List.append_nil];exact hown
structure Room (s:CS) (m:Nat):Prop where
 n:s.n<=60000
 S:s.c.S.length<=m
 row:∀l∈s.c.O,l.length<=m
 nb:s.nb<=m
def Kh (base:Nat) (s:CS) (x:SC) (w:World) (e:Ending) (w':World):Prop:=
 ∃s',e=.returned (.tuple #[])/\CoreW w' base s'/\s'.c=Ed s.c x/\s'.gone=s.gone/\s'.dep=s.dep/\s'.hops=s.hops/\s'.settles=s.settles/\s'.vr=s.vr/\s'.cb=s.cb/\s'.nb<=s.nb+1/\OffX s.X w w'/\∀k,s'.X k->s.X k\/w.heap.size<=k
theorem CoreW.rowAt {w:World} {base:Nat} {s:CS} (h:CoreW w base s) {u:Nat} (hu:u<s.n):w.cell? ⟨s.ob,u,none⟩=some (s.rows.getD u Bk):=by
 have l1:=h.lens.1;have h1:=h.out.cellAt u (by omega);rw [h1,Bj1,Bj0 (by omega)];rfl
structure AB (W:World) (b:Nat) (x:SC):Prop where
 x0:W.cell? ⟨b,0,none⟩=some (.int .i64 x.f)
 x1:W.cell? ⟨b,1,none⟩=some (.int .i64 x.t)
 x2:W.cell? ⟨b,2,none⟩=some (.int .u64 x.w)
 x3:W.cell? ⟨b,3,none⟩=some (.int .i64 x.e)
 x4:W.cell? ⟨b,4,none⟩=some (.int .i64 x.a)
 x5:W.cell? ⟨b,5,none⟩=some (.int .i64 x.b)
 e0:W.cell? ⟨b+1,0,none⟩=some (.int .i64 x.f)
 e1:W.cell? ⟨b+1,1,none⟩=some (.int .i64 x.t)
theorem AB.off {X:Nat->Prop} {W W':World} {b:Nat} {x:SC} (h:AB W b x) (ho:OffX X W W') (h1:¬X b) (h2:¬X (b+1)):AB W' b x:=
 ⟨ho.cell h.x0 h1,ho.cell h.x1 h1,ho.cell h.x2 h1,ho.cell h.x3 h1,ho.cell h.x4 h1,ho.cell h.x5 h1,ho.cell h.e0 h2,ho.cell h.e1 h2⟩
theorem AB.go {W W':World} {b:Nat} {x:SC} (h:AB W b x) (hb:Below W.heap.size W W'):AB W' b x:=h.off (X:=fun _=>False) (.of_below hb) (fun h=>h) (fun h=>h)
theorem Ai1 (base:Nat) (s:CS) (x:SC) (w:World) (h:CoreW w base s) (hi:InvN s.n s.c) (hx:Aa s.n x.f/\Aa s.n x.t) (hr:Room s 1000000):
  Calls Tryz.prog 161 #[.pointer (some ⟨s.cb,0,none⟩),scV x] w (Kh base s x w):=by
 have hn:=hr.n;have h6f:In6 x.f:=⟨by have:=hx.1.1;omega,by have:=hx.1.2;omega⟩;have h6t:In6 x.t:=⟨by have:=hx.2.1;omega,by have:=hx.2.2;omega⟩;unfold Kh;have H:=Bi5 h
 go_enter Tryz.func161,Tryz.ntmps161
 go_upto_region 2 with (fail)
 obtain ⟨W,hW⟩:∃W,W=(w.alloc (Obj.cells #[.int .i64 x.f,.int .i64 x.t,.int .u64 x.w,.int .i64 x.e,.int .i64 x.a,.int .i64 x.b] 187)).alloc (Obj.cells #[.int .i64 x.f,.int .i64 x.t] 254):=⟨_,rfl⟩;have hbw:Below w.heap.size w W:=by rw [hW];exact (Below.of_al _ _).al _
 have HB:=Bi5 hbw;have HC:=Bi5 (h.go hbw);have HA:=Bi5 (show AB W w.heap.size x by rw [hW];constructor<;>go_simp);have HSZ:=Bi5 (show W.heap.size=w.heap.size+2 by rw [hW];simp);rw [<-hW];clear hW hbw h;obtain ⟨asS,csS,eS,-⟩:=Cel.of_owns HC.out.ss;have HES:=Bi5 eS;have r2:=(HC.out.re 2 _ rfl).1;have r3:=(HC.out.re 3 _ rfl).1;have r0:=(HC.out.re 0 _ rfl).1;rw [eS] at r3;obtain ⟨x0,x1,x2,x3,x4,x5,e0,e1⟩:=HA.out;have lk:=MapP.look (w:=W.drew) (HC.out.mp.go (Below.of_dr W 1)) h6f h6t;have HI:=Bi5 hi;have HX:=Bi5 hx;have HR:=Bi5 hr;clear hi hx hr;generalize hp:s.c.p x.f x.t=pp at lk
 go_region
 go_upto_region 3 with (fail)
 go_cut [35] from 8 (fun v w'=>∃b,v=.bool b/\(b=true->Ed s.c x=s.c)/\(b=false->Ed s.c x=So s.c x)/\Below W.heap.size W w')
 case first=>
  rcases pp with _|i
  ·have HPUT:=Bi5 (show Ed s.c x=So s.c x by unfold Ed;rw [hp];rfl)
   clear hp;simp only [Option.isSome,Ik,Option.elim]
   go_region
   go_wp2_with fail
   go_meet
   exact ⟨false,rfl,(fun h=>by cases h),(fun _=>HPUT.out),Below.of_dr W 2⟩
  ·simp only [Option.isSome,Ik,Option.elim]
   obtain ⟨y,hy,_,_⟩:=HI.out.at1 _ _ _ hp;have hil:i<s.c.S.length:=(Bj8.1 hy).1;have hil2:(i:Int)<(s.c.S.length:Int):=by omega
   have hi0:(0:Int)<=(i:Int):=by omega
   have hyi:s.c.S[i]=y:=(Bj8.1 hy).2;have hg:s.c.S.getD i x=y:=by rw [Bj1,hy];rfl
   have hfl:=Jz s.c.S i hil 2 (by omega);rw [hyi] at hfl;have HSS:=HC.out.ss;rw [eS] at HSS;obtain ⟨gS,cS,eS2⟩:=Ap HSS (by omega)
   cases eS2
   have c2:W.cell? ⟨gS,i*6+2,none⟩=some (.int .u64 y.w):=(HSS.cellAt (i*6+2) (by omega)).trans hfl;clear hfl HSS
   by_cases hle:y.w<=x.w
   ·have hle2:decide (y.w<=x.w)=true:=decide_eq_true hle
    have HSAME:=Bi5 (show Ed s.c x=s.c by unfold Ed;rw [hp];simp only;rw [hg,if_pos hle]);clear hp hle hg hy hyi
    go_region
    go_wp2_with fail
    go_meet
    exact ⟨true,rfl,(fun _=>HSAME.out),(fun h=>by cases h),Below.of_dr W 2⟩
   ·have hle2:decide (y.w<=x.w)=false:=decide_eq_false hle
    have HPUT:=Bi5 (show Ed s.c x=So s.c x by unfold Ed;rw [hp];simp only;rw [hg,if_neg hle];rfl);clear hp hle hg hy hyi
    go_region
    go_wp2_with fail
    go_meet
    exact ⟨false,rfl,(fun h=>by cases h),(fun _=>HPUT.out),Below.of_dr W 2⟩
 case rest=>
  obtain ⟨b,rfl,hb1,hb2,hz⟩:=hcut;clear hp lk
  cases b with
  |true=>
   have HSAME:=Bi5 (hb1 rfl);clear hb1 hb2;have hz2:=HB.out.st hz
   go_wp2
   refine bodyPost_ret (results_none rfl _ _ _) rfl ?_;exact ⟨s,rfl,H.out.go hz2,HSAME.out.symm,rfl,rfl,rfl,rfl,rfl,rfl,Nat.le_succ _,.of_below hz2,fun k h=>.inl h⟩
  |false=>
   have HPUT:=Bi5 (hb2 rfl);clear hb1 hb2;obtain ⟨W1,hW1⟩:∃W1,W1=wc:=⟨_,rfl⟩;rw [<-hW1] at hz;have HC1:=Bi5 (HC.out.go hz);have HA1:=Bi5 (HA.out.go hz);have HB1:=Bi5 (HB.out.st hz);have HSZ1:=Bi5 (show w.heap.size+2<=W1.heap.size by have:=HSZ.out;have:=hz.size;omega);rw [<-hW1];clear hW1 hz HC HA HB HSZ x0 x1 x2 x3 x4 x5 e0 e1 r0 r2 r3 HES eS;obtain ⟨as2,cs2,eS,-⟩:=Cel.of_owns HC1.out.ss;have r2:=(HC1.out.re 2 _ rfl).1;have r3:=(HC1.out.re 3 _ rfl).1;rw [eS] at r3;have HES:=Bi5 eS;clear eS;obtain ⟨x0,x1,x2,x3,x4,x5,e0,e1⟩:=HA1.out;obtain ⟨W2,hup,hmp,hop,hsz,hfz⟩:=MapP.put (w:=W1.drew) (HC1.out.mp.go (Below.of_dr W1 1)) (by have:=HR.out.nb;omega) (i:=s.c.S.length) h6f h6t (by have:=HR.out.S;omega);have HC2:=Bi5 ((HC1.out.go (Below.of_dr W1 1)).map hmp hop);have hmb:=(H.out.ge 3 s.mb rfl).2;have HA2:=Bi5 ((HA1.out.go (Below.of_dr W1 1)).off hop (by omega) (by omega));have HO2:=Bi5 (show OffX s.X w W2 from ((OffX.of_below HB1.out).trans (.of_below (Below.of_dr W1 1))).trans (hop.mono (fun k e=>⟨3,by rw [e];rfl⟩)));have HSZ2:=Bi5 (show w.heap.size+2<=W2.heap.size by rw [hsz];exact HSZ1.out);clear hmp hop hsz hfz;have HSS2:=Bi5 (show W2.ownsRow base 187 6 (.slice as2 s.c.S.length cs2) s.c.S.length (Be s.c.S) by rw [<-HES.out];exact HC2.out.ss);have HSL:=Bi5 HR.out.S;have HGE:=Bi5 (show base<=W2.heap.size by have:=H.out.ge 0 s.cb rfl;have:=HSZ2.out;omega);clear hmb
   go_wp2
   go_region
   go_upto_region 5 with (fail)
   clear r2 r3 x0 x1 x2 x3 x4 x5 e0 e1 hup;obtain ⟨x0,x1,x2,x3,x4,x5,e0,e1⟩:=HA2.out;have r3:W2.cell? ⟨s.cb,3,none⟩=some (.slice as2 s.c.S.length cs2):=by rw [<-HES.out];exact (HC2.out.re 3 _ rfl).1
   have f3:=fun o=>Bi6 (Below.of_al W2 o) r3;have f0:=fun o=>Bi6 (Below.of_al W2 o) x0
   go_cut [] from 8 (fun W7=>∃g6 cap6,CoreW W7 base { s with vS:=(.slice (some ⟨g6,0,none⟩) (s.c.S.length+1) cap6),c:=⟨s.c.O,fun a c=>if a=x.f/\c=x.t then some s.c.S.length else s.c.p a c,s.c.S++[x]⟩,nb:=s.nb+1 }/\OffX s.X w W7/\AB W7 w.heap.size x/\((Value.slice (some ⟨g6,0,none⟩) (s.c.S.length+1) cap6).ownBlock=s.vS.ownBlock\/w.heap.size<=g6)/\w.heap.size+2<=W7.heap.size)
   case first=>
    go_region_law (refine Nc rfl (.tmp 50) (.tmp 52) 79 rfl base 187 _ 6 48 Ah3 Tryz.underlying79 (.slice as2 s.c.S.length cs2) s.c.S.length (Be s.c.S) ⟨W2.heap.size,0,none⟩ 1 1 (Cw x) rfl rfl (World.ownsRow.alloc (Ly HSS2.out 1) _) (Bf0 _ _ _ rfl) (As7 x) ⟨rfl,by decide,(by have:=HSL.out;omega),(by have:=HSL.out;omega),(by have:=HGE.out;simp;omega)⟩ ?_;intro g6 cap6 w6 hown hgr hbl hat;(have hU:=(Below.of_al W2 (Obj.cells #[.int .i64 x.f,.int .i64 x.t,.int .u64 x.w,.int .i64 x.e,.int .i64 x.a,.int .i64 x.b] 187)).drew;have HO6:=Bi5 (show OffX (fun k=>s.vS.ownBlock=some k) _ w6 from ⟨hgr.os,hgr.tape,hgr.output,hgr.size,fun k hk hn=>hgr.block k hk (fun e=>hn (by rw [HES.out];exact e.symm))⟩);have HU:=Bi5 hU;have HW6:=Bi5 (And.intro hown hat);have p6:=HO6.out.cell (Bi6 hU r3) (fun e=>H.out.sep 0 5 s.cb (by omega) rfl e);have y6:=(HO6.out.frozen (p:=⟨s.cb,3,none⟩) (Nat.lt_of_lt_of_le (HC2.out.ge 0 s.cb rfl).2 hU.size) (fun e=>H.out.sep 0 5 s.cb (by omega) rfl e)).trans (((HC2.out.go hU).re 3 _ rfl).2);clear hown hgr hbl hat hU))
    all_goals
     go_wp2_with fail
     go_meet
     obtain ⟨W7,hW7⟩:∃W7,W7=w6.setCell ⟨s.cb,3,none⟩ (.slice (some ⟨g6,0,none⟩) (s.c.S.length+1) cap6):=⟨_,rfl⟩;have hU:=HU.out;have hvb:(Value.slice (some ⟨g6,0,none⟩) (s.c.S.length+1) cap6).ownBlock=s.vS.ownBlock\/∃g,(Value.slice (some ⟨g6,0,none⟩) (s.c.S.length+1) cap6).ownBlock=some g/\(W2.alloc (Obj.cells #[.int .i64 x.f,.int .i64 x.t,.int .u64 x.w,.int .i64 x.e,.int .i64 x.a,.int .i64 x.b] 187)).drew.heap.size<=g:=by
      rcases HW6.out.2 with e|e
      ·exact .inl (by rw [HES.out];exact e.symm)
      ·exact .inr ⟨g6,rfl,by rw [e];exact Bi7 _⟩
     have HC7:=Bi5 (show CoreW W7 base { s with vS:=(.slice (some ⟨g6,0,none⟩) (s.c.S.length+1) cap6),c:=⟨s.c.O,fun a c=>if a=x.f/\c=x.t then some s.c.S.length else s.c.p a c,s.c.S++[x]⟩,nb:=s.nb+1 } by
      rw [hW7];exact (HC2.out.go hU).sapp1 HW6.out.1 HO6.out hvb)
     have HO7:=Bi5 (show OffX s.X w W7 by
      rw [hW7];exact ((HO2.out.trans (.of_below hU)).trans (HO6.out.mono (fun k e=>⟨5,e⟩))).trans (.set _ ⟨0,rfl⟩))
     have hA6:=(HA2.out.go hU).off HO6.out (fun e=>by have:=(H.out.ge 5 _ e).2;omega) (fun e=>by have:=(H.out.ge 5 _ e).2;omega);have HA7:=Bi5 (show AB W7 w.heap.size x by
      rw [hW7];have hc:=(H.out.ge 0 s.cb rfl).2;exact hA6.off (X:=(· =s.cb)) (.set _ rfl) (by omega) (by omega))
     have HFR:=Bi5 (show (Value.slice (some ⟨g6,0,none⟩) (s.c.S.length+1) cap6).ownBlock=s.vS.ownBlock\/w.heap.size<=g6 from hvb.imp id (by rintro ⟨g,e,hg⟩;cases e;have:=hU.size;have:=HSZ2.out;simp only [Value.ownBlock,Option.some.injEq] at*;omega));have HSZ7:=Bi5 (show w.heap.size+2<=W7.heap.size by rw [hW7,World.size_setCell];have:=hU.size;have:=HO6.out.size;have:=HSZ2.out;omega);rw [<-hW7];exact ⟨g6,cap6,HC7.out,HO7.out,HA7.out,HFR.out,HSZ7.out⟩
   case rest=>
    obtain ⟨g6,cap6,hc7,ho7,ha7,hfr,hsz7⟩:=hcut;have HC7:=Bi5 hc7;have HO7:=Bi5 ho7;have HA7:=Bi5 ha7;have HFR:=Bi5 hfr;have HSZ7:=Bi5 hsz7;clear hc7 ho7 ha7 hfr hsz7 r3 x0 x1 x2 x3 x4 x5 e0 e1 f3 f0 HC1 HA1 HB1 HSZ1 HC2 HA2 HO2 HSZ2 HSS2 HSL HGE HES;obtain ⟨W7,hW7⟩:∃W7,W7=wc:=⟨_,rfl⟩;subst hW7
    go_wp2
    obtain ⟨x0,x1,x2,x3,x4,x5,e0,e1⟩:=HA7.out;have hu0:=HX.out.1.1;have hu1:=HX.out.1.2;have HUN:=Bi5 (show x.f.toNat<s.n by omega);obtain ⟨L,hL⟩:∃L,L=s.c.O.getD x.f.toNat []:=⟨_,rfl⟩;have hRL:W7.ownsRow base 253 2 (s.rows.getD x.f.toNat Bk) L.length (Aq L):=by rw [hL];exact HC7.out.row x.f.toNat
    have HLL:=Bi5 (show L.length<=1000000 by
     by_cases hh:x.f.toNat<s.c.O.length
     ·rw [hL,Bj1,Bj0 hh]
      exact HR.out.row _ (Bj7 hh)
     ·exact absurd HUN.out hh)
    have HL:=Bi5 hL;clear hL;obtain ⟨ar,cr,eR,hcr⟩:=Cel.of_owns hRL;have HER:=Bi5 (show s.rows.getD x.f.toNat Bk=.slice ar L.length cr from eR);have r0:W7.cell? ⟨s.cb,0,none⟩=some (.slice (some ⟨s.ob,0,none⟩) s.n s.cO):=(HC7.out.re 0 _ rfl).1;have ru:W7.cell? ⟨s.ob,x.f.toNat,none⟩=some (.slice ar L.length cr):=by
     rw [<-HER.out];exact HC7.out.rowAt (u:=x.f.toNat) HUN.out
    have HRO:=Bi5 (show W7.ownsRow base 253 2 (.slice ar L.length cr) L.length (Aq L) by rw [<-HER.out];exact hRL);have HDEL:=Bi5 (Ac8 base x.t L ar cr w.heap.size W7.drew (Af HRO.out (Below.of_dr W7 1)) (Bi6 (Below.of_dr W7 1) x1) (fun k hk e=>by have:=(H.out.ge (x.f.toNat+6) k (by show (s.rows.getD _ Bk).ownBlock=_;rw [HER.out];exact hk)).2;omega) HLL.out);have hmf:∀(fn:Fn) (first cap:Array Value) (w:World),(Instr.makeFunc fn first cap).run Tryz.prog w=.ok (.func fn first cap) w:=fun _ _ _ _=>rfl;clear eR hcr hRL HRO
    go_still_tail 10,(by kernel_rfl)
    change wpList _ _ _ _ _ W7.drew
    obtain ⟨W8,hW8⟩:∃W8,W8=W7.drew:=⟨_,rfl⟩;have hz8:Below W7.heap.size W7 W8:=by rw [hW8];exact Below.of_dr W7 1
    have HC8:=Bi5 (HC7.out.go hz8);have HA8:=Bi5 (HA7.out.go hz8);have HO8:=Bi5 (HO7.out.trans (.of_below hz8));have HSZ8:=Bi5 (Bi9 HSZ7.out hz8.size);rw [<-hW8] at HDEL ⊢;clear hW8 hz8 HC7 HA7 HO7 HSZ7 x0 x1 x2 x3 x4 x5 e0 e1 r0 ru
    go_wp2_with fail
    refine (HDEL.out).mono ?_;rintro e w8 ⟨rfl,hown8,ho8⟩;obtain ⟨M,hM⟩:∃M,M=L.filter (fun a=>!toP x.t a):=⟨_,rfl⟩;rw [<-hM] at hown8 ⊢;have HM:=Bi5 hM;clear hM;have HO9:=Bi5 hown8;have HF9:=Bi5 ho8;clear hown8 ho8 HDEL;have HML:=Bi5 (show M.length<=1000000 by rw [HM.out];exact Bi9 (List.length_filter_le _ _) HLL.out);have HOB:=Bi5 (show ∀k,(Value.slice ar L.length cr).ownBlock=some k->k≠s.cb/\k≠s.ob/\k<w.heap.size by
     intro k hk;have hk6:s.blk (x.f.toNat+6)=some k:=by show (s.rows.getD _ Bk).ownBlock=_;rw [HER.out];exact hk
     exact ⟨fun e=>H.out.sep (x.f.toNat+6) 0 k (by omega) hk6 (by rw [e];rfl),fun e=>H.out.sep (x.f.toNat+6) 1 k (by omega) hk6 (by rw [e];rfl),(H.out.ge _ k hk6).2⟩)
    have hA9:=HA8.out.off HF9.out (fun e=>by have:=(HOB.out _ e).2.2;omega) (fun e=>by have:=(HOB.out _ e).2.2;omega);obtain ⟨x0,x1,x2,x3,x4,x5,e0,e1⟩:=hA9;have r0:=HF9.out.cell (show W8.cell? ⟨s.cb,0,none⟩=some (.slice (some ⟨s.ob,0,none⟩) s.n s.cO) from (HC8.out.re 0 _ rfl).1) (fun e=>(HOB.out _ e).1 rfl);have z0:w8.frozen? ⟨s.ob,x.f.toNat,none⟩=false:=(HF9.out.frozen (p:=⟨s.ob,x.f.toNat,none⟩) (HC8.out.ge 1 s.ob rfl).2 (fun e=>(HOB.out _ e).2.1 rfl)).trans (HC8.out.out.frozenAt x.f.toNat);have z1:=HF9.out.cell (show W8.cell? ⟨s.ob,x.f.toNat,none⟩=some (.slice ar L.length cr) by rw [<-HER.out];exact HC8.out.rowAt (u:=x.f.toNat) HUN.out) (fun e=>(HOB.out _ e).2.1 rfl);have HSO:=Bi5 (show s.ob<w8.heap.size by have:=(HC8.out.ge 1 s.ob rfl).2;have:=HF9.out.size;omega);have HGE:=Bi5 (show base<=w8.heap.size by have:=HSO.out;have:=(H.out.ge 1 s.ob rfl).1;omega);have HOX:=Bi5 (show ∀k,(Value.slice ar M.length cr).ownBlock=some k->(Value.slice ar L.length cr).ownBlock=some k from fun k hk=>by cases ar<;>exact hk)
    go_upto_region 7 with (fail)
    have f0:=fun o=>Bi6 (Below.of_al w8 o) x0;have f1:=fun o=>Bi6 (Below.of_al w8 o) r0
    go_region_law (refine Nc rfl (.tmp 74) (.tmp 80) 247 rfl base 253 _ 2 16 Yk Tryz.underlying247 (.slice ar M.length cr) M.length (Aq M) ⟨w8.heap.size,0,none⟩ 1 1 [.int .i64 x.t,.int .u64 x.w] rfl rfl (World.ownsRow.alloc (Ly HO9.out 1) _) (Ab0 _ _ _ _ rfl) (Po _ _) ⟨rfl,by decide,(by have:=HML.out;omega),(by have:=HML.out;omega),(by have:=HGE.out;simp;omega)⟩ ?_;intro g9 cap9 w9 hown hgr hbl hat;(have hU:=(Below.of_al w8 (Obj.cells #[.int .i64 x.t,.int .u64 x.w] 253)).drew;have HO10:=Bi5 (show OffX (fun k=>(Value.slice ar L.length cr).ownBlock=some k) _ w9 from ⟨hgr.os,hgr.tape,hgr.output,hgr.size,fun k hk hn=>hgr.block k hk (fun e=>hn (HOX.out k e.symm))⟩);have HU:=Bi5 hU;have HW9:=Bi5 (And.intro hown hat);have q0:=HO10.out.cell (Bi6 hU x0) (fun e=>Nat.lt_irrefl _ (HOB.out _ e).2.2);have q1:=HO10.out.cell (Bi6 hU r0) (fun e=>(HOB.out _ e).1 rfl);have p9:=HO10.out.cell (Bi6 hU z1) (fun e=>(HOB.out _ e).2.1 rfl);have y9:=(HO10.out.frozen (p:=⟨s.ob,x.f.toNat,none⟩) (Nat.lt_of_lt_of_le HSO.out hU.size) (fun e=>(HOB.out _ e).2.1 rfl)).trans ((hU.frozen (p:=⟨s.ob,x.f.toNat,none⟩) HSO.out).trans z0);clear hown hgr hbl hat hU))
    all_goals
     obtain ⟨W10,hW10⟩:∃W10,W10=w9.setCell ⟨s.ob,x.f.toNat,none⟩ (.slice (some ⟨g9,0,none⟩) (M.length+1) cap9):=⟨_,rfl⟩;have hU:=HU.out;rw [<-hW10]
     go_wp2
     refine bodyPost_end (results_none rfl _ _ _) rfl ?_;have hvb:(Value.slice (some ⟨g9,0,none⟩) (M.length+1) cap9).ownBlock=(s.rows.getD x.f.toNat Bk).ownBlock\/∃g,(Value.slice (some ⟨g9,0,none⟩) (M.length+1) cap9).ownBlock=some g/\W8.heap.size<=g:=by
      rcases HW9.out.2 with e|e
      ·refine .inl ?_
       rw [HER.out];exact (HOX.out _ e).symm
      ·refine .inr ⟨g9,rfl,?_⟩
       rw [e];have:=hU.size;have:=HF9.out.size;omega
     have hown:w9.ownsRow base 253 2 (.slice (some ⟨g9,0,none⟩) (M.length+1) cap9) (M++[(x.t,x.w)]).length (Aq (M++[(x.t,x.w)])):=by
      rw [Bl5,Dy];exact HW9.out.1
     have hz10:OffX (fun k=>(s.rows.getD x.f.toNat Bk).ownBlock=some k) W8 w9:=by
      rw [HER.out];exact (HF9.out.trans (.of_below hU)).trans HO10.out
     have hc10:=HC8.out.rset (v':=.slice (some ⟨g9,0,none⟩) (M.length+1) cap9) (u:=x.f.toNat) HUN.out hown hz10 hvb;rw [<-hW10] at hc10;refine ⟨_,rfl,hc10,?_,rfl,rfl,rfl,rfl,rfl,rfl,Bi7 _,?_,?_⟩
     ·rw [HPUT.out]
      unfold So Cl
      show CoreD.mk _ _ _=CoreD.mk _ _ _
      rw [HM.out,HL.out]
      congr 4
      funext a
      simp
     ·rw [hW10]
      exact (HO8.out.trans (hz10.mono (fun k e=>⟨x.f.toNat+6,e⟩))).trans (.set _ ⟨1,rfl⟩)
     ·rintro k ⟨i,hi⟩
      have l1:=H.out.lens.1
      match i with
      |0=>exact .inl ⟨0,hi⟩
      |1=>exact .inl ⟨1,hi⟩
      |2=>exact .inl ⟨2,hi⟩
      |3=>exact .inl ⟨3,hi⟩
      |4=>exact .inl ⟨4,hi⟩
      |5=>
       have hi2:(Value.slice (some ⟨g6,0,none⟩) (s.c.S.length+1) cap6).ownBlock=some k:=hi
       rcases HFR.out with e|e
       ·exact .inl ⟨5,by show s.vS.ownBlock=_;rw [<-e];exact hi2⟩
       ·cases hi2
        exact .inr e
      |i+6=>
       have hi2:((s.rows.set x.f.toNat (.slice (some ⟨g9,0,none⟩) (M.length+1) cap9)).getD i Bk).ownBlock=some k:=hi;rw [Dw _ _ _ _ _ (by have:=HUN.out;omega)] at hi2
       by_cases e:i=x.f.toNat
       ·rw [if_pos e] at hi2
        rcases hvb with h|⟨g,h,hg⟩
        ·exact .inl ⟨x.f.toNat+6,by show (s.rows.getD _ Bk).ownBlock=_;rw [<-h];exact hi2⟩
        ·rw [h] at hi2
         cases hi2
         have:=HSZ8.out;exact .inr (by omega)
       ·rw [if_neg e] at hi2
        exact .inl ⟨i+6,hi2⟩
end Go.Proofs.YteaaapdjplbljaaGreat
