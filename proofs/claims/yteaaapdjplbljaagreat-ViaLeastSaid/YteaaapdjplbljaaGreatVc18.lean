/- Parts; no condition. -/
import Derived.Test.YteaaapdjplbljaaGreatVc17
import Derived.Deep.CutRange
set_option linter.unusedVariables false
set_option linter.unusedSimpArgs false
set_option linter.unnecessarySimpa false
set_option maxRecDepth 100000
set_option maxHeartbeats 8000000
namespace Go.Proofs.YteaaapdjplbljaaGreat
section
open Go Go.Proofs Go.RowKit Go.Shelf Hp Ch
theorem Am6 (g:GD) (ao:Option Addr) (cap:Nat) (v:Int) (w:World):
  Calls Tryz.prog 197 #[.agg #[.int .i64 g.n,.slice ao g.es.length cap],.int .i64 v] w fun e w'=>e=.returned (.bool (Dz g.es.length v))/\Below w.heap.size w w':=by
 unfold Dz
 go_enter Tryz.func197,Tryz.ntmps197
 go_wp2
 all_goals
  go_ret
  exact ⟨by simp [*]<;>omega,by repeat (first|exact Below.refl _ _|refine Below.al ?_ _|refine Below.dr ?_ _|refine Below.drew ?_|assumption|(refine Below.st ?_ (by assumption)))⟩
def Ff (es:List EdgeD) (x:SC):Bool:=Dz es.length x.e&&(x.a== -1)&&(x.b== -1)&&(match es[x.e.toNat]? with|some y=>(y.f==x.f)&&(y.t==x.t)&&(y.w==x.w)|none=>false)
abbrev gV (n:Int) (ao:Option Addr) (m cap:Nat):Value:=.agg #[.int .i64 n,.slice ao m cap]
theorem Aw9 (n:Int) (es:List EdgeD) (ao:Option Addr) (cap:Nat) (x:SC) (w:World) (hc:Cel w ao (Ax es)):
  Calls Tryz.prog 169 #[gV n ao es.length cap,scV x] w fun e w'=>e=.returned (.bool (Ff es x))/\Below w.heap.size w w':=by
 have HG:=Bi5 (fun W=>(show Calls Tryz.prog 197 #[gV n ao es.length cap,.int .i64 x.e] W (fun e w'=>e=.returned (.bool (Dz es.length x.e))/\Below W.heap.size W w') from Am6 ⟨n,es⟩ ao cap x.e W));obtain ⟨W,hW⟩:∃W,W=(w.alloc (Obj.cells #[.int .i64 n,.slice ao es.length cap] 24)).alloc (Obj.cells #[.int .i64 x.f,.int .i64 x.t,.int .u64 x.w,.int .i64 x.e,.int .i64 x.a,.int .i64 x.b] 187):=⟨_,rfl⟩;have hbw:Below w.heap.size w W:=by rw [hW];exact (Below.of_al _ _).al _
 have c0:W.cell? ⟨w.heap.size,0,none⟩=some (.int .i64 n):=by rw [hW];go_simp
 have c1:W.cell? ⟨w.heap.size,1,none⟩=some (.slice ao es.length cap):=by rw [hW];go_simp
 have x0:W.cell? ⟨w.heap.size+1,0,none⟩=some (.int .i64 x.f):=by rw [hW];go_simp
 have x1:W.cell? ⟨w.heap.size+1,1,none⟩=some (.int .i64 x.t):=by rw [hW];go_simp
 have x2:W.cell? ⟨w.heap.size+1,2,none⟩=some (.int .u64 x.w):=by rw [hW];go_simp
 have x3:W.cell? ⟨w.heap.size+1,3,none⟩=some (.int .i64 x.e):=by rw [hW];go_simp
 have x4:W.cell? ⟨w.heap.size+1,4,none⟩=some (.int .i64 x.a):=by rw [hW];go_simp
 have x5:W.cell? ⟨w.heap.size+1,5,none⟩=some (.int .i64 x.b):=by rw [hW];go_simp
 have HW:=Bi5 hW;have HB:=Bi5 hbw;have HC:=Bi5 (hc.go hbw);clear hW hbw hc
 cases hE:Dz es.length x.e with
 |false=>
  have HF:=Bi5 (show Ff es x=false by unfold Ff;rw [hE];rfl);rw [hE] at HG;clear hE
  go_enter Tryz.func169,Tryz.ntmps169
  go_upto_region 1 with (fail)
  rw [<-HW.out]
  go_wp2_with (go_at_call 197;refine (HG.out _).mono ?_;rintro e w1 ⟨rfl,hb1⟩)
  go_ret
  exact ⟨by rw [HF.out];rfl,HB.out.st hb1⟩
 |true=>
  rw [hE] at HG;have hin:0<=x.e/\x.e<(es.length:Int):=by unfold Dz at hE;simpa using hE
  cases hA:(x.a== -1) with
  |false=>
   have HF:=Bi5 (show Ff es x=false by unfold Ff;rw [hE,hA];rfl);have hA2:(x.a != -1)=true:=by simp [bne,hA]
   clear hE hin
   go_enter Tryz.func169,Tryz.ntmps169
   go_upto_region 1 with (fail)
   rw [<-HW.out]
   go_wp2_with (go_at_call 197;refine (HG.out _).mono ?_;rintro e w1 ⟨rfl,hb1⟩;(have x4':=Bi6 hb1 x4);(have x5':=Bi6 hb1 x5))
   go_ret
   exact ⟨by rw [HF.out];rfl,HB.out.st hb1⟩
  |true=>
   have hA2:(x.a != -1)=false:=by simp [bne,hA]
   cases hBb:(x.b== -1) with
   |false=>
    have HF:=Bi5 (show Ff es x=false by unfold Ff;rw [hE,hA,hBb];rfl);have hB2:(x.b != -1)=true:=by simp [bne,hBb]
    clear hE hin
    go_enter Tryz.func169,Tryz.ntmps169
    go_upto_region 1 with (fail)
    rw [<-HW.out]
    go_wp2_with (go_at_call 197;refine (HG.out _).mono ?_;rintro e w1 ⟨rfl,hb1⟩;(have x4':=Bi6 hb1 x4);(have x5':=Bi6 hb1 x5))
    go_ret
    exact ⟨by rw [HF.out];rfl,HB.out.st hb1⟩
   |true=>
    have hB2:(x.b != -1)=false:=by simp [bne,hBb]
    obtain ⟨k,hk⟩:∃k:Nat,x.e=(k:Int):=⟨x.e.toNat,by omega⟩;have hkl:k<es.length:=by omega
    have HF:=Bi5 (show Ff es x=((es[k].f==x.f)&&(es[k].t==x.t)&&(es[k].w==x.w)) by
     unfold Ff;rw [hE,hA,hBb,hk,Bj9,Bj0 hkl];simp)
    obtain ⟨eb,eo,rfl,e0,e1,e2⟩:=HC.out.edge hkl;rw [hk] at x3 HG;have HK:=Bi5 hk;have hk0:(0:Int)<=(k:Int):=by omega
    have hk1:(k:Int)<(es.length:Int):=by omega
    generalize es[k]=y at*;clear hE hin hk HC
    go_enter Tryz.func169,Tryz.ntmps169
    go_upto_region 1 with (fail)
    rw [<-HW.out]
    go_wp2_with (go_at_call 197;refine (HG.out _).mono ?_;rintro e w1 ⟨rfl,hb1⟩;(have c1':=Bi6 hb1 c1);(have x0':=Bi6 hb1 x0);(have x1':=Bi6 hb1 x1);(have x2':=Bi6 hb1 x2);(have x3':=Bi6 hb1 x3);(have x4':=Bi6 hb1 x4);(have x5':=Bi6 hb1 x5);(have e0':=Bi6 hb1 e0);(have e1':=Bi6 hb1 e1);(have e2':=Bi6 hb1 e2);(have HB1:=Bi5 (HB.out.st hb1));clear hb1)
    have HE:=Bi5 (show Ff es x=((y.f==x.f)&&(y.t==x.t)&&(y.w==x.w)) from HF.out)
    by_cases q1:y.f=x.f<;>by_cases q2:y.t=x.t<;>by_cases q3:y.w=x.w
    all_goals
     go_quiet (fail)
     go_wp2
     go_ret
     exact ⟨by rw [HE.out];simp [q1,q2,q3],HB1.out.dr _⟩
end
section
open Go Go.Proofs Go.RowKit Go.Shelf Hp Ch
def rAt (R:List Int) (v:Int):Int:=R.getD v.toNat 0
def Pv (x:Int):Int:=IntKind.u64.wrap x
def Tm (i:Nat) (x:SC):Bool:=(x.e== -1)&&(decide (0<=x.a)&&decide (x.a<(i:Int)))&&(decide (0<=x.b)&&decide (x.b<(i:Int)))&&!(x.f==x.t)
def Tq (y z x:SC):Bool:=(y.f==x.f)&&(y.t==z.f)&&(z.t==x.t)&&(Pv (y.w+z.w)==x.w)
def scZ:SC:=⟨0,0,0,0,0,0⟩
def Ph (S:List SC) (a:Int):SC:=S.getD a.toNat scZ
def Uu (R:List Int) (S:List SC) (i:Nat) (x:SC):Bool:=
 Tm i x&&(Tq (Ph S x.a) (Ph S x.b) x&&decide (rAt R (Ph S x.a).t<min (rAt R x.f) (rAt R x.t)))
theorem Wi (c:Int) (ao:Option Addr) (i cap X:Nat) (w:World) (hx:w.cell? ⟨X,0,none⟩=some (.slice ao i cap)):
  Calls Tryz.prog 233 (#[.int .i64 c]++#[.pointer (some ⟨X,0,none⟩)]) w fun e w'=>e=.returned (.bool (decide (0<=c)&&decide (c<(i:Int))))/\w=w':=by
 by_cases h0:0<=c<;>by_cases h1:c<(i:Int)
 all_goals
  go_enter Tryz.func233,Tryz.ntmps233
  go_wp2
  go_ret
  exact ⟨by simp [*],rfl⟩
structure XB (W:World) (b:Nat) (x:SC):Prop where
 x0:W.cell? ⟨b,0,none⟩=some (.int .i64 x.f)
 x1:W.cell? ⟨b,1,none⟩=some (.int .i64 x.t)
 x2:W.cell? ⟨b,2,none⟩=some (.int .u64 x.w)
 x3:W.cell? ⟨b,3,none⟩=some (.int .i64 x.e)
 x4:W.cell? ⟨b,4,none⟩=some (.int .i64 x.a)
 x5:W.cell? ⟨b,5,none⟩=some (.int .i64 x.b)
theorem XB.go {W W':World} {b:Nat} {x:SC} (h:XB W b x) (hb:Below W.heap.size W W'):XB W' b x:=⟨Bi6 hb h.x0,Bi6 hb h.x1,Bi6 hb h.x2,Bi6 hb h.x3,Bi6 hb h.x4,Bi6 hb h.x5⟩
theorem Ob {W:World} {b o:Nat} {S:List SC} (h:Cel W (some ⟨b,o,none⟩) (Be S)) {k:Nat} (hk:k<S.length) (j:Nat) (hj:j<6):W.cell? ⟨b,o+(k*6+j),none⟩=(Cw S[k])[j]?:=by
 have h1:=Jz S k hk j hj
 cases e:(Cw S[k])[j]? with
 |none=>
  rw [List.getElem?_eq_none_iff] at e;simp [Cw] at e;omega
 |some u=>
  rw [e] at h1;obtain ⟨b',o',e2,hc⟩:=h _ _ h1
  cases e2
  exact hc
theorem Mp {W:World} {ao:Option Addr} {S:List SC} (h:Cel W ao (Be S)) {k:Nat} (hk:k<S.length):∃b o,ao=some ⟨b,o,none⟩/\W.cell? ⟨b,o+k*6,none⟩=some (.int .i64 S[k].f)/\W.cell? ⟨b,o+k*6+1,none⟩=some (.int .i64 S[k].t)/\W.cell? ⟨b,o+k*6+2,none⟩=some (.int .u64 S[k].w)/\
  W.cell? ⟨b,o+k*6+3,none⟩=some (.int .i64 S[k].e)/\W.cell? ⟨b,o+k*6+4,none⟩=some (.int .i64 S[k].a)/\W.cell? ⟨b,o+k*6+5,none⟩=some (.int .i64 S[k].b):=by
 obtain ⟨b,o,e,_⟩:=h (k*6) _ ((Jz S k hk 0 (by omega)).trans rfl);subst e;refine ⟨b,o,rfl,?_,?_,?_,?_,?_,?_⟩
 ·exact Ob h hk 0 (by omega)
 ·rw [Nat.add_assoc];exact Ob h hk 1 (by omega)
 ·rw [Nat.add_assoc];exact Ob h hk 2 (by omega)
 ·rw [Nat.add_assoc];exact Ob h hk 3 (by omega)
 ·rw [Nat.add_assoc];exact Ob h hk 4 (by omega)
 ·rw [Nat.add_assoc];exact Ob h hk 5 (by omega)
theorem Pm {w W w1 w2:World} {sb so i cap ka kb:Nat} {y z:SC} (hb:Below w1.heap.size w1 w2) (h:w1.cell? ⟨w.heap.size,0,none⟩=some (.slice (some ⟨sb,so,none⟩) i cap)/\w1.cell? ⟨w.heap.size+1,4,none⟩=some (.int .i64 (ka:Int))/\w1.cell? ⟨w.heap.size+1,5,none⟩=some (.int .i64 (kb:Int))/\w1.cell? ⟨sb,so+ka*6,none⟩=some (.int .i64 y.f)/\w1.cell? ⟨sb,so+ka*6+1,none⟩=some (.int .i64 y.t)/\w1.cell? ⟨sb,so+ka*6+2,none⟩=some (.int .u64 y.w)/\w1.cell? ⟨sb,so+ka*6+3,none⟩=some (.int .i64 y.e)/\w1.cell? ⟨sb,so+ka*6+4,none⟩=some (.int .i64 y.a)/\w1.cell? ⟨sb,so+ka*6+5,none⟩=some (.int .i64 y.b)/\w1.cell? ⟨sb,so+kb*6,none⟩=some (.int .i64 z.f)/\w1.cell? ⟨sb,so+kb*6+1,none⟩=some (.int .i64 z.t)/\w1.cell? ⟨sb,so+kb*6+2,none⟩=some (.int .u64 z.w)/\w1.cell? ⟨sb,so+kb*6+3,none⟩=some (.int .i64 z.e)/\w1.cell? ⟨sb,so+kb*6+4,none⟩=some (.int .i64 z.a)/\w1.cell? ⟨sb,so+kb*6+5,none⟩=some (.int .i64 z.b)/\Below W.heap.size W w1):w2.cell? ⟨w.heap.size,0,none⟩=some (.slice (some ⟨sb,so,none⟩) i cap)/\w2.cell? ⟨w.heap.size+1,4,none⟩=some (.int .i64 (ka:Int))/\w2.cell? ⟨w.heap.size+1,5,none⟩=some (.int .i64 (kb:Int))/\w2.cell? ⟨sb,so+ka*6,none⟩=some (.int .i64 y.f)/\w2.cell? ⟨sb,so+ka*6+1,none⟩=some (.int .i64 y.t)/\w2.cell? ⟨sb,so+ka*6+2,none⟩=some (.int .u64 y.w)/\w2.cell? ⟨sb,so+ka*6+3,none⟩=some (.int .i64 y.e)/\w2.cell? ⟨sb,so+ka*6+4,none⟩=some (.int .i64 y.a)/\w2.cell? ⟨sb,so+ka*6+5,none⟩=some (.int .i64 y.b)/\w2.cell? ⟨sb,so+kb*6,none⟩=some (.int .i64 z.f)/\w2.cell? ⟨sb,so+kb*6+1,none⟩=some (.int .i64 z.t)/\w2.cell? ⟨sb,so+kb*6+2,none⟩=some (.int .u64 z.w)/\w2.cell? ⟨sb,so+kb*6+3,none⟩=some (.int .i64 z.e)/\w2.cell? ⟨sb,so+kb*6+4,none⟩=some (.int .i64 z.a)/\w2.cell? ⟨sb,so+kb*6+5,none⟩=some (.int .i64 z.b)/\Below W.heap.size W w2:=by
 obtain ⟨c0,c1,c2,c3,c4,c5,c6,c7,c8,c9,c10,c11,c12,c13,c14,hz⟩:=h;exact ⟨Bi6 hb c0,Bi6 hb c1,Bi6 hb c2,Bi6 hb c3,Bi6 hb c4,Bi6 hb c5,Bi6 hb c6,Bi6 hb c7,Bi6 hb c8,Bi6 hb c9,Bi6 hb c10,Bi6 hb c11,Bi6 hb c12,Bi6 hb c13,Bi6 hb c14,hz.st hb⟩
def Vx (r:Bool) (w:World) (e:Ending) (w':World):Prop:=e=.returned (.bool r)/\Below w.heap.size w w'
theorem Az2 (R:List Int) (ro ao:Option Addr) (rc cap i:Nat) (S:List SC) (x:SC) (w:World) (hr:Cel w ro (R.map Aj)) (hS:Cel w ao (Be S)) (hi:i<=S.length) (hl:S.length<=1000000) (hrl:R.length<=1000000)
  (hin:∀(k:Nat) (hk:k<i),Aa R.length (S[k]'(by omega)).f/\Aa R.length (S[k]'(by omega)).t):
  Calls Tryz.prog 170 #[.slice ro R.length rc,.slice ao i cap,scV x] w (Vx (Uu R S i x) w):=by
 obtain ⟨W,hW⟩:∃W,W=(w.alloc (Obj.cells #[.slice ao i cap] 79)).alloc (Obj.cells #[.int .i64 x.f,.int .i64 x.t,.int .u64 x.w,.int .i64 x.e,.int .i64 x.a,.int .i64 x.b] 187):=⟨_,rfl⟩;have hbw:Below w.heap.size w W:=by rw [hW];exact (Below.of_al _ _).al _
 have a0:W.cell? ⟨w.heap.size,0,none⟩=some (.slice ao i cap):=by rw [hW];go_simp
 have hxb:XB W (w.heap.size+1) x:=by rw [hW];constructor<;>go_simp
 have HXB:=Bi5 hxb;have HSZ:=Bi5 (show W.heap.size=w.heap.size+2 by rw [hW];simp);have HW:=Bi5 hW;have HB:=Bi5 hbw;have HR:=Bi5 (hr.go hbw);have HS:=Bi5 (hS.go hbw);have HIN:=Bi5 hin;obtain ⟨x0,x1,x2,x3,x4,x5⟩:=hxb;have H1:=Bi5 (Wi x.a ao i cap w.heap.size W a0);have H2:=Bi5 (Wi x.b ao i cap w.heap.size W a0);have hmf:∀(fn:Fn) (first cap:Array Value) (w:World),(Instr.makeFunc fn first cap).run Tryz.prog w=.ok (.func fn first cap) w:=fun _ _ _ _=>rfl;unfold Vx;clear hW hbw hr hS hin;have HT:=Bi5 (show Uu R S i x=(Tm i x&&(Tq (Ph S x.a) (Ph S x.b) x&&decide (rAt R (Ph S x.a).t<min (rAt R x.f) (rAt R x.t)))) from rfl);have HP:=Bi5 (show Tm i x=((x.e== -1)&&(decide (0<=x.a)&&decide (x.a<(i:Int)))&&(decide (0<=x.b)&&decide (x.b<(i:Int)))&&!(x.f==x.t)) from rfl);have HIB:=Bi5 (show (decide (0<=x.a)&&decide (x.a<(i:Int)))=true->∃k:Nat,x.a=(k:Int)/\k<i from fun h=>⟨x.a.toNat,by simp at h;omega,by simp at h;omega⟩);have HIC:=Bi5 (show (decide (0<=x.b)&&decide (x.b<(i:Int)))=true->∃k:Nat,x.b=(k:Int)/\k<i from fun h=>⟨x.b.toNat,by simp at h;omega,by simp at h;omega⟩);generalize Uu R S i x=rr at*;generalize Tm i x=pp at*;generalize (decide (0<=x.a)&&decide (x.a<(i:Int)))=b1 at*;generalize (decide (0<=x.b)&&decide (x.b<(i:Int)))=b2 at*
 cases hE:(x.e== -1) with
 |false=>
  have hE2:(x.e != -1)=true:=by simp [bne,hE]
  rw [hE] at HP;clear hE
  go_enter Tryz.func170,Tryz.ntmps170
  go_upto_region 2 with (fail)
  rw [<-HW.out]
  go_wp2
  go_ret
  exact ⟨by rw [HT.out,HP.out];rfl,HB.out⟩
 |true=>
  have hE2:(x.e != -1)=false:=by simp [bne,hE]
  rw [hE] at HP;clear hE
  cases b1 with
  |false=>
   go_enter Tryz.func170,Tryz.ntmps170
   go_upto_region 2 with (fail)
   rw [<-HW.out]
   go_wp2_with (go_at_call_of 233 (Value.int .i64 x.a);refine H1.out.mono ?_;rintro e w1 ⟨rfl,rfl⟩)
   go_ret
   exact ⟨by rw [HT.out,HP.out];rfl,HB.out⟩
  |true=>
   cases b2 with
   |false=>
    go_enter Tryz.func170,Tryz.ntmps170
    go_upto_region 2 with (fail)
    rw [<-HW.out]
    go_wp2_with fail
    refine H1.out.mono ?_;rintro e w1 ⟨rfl,rfl⟩
    go_wp2_with fail
    refine H2.out.mono ?_;rintro e w1 ⟨rfl,rfl⟩
    go_wp2
    go_ret
    exact ⟨by rw [HT.out,HP.out];rfl,HB.out⟩
   |true=>
    cases hft:(x.f==x.t) with
    |true=>
     rw [hft] at HP
     go_enter Tryz.func170,Tryz.ntmps170
     go_upto_region 2 with (fail)
     rw [<-HW.out]
     go_wp2_with fail
     refine H1.out.mono ?_;rintro e w1 ⟨rfl,rfl⟩
     go_wp2_with fail
     refine H2.out.mono ?_;rintro e w1 ⟨rfl,rfl⟩
     go_wp2
     go_ret
     exact ⟨by rw [HT.out,HP.out];rfl,HB.out⟩
    |false=>
     rw [hft] at HP;obtain ⟨ka,hka,hka2⟩:=HIB.out rfl;obtain ⟨kb,hkb,hkb2⟩:=HIC.out rfl;have hka3:ka<S.length:=by omega
     have hkb3:kb<S.length:=by omega
     have HSA:=Bi5 (show Ph S x.a=S[ka] by unfold Ph;rw [hka,Bj9,Bj1,Bj0 hka3];rfl);have HSB:=Bi5 (show Ph S x.b=S[kb] by unfold Ph;rw [hkb,Bj9,Bj1,Bj0 hkb3];rfl);obtain ⟨sb,so,e,y0,y1,y2,y3,y4,y5⟩:=Mp HS.out hka3;subst e;obtain ⟨sb',so',e,v0,v1,v2,v3,v4,v5⟩:=Mp HS.out hkb3
     cases e
     have HN1:=Bi5 (HIN.out ka hka2);have HN2:=Bi5 (HIN.out kb hkb2);rw [hka] at x4 H1;rw [hkb] at x5 H2;rw [HSA.out,HSB.out] at HT;generalize S[ka]=y at*;generalize S[kb]=z at*;have HS0:=Bi5 (show W.cell? ⟨w.heap.size,0,none⟩=some (.slice (some ⟨sb,so,none⟩) i cap)/\W.cell? ⟨w.heap.size+1,4,none⟩=some (.int .i64 (ka:Int))/\W.cell? ⟨w.heap.size+1,5,none⟩=some (.int .i64 (kb:Int))/\W.cell? ⟨sb,so+ka*6,none⟩=some (.int .i64 y.f)/\W.cell? ⟨sb,so+ka*6+1,none⟩=some (.int .i64 y.t)/\W.cell? ⟨sb,so+ka*6+2,none⟩=some (.int .u64 y.w)/\W.cell? ⟨sb,so+ka*6+3,none⟩=some (.int .i64 y.e)/\W.cell? ⟨sb,so+ka*6+4,none⟩=some (.int .i64 y.a)/\W.cell? ⟨sb,so+ka*6+5,none⟩=some (.int .i64 y.b)/\W.cell? ⟨sb,so+kb*6,none⟩=some (.int .i64 z.f)/\W.cell? ⟨sb,so+kb*6+1,none⟩=some (.int .i64 z.t)/\W.cell? ⟨sb,so+kb*6+2,none⟩=some (.int .u64 z.w)/\W.cell? ⟨sb,so+kb*6+3,none⟩=some (.int .i64 z.e)/\W.cell? ⟨sb,so+kb*6+4,none⟩=some (.int .i64 z.a)/\W.cell? ⟨sb,so+kb*6+5,none⟩=some (.int .i64 z.b)/\Below W.heap.size W W from ⟨a0,x4,x5,y0,y1,y2,y3,y4,y5,v0,v1,v2,v3,v4,v5,Below.refl _ _⟩);have hka0:(0:Int)<=(ka:Int):=by omega
     have hkb0:(0:Int)<=(kb:Int):=by omega
     have hka1:(ka:Int)<(i:Int):=by omega
     have hkb1:(kb:Int)<(i:Int):=by omega
     clear hka hkb hka2 hkb2 hka3 hkb3 HIB HIC
     go_enter Tryz.func170,Tryz.ntmps170
     go_upto_region 2 with (fail)
     rw [<-HW.out]
     go_wp2_with fail
     refine H1.out.mono ?_;rintro e w1 ⟨rfl,rfl⟩
     go_wp2_with fail
     refine H2.out.mono ?_;rintro e w1 ⟨rfl,rfl⟩
     go_upto_region 4 with (fail)
     go_cut [8,9] from 10 (fun v8 v9 wc=>∃b8 b9:Nat,v8=.pointer (some ⟨b8,0,none⟩)/\v9=.pointer (some ⟨b9,0,none⟩)/\XB wc b8 y/\XB wc b9 z/\Below W.heap.size W wc)
     case first=>
      clear a0 x4 x5 y0 y1 y2 y3 y4 y5 v0 v1 v2 v3 v4 v5
      go_region_held3 (fun w'=>w'.cell? ⟨w.heap.size,0,none⟩=some (.slice (some ⟨sb,so,none⟩) i cap)/\w'.cell? ⟨w.heap.size+1,4,none⟩=some (.int .i64 (ka:Int))/\w'.cell? ⟨w.heap.size+1,5,none⟩=some (.int .i64 (kb:Int))/\w'.cell? ⟨sb,so+ka*6,none⟩=some (.int .i64 y.f)/\w'.cell? ⟨sb,so+ka*6+1,none⟩=some (.int .i64 y.t)/\w'.cell? ⟨sb,so+ka*6+2,none⟩=some (.int .u64 y.w)/\w'.cell? ⟨sb,so+ka*6+3,none⟩=some (.int .i64 y.e)/\w'.cell? ⟨sb,so+ka*6+4,none⟩=some (.int .i64 y.a)/\w'.cell? ⟨sb,so+ka*6+5,none⟩=some (.int .i64 y.b)/\w'.cell? ⟨sb,so+kb*6,none⟩=some (.int .i64 z.f)/\w'.cell? ⟨sb,so+kb*6+1,none⟩=some (.int .i64 z.t)/\w'.cell? ⟨sb,so+kb*6+2,none⟩=some (.int .u64 z.w)/\w'.cell? ⟨sb,so+kb*6+3,none⟩=some (.int .i64 z.e)/\w'.cell? ⟨sb,so+kb*6+4,none⟩=some (.int .i64 z.a)/\w'.cell? ⟨sb,so+kb*6+5,none⟩=some (.int .i64 z.b)/\Below W.heap.size W w') (first|exact Pm (Below.refl _ W).drew HS0.out|exact Pm (Below.of_al W _).drew HS0.out|exact Pm ((Below.of_al W _).al _).drew HS0.out|exact Pm (by assumption) (by assumption)) (first|fail)
      all_goals
       go_wp2_with fail
       go_meet
       exact ⟨_,_,rfl,rfl,by constructor<;>go_simp,by constructor<;>go_simp,((Below.of_al W _).al _).drew⟩
     case rest=>
      obtain ⟨b8,b9,rfl,rfl,hy,hz,hb⟩:=hcut;have HBC:=Bi5 (HB.out.st hb);have HRC:=Bi5 (HR.out.go hb);have hx:=HXB.out.go hb;have HXC:=Bi5 (And.intro hy (And.intro hz hx));obtain ⟨m0,m1,m2,m3,m4,m5⟩:=hx;obtain ⟨p0,p1,p2,p3,p4,p5⟩:=hy;obtain ⟨n0,n1,n2,n3,n4,n5⟩:=hz;have HM:=Bi5 (show Tq y z x=((y.f==x.f)&&(y.t==z.f)&&(z.t==x.t)&&(Pv (y.w+z.w)==x.w)) from rfl);have hwu:IntKind.u64.wrap (y.w+z.w)=Pv (y.w+z.w):=rfl;clear hb x0 x1 x2 x3 x4 x5 a0 y0 y1 y2 y3 y4 y5 v0 v1 v2 v3 v4 v5 H1 H2 HS0 HS;generalize Tq y z x=mm at*;generalize Pv (y.w+z.w)=ww at*
      cases q1:(y.f==x.f) with
      |false=>
       have q1':(y.f != x.f)=true:=by simp [bne,q1]
       rw [q1] at HM;clear q1
       go_wp2
       go_ret
       exact ⟨by rw [HT.out,HP.out,HM.out];rfl,HBC.out⟩
      |true=>
       have q1':(y.f != x.f)=false:=by simp [bne,q1]
       have hq1:y.f=x.f:=by simpa using q1
       have HQ1:=Bi5 hq1;rw [q1] at HM;clear q1 hq1
       cases q2:(y.t==z.f) with
       |false=>
        have q2':(y.t != z.f)=true:=by simp [bne,q2]
        rw [q2] at HM;clear q2
        go_wp2
        go_ret
        exact ⟨by rw [HT.out,HP.out,HM.out];rfl,HBC.out⟩
       |true=>
        have q2':(y.t != z.f)=false:=by simp [bne,q2]
        rw [q2] at HM;clear q2
        cases q3:(z.t==x.t) with
        |false=>
         have q3':(z.t != x.t)=true:=by simp [bne,q3]
         rw [q3] at HM;clear q3
         go_wp2
         go_ret
         exact ⟨by rw [HT.out,HP.out,HM.out];rfl,HBC.out⟩
        |true=>
         have q3':(z.t != x.t)=false:=by simp [bne,q3]
         have hq3:z.t=x.t:=by simpa using q3
         have HQ3:=Bi5 hq3;rw [q3] at HM;clear q3 hq3
         cases q4:(ww==x.w) with
         |false=>
          have q4':(ww != x.w)=true:=by simp [bne,q4]
          rw [q4] at HM;clear q4
          go_wp2
          go_ret
          exact ⟨by rw [HT.out,HP.out,HM.out];rfl,HBC.out⟩
         |true=>
          have q4':(ww != x.w)=false:=by simp [bne,q4]
          rw [q4] at HM;clear q4;obtain ⟨t1,ht1⟩:∃k:Nat,y.t=(k:Int):=⟨y.t.toNat,by have:=HN1.out.2.1;omega⟩;obtain ⟨t2,ht2⟩:∃k:Nat,x.f=(k:Int):=⟨x.f.toNat,by have:=HN1.out.1.1;rw [HQ1.out] at this;omega⟩;obtain ⟨t3,ht3⟩:∃k:Nat,x.t=(k:Int):=⟨x.t.toNat,by have:=HN2.out.2.1;rw [HQ3.out] at this;omega⟩;have l1:t1<R.length:=by have:=HN1.out.2.2;omega
          have l2:t2<R.length:=by have:=HN1.out.1.2;rw [HQ1.out] at this;omega
          have l3:t3<R.length:=by have:=HN2.out.2.2;rw [HQ3.out] at this;omega
          obtain ⟨rb,rof,e,g1⟩:=HRC.out.at l1;subst e;obtain ⟨rb',rof',e,g2⟩:=HRC.out.at l2
          cases e
          obtain ⟨rb',rof',e,g3⟩:=HRC.out.at l3
          cases e
          have HT2:=Bi5 (show rr=(pp&&(mm&&decide (R[t1]<min R[t2] R[t3]))) by
           have:=HT.out;unfold rAt at this;rw [ht1,ht2,ht3] at this
           simpa [Bj1,l1,l2,l3] using this)
          rw [ht1] at p1;rw [ht2] at m0;rw [ht3] at m1;have i1:(t1:Int)<(R.length:Int):=by omega
          have i2:(t2:Int)<(R.length:Int):=by omega
          have i3:(t3:Int)<(R.length:Int):=by omega
          have j1:(0:Int)<=(t1:Int):=by omega
          have j2:(0:Int)<=(t2:Int):=by omega
          have j3:(0:Int)<=(t3:Int):=by omega
          have HY:=Bi5 (And.intro ht1 (And.intro ht2 ht3));rw [ht1] at q2';rw [ht2] at q1';rw [ht3] at q3';generalize R[t1]=r1 at*;generalize R[t2]=r2 at*;generalize R[t3]=r3 at*;clear ht1 ht2 ht3 hft;have HF:=Bi5 (show rr=decide (r1<min r2 r3) by rw [HT2.out,HP.out,HM.out];rfl);have hmin:min r2 r3=if r3<r2 then r3 else r2:=by
           rw [Int.min_def]
           split<;>split<;>omega
          rw [hmin] at HF;clear hmin
          go_upto_region 7 with (fail)
          go_quiet (fail)
          by_cases h32:r3<r2
          ·rw [if_pos h32] at HF ⊢
           go_wp2
           go_ret
           exact ⟨by rw [HF.out];rfl,HBC.out.dr _⟩
          ·rw [if_neg h32] at HF ⊢
           go_wp2
           go_ret
           exact ⟨by rw [HF.out];rfl,HBC.out.dr _⟩
end
section
open Go Go.Proofs Go.RowKit Go.Shelf Hp Ch
def Gh (es:List EdgeD) (R:List Int) (S:List SC) (i:Nat):Bool:=Ff es (S.getD i scZ)||Uu R S i (S.getD i scZ)
def He (es:List EdgeD) (R:List Int) (S:List SC):Option Nat:=(List.range S.length).find? (fun i=>!Gh es R S i)
def Tr (g:GD) (R:List Int) (S:List SC):Int×Bool:=
 if Ak g≠0 then (-2,false) else if (R.length:Int)≠g.n\/Bb R=false then (-1,false) else
 match He g.es R S with
 |some i=>((i:Int),false)
 |none=>(0,true)
theorem Ku {es:List EdgeD} {R:List Int} {S:List SC} (h:∀j,j<S.length->Gh es R S j=true):He es R S=none:=by
 unfold He;rw [List.find?_eq_none];intro i hi;rw [h i (Bl9.1 hi)];simp
theorem Sw {es:List EdgeD} {R:List Int} {S:List SC} {i:Nat} (hi:i<S.length) (h:∀j,j<i->Gh es R S j=true) (hb:Gh es R S i=false):He es R S=some i:=by
 unfold He;rw [List.find?_range_eq_some];exact ⟨by rw [hb];rfl,Bl9.2 hi,fun j hj=>by rw [h j hj];rfl⟩
theorem Ac6 {es:List EdgeD} {x:SC} (h:Ff es x=true):0<=x.e/\x.a= -1/\x.b= -1/\∃k:Nat,x.e=(k:Int)/\es[k]? =some ⟨x.f,x.t,x.w⟩:=by
 unfold Ff Dz at h;simp only [Bool.and_eq_true,decide_eq_true_eq,beq_iff_eq] at h;obtain ⟨⟨⟨⟨h1,h2⟩,h3⟩,h4⟩,h5⟩:=h;refine ⟨h1,h3,h4,x.e.toNat,by omega,?_⟩
 cases e:es[x.e.toNat]? with
 |none=>rw [e] at h5;cases h5
 |some y=>
  rw [e] at h5;simp only [Bool.and_eq_true,beq_iff_eq] at h5;obtain ⟨yf,yt,yw⟩:=y;simp only at h5;rw [h5.1.1,h5.1.2,h5.2]
theorem Ai8 {R:List Int} {S:List SC} {i:Nat} {x:SC} (h:Uu R S i x=true):x.e= -1/\x.f≠x.t/\∃a b:Nat,x.a=(a:Int)/\x.b=(b:Int)/\a<i/\b<i/\(S.getD a scZ).f=x.f/\(S.getD a scZ).t=(S.getD b scZ).f/\(S.getD b scZ).t=x.t/\Pv ((S.getD a scZ).w+(S.getD b scZ).w)=x.w/\rAt R (S.getD a scZ).t<min (rAt R x.f) (rAt R x.t):=by
 unfold Uu Tm Tq Ph at h;simp only [Bool.and_eq_true,decide_eq_true_eq,beq_iff_eq,Bool.not_eq_true',beq_eq_false_iff_ne] at h;obtain ⟨⟨⟨⟨h1,h2,h3⟩,h4,h5⟩,h6⟩,⟨⟨⟨h7,h8⟩,h9⟩,h10⟩,h11⟩:=h;exact ⟨h1,h6,x.a.toNat,x.b.toNat,by omega,by omega,by omega,by omega,h7,h8,h9,h10,h11⟩
theorem Aa3 {es:List EdgeD} {n:Nat} {R:List Int} {S:List SC} {i:Nat} (hE:EdgesOK n es) (hi:i<=S.length) (h:∀j,j<i->Gh es R S j=true):∀k,k<i->Aa n (S.getD k scZ).f/\Aa n (S.getD k scZ).t:=by
 intro k
 induction k using Nat.strongRecOn with
 |_ k ih=>
  intro hk;have hm:=h k hk;unfold Gh at hm;rw [Bool.or_eq_true] at hm
  rcases hm with hm|hm
  ·obtain ⟨_,_,_,j,_,e⟩:=Ac6 hm
   have:=hE.ok _ (Bl3 e);exact ⟨this.1,this.2.1⟩
  ·obtain ⟨_,_,a,b,_,_,h3,h4,h5,h6,h7,_⟩:=Ai8 hm
   rw [<-h5,<-h7];exact ⟨(ih a h3 (by omega)).1,(ih b h4 (by omega)).2⟩
def MadePost (mr:Int×Bool) (w:World) (e:Ending) (w':World):Prop:=e=.returned (.tuple #[.int .i64 mr.1,.bool mr.2])/\Below w.heap.size w w'
theorem MadePost.mk {mr:Int×Bool} {w w':World} {a:Int} {b:Bool} (h:mr=(a,b)) (hb:Below w.heap.size w w'):MadePost mr w (.returned (.tuple #[.int .i64 a,.bool b])) w':=by
 subst h;exact ⟨rfl,hb⟩
theorem Au0 (g:GD) (n:Nat) (R:List Int) (S:List SC) (ao ro so:Option Addr) (cap rc sc:Nat) (w:World) (hn:g.n=(n:Int)\/Ak g≠0) (hc:Cel w ao (Ax g.es)) (hr:Cel w ro (R.map Aj)) (hS:Cel w so (Be S)) (hl:g.es.length<=1000000) (hrl:R.length<=1000000) (hsl:S.length<=1000000) (hsc:S.length<=sc):
  Calls Tryz.prog 111 #[gV g.n ao g.es.length cap,.agg #[.slice ro R.length rc,.slice so S.length sc]] w (MadePost (Tr g R S) w):=by
 obtain ⟨W,hW⟩:∃W,W=(w.alloc (Obj.cells #[.int .i64 g.n,.slice ao g.es.length cap] 24)).alloc (Obj.cells #[.slice ro R.length rc,.slice so S.length sc] 81):=⟨_,rfl⟩;have hbw:Below w.heap.size w W:=by rw [hW];exact (Below.of_al _ _).al _
 have c0:W.cell? ⟨w.heap.size,0,none⟩=some (.int .i64 g.n):=by rw [hW];go_simp
 have c1:W.cell? ⟨w.heap.size,1,none⟩=some (.slice ao g.es.length cap):=by rw [hW];go_simp
 have d0:W.cell? ⟨w.heap.size+1,0,none⟩=some (.slice ro R.length rc):=by rw [hW];go_simp
 have d1:W.cell? ⟨w.heap.size+1,1,none⟩=some (.slice so S.length sc):=by rw [hW];go_simp
 have HGR:=Bi5 (show Calls Tryz.prog 72 #[gV g.n ao g.es.length cap] W (fun e w'=>e=.returned (.int .i64 (Ak g))/\Below W.heap.size W w') from Dm g ao cap W (by omega) (hc.go hbw));have HRK:=Bi5 (fun W' (h:Below W.heap.size W W')=>Iy R ro rc W' hrl ((hr.go hbw).go h));have HW:=Bi5 hW;have HB:=Bi5 hbw;have HC:=Bi5 (hc.go hbw);have HR:=Bi5 (hr.go hbw);have HS:=Bi5 (hS.go hbw);have HM:=Bi5 (show Tr g R S=if Ak g≠0 then (-2,false) else if (R.length:Int)≠g.n\/Bb R=false then (-1,false) else (match He g.es R S with|some i=>((i:Int),false)|none=>(0,true)) from rfl);have hsl2:(S.length:Int)<=1000000:=by omega
 have hrl2:(R.length:Int)<=1000000:=by omega
 generalize Tr g R S=mr at*;clear hW hbw hc hr hS
 by_cases hgz:Ak g=0
 rotate_left
 ·have hm:=HM.out
  rw [if_pos hgz] at hm;have hb:(Ak g==0)=false:=by simpa using hgz
  have hb2:(Ak g != 0)=true:=by simpa using hgz
  have HM2:=Bi5 hm;clear hm HM hgz;generalize Ak g=rg at*
  go_enter Tryz.func111,Tryz.ntmps111
  go_upto_region 1 with (fail)
  rw [<-HW.out]
  go_wp2_with (go_at_call 72;refine HGR.out.mono ?_;rintro e w1 ⟨rfl,hb1⟩)
  refine bodyPost_ret (v:=.tuple #[.int .i64 (-2),.bool false]) (by simp [results,Tryz.results111,go_sem];try rfl) rfl ?_;exact .mk HM2.out (HB.out.st hb1)
 ·have hgn:g.n=(n:Int):=hn.resolve_right (fun h=>h hgz)
  have HE:=Bi5 (Jk hgz hgn);have hm:=HM.out;rw [if_neg (by simp [hgz])] at hm;rw [hgz] at HGR;clear hn HM;obtain ⟨gn,es⟩:=g
  dsimp only at*
  subst hgn;have HM:=Bi5 hm;clear hm
  by_cases hln:R.length=n
  rotate_left
  ·have hm:=HM.out
   rw [if_pos (.inl (by omega))] at hm;have HM2:=Bi5 hm;have hb:((R.length:Int) != (n:Int))=true:=by simp;omega
   have hb2:((R.length:Int)==(n:Int))=false:=by simp;omega
   clear hm HM hln hgz
   go_enter Tryz.func111,Tryz.ntmps111
   go_upto_region 1 with (fail)
   rw [<-HW.out]
   go_wp2_with (go_at_call 72;refine HGR.out.mono ?_;rintro e w1 ⟨rfl,hb1⟩;(have c0':=Bi6 hb1 c0);(have d0':=Bi6 hb1 d0))
   refine bodyPost_ret (v:=.tuple #[.int .i64 (-1),.bool false]) (by simp [results,Tryz.results111,go_sem];try rfl) rfl ?_;exact .mk HM2.out (HB.out.st hb1)
  ·have hb:((R.length:Int) != (n:Int))=false:=by simp;omega
   have hb2:((R.length:Int)==(n:Int))=true:=by simp;omega
   cases hrk:Bb R with
   |false=>
    have hm:=HM.out;rw [if_pos (.inr hrk)] at hm;have HM2:=Bi5 hm;rw [hrk] at HRK;clear hm HM hln hgz hrk
    go_enter Tryz.func111,Tryz.ntmps111
    go_upto_region 1 with (fail)
    rw [<-HW.out]
    go_wp2_with (first
     |(go_at_call 72;refine HGR.out.mono ?_;rintro e w1 ⟨rfl,hb1⟩;(have c0':=Bi6 hb1 c0);(have d0':=Bi6 hb1 d0);(have HB1:=Bi5 hb1);clear hb1)
     |(go_at_call 160;refine (HRK.out _ HB1.out).mono ?_;rintro e w2 ⟨rfl,hb2'⟩))
    refine bodyPost_ret (v:=.tuple #[.int .i64 (-1),.bool false]) (by simp [results,Tryz.results111,go_sem];try rfl) rfl ?_;exact .mk HM2.out (HB.out.st (HB1.out.st hb2'))
   |true=>
    have hm:=HM.out;rw [if_neg (by rw [hrk];simp;omega)] at hm;have HM2:=Bi5 hm;rw [hrk] at HRK;have HLN:=Bi5 hln;clear hm HM hln hgz hrk
    go_enter Tryz.func111,Tryz.ntmps111
    go_upto_region 1 with (fail)
    rw [<-HW.out]
    go_wp2_with (first
     |(go_at_call 72;refine HGR.out.mono ?_;rintro e w1 ⟨rfl,hb1⟩;(have c0':=Bi6 hb1 c0);(have d0':=Bi6 hb1 d0);(have HB1:=Bi5 hb1);clear hb1)
     |(go_at_call 160;refine (HRK.out _ HB1.out).mono ?_;rintro e w2 ⟨rfl,hb2'⟩;(have HB2:=Bi5 (HB1.out.st hb2'));(have d1':=Bi6 (HB1.out.st hb2') d1);clear hb2'))
    go_loopg [28] S.length (fun gm v28 wr=>∃k:Nat,k<=S.length/\S.length-k<=gm/\v28=.int .i64 k/\Aside (Below W.heap.size W wr)/\Aside (∀j,j<k->Gh es R S j=true))
    case atStart=>exact ⟨0,Bi8 _,by omega,rfl,HB2.out,fun j hj=>absurd hj (Nat.not_lt_zero _)⟩
    case round=>
     clear c0' d0' d1';obtain ⟨k,hk,hg,rfl,HZ,HA⟩:=hrel
     by_cases hlt:k<S.length
     ·have hlt2:(k:Int)<(S.length:Int):=by omega
      have hk0:(0:Int)<=(k:Int):=by omega
      have hksc:(k:Int)<=(sc:Int):=by omega
      have hksc2:k<=sc:=by omega
      obtain ⟨sb,sof,e,y0,y1,y2,y3,y4,y5⟩:=Mp (HS.out.go HZ.out) hlt;subst e;have HMB:=Bi5 (show Gh es R S k=(Ff es S[k]||Uu R S k S[k]) by unfold Gh;rw [Bj1,Bj0 hlt];rfl);have HND:=Bi5 (fun (j:Nat) (hj:j<k)=>(show Aa R.length (S[j]'(by omega)).f/\Aa R.length (S[j]'(by omega)).t by
       have:=Aa3 HE.out hk HA.out j hj;rw [Bj1,Bj0 (by omega:j<S.length)] at this;rw [HLN.out];exact this))
      have HED:=Bi5 (fun W' (hb:Below W.heap.size W W')=>Aw9 (n:Int) es ao cap S[k] W' (HC.out.go hb));have HTW:=Bi5 (fun W' (hb:Below W.heap.size W W')=>Az2 R ro (some ⟨sb,sof,none⟩) rc sc k S S[k] W' (HR.out.go hb) (HS.out.go hb) hk hsl hrl HND.out);unfold Vx at HTW;generalize S[k]=x at*
      go_upto_region 8 with (fail)
      obtain ⟨W8,hW8⟩:∃W8,W8=wr.alloc (Obj.cells #[.int .i64 x.f,.int .i64 x.t,.int .u64 x.w,.int .i64 x.e,.int .i64 x.a,.int .i64 x.b] 187):=⟨_,rfl⟩;have hb8:Below wr.heap.size wr W8:=by rw [hW8];exact Below.of_al _ _
      have hz8:=HZ.out.st hb8;have HS8:=Bi5 (show W8.cell? ⟨w.heap.size,0,none⟩=some (.int .i64 (n:Int))/\W8.cell? ⟨w.heap.size,1,none⟩=some (.slice ao es.length cap)/\W8.cell? ⟨w.heap.size+1,0,none⟩=some (.slice ro R.length rc)/\W8.cell? ⟨w.heap.size+1,1,none⟩=some (.slice (some ⟨sb,sof,none⟩) S.length sc)/\W8.cell? ⟨wr.heap.size,0,none⟩=some (.int .i64 x.f)/\W8.cell? ⟨wr.heap.size,1,none⟩=some (.int .i64 x.t)/\W8.cell? ⟨wr.heap.size,2,none⟩=some (.int .u64 x.w)/\W8.cell? ⟨wr.heap.size,3,none⟩=some (.int .i64 x.e)/\W8.cell? ⟨wr.heap.size,4,none⟩=some (.int .i64 x.a)/\W8.cell? ⟨wr.heap.size,5,none⟩=some (.int .i64 x.b)/\Below W8.heap.size W8 W8 from ⟨Bi6 hz8 c0,Bi6 hz8 c1,Bi6 hz8 d0,Bi6 hz8 d1,by rw [hW8];go_simp,by rw [hW8];go_simp,by rw [hW8];go_simp,by rw [hW8];go_simp,by rw [hW8];go_simp,by rw [hW8];go_simp,Below.refl _ _⟩);have HZ8:=Bi5 hz8;rw [<-hW8];clear hW8 hb8 hz8 y0 y1 y2 y3 y4 y5
      go_cut [47] from 29 to 49 (fun v47 wc=>∃b,v47=.bool b/\b=(!Gh es R S k)/\Below W8.heap.size W8 wc)
      case first=>
       obtain ⟨g0,g1,g2,g3,g4,g5,g6,g7,g8,g9,-⟩:=HS8.out;have e0:=fun p=>Ac p g0;have e1:=fun p=>Ac p g1;have e2:=fun p=>Ac p g2;have e3:=fun p=>Ac p g3;have e4:=fun p=>Ac p g4;have e5:=fun p=>Ac p g5;have e6:=fun p=>Ac p g6;have e7:=fun p=>Ac p g7;have e8:=fun p=>Ac p g8;have e9:=fun p=>Ac p g9;have X1:=Bi5 (fun p=>HED.out (ext W8 p) (HZ8.out.st (Ah W8 p)));have X2:=Bi5 (fun p=>HTW.out (ext W8 p) (HZ8.out.st (Ah W8 p)));clear g0 g1 g2 g3 g4 g5 g6 g7 g8 g9 HED HTW;generalize Ff es x=eb at*;generalize Uu R S k x=tb at*
       cases eb
       all_goals
        refine Ag (by kernel_rfl) (by kernel_rfl) ?_
        repeat (go_big_quiet_step ((first
         |(go_at_call 169;exact Calls.ext_of (X1.out _))
         |(go_at_call 170;exact Calls.ext_of (X2.out _)))))
        refine wpQuiet_nil ?_;rintro _ ⟨p4,rfl⟩;have HB4:=Bi5 (Ah W8 p4);generalize ext W8 p4=w4 at HB4 ⊢
        go_wp2_with fail
        go_meet
        exact ⟨_,rfl,by rw [HMB.out];rfl,HB4.out⟩
      case rest=>
       obtain ⟨b,rfl,hbm,hzc⟩:=hcut;have HZC:=Bi5 (HZ8.out.st hzc)
       cases hm:Gh es R S k with
       |true=>
        rw [hm] at hbm;have HA2:=Bi5 (show ∀j,j<k+1->Gh es R S j=true from fun j hj=>by
         by_cases e:j=k
         ·rw [e];exact hm
         ·exact HA.out j (by omega))
        clear hm hzc;subst hbm
        go_wp2
        go_roundg (S.length-(k+1))
        case measure=>omega
        case rel=>exact ⟨k+1,by omega,Bi7 _,by go_num,HZC.out,HA2.out⟩
       |false=>
        rw [hm] at hbm;have hm3:=HM2.out;rw [Sw hlt HA.out hm] at hm3;have HM3:=Bi5 hm3;clear hm hzc hm3;subst hbm
        go_wp2
        refine bodyPost_ret (v:=.tuple #[.int .i64 (k:Int),.bool false]) (by simp [results,Tryz.results111,go_sem];try rfl) rfl ?_;exact .mk HM3.out (HB.out.st HZC.out)
     ·obtain rfl:k=S.length:=by omega
      have hm:=HM2.out;rw [Ku HA.out] at hm;have HM3:=Bi5 hm;clear hm HM2
      go_wp2
      refine bodyPost_ret (v:=.tuple #[.int .i64 0,.bool true]) (by simp [results,Tryz.results111,go_sem];try rfl) rfl ?_;exact .mk HM3.out (HB.out.st HZ.out)
end
section
open Go Go.Proofs Go.RowKit Go.Shelf Hp Ch
theorem Qg {es:List EdgeD} {n:Nat} {R:List Int} {S:List SC} {out:List Int} (h:HierOK es n R S out) {v:Int} (hv:Aa n v):rAt R v=rk out v:=by
 unfold rAt;rw [Bj1,h.at1 v hv];rfl
theorem Bi1 {n:Nat} (hn:n<=26):4294967296*2 ^ n<=(288230376151711744:Int):=by
 have h1:(2:Int) ^ n<=2 ^ 26:=by
  have:(2:Nat) ^ n<=2 ^ 26:=Nat.pow_le_pow_right (by decide) hn
  exact_mod_cast this
 have h2:(2:Int) ^ 26=67108864:=by decide
 omega
theorem Aq3 {x:Int} (h:0<=x/\x<=18446744073709551615):Pv x=x:=by
 unfold Pv;rw [Bn7];omega
theorem Aa4 {es:List EdgeD} {n:Nat} {R:List Int} {S:List SC} {out:List Int} (h:HierOK es n R S out) (hn:n<=26):∀j,j<S.length->Gh es R S j=true:=by
 intro j hj;have hb:=Bi1 hn;have hd:S.getD j scZ=S[j]:=by rw [Bj1,Bj0 hj];rfl
 have hx:=h.made j S[j] (Bj0 hj);have he:=h.ends S[j] (Bj7 hj);have hbx:=h.big S[j] (Bj7 hj);unfold Gh;rw [hd,Bool.or_eq_true];generalize S[j]=x at*
 rcases hx with ⟨⟨h1,h2⟩,h3,h4,h5⟩|⟨h1,a,b,y,z,h2,h3,h4,h5,h6,h7,h8,h9,h10,h11,h12,h13⟩
 ·left
  unfold Ff Dz;rw [h1,h4,h5];simp [h2,h3]
 ·right
  have hya:=Bl3 h6;have hyz:=Bl3 h7;have ey:=h.ends y hya;unfold Uu Tm Tq Ph;have e1:S.getD x.a.toNat scZ=y:=by rw [h2,Bj9,Bj1,h6];rfl
  have e2:S.getD x.b.toNat scZ=z:=by rw [h3,Bj9,Bj1,h7];rfl
  rw [e1,e2,h11,Aq3 ⟨by omega,by omega⟩,Qg h ey.2.1,Qg h he.1,Qg h he.2.1];have hmin:rk out y.t<min (rk out x.f) (rk out x.t):=by omega
  simp only [Bool.and_eq_true,decide_eq_true_eq,beq_iff_eq,Bool.not_eq_true',beq_eq_false_iff_ne];exact ⟨⟨⟨⟨h1,by omega,by omega⟩,by omega,by omega⟩,he.2.2.1⟩,⟨⟨⟨h8,h9⟩,h10⟩,trivial⟩,hmin⟩
theorem Xl {g:GD} {n:Nat} {R:List Int} {S:List SC} {out:List Int} (hg:Ak g=0) (hn:g.n=(n:Int)) (h:HierOK g.es n R S out) (hn26:n<=26):Tr g R S=(0,true):=by
 unfold Tr;rw [if_neg (by simp [hg]),if_neg (by rw [h.rank,h.len,hn];simp),Ku (Aa4 h hn26)]
end
section
open Go Go.Proofs Go.RowKit Go.Shelf Hp Ch
theorem As8 {R:List Int}:∀u∈R.map Aj,u.oneCell'=true:=fun u hu=>by obtain ⟨x,_,rfl⟩:=List.mem_map.1 hu;rfl
theorem Tn:∀{S:List SC},∀u∈Be S,u.oneCell'=true
 |[],u,h=>by cases h
 |x::S,u,h=>by
  rw [Be] at h
  rcases Bl8.1 h with h|h
  ·exact As7 x u h
  ·exact Tn u h
theorem Xg:∀{es:List EdgeD},∀u∈Ax es,u.oneCell'=true
 |[],u,h=>by cases h
 |x::es,u,h=>by
  rw [Ax] at h;simp only [Bl7] at h
  rcases h with rfl|rfl|rfl|h
  ·rfl
  ·rfl
  ·rfl
  ·exact Xg u h
def Si (R:List Int) (S:List SC) (w:World) (e:Ending) (w':World):Prop:=
 ∃ao ca bo cb,e=.returned (.agg #[.slice ao R.length ca,.slice bo S.length cb])/\Cel w' ao (R.map Aj)/\Cel w' bo (Be S)/\Below w.heap.size w w'/\(∀k,(Value.slice ao R.length ca).ownBlock=some k->w.heap.size<=k)/\∀k,(Value.slice bo S.length cb).ownBlock=some k->w.heap.size<=k
theorem Vr {w W w1 w2:World} {ro so:Option Addr} {rc sc:Nat} {R:List Int} {S:List SC} (hb:Below w1.heap.size w1 w2) (h:w1.cell? ⟨w.heap.size,0,none⟩=some (.slice ro R.length rc)/\w1.cell? ⟨w.heap.size,1,none⟩=some (.slice so S.length sc)/\w1.cell? ⟨w.heap.size+1,0,none⟩=some (.slice none 0 0)/\w1.cell? ⟨w.heap.size+1,1,none⟩=some (.slice none 0 0)/\w1.frozen? ⟨w.heap.size+1,0,none⟩=false/\w1.frozen? ⟨w.heap.size+1,1,none⟩=false/\w.heap.size+1<w1.heap.size/\Below W.heap.size W w1):w2.cell? ⟨w.heap.size,0,none⟩=some (.slice ro R.length rc)/\w2.cell? ⟨w.heap.size,1,none⟩=some (.slice so S.length sc)/\w2.cell? ⟨w.heap.size+1,0,none⟩=some (.slice none 0 0)/\w2.cell? ⟨w.heap.size+1,1,none⟩=some (.slice none 0 0)/\w2.frozen? ⟨w.heap.size+1,0,none⟩=false/\w2.frozen? ⟨w.heap.size+1,1,none⟩=false/\w.heap.size+1<w2.heap.size/\Below W.heap.size W w2:=by
 obtain ⟨c0,c1,c2,c3,z0,z1,hs,hz⟩:=h;exact ⟨Bi6 hb c0,Bi6 hb c1,Bi6 hb c2,Bi6 hb c3,(hb.frozen (p:=⟨w.heap.size+1,0,none⟩) hs).trans z0,(hb.frozen (p:=⟨w.heap.size+1,1,none⟩) hs).trans z1,Nat.lt_of_lt_of_le hs hb.size,hz.st hb⟩
theorem Rs (R:List Int) (S:List SC) (ro so:Option Addr) (rc sc:Nat) (w:World) (hr:Cel w ro (R.map Aj)) (hS:Cel w so (Be S)) (hrl:R.length<=1000000) (hsl:S.length<=1000000):
  Calls Tryz.prog 93 #[.agg #[.slice ro R.length rc,.slice so S.length sc]] w (Si R S w):=by
 obtain ⟨W,hW⟩:∃W,W=(w.alloc (Obj.cells #[.slice ro R.length rc,.slice so S.length sc] 81)).alloc (Obj.cells #[.slice none 0 0,.slice none 0 0] 81):=⟨_,rfl⟩;have hbw:Below w.heap.size w W:=by rw [hW];exact (Below.of_al _ _).al _
 have HS0:=Bi5 (show W.cell? ⟨w.heap.size,0,none⟩=some (.slice ro R.length rc)/\W.cell? ⟨w.heap.size,1,none⟩=some (.slice so S.length sc)/\W.cell? ⟨w.heap.size+1,0,none⟩=some (.slice none 0 0)/\W.cell? ⟨w.heap.size+1,1,none⟩=some (.slice none 0 0)/\W.frozen? ⟨w.heap.size+1,0,none⟩=false/\W.frozen? ⟨w.heap.size+1,1,none⟩=false/\w.heap.size+1<W.heap.size/\Below W.heap.size W W from ⟨by rw [hW];go_simp,by rw [hW];go_simp,by rw [hW];go_simp,by rw [hW];go_simp,by rw [hW];go_simp,by rw [hW];go_simp,by rw [hW];simp,Below.refl _ _⟩);have HC1:=Bi5 (fun W' (hb:Below W.heap.size W W')=>Rr R.length (R.map Aj) ro rc W' (by simp) ((hr.go hbw).go hb) As8 hrl);have HC2:=Bi5 (fun W' (hb:Below W.heap.size W W')=>Ad1 S.length (Be S) so sc W' (Ud S) ((hS.go hbw).go hb) Tn hsl);have HB:=Bi5 hbw;have HW:=Bi5 hW;unfold Fp at HC1 HC2;clear hW hbw hr hS
 go_enter Tryz.func93,Tryz.ntmps93
 go_upto_region 1 with (fail)
 rw [<-HW.out];obtain ⟨e0,e1,e2,e3,e4,e5,e6,-⟩:=HS0.out
 go_region_with (first
  |(go_at_call 67;refine (HC1.out _ (Below.refl _ W).drew).mono ?_;rintro e w3 ⟨a1,c1,rfl,h1,hb1,hf1⟩;(have HS3:=Bi5 (Vr hb1 (Vr (Below.refl _ W).drew HS0.out)));(obtain ⟨f0,f1,f2,f3,f4,f5,f6,-⟩:=HS3.out);(have H1:=Bi5 (And.intro h1 (And.intro hf1 hb1)));clear h1 hf1 hb1)
  |(go_at_call 150;refine (HC2.out _ HS3.out.2.2.2.2.2.2.2).mono ?_;rintro e w4 ⟨a2,c2,rfl,h2,hb2,hf2⟩;(have HS4:=Bi5 (Vr hb2 HS3.out));(obtain ⟨g0,g1,g2,g3,g4,g5,g6,-⟩:=HS4.out);(have H2:=Bi5 (And.intro h2 (And.intro hf2 hb2)));clear h2 hf2 hb2))
 all_goals
  go_wp2_with fail
  obtain ⟨r0,r1⟩:=Ep (.slice a1 R.length c1) (.slice a2 S.length c2) g2 g3;refine bodyPost_ret (v:=.agg #[.slice a1 R.length c1,.slice a2 S.length c2]) (by simp [results,Tryz.results93,go_sem,r0,r1];try rfl) rfl ?_;obtain ⟨h1,hf1,hb1⟩:=H1.out;obtain ⟨h2,hf2,hb2⟩:=H2.out;have hW1:W.heap.size=W.drew.heap.size:=rfl;have hsz1:=hb1.size;have hsz0:=HB.out.size;have ho:OffX (· =w.heap.size+1) w4 ((w4.setCell ⟨w.heap.size+1,0,none⟩ (.slice a1 R.length c1)).setCell ⟨w.heap.size+1,1,none⟩ (.slice a2 S.length c2)):=
   (show OffX (· =w.heap.size+1) w4 (w4.setCell ⟨w.heap.size+1,0,none⟩ (.slice a1 R.length c1)) from .set _ rfl).trans (.set _ rfl)
  have hb4:Below w.heap.size w w4:=HB.out.trans (HS4.out.2.2.2.2.2.2.2.mono (by omega));exact ⟨a1,c1,a2,c2,rfl,Fm (h1.go hb2) ho (fun k hk e=>by have:=hf1 k hk;have e2:k=w.heap.size+1:=e;omega),Fm h2 ho (fun k hk e=>by have:=hf2 k hk;have e2:k=w.heap.size+1:=e;omega),hb4.trans (ho.below hb4.size (fun k hk=>by have e2:k=w.heap.size+1:=hk;omega)),fun k hk=>by have:=hf1 k hk;omega,fun k hk=>by have:=hf2 k hk;omega⟩
def Ol (n:Int) (es:List EdgeD) (w:World) (e:Ending) (w':World):Prop:=
 ∃ao ca,e=.returned (.agg #[.int .i64 n,.slice ao es.length ca])/\Cel w' ao (Ax es)/\Below w.heap.size w w'/\∀k,(Value.slice ao es.length ca).ownBlock=some k->w.heap.size<=k
theorem Ah5 {w W w1 w2:World} {ao:Option Addr} {cap:Nat} {n:Int} {es:List EdgeD} (hb:Below w1.heap.size w1 w2) (h:w1.cell? ⟨w.heap.size,0,none⟩=some (.int .i64 n)/\w1.cell? ⟨w.heap.size,1,none⟩=some (.slice ao es.length cap)/\w1.cell? ⟨w.heap.size+1,0,none⟩=some (.int .i64 0)/\w1.cell? ⟨w.heap.size+1,1,none⟩=some (.slice none 0 0)/\w1.frozen? ⟨w.heap.size+1,0,none⟩=false/\w1.frozen? ⟨w.heap.size+1,1,none⟩=false/\w.heap.size+1<w1.heap.size/\Below W.heap.size W w1):w2.cell? ⟨w.heap.size,0,none⟩=some (.int .i64 n)/\w2.cell? ⟨w.heap.size,1,none⟩=some (.slice ao es.length cap)/\w2.cell? ⟨w.heap.size+1,0,none⟩=some (.int .i64 0)/\w2.cell? ⟨w.heap.size+1,1,none⟩=some (.slice none 0 0)/\w2.frozen? ⟨w.heap.size+1,0,none⟩=false/\w2.frozen? ⟨w.heap.size+1,1,none⟩=false/\w.heap.size+1<w2.heap.size/\Below W.heap.size W w2:=by
 obtain ⟨c0,c1,c2,c3,z0,z1,hs,hz⟩:=h;exact ⟨Bi6 hb c0,Bi6 hb c1,Bi6 hb c2,Bi6 hb c3,(hb.frozen (p:=⟨w.heap.size+1,0,none⟩) hs).trans z0,(hb.frozen (p:=⟨w.heap.size+1,1,none⟩) hs).trans z1,Nat.lt_of_lt_of_le hs hb.size,hz.st hb⟩
theorem Lk (n:Int) (es:List EdgeD) (ao:Option Addr) (cap:Nat) (w:World) (hc:Cel w ao (Ax es)) (hl:es.length<=1000000):
  Calls Tryz.prog 112 #[gV n ao es.length cap] w (Ol n es w):=by
 obtain ⟨W,hW⟩:∃W,W=(w.alloc (Obj.cells #[.int .i64 n,.slice ao es.length cap] 24)).alloc (Obj.cells #[.int .i64 0,.slice none 0 0] 24):=⟨_,rfl⟩;have hbw:Below w.heap.size w W:=by rw [hW];exact (Below.of_al _ _).al _
 have HS0:=Bi5 (show W.cell? ⟨w.heap.size,0,none⟩=some (.int .i64 n)/\W.cell? ⟨w.heap.size,1,none⟩=some (.slice ao es.length cap)/\W.cell? ⟨w.heap.size+1,0,none⟩=some (.int .i64 0)/\W.cell? ⟨w.heap.size+1,1,none⟩=some (.slice none 0 0)/\W.frozen? ⟨w.heap.size+1,0,none⟩=false/\W.frozen? ⟨w.heap.size+1,1,none⟩=false/\w.heap.size+1<W.heap.size/\Below W.heap.size W W from ⟨by rw [hW];go_simp,by rw [hW];go_simp,by rw [hW];go_simp,by rw [hW];go_simp,by rw [hW];go_simp,by rw [hW];go_simp,by rw [hW];simp,Below.refl _ _⟩);have HC1:=Bi5 (fun W' (hb:Below W.heap.size W W')=>Ad3 es.length (Ax es) ao cap W' (Ji es) ((hc.go hbw).go hb) Xg hl);have HB:=Bi5 hbw;have HW:=Bi5 hW;unfold Fp at HC1;clear hW hbw hc
 go_enter Tryz.func112,Tryz.ntmps112
 go_upto_region 1 with (fail)
 rw [<-HW.out];obtain ⟨e0,e1,e2,e3,e4,e5,e6,-⟩:=HS0.out
 go_region_with (go_at_call 171;refine (HC1.out _ (Below.refl _ W).drew).mono ?_;rintro e w3 ⟨a1,c1,rfl,h1,hb1,hf1⟩;(have HS3:=Bi5 (Ah5 hb1 (Ah5 (Below.refl _ W).drew HS0.out)));(obtain ⟨f0,f1,f2,f3,f4,f5,f6,-⟩:=HS3.out);(have H1:=Bi5 (And.intro h1 (And.intro hf1 hb1)));clear h1 hf1 hb1)
 all_goals
  go_wp2_with fail
  obtain ⟨r0,r1⟩:=Ep (.int .i64 n) (.slice a1 es.length c1) f2 f3;refine bodyPost_ret (v:=.agg #[.int .i64 n,.slice a1 es.length c1]) (by simp [results,Tryz.results112,go_sem,r0,r1];try rfl) rfl ?_;obtain ⟨h1,hf1,hb1⟩:=H1.out;have hW1:W.heap.size=W.drew.heap.size:=rfl;have hsz1:=hb1.size;have hsz0:=HB.out.size;have ho:OffX (· =w.heap.size+1) w3 ((w3.setCell ⟨w.heap.size+1,0,none⟩ (.int .i64 n)).setCell ⟨w.heap.size+1,1,none⟩ (.slice a1 es.length c1)):=
   (show OffX (· =w.heap.size+1) w3 (w3.setCell ⟨w.heap.size+1,0,none⟩ (.int .i64 n)) from .set _ rfl).trans (.set _ rfl)
  have hb4:Below w.heap.size w w3:=HB.out.trans (HS3.out.2.2.2.2.2.2.2.mono (by omega));exact ⟨a1,c1,rfl,Fm h1 ho (fun k hk e=>by have:=hf1 k hk;have e2:k=w.heap.size+1:=e;omega),hb4.trans (ho.below hb4.size (fun k hk=>by have e2:k=w.heap.size+1:=hk;omega)),fun k hk=>by have:=hf1 k hk;omega⟩
end
end Go.Proofs.YteaaapdjplbljaaGreat
