/- Walk of package hier: is a shortcut an edge, is it two that lie ahead. Walk of package hier: is a shortcut two that lie ahead. -/
import Derived.Test.YteaaapdjplbljaaGreatProg
import Derived.Test.YteaaapdjplbljaaGreatLw24
set_option linter.unusedVariables false
set_option linter.unusedSimpArgs false
set_option linter.unnecessarySimpa false
section
namespace Go.Proofs.YteaaapdjplbljaaGreat
open Go Go.Proofs Go.RowKit Go.Shelf Go.Proofs.YteaaapdjplbljaaGreat.Hp Go.Proofs.YteaaapdjplbljaaGreat.Ch
theorem gedge_any (g:GD) (ao:Option Addr) (cap:Nat) (v:Int) (w:World):
  Calls Tryz.prog 197 #[.agg #[.int .i64 g.n,.slice ao g.es.length cap],.int .i64 v] w fun e w'=>e=.returned (.bool (edgeB g.es.length v))∧Below w.heap.size w w':=by
 unfold edgeB
 go_enter Tryz.func197,Tryz.ntmps197
 go_wp2
 all_goals
  go_ret
  exact ⟨by simp [*]<;>omega,by repeat (first|exact Below.refl _ _|refine Below.al ?_ _|refine Below.dr ?_ _|refine Below.drew ?_|assumption|(refine Below.st ?_ (by assumption)))⟩
def edgeF (es:List EdgeD) (x:SC):Bool:=edgeB es.length x.e&&(x.a== -1)&&(x.b== -1)&&(match es[x.e.toNat]? with|some y=>(y.f==x.f)&&(y.t==x.t)&&(y.w==x.w)|none=>false)
abbrev gV (n:Int) (ao:Option Addr) (m cap:Nat):Value:=.agg #[.int .i64 n,.slice ao m cap]
set_option maxRecDepth 100000 in
set_option maxHeartbeats 4000000 in
theorem edge_any (n:Int) (es:List EdgeD) (ao:Option Addr) (cap:Nat) (x:SC) (w:World) (hc:Cel w ao (flat es)):
  Calls Tryz.prog 169 #[gV n ao es.length cap,scV x] w fun e w'=>e=.returned (.bool (edgeF es x))∧Below w.heap.size w w':=by
 have HG:=Lib.hid (fun W=>(show Calls Tryz.prog 197 #[gV n ao es.length cap,.int .i64 x.e] W (fun e w'=>e=.returned (.bool (edgeB es.length x.e))∧Below W.heap.size W w') from gedge_any ⟨n,es⟩ ao cap x.e W))
 obtain ⟨W,hW⟩:∃W,W=(w.alloc (Obj.cells #[.int .i64 n,.slice ao es.length cap] 24)).alloc (Obj.cells #[.int .i64 x.f,.int .i64 x.t,.int .u64 x.w,.int .i64 x.e,.int .i64 x.a,.int .i64 x.b] 187):=⟨_,rfl⟩
 have hbw:Below w.heap.size w W:=by rw [hW];exact (Below.of_al _ _).al _
 have c0:W.cell? ⟨w.heap.size,0,none⟩=some (.int .i64 n):=by rw [hW];go_simp
 have c1:W.cell? ⟨w.heap.size,1,none⟩=some (.slice ao es.length cap):=by rw [hW];go_simp
 have x0:W.cell? ⟨w.heap.size+1,0,none⟩=some (.int .i64 x.f):=by rw [hW];go_simp
 have x1:W.cell? ⟨w.heap.size+1,1,none⟩=some (.int .i64 x.t):=by rw [hW];go_simp
 have x2:W.cell? ⟨w.heap.size+1,2,none⟩=some (.int .u64 x.w):=by rw [hW];go_simp
 have x3:W.cell? ⟨w.heap.size+1,3,none⟩=some (.int .i64 x.e):=by rw [hW];go_simp
 have x4:W.cell? ⟨w.heap.size+1,4,none⟩=some (.int .i64 x.a):=by rw [hW];go_simp
 have x5:W.cell? ⟨w.heap.size+1,5,none⟩=some (.int .i64 x.b):=by rw [hW];go_simp
 have HW:=Lib.hid hW
 have HB:=Lib.hid hbw
 have HC:=Lib.hid (hc.go hbw)
 clear hW hbw hc
 cases hE:edgeB es.length x.e with
 |false=>
  have HF:=Lib.hid (show edgeF es x=false by unfold edgeF;rw [hE];rfl)
  rw [hE] at HG
  clear hE
  go_enter Tryz.func169,Tryz.ntmps169
  go_upto_region 1 with (fail)
  rw [←HW.out]
  go_wp2_with (go_at_call 197;refine (HG.out _).mono ?_;rintro e w1 ⟨rfl,hb1⟩)
  go_ret
  exact ⟨by rw [HF.out];rfl,HB.out.st hb1⟩
 |true=>
  rw [hE] at HG
  have hin:0≤x.e∧x.e<(es.length:Int):=by unfold edgeB at hE;simpa using hE
  cases hA:(x.a== -1) with
  |false=>
   have HF:=Lib.hid (show edgeF es x=false by unfold edgeF;rw [hE,hA];rfl)
   have hA2:(x.a != -1)=true:=by simp [bne,hA]
   clear hE hin
   go_enter Tryz.func169,Tryz.ntmps169
   go_upto_region 1 with (fail)
   rw [←HW.out]
   go_wp2_with (go_at_call 197;refine (HG.out _).mono ?_;rintro e w1 ⟨rfl,hb1⟩;(have x4':=cell_later hb1 x4);(have x5':=cell_later hb1 x5))
   go_ret
   exact ⟨by rw [HF.out];rfl,HB.out.st hb1⟩
  |true=>
   have hA2:(x.a != -1)=false:=by simp [bne,hA]
   cases hBb:(x.b== -1) with
   |false=>
    have HF:=Lib.hid (show edgeF es x=false by unfold edgeF;rw [hE,hA,hBb];rfl)
    have hB2:(x.b != -1)=true:=by simp [bne,hBb]
    clear hE hin
    go_enter Tryz.func169,Tryz.ntmps169
    go_upto_region 1 with (fail)
    rw [←HW.out]
    go_wp2_with (go_at_call 197;refine (HG.out _).mono ?_;rintro e w1 ⟨rfl,hb1⟩;(have x4':=cell_later hb1 x4);(have x5':=cell_later hb1 x5))
    go_ret
    exact ⟨by rw [HF.out];rfl,HB.out.st hb1⟩
   |true=>
    have hB2:(x.b != -1)=false:=by simp [bne,hBb]
    obtain ⟨k,hk⟩:∃k:Nat,x.e=(k:Int):=⟨x.e.toNat,by omega⟩
    have hkl:k<es.length:=by omega
    have HF:=Lib.hid (show edgeF es x=((es[k].f==x.f)&&(es[k].t==x.t)&&(es[k].w==x.w)) by
     unfold edgeF
     rw [hE,hA,hBb,hk,Int.toNat_natCast,List.getElem?_eq_getElem hkl]
     simp)
    obtain ⟨eb,eo,rfl,e0,e1,e2⟩:=HC.out.edge hkl
    rw [hk] at x3 HG
    have HK:=Lib.hid hk
    have hk0:(0:Int)≤(k:Int):=by omega
    have hk1:(k:Int)<(es.length:Int):=by omega
    generalize es[k]=y at*
    clear hE hin hk HC
    go_enter Tryz.func169,Tryz.ntmps169
    go_upto_region 1 with (fail)
    rw [←HW.out]
    go_wp2_with (go_at_call 197;refine (HG.out _).mono ?_;rintro e w1 ⟨rfl,hb1⟩;(have c1':=cell_later hb1 c1);(have x0':=cell_later hb1 x0);(have x1':=cell_later hb1 x1);(have x2':=cell_later hb1 x2);(have x3':=cell_later hb1 x3);(have x4':=cell_later hb1 x4);(have x5':=cell_later hb1 x5);(have e0':=cell_later hb1 e0);(have e1':=cell_later hb1 e1);(have e2':=cell_later hb1 e2);(have HB1:=Lib.hid (HB.out.st hb1));clear hb1)
    have HE:=Lib.hid (show edgeF es x=((y.f==x.f)&&(y.t==x.t)&&(y.w==x.w)) from HF.out)
    by_cases q1:y.f=x.f<;>by_cases q2:y.t=x.t<;>by_cases q3:y.w=x.w
    all_goals
     go_quiet (fail)
     go_wp2
     go_ret
     exact ⟨by rw [HE.out];simp [q1,q2,q3],HB1.out.dr _⟩
end Go.Proofs.YteaaapdjplbljaaGreat
end
section
namespace Go.Proofs.YteaaapdjplbljaaGreat
open Go Go.Proofs Go.RowKit Go.Shelf Go.Proofs.YteaaapdjplbljaaGreat.Hp Go.Proofs.YteaaapdjplbljaaGreat.Ch
def rAt (R:List Int) (v:Int):Int:=R.getD v.toNat 0
def wrapU (x:Int):Int:=IntKind.u64.wrap x
def pairF (i:Nat) (x:SC):Bool:=(x.e== -1)&&(decide (0≤x.a)&&decide (x.a<(i:Int)))&&(decide (0≤x.b)&&decide (x.b<(i:Int)))&&!(x.f==x.t)
def meetF (y z x:SC):Bool:=(y.f==x.f)&&(y.t==z.f)&&(z.t==x.t)&&(wrapU (y.w+z.w)==x.w)
def scZ:SC:=⟨0,0,0,0,0,0⟩
def scAt (S:List SC) (a:Int):SC:=S.getD a.toNat scZ
def twoF (R:List Int) (S:List SC) (i:Nat) (x:SC):Bool:=
 pairF i x&&(meetF (scAt S x.a) (scAt S x.b) x&&decide (rAt R (scAt S x.a).t<min (rAt R x.f) (rAt R x.t)))
theorem two1_any (c:Int) (ao:Option Addr) (i cap X:Nat) (w:World) (hx:w.cell? ⟨X,0,none⟩=some (.slice ao i cap)):
  Calls Tryz.prog 233 (#[.int .i64 c]++#[.pointer (some ⟨X,0,none⟩)]) w fun e w'=>e=.returned (.bool (decide (0≤c)&&decide (c<(i:Int))))∧w=w':=by
 by_cases h0:0≤c<;>by_cases h1:c<(i:Int)
 all_goals
  go_enter Tryz.func233,Tryz.ntmps233
  go_wp2
  go_ret
  exact ⟨by simp [*],rfl⟩
structure XB (W:World) (b:Nat) (x:SC):Prop where
 x0:W.cell? ⟨b,0,none⟩=some (.int .i64 x.f)
 x1:W.cell? ⟨b,1,none⟩=some (.int .i64 x.t)
 x2:W.cell? ⟨b,2,none⟩=some (.int .u64 x.w)
 x3:W.cell? ⟨b,3,none⟩=some (.int .i64 x.e)
 x4:W.cell? ⟨b,4,none⟩=some (.int .i64 x.a)
 x5:W.cell? ⟨b,5,none⟩=some (.int .i64 x.b)
theorem XB.go {W W':World} {b:Nat} {x:SC} (h:XB W b x) (hb:Below W.heap.size W W'):XB W' b x:=⟨cell_later hb h.x0,cell_later hb h.x1,cell_later hb h.x2,cell_later hb h.x3,cell_later hb h.x4,cell_later hb h.x5⟩
theorem cel_sc {W:World} {b o:Nat} {S:List SC} (h:Cel W (some ⟨b,o,none⟩) (flatS S)) {k:Nat} (hk:k<S.length) (j:Nat) (hj:j<6):W.cell? ⟨b,o+(k*6+j),none⟩=(cellsS S[k])[j]?:=by
 have h1:=flatS_get S k hk j hj
 cases e:(cellsS S[k])[j]? with
 |none=>
  rw [List.getElem?_eq_none_iff] at e
  simp [cellsS] at e
  omega
 |some u=>
  rw [e] at h1
  obtain ⟨b',o',e2,hc⟩:=h _ _ h1
  cases e2
  exact hc
theorem cel_sc6 {W:World} {ao:Option Addr} {S:List SC} (h:Cel W ao (flatS S)) {k:Nat} (hk:k<S.length):∃b o,ao=some ⟨b,o,none⟩∧W.cell? ⟨b,o+k*6,none⟩=some (.int .i64 S[k].f)∧W.cell? ⟨b,o+k*6+1,none⟩=some (.int .i64 S[k].t)∧W.cell? ⟨b,o+k*6+2,none⟩=some (.int .u64 S[k].w)∧
  W.cell? ⟨b,o+k*6+3,none⟩=some (.int .i64 S[k].e)∧W.cell? ⟨b,o+k*6+4,none⟩=some (.int .i64 S[k].a)∧W.cell? ⟨b,o+k*6+5,none⟩=some (.int .i64 S[k].b):=by
 obtain ⟨b,o,e,_⟩:=h (k*6) _ ((flatS_get S k hk 0 (by omega)).trans rfl)
 subst e
 refine ⟨b,o,rfl,?_,?_,?_,?_,?_,?_⟩
 ·exact cel_sc h hk 0 (by omega)
 ·rw [Nat.add_assoc];exact cel_sc h hk 1 (by omega)
 ·rw [Nat.add_assoc];exact cel_sc h hk 2 (by omega)
 ·rw [Nat.add_assoc];exact cel_sc h hk 3 (by omega)
 ·rw [Nat.add_assoc];exact cel_sc h hk 4 (by omega)
 ·rw [Nat.add_assoc];exact cel_sc h hk 5 (by omega)
theorem tw_next {w W w1 w2:World} {sb so i cap ka kb:Nat} {y z:SC} (hb:Below w1.heap.size w1 w2) (h:w1.cell? ⟨w.heap.size,0,none⟩=some (.slice (some ⟨sb,so,none⟩) i cap)∧w1.cell? ⟨w.heap.size+1,4,none⟩=some (.int .i64 (ka:Int))∧w1.cell? ⟨w.heap.size+1,5,none⟩=some (.int .i64 (kb:Int))∧w1.cell? ⟨sb,so+ka*6,none⟩=some (.int .i64 y.f)∧w1.cell? ⟨sb,so+ka*6+1,none⟩=some (.int .i64 y.t)∧w1.cell? ⟨sb,so+ka*6+2,none⟩=some (.int .u64 y.w)∧w1.cell? ⟨sb,so+ka*6+3,none⟩=some (.int .i64 y.e)∧w1.cell? ⟨sb,so+ka*6+4,none⟩=some (.int .i64 y.a)∧w1.cell? ⟨sb,so+ka*6+5,none⟩=some (.int .i64 y.b)∧w1.cell? ⟨sb,so+kb*6,none⟩=some (.int .i64 z.f)∧w1.cell? ⟨sb,so+kb*6+1,none⟩=some (.int .i64 z.t)∧w1.cell? ⟨sb,so+kb*6+2,none⟩=some (.int .u64 z.w)∧w1.cell? ⟨sb,so+kb*6+3,none⟩=some (.int .i64 z.e)∧w1.cell? ⟨sb,so+kb*6+4,none⟩=some (.int .i64 z.a)∧w1.cell? ⟨sb,so+kb*6+5,none⟩=some (.int .i64 z.b)∧Below W.heap.size W w1):w2.cell? ⟨w.heap.size,0,none⟩=some (.slice (some ⟨sb,so,none⟩) i cap)∧w2.cell? ⟨w.heap.size+1,4,none⟩=some (.int .i64 (ka:Int))∧w2.cell? ⟨w.heap.size+1,5,none⟩=some (.int .i64 (kb:Int))∧w2.cell? ⟨sb,so+ka*6,none⟩=some (.int .i64 y.f)∧w2.cell? ⟨sb,so+ka*6+1,none⟩=some (.int .i64 y.t)∧w2.cell? ⟨sb,so+ka*6+2,none⟩=some (.int .u64 y.w)∧w2.cell? ⟨sb,so+ka*6+3,none⟩=some (.int .i64 y.e)∧w2.cell? ⟨sb,so+ka*6+4,none⟩=some (.int .i64 y.a)∧w2.cell? ⟨sb,so+ka*6+5,none⟩=some (.int .i64 y.b)∧w2.cell? ⟨sb,so+kb*6,none⟩=some (.int .i64 z.f)∧w2.cell? ⟨sb,so+kb*6+1,none⟩=some (.int .i64 z.t)∧w2.cell? ⟨sb,so+kb*6+2,none⟩=some (.int .u64 z.w)∧w2.cell? ⟨sb,so+kb*6+3,none⟩=some (.int .i64 z.e)∧w2.cell? ⟨sb,so+kb*6+4,none⟩=some (.int .i64 z.a)∧w2.cell? ⟨sb,so+kb*6+5,none⟩=some (.int .i64 z.b)∧Below W.heap.size W w2:=by
 obtain ⟨c0,c1,c2,c3,c4,c5,c6,c7,c8,c9,c10,c11,c12,c13,c14,hz⟩:=h
 exact ⟨cell_later hb c0,cell_later hb c1,cell_later hb c2,cell_later hb c3,cell_later hb c4,cell_later hb c5,cell_later hb c6,cell_later hb c7,cell_later hb c8,cell_later hb c9,cell_later hb c10,cell_later hb c11,cell_later hb c12,cell_later hb c13,cell_later hb c14,hz.st hb⟩
def TwoPost (r:Bool) (w:World) (e:Ending) (w':World):Prop:=e=.returned (.bool r)∧Below w.heap.size w w'
set_option maxRecDepth 100000 in
set_option maxHeartbeats 4000000 in
theorem two_any (R:List Int) (ro ao:Option Addr) (rc cap i:Nat) (S:List SC) (x:SC) (w:World) (hr:Cel w ro (R.map encI)) (hS:Cel w ao (flatS S)) (hi:i≤S.length) (hl:S.length≤1000000) (hrl:R.length≤1000000)
  (hin:∀(k:Nat) (hk:k<i),nodeN R.length (S[k]'(by omega)).f∧nodeN R.length (S[k]'(by omega)).t):
  Calls Tryz.prog 170 #[.slice ro R.length rc,.slice ao i cap,scV x] w (TwoPost (twoF R S i x) w):=by
 obtain ⟨W,hW⟩:∃W,W=(w.alloc (Obj.cells #[.slice ao i cap] 79)).alloc (Obj.cells #[.int .i64 x.f,.int .i64 x.t,.int .u64 x.w,.int .i64 x.e,.int .i64 x.a,.int .i64 x.b] 187):=⟨_,rfl⟩
 have hbw:Below w.heap.size w W:=by rw [hW];exact (Below.of_al _ _).al _
 have a0:W.cell? ⟨w.heap.size,0,none⟩=some (.slice ao i cap):=by rw [hW];go_simp
 have hxb:XB W (w.heap.size+1) x:=by rw [hW];constructor<;>go_simp
 have HXB:=Lib.hid hxb
 have HSZ:=Lib.hid (show W.heap.size=w.heap.size+2 by rw [hW];simp)
 have HW:=Lib.hid hW
 have HB:=Lib.hid hbw
 have HR:=Lib.hid (hr.go hbw)
 have HS:=Lib.hid (hS.go hbw)
 have HIN:=Lib.hid hin
 obtain ⟨x0,x1,x2,x3,x4,x5⟩:=hxb
 have H1:=Lib.hid (two1_any x.a ao i cap w.heap.size W a0)
 have H2:=Lib.hid (two1_any x.b ao i cap w.heap.size W a0)
 have hmf:∀(fn:Fn) (first cap:Array Value) (w:World),(Instr.makeFunc fn first cap).run Tryz.prog w=.ok (.func fn first cap) w:=fun _ _ _ _=>rfl
 unfold TwoPost
 clear hW hbw hr hS hin
 have HT:=Lib.hid (show twoF R S i x=(pairF i x&&(meetF (scAt S x.a) (scAt S x.b) x&&decide (rAt R (scAt S x.a).t<min (rAt R x.f) (rAt R x.t)))) from rfl)
 have HP:=Lib.hid (show pairF i x=((x.e== -1)&&(decide (0≤x.a)&&decide (x.a<(i:Int)))&&(decide (0≤x.b)&&decide (x.b<(i:Int)))&&!(x.f==x.t)) from rfl)
 have HIB:=Lib.hid (show (decide (0≤x.a)&&decide (x.a<(i:Int)))=true→∃k:Nat,x.a=(k:Int)∧k<i from fun h=>⟨x.a.toNat,by simp at h;omega,by simp at h;omega⟩)
 have HIC:=Lib.hid (show (decide (0≤x.b)&&decide (x.b<(i:Int)))=true→∃k:Nat,x.b=(k:Int)∧k<i from fun h=>⟨x.b.toNat,by simp at h;omega,by simp at h;omega⟩)
 generalize twoF R S i x=rr at*
 generalize pairF i x=pp at*
 generalize (decide (0≤x.a)&&decide (x.a<(i:Int)))=b1 at*
 generalize (decide (0≤x.b)&&decide (x.b<(i:Int)))=b2 at*
 cases hE:(x.e== -1) with
 |false=>
  have hE2:(x.e != -1)=true:=by simp [bne,hE]
  rw [hE] at HP
  clear hE
  go_enter Tryz.func170,Tryz.ntmps170
  go_upto_region 2 with (fail)
  rw [←HW.out]
  go_wp2
  go_ret
  exact ⟨by rw [HT.out,HP.out];rfl,HB.out⟩
 |true=>
  have hE2:(x.e != -1)=false:=by simp [bne,hE]
  rw [hE] at HP
  clear hE
  cases b1 with
  |false=>
   go_enter Tryz.func170,Tryz.ntmps170
   go_upto_region 2 with (fail)
   rw [←HW.out]
   go_wp2_with (go_at_call_of 233 (Value.int .i64 x.a);refine H1.out.mono ?_;rintro e w1 ⟨rfl,rfl⟩)
   go_ret
   exact ⟨by rw [HT.out,HP.out];rfl,HB.out⟩
  |true=>
   cases b2 with
   |false=>
    go_enter Tryz.func170,Tryz.ntmps170
    go_upto_region 2 with (fail)
    rw [←HW.out]
    go_wp2_with fail
    refine H1.out.mono ?_
    rintro e w1 ⟨rfl,rfl⟩
    go_wp2_with fail
    refine H2.out.mono ?_
    rintro e w1 ⟨rfl,rfl⟩
    go_wp2
    go_ret
    exact ⟨by rw [HT.out,HP.out];rfl,HB.out⟩
   |true=>
    cases hft:(x.f==x.t) with
    |true=>
     rw [hft] at HP
     go_enter Tryz.func170,Tryz.ntmps170
     go_upto_region 2 with (fail)
     rw [←HW.out]
     go_wp2_with fail
     refine H1.out.mono ?_
     rintro e w1 ⟨rfl,rfl⟩
     go_wp2_with fail
     refine H2.out.mono ?_
     rintro e w1 ⟨rfl,rfl⟩
     go_wp2
     go_ret
     exact ⟨by rw [HT.out,HP.out];rfl,HB.out⟩
    |false=>
     rw [hft] at HP
     obtain ⟨ka,hka,hka2⟩:=HIB.out rfl
     obtain ⟨kb,hkb,hkb2⟩:=HIC.out rfl
     have hka3:ka<S.length:=by omega
     have hkb3:kb<S.length:=by omega
     have HSA:=Lib.hid (show scAt S x.a=S[ka] by unfold scAt;rw [hka,Int.toNat_natCast,List.getD_eq_getElem?_getD,List.getElem?_eq_getElem hka3];rfl)
     have HSB:=Lib.hid (show scAt S x.b=S[kb] by unfold scAt;rw [hkb,Int.toNat_natCast,List.getD_eq_getElem?_getD,List.getElem?_eq_getElem hkb3];rfl)
     obtain ⟨sb,so,e,y0,y1,y2,y3,y4,y5⟩:=cel_sc6 HS.out hka3
     subst e
     obtain ⟨sb',so',e,v0,v1,v2,v3,v4,v5⟩:=cel_sc6 HS.out hkb3
     cases e
     have HN1:=Lib.hid (HIN.out ka hka2)
     have HN2:=Lib.hid (HIN.out kb hkb2)
     rw [hka] at x4 H1
     rw [hkb] at x5 H2
     rw [HSA.out,HSB.out] at HT
     generalize S[ka]=y at*
     generalize S[kb]=z at*
     have HS0:=Lib.hid (show W.cell? ⟨w.heap.size,0,none⟩=some (.slice (some ⟨sb,so,none⟩) i cap)∧W.cell? ⟨w.heap.size+1,4,none⟩=some (.int .i64 (ka:Int))∧W.cell? ⟨w.heap.size+1,5,none⟩=some (.int .i64 (kb:Int))∧W.cell? ⟨sb,so+ka*6,none⟩=some (.int .i64 y.f)∧W.cell? ⟨sb,so+ka*6+1,none⟩=some (.int .i64 y.t)∧W.cell? ⟨sb,so+ka*6+2,none⟩=some (.int .u64 y.w)∧W.cell? ⟨sb,so+ka*6+3,none⟩=some (.int .i64 y.e)∧W.cell? ⟨sb,so+ka*6+4,none⟩=some (.int .i64 y.a)∧W.cell? ⟨sb,so+ka*6+5,none⟩=some (.int .i64 y.b)∧W.cell? ⟨sb,so+kb*6,none⟩=some (.int .i64 z.f)∧W.cell? ⟨sb,so+kb*6+1,none⟩=some (.int .i64 z.t)∧W.cell? ⟨sb,so+kb*6+2,none⟩=some (.int .u64 z.w)∧W.cell? ⟨sb,so+kb*6+3,none⟩=some (.int .i64 z.e)∧W.cell? ⟨sb,so+kb*6+4,none⟩=some (.int .i64 z.a)∧W.cell? ⟨sb,so+kb*6+5,none⟩=some (.int .i64 z.b)∧Below W.heap.size W W from ⟨a0,x4,x5,y0,y1,y2,y3,y4,y5,v0,v1,v2,v3,v4,v5,Below.refl _ _⟩)
     have hka0:(0:Int)≤(ka:Int):=by omega
     have hkb0:(0:Int)≤(kb:Int):=by omega
     have hka1:(ka:Int)<(i:Int):=by omega
     have hkb1:(kb:Int)<(i:Int):=by omega
     clear hka hkb hka2 hkb2 hka3 hkb3 HIB HIC
     go_enter Tryz.func170,Tryz.ntmps170
     go_upto_region 2 with (fail)
     rw [←HW.out]
     go_wp2_with fail
     refine H1.out.mono ?_
     rintro e w1 ⟨rfl,rfl⟩
     go_wp2_with fail
     refine H2.out.mono ?_
     rintro e w1 ⟨rfl,rfl⟩
     go_upto_region 4 with (fail)
     go_cut [8,9] from 10 (fun v8 v9 wc=>∃b8 b9:Nat,v8=.pointer (some ⟨b8,0,none⟩)∧v9=.pointer (some ⟨b9,0,none⟩)∧XB wc b8 y∧XB wc b9 z∧Below W.heap.size W wc)
     case first=>
      clear a0 x4 x5 y0 y1 y2 y3 y4 y5 v0 v1 v2 v3 v4 v5
      go_region_held3 (fun w'=>w'.cell? ⟨w.heap.size,0,none⟩=some (.slice (some ⟨sb,so,none⟩) i cap)∧w'.cell? ⟨w.heap.size+1,4,none⟩=some (.int .i64 (ka:Int))∧w'.cell? ⟨w.heap.size+1,5,none⟩=some (.int .i64 (kb:Int))∧w'.cell? ⟨sb,so+ka*6,none⟩=some (.int .i64 y.f)∧w'.cell? ⟨sb,so+ka*6+1,none⟩=some (.int .i64 y.t)∧w'.cell? ⟨sb,so+ka*6+2,none⟩=some (.int .u64 y.w)∧w'.cell? ⟨sb,so+ka*6+3,none⟩=some (.int .i64 y.e)∧w'.cell? ⟨sb,so+ka*6+4,none⟩=some (.int .i64 y.a)∧w'.cell? ⟨sb,so+ka*6+5,none⟩=some (.int .i64 y.b)∧w'.cell? ⟨sb,so+kb*6,none⟩=some (.int .i64 z.f)∧w'.cell? ⟨sb,so+kb*6+1,none⟩=some (.int .i64 z.t)∧w'.cell? ⟨sb,so+kb*6+2,none⟩=some (.int .u64 z.w)∧w'.cell? ⟨sb,so+kb*6+3,none⟩=some (.int .i64 z.e)∧w'.cell? ⟨sb,so+kb*6+4,none⟩=some (.int .i64 z.a)∧w'.cell? ⟨sb,so+kb*6+5,none⟩=some (.int .i64 z.b)∧Below W.heap.size W w') (first|exact tw_next (Below.refl _ W).drew HS0.out|exact tw_next (Below.of_al W _).drew HS0.out|exact tw_next ((Below.of_al W _).al _).drew HS0.out|exact tw_next (by assumption) (by assumption)) (first|fail)
      all_goals
       go_wp2_with fail
       go_meet
       exact ⟨_,_,rfl,rfl,by constructor<;>go_simp,by constructor<;>go_simp,((Below.of_al W _).al _).drew⟩
     case rest=>
      obtain ⟨b8,b9,rfl,rfl,hy,hz,hb⟩:=hcut
      have HBC:=Lib.hid (HB.out.st hb)
      have HRC:=Lib.hid (HR.out.go hb)
      have hx:=HXB.out.go hb
      have HXC:=Lib.hid (And.intro hy (And.intro hz hx))
      obtain ⟨m0,m1,m2,m3,m4,m5⟩:=hx
      obtain ⟨p0,p1,p2,p3,p4,p5⟩:=hy
      obtain ⟨n0,n1,n2,n3,n4,n5⟩:=hz
      have HM:=Lib.hid (show meetF y z x=((y.f==x.f)&&(y.t==z.f)&&(z.t==x.t)&&(wrapU (y.w+z.w)==x.w)) from rfl)
      have hwu:IntKind.u64.wrap (y.w+z.w)=wrapU (y.w+z.w):=rfl
      clear hb x0 x1 x2 x3 x4 x5 a0 y0 y1 y2 y3 y4 y5 v0 v1 v2 v3 v4 v5 H1 H2 HS0 HS
      generalize meetF y z x=mm at*
      generalize wrapU (y.w+z.w)=ww at*
      cases q1:(y.f==x.f) with
      |false=>
       have q1':(y.f != x.f)=true:=by simp [bne,q1]
       rw [q1] at HM
       clear q1
       go_wp2
       go_ret
       exact ⟨by rw [HT.out,HP.out,HM.out];rfl,HBC.out⟩
      |true=>
       have q1':(y.f != x.f)=false:=by simp [bne,q1]
       have hq1:y.f=x.f:=by simpa using q1
       have HQ1:=Lib.hid hq1
       rw [q1] at HM
       clear q1 hq1
       cases q2:(y.t==z.f) with
       |false=>
        have q2':(y.t != z.f)=true:=by simp [bne,q2]
        rw [q2] at HM
        clear q2
        go_wp2
        go_ret
        exact ⟨by rw [HT.out,HP.out,HM.out];rfl,HBC.out⟩
       |true=>
        have q2':(y.t != z.f)=false:=by simp [bne,q2]
        rw [q2] at HM
        clear q2
        cases q3:(z.t==x.t) with
        |false=>
         have q3':(z.t != x.t)=true:=by simp [bne,q3]
         rw [q3] at HM
         clear q3
         go_wp2
         go_ret
         exact ⟨by rw [HT.out,HP.out,HM.out];rfl,HBC.out⟩
        |true=>
         have q3':(z.t != x.t)=false:=by simp [bne,q3]
         have hq3:z.t=x.t:=by simpa using q3
         have HQ3:=Lib.hid hq3
         rw [q3] at HM
         clear q3 hq3
         cases q4:(ww==x.w) with
         |false=>
          have q4':(ww != x.w)=true:=by simp [bne,q4]
          rw [q4] at HM
          clear q4
          go_wp2
          go_ret
          exact ⟨by rw [HT.out,HP.out,HM.out];rfl,HBC.out⟩
         |true=>
          have q4':(ww != x.w)=false:=by simp [bne,q4]
          rw [q4] at HM
          clear q4
          obtain ⟨t1,ht1⟩:∃k:Nat,y.t=(k:Int):=⟨y.t.toNat,by have:=HN1.out.2.1;omega⟩
          obtain ⟨t2,ht2⟩:∃k:Nat,x.f=(k:Int):=⟨x.f.toNat,by have:=HN1.out.1.1;rw [HQ1.out] at this;omega⟩
          obtain ⟨t3,ht3⟩:∃k:Nat,x.t=(k:Int):=⟨x.t.toNat,by have:=HN2.out.2.1;rw [HQ3.out] at this;omega⟩
          have l1:t1<R.length:=by have:=HN1.out.2.2;omega
          have l2:t2<R.length:=by have:=HN1.out.1.2;rw [HQ1.out] at this;omega
          have l3:t3<R.length:=by have:=HN2.out.2.2;rw [HQ3.out] at this;omega
          obtain ⟨rb,rof,e,g1⟩:=HRC.out.at l1
          subst e
          obtain ⟨rb',rof',e,g2⟩:=HRC.out.at l2
          cases e
          obtain ⟨rb',rof',e,g3⟩:=HRC.out.at l3
          cases e
          have HT2:=Lib.hid (show rr=(pp&&(mm&&decide (R[t1]<min R[t2] R[t3]))) by
           have:=HT.out
           unfold rAt at this
           rw [ht1,ht2,ht3] at this
           simpa [List.getD_eq_getElem?_getD,l1,l2,l3] using this)
          rw [ht1] at p1
          rw [ht2] at m0
          rw [ht3] at m1
          have i1:(t1:Int)<(R.length:Int):=by omega
          have i2:(t2:Int)<(R.length:Int):=by omega
          have i3:(t3:Int)<(R.length:Int):=by omega
          have j1:(0:Int)≤(t1:Int):=by omega
          have j2:(0:Int)≤(t2:Int):=by omega
          have j3:(0:Int)≤(t3:Int):=by omega
          have HY:=Lib.hid (And.intro ht1 (And.intro ht2 ht3))
          rw [ht1] at q2'
          rw [ht2] at q1'
          rw [ht3] at q3'
          generalize R[t1]=r1 at*
          generalize R[t2]=r2 at*
          generalize R[t3]=r3 at*
          clear ht1 ht2 ht3 hft
          have HF:=Lib.hid (show rr=decide (r1<min r2 r3) by rw [HT2.out,HP.out,HM.out];rfl)
          have hmin:min r2 r3=if r3<r2 then r3 else r2:=by
           rw [Int.min_def]
           split<;>split<;>omega
          rw [hmin] at HF
          clear hmin
          go_upto_region 7 with (fail)
          go_quiet (fail)
          by_cases h32:r3<r2
          ·rw [if_pos h32] at HF ⊢
           go_wp2
           go_ret
           exact ⟨by rw [HF.out];rfl,HBC.out.dr _⟩
          ·rw [if_neg h32] at HF ⊢
           go_wp2
           go_ret
           exact ⟨by rw [HF.out];rfl,HBC.out.dr _⟩
end Go.Proofs.YteaaapdjplbljaaGreat
end
