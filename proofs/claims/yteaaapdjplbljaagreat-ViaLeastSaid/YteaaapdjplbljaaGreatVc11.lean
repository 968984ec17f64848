/- Parts; no condition. -/
import Derived.Test.YteaaapdjplbljaaGreatVc06
set_option linter.unusedVariables false
set_option linter.unusedSimpArgs false
set_option linter.unnecessarySimpa false
set_option maxRecDepth 100000
set_option maxHeartbeats 8000000
namespace Go.Proofs.YteaaapdjplbljaaGreat
section
open Go.Proofs Go.RowKit Go.Shelf
structure EdgeD where
 f:Int
 t:Int
 w:Int
 deriving DecidableEq
structure GD where
 n:Int
 es:List EdgeD
abbrev Sx (e:EdgeD):Value:=.agg #[.int .i64 e.f,.int .i64 e.t,.int .u64 e.w]
def Ax:List EdgeD->List Value
 |[]=>[]
 |e::r=>.int .i64 e.f::.int .i64 e.t::.int .u64 e.w::Ax r
theorem Ji:∀es:List EdgeD,(Ax es).length=es.length*3
 |[]=>rfl
 |e::r=>by simp [Ax,Ji r];omega
theorem Rg:∀(es:List EdgeD) (i:Nat) (h:i<es.length),(Ax es)[i*3]? =some (.int .i64 es[i].f)/\(Ax es)[i*3+1]? =some (.int .i64 es[i].t)/\(Ax es)[i*3+2]? =some (.int .u64 es[i].w)
 |e::r,0,_=>⟨rfl,rfl,rfl⟩
 |e::r,i+1,h=>by
  have ih:=Rg r i (by simpa using h);have e1:(i+1)*3=i*3+1+1+1:=by omega
  simp only [e1,Ax,Bk6,List.getElem_cons_succ];exact ih
theorem Cel.edge {w:World} {ao:Option Addr} {es:List EdgeD} (h:Cel w ao (Ax es)) {i:Nat} (hi:i<es.length):
  ∃b o,ao=some ⟨b,o,none⟩/\w.cell? ⟨b,o+i*3,none⟩=some (.int .i64 es[i].f)/\w.cell? ⟨b,o+i*3+1,none⟩=some (.int .i64 es[i].t)/\w.cell? ⟨b,o+i*3+2,none⟩=some (.int .u64 es[i].w):=by
 obtain ⟨h1,h2,h3⟩:=Rg es i hi;obtain ⟨b,o,e,c1⟩:=h _ _ h1;obtain ⟨b',o',e',c2⟩:=h _ _ h2;obtain ⟨b'',o'',e'',c3⟩:=h _ _ h3;rw [e] at e' e''
 cases e'
 cases e''
 exact ⟨b,o,e,c1,by rw [Nat.add_assoc];exact c2,by rw [Nat.add_assoc];exact c3⟩
def Bs (n v:Int):Bool:=decide (0<=v)&&decide (v<n)
def Dz (m:Nat) (e:Int):Bool:=decide (0<=e)&&decide (e<(m:Int))
def Bg (w:Int):Bool:=decide (1<=w)&&decide (w<=4294967296)
def Cv (n:Int) (e:EdgeD):Bool:=!Bs n e.f||!Bs n e.t||e.f==e.t
def Ak (g:GD):Int:=
 if g.n<1\/4096<g.n then 2 else if 16384<g.es.length then 5 else if g.es.any (Cv g.n) then 7 else if g.es.any (fun e=>!Bg e.w) then 2 else 0
theorem Yf (x:Int) (w:World):Calls Tryz.prog 129 #[.int .u64 x] w fun e w'=>e=.returned (.bool (Bg x))/\w=w':=by
 unfold Bg
 go_enter Tryz.func129,Tryz.ntmps129
 go_wp2
 all_goals
  go_ret
  exact ⟨by simp [*]<;>omega,rfl⟩
theorem Sm (x:Int) (w:World):Calls Tryz.prog 137 #[.int .u64 x] w fun e w'=>e=.returned (.bool (Bg x))/\w=w':=by
 unfold Bg
 go_enter Tryz.func137,Tryz.ntmps137
 go_wp2
 all_goals
  go_ret
  exact ⟨by simp [*]<;>omega,rfl⟩
theorem Hc (g:GD) (ao:Option Addr) (cap:Nat) (v:Int) (w:World):
  Calls Tryz.prog 75 #[.agg #[.int .i64 g.n,.slice ao g.es.length cap],.int .i64 v] w fun e w'=>e=.returned (.bool (Bs g.n v))/\Below w.heap.size w w':=by
 unfold Bs
 go_enter Tryz.func75,Tryz.ntmps75
 go_wp2
 all_goals
  go_ret
  exact ⟨by simp [*]<;>omega,by repeat (first|exact Below.refl _ _|refine Below.al ?_ _|refine Below.dr ?_ _|refine Below.drew ?_|assumption|(refine Below.st ?_ (by assumption)))⟩
theorem Ot (g:GD) (ao:Option Addr) (cap:Nat) (v:Int) (w:World):
  Calls Tryz.prog 136 #[.agg #[.int .i64 g.n,.slice ao g.es.length cap],.int .i64 v] w fun e w'=>e=.returned (.bool (Bs g.n v))/\Below w.heap.size w w':=by
 unfold Bs
 go_enter Tryz.func136,Tryz.ntmps136
 go_wp2
 all_goals
  go_ret
  exact ⟨by simp [*]<;>omega,by repeat (first|exact Below.refl _ _|refine Below.al ?_ _|refine Below.dr ?_ _|refine Below.drew ?_|assumption|(refine Below.st ?_ (by assumption)))⟩
theorem Se (g:Nat) (cb:Array Value) (p:EdgeD->Bool) (ao:Option Addr) (cap:Nat) (l:List EdgeD) (w:World) (hen:Enters Tryz.prog g)
  (hp:Lm Tryz.prog g cb Sx p l w) (hl:l.length<=9223372036854775807) (hc:Cel w ao (Ax l)):
  Calls Tryz.prog 184 #[.slice ao l.length cap,.func (.func g) #[] cb] w fun e w'=>e=.returned (.int .i64 (Fk p l))/\Below w.heap.size w w':=by
 have HP:=Bi5 hp;have HC:=Bi5 hc;clear hp hc;unfold Enters at hen
 go_enter Tryz.func184,Tryz.ntmps184
 go_wp2
 go_loopg [8] l.length (fun g i wr=>∃k:Nat,k<=l.length/\l.length-k<=g/\i=.int .i64 k/\Aside (Below w.heap.size w wr)/\Aside (∀j (h:j<l.length),j<k->p l[j]=false))
 case atStart=>exact ⟨0,Bi8 _,by omega,rfl,Below.refl _ _,fun j _ h=>absurd h (Nat.not_lt_zero _)⟩
 case round=>
  obtain ⟨k,hk,hg,rfl,HB,HA⟩:=hrel
  by_cases hlt:k<l.length
  ·obtain ⟨b,o,hao,hc1,hc2,hc3⟩:=(HC.out.below HB.out (Bi7 _)).edge hlt
   have HQ:=Bi5 (HP.out wr l[k] HB.out (Bj7 hlt));have HN:=Bi5 (fun h:p l[k]=true=>Jf p l k hlt h (fun j h1 h2=>HA.out j h1 h2));have HM:=Bi5 (fun h:p l[k]=false=>(fun j (h1:j<l.length) (h2:j<k+1)=>(by
    by_cases e:j=k
    ·subst e;exact h
    ·exact HA.out j h1 (by omega):p l[j]=false)))
   generalize hx:l[k]=x at*;clear hx;subst hao
   cases hq:p x with
   |true=>
    have HN2:=Bi5 (HN.out hq);have HQ2:=Bi5 (hq▸HQ.out);clear hq
    go_wp2_with (go_at_fn g;refine HQ2.out.mono ?_;rintro e w1 ⟨rfl,hb1⟩)
    go_ret
    exact ⟨by rw [HN2.out];rfl,HB.out.trans (hb1.mono (by have:=HB.out.size;omega))⟩
   |false=>
    have HN2:=Bi5 (HM.out hq);have HQ2:=Bi5 (hq▸HQ.out);clear hq
    go_wp2_with (go_at_fn g;refine HQ2.out.mono ?_;rintro e w1 ⟨rfl,hb1⟩)
    go_roundg (l.length-(k+1))
    case measure=>omega
    case rel=>exact ⟨k+1,by omega,by omega,by go_num,HB.out.trans (hb1.mono (by have:=HB.out.size;omega)),HN2.out⟩
  ·obtain rfl:k=l.length:=by omega
   have HN:=Bi5 (Ha p l (fun j h=>HA.out j h h))
   go_wp2
   go_ret
   exact ⟨by rw [HN.out];rfl,HB.out⟩
theorem Gm (g:Nat) (cb:Array Value) (p:EdgeD->Bool) (ao:Option Addr) (cap:Nat) (l:List EdgeD) (w:World) (hen:Enters Tryz.prog g)
  (hp:Lm Tryz.prog g cb Sx p l w) (hl:l.length<=9223372036854775807) (hc:Cel w ao (Ax l)):
  Calls Tryz.prog 130 #[.slice ao l.length cap,.func (.func g) #[] cb] w fun e w'=>e=.returned (.bool (l.any p))/\Below w.heap.size w w':=by
 have HC:=Bi5 (Se g cb p ao cap l w hen hp hl hc);have HI:=Bi5 (Re p l);clear hp hc hen;generalize Fk p l=r at*
 go_enter Tryz.func130,Tryz.ntmps130
 go_wp2_with (go_at_call 184;refine HC.out.mono ?_;rintro e w1 ⟨rfl,hb1⟩)
 go_ret
 exact ⟨by rw [<-HI.out];rfl,hb1⟩
theorem Ae3 (e:EdgeD) (w:World):Calls Tryz.prog 128 (#[Sx e]++#[]) w fun x w'=>x=.returned (.bool (!Bg e.w))/\Below w.heap.size w w':=by
 have HX:=Bi5 (Yf e.w);generalize Bg e.w=r at*
 go_enter Tryz.func128,Tryz.ntmps128
 go_wp2_with (go_at_call 129;refine (HX.out _).mono ?_;rintro e w1 ⟨rfl,rfl⟩)
 go_ret
 exact ⟨rfl,by repeat (first|exact Below.refl _ _|refine Below.al ?_ _|refine Below.dr ?_ _|refine Below.drew ?_|assumption|(refine Below.st ?_ (by assumption)))⟩
theorem Yx (g:GD) (ao:Option Addr) (cap B:Nat) (e:EdgeD) (w:World) (h0:w.cell? ⟨B,0,none⟩=some (.int .i64 g.n)) (h1:w.cell? ⟨B,1,none⟩=some (.slice ao g.es.length cap)):
  Calls Tryz.prog 127 (#[Sx e]++#[.pointer (some ⟨B,0,none⟩)]) w fun x w'=>x=.returned (.bool (Cv g.n e))/\Below w.heap.size w w':=by
 unfold Cv;have X1:=Bi5 (Hc g ao cap e.f);have X2:=Bi5 (Hc g ao cap e.t);have k0:∀o,(w.alloc o).cell? ⟨B,0,none⟩=some (.int .i64 g.n):=fun o=>Bi6 (Below.of_al _ o) h0;have k1:∀o,(w.alloc o).cell? ⟨B,1,none⟩=some (.slice ao g.es.length cap):=fun o=>Bi6 (Below.of_al _ o) h1
 cases q1:Bs g.n e.f with
 |false=>
  rw [q1] at X1;clear q1
  go_enter Tryz.func127,Tryz.ntmps127
  go_wp2_with (go_at_call 75;refine (X1.out _).mono ?_;rintro e w1 ⟨rfl,hb1⟩)
  go_ret
  exact ⟨rfl,by repeat (first|exact Below.refl _ _|refine Below.al ?_ _|refine Below.dr ?_ _|refine Below.drew ?_|assumption|(refine Below.st ?_ (by assumption)))⟩
 |true=>
  rw [q1] at X1;clear q1
  cases q2:Bs g.n e.t with
  |false=>
   rw [q2] at X2;clear q2
   go_enter Tryz.func127,Tryz.ntmps127
   go_wp2_with fail
   refine (X1.out _).mono ?_;rintro e w1 ⟨rfl,hb1⟩;have m0:=Bi6 hb1 (k0 _);have m1:=Bi6 hb1 (k1 _);have m2:=Bi6 hb1 (show (w.alloc (Obj.cells #[.int .i64 e.f,.int .i64 e.t,.int .u64 e.w] 109)).cell? ⟨w.heap.size,0,none⟩=some (.int .i64 e.f) by go_simp);have m3:=Bi6 hb1 (show (w.alloc (Obj.cells #[.int .i64 e.f,.int .i64 e.t,.int .u64 e.w] 109)).cell? ⟨w.heap.size,1,none⟩=some (.int .i64 e.t) by go_simp);have HB1:=Bi5 hb1
   go_wp2_with fail
   refine (X2.out _).mono ?_;rintro e w2 ⟨rfl,hb2⟩;have n2:=Bi6 hb2 m2;have n3:=Bi6 hb2 m3
   go_wp2
   go_ret
   exact ⟨rfl,by repeat (first|exact Below.refl _ _|refine Below.al ?_ _|refine Below.dr ?_ _|refine Below.drew ?_|assumption|(refine Below.st ?_ (by assumption)))⟩
  |true=>
   rw [q2] at X2;clear q2
   go_enter Tryz.func127,Tryz.ntmps127
   go_wp2_with fail
   refine (X1.out _).mono ?_;rintro e w1 ⟨rfl,hb1⟩;have m0:=Bi6 hb1 (k0 _);have m1:=Bi6 hb1 (k1 _);have m2:=Bi6 hb1 (show (w.alloc (Obj.cells #[.int .i64 e.f,.int .i64 e.t,.int .u64 e.w] 109)).cell? ⟨w.heap.size,0,none⟩=some (.int .i64 e.f) by go_simp);have m3:=Bi6 hb1 (show (w.alloc (Obj.cells #[.int .i64 e.f,.int .i64 e.t,.int .u64 e.w] 109)).cell? ⟨w.heap.size,1,none⟩=some (.int .i64 e.t) by go_simp);have HB1:=Bi5 hb1
   go_wp2_with fail
   refine (X2.out _).mono ?_;rintro e w2 ⟨rfl,hb2⟩;have n2:=Bi6 hb2 m2;have n3:=Bi6 hb2 m3
   go_wp2
   go_ret
   exact ⟨rfl,by repeat (first|exact Below.refl _ _|refine Below.al ?_ _|refine Below.dr ?_ _|refine Below.drew ?_|assumption|(refine Below.st ?_ (by assumption)))⟩
theorem Xa {g:GD} (h:g.n<1\/4096<g.n):Ak g=2:=by unfold Ak;rw [if_pos h]
theorem Ww {g:GD} (h1:¬g.n<1) (h1':¬4096<g.n) (h2:16384<g.es.length):Ak g=5:=by unfold Ak;rw [if_neg (by omega),if_pos h2]
theorem Wv {g:GD} (h1:¬g.n<1) (h1':¬4096<g.n) (h2:¬16384<g.es.length) (h3:g.es.any (Cv g.n)=true):Ak g=7:=by
 unfold Ak;rw [if_neg (by omega),if_neg h2,if_pos h3]
theorem Wu {g:GD} (h1:¬g.n<1) (h1':¬4096<g.n) (h2:¬16384<g.es.length) (h3:g.es.any (Cv g.n)=false) (h4:g.es.any (fun e=>!Bg e.w)=true):Ak g=2:=by
 unfold Ak;rw [if_neg (by omega),if_neg h2,if_neg (by simp [h3]),if_pos h4]
theorem Wt {g:GD} (h1:¬g.n<1) (h1':¬4096<g.n) (h2:¬16384<g.es.length) (h3:g.es.any (Cv g.n)=false) (h4:g.es.any (fun e=>!Bg e.w)=false):Ak g=0:=by
 unfold Ak;rw [if_neg (by omega),if_neg h2,if_neg (by simp [h3]),if_neg (by simp [h4])]
theorem Dm (g:GD) (ao:Option Addr) (cap:Nat) (w:World) (hl:g.es.length<=9223372036854775807) (hc:Cel w ao (Ax g.es)):
  Calls Tryz.prog 72 #[.agg #[.int .i64 g.n,.slice ao g.es.length cap]] w fun e w'=>e=.returned (.int .i64 (Ak g))/\Below w.heap.size w w':=by
 have HC:=Bi5 hc;clear hc;have G1:=Bi5 (@Xa g);have G2:=Bi5 (@Ww g);have G3:=Bi5 (@Wv g);have G4:=Bi5 (@Wu g);have G5:=Bi5 (@Wt g);have hw2:∀o:Obj,o=Obj.cells #[.int .i64 g.n,.slice ao g.es.length cap] 24->Lm Tryz.prog 127 #[.pointer (some ⟨w.heap.size,0,none⟩)] Sx (Cv g.n) g.es (w.alloc o):=by
  rintro o rfl W x hb _;exact Yx g ao cap w.heap.size x W (Bi6 hb (by go_simp)) (Bi6 hb (by go_simp))
 have hw3:∀W,Lm Tryz.prog 128 #[] Sx (fun e=>!Bg e.w) g.es W:=fun W W' x _ _=>Ae3 x W';have X1:=Bi5 (Gm 127 #[.pointer (some ⟨w.heap.size,0,none⟩)] (Cv g.n) ao cap g.es _ (enters_of Tryz.func127 (by kernel_rfl) rfl) (hw2 _ rfl) hl (HC.out.go (Below.of_al _ _)));have X2:=Bi5 (fun W h=>Gm 128 #[] (fun e=>!Bg e.w) ao cap g.es W (enters_of Tryz.func128 (by kernel_rfl) rfl) (hw3 W) hl h);clear hw2 hw3;generalize Ak g=r at*
 by_cases h1:g.n<1
 ·have HR:=Bi5 (G1.out (.inl h1))
  go_enter Tryz.func72,Tryz.ntmps72
  go_wp2
  go_ret
  exact ⟨by rw [HR.out];rfl,by repeat (first|exact Below.refl _ _|refine Below.al ?_ _|refine Below.dr ?_ _|refine Below.drew ?_|assumption|(refine Below.st ?_ (by assumption)))⟩
 ·by_cases h2:4096<g.n
  ·have HR:=Bi5 (G1.out (.inr h2))
   go_enter Tryz.func72,Tryz.ntmps72
   go_wp2
   go_ret
   exact ⟨by rw [HR.out];rfl,by repeat (first|exact Below.refl _ _|refine Below.al ?_ _|refine Below.dr ?_ _|refine Below.drew ?_|assumption|(refine Below.st ?_ (by assumption)))⟩
  ·by_cases h3:16384<g.es.length
   ·have HR:=Bi5 (G2.out h1 h2 h3)
    go_enter Tryz.func72,Tryz.ntmps72
    go_wp2
    go_ret
    exact ⟨by rw [HR.out];rfl,by repeat (first|exact Below.refl _ _|refine Below.al ?_ _|refine Below.dr ?_ _|refine Below.drew ?_|assumption|(refine Below.st ?_ (by assumption)))⟩
   ·cases q1:g.es.any (Cv g.n) with
    |true=>
     have HR:=Bi5 (G3.out h1 h2 h3 q1);rw [q1] at X1;clear q1
     go_enter Tryz.func72,Tryz.ntmps72
     go_wp2_with (go_at_call 130;refine X1.out.mono ?_;rintro e w1 ⟨rfl,hb1⟩)
     go_ret
     exact ⟨by rw [HR.out];rfl,by repeat (first|exact Below.refl _ _|refine Below.al ?_ _|refine Below.dr ?_ _|refine Below.drew ?_|assumption|(refine Below.st ?_ (by assumption)))⟩
    |false=>
     rw [q1] at X1
     cases q2:g.es.any (fun e=>!Bg e.w) with
     |true=>
      have HR:=Bi5 (G4.out h1 h2 h3 q1 q2);rw [q2] at X2;clear q1 q2
      go_enter Tryz.func72,Tryz.ntmps72
      go_wp2_with fail
      refine X1.out.mono ?_;rintro e w1 ⟨rfl,hb1⟩;have m0:=Bi6 hb1 (show (w.alloc (Obj.cells #[.int .i64 g.n,.slice ao g.es.length cap] 24)).cell? ⟨w.heap.size,1,none⟩=some (.slice ao g.es.length cap) by go_simp)
      go_wp2_with fail
      refine (X2.out _ (HC.out.go (by repeat (first|exact Below.refl _ _|refine Below.al ?_ _|refine Below.dr ?_ _|refine Below.drew ?_|assumption|(refine Below.st ?_ (by assumption)))))).mono ?_;rintro e w2 ⟨rfl,hb2⟩
      go_wp2
      go_ret
      exact ⟨by rw [HR.out];rfl,by repeat (first|exact Below.refl _ _|refine Below.al ?_ _|refine Below.dr ?_ _|refine Below.drew ?_|assumption|(refine Below.st ?_ (by assumption)))⟩
     |false=>
      have HR:=Bi5 (G5.out h1 h2 h3 q1 q2);rw [q2] at X2;clear q1 q2
      go_enter Tryz.func72,Tryz.ntmps72
      go_wp2_with fail
      refine X1.out.mono ?_;rintro e w1 ⟨rfl,hb1⟩;have m0:=Bi6 hb1 (show (w.alloc (Obj.cells #[.int .i64 g.n,.slice ao g.es.length cap] 24)).cell? ⟨w.heap.size,1,none⟩=some (.slice ao g.es.length cap) by go_simp)
      go_wp2_with fail
      refine (X2.out _ (HC.out.go (by repeat (first|exact Below.refl _ _|refine Below.al ?_ _|refine Below.dr ?_ _|refine Below.drew ?_|assumption|(refine Below.st ?_ (by assumption)))))).mono ?_;rintro e w2 ⟨rfl,hb2⟩
      go_wp2
      go_ret
      exact ⟨by rw [HR.out];rfl,by repeat (first|exact Below.refl _ _|refine Below.al ?_ _|refine Below.dr ?_ _|refine Below.drew ?_|assumption|(refine Below.st ?_ (by assumption)))⟩
open Go.Proofs Go.RowKit Go.Shelf
theorem Sa {α:Type} {p:α->Bool} {l:List α} (h:∀j (h:j<l.length),p l[j]=false):l.any p=false:=by
 rw [List.any_eq_false];intro x hx;obtain ⟨j,hj,rfl⟩:=List.getElem_of_mem hx;simp [h j hj]
theorem Ae0 {α:Type} {p:α->Bool} {l:List α} {j:Nat} (hj:j<l.length) (h:p l[j]=true):l.any p=true:=List.any_eq_true.2 ⟨_,Bj7 hj,h⟩
theorem Mw {α:Type} {p:α->Bool} {l:List α} {k:Nat} (h:∀j (h:j<l.length),j<k->p l[j]=false) (hk:k<l.length) (hp:p l[k]=false):∀j (h:j<l.length),j<k+1->p l[j]=false:=by
 intro j hj h2
 by_cases e:j=k
 ·subst e;exact hp
 ·exact h j hj (by omega)
theorem Jv (n:Int) (e:EdgeD) {a b c:Bool} (h1:Bs n e.f=a) (h2:Bs n e.t=b) (h3:(e.f==e.t)=c):Cv n e=(!a||!b||c):=by unfold Cv;rw [h1,h2,h3]
theorem Kr (g:GD) (ao:Option Addr) (cap:Nat) (w:World) (hl:g.es.length<=9223372036854775807) (hc:Cel w ao (Ax g.es)):
  Calls Tryz.prog 78 #[.agg #[.int .i64 g.n,.slice ao g.es.length cap]] w fun e w'=>e=.returned (.int .i64 (Ak g))/\Below w.heap.size w w':=by
 have HC:=Bi5 hc;clear hc;have G1:=Bi5 (@Xa g);have G2:=Bi5 (@Ww g);have G3:=Bi5 (@Wv g);have G4:=Bi5 (@Wu g);have G5:=Bi5 (@Wt g);generalize Ak g=r at*
 by_cases h1:g.n<1
 ·have HR:=Bi5 (G1.out (.inl h1))
  go_enter Tryz.func78,Tryz.ntmps78
  go_wp2
  go_ret
  exact ⟨by rw [HR.out];rfl,by repeat (first|exact Below.refl _ _|refine Below.al ?_ _|refine Below.dr ?_ _|refine Below.drew ?_|assumption|(refine Below.st ?_ (by assumption)))⟩
 ·by_cases h2:4096<g.n
  ·have HR:=Bi5 (G1.out (.inr h2))
   go_enter Tryz.func78,Tryz.ntmps78
   go_wp2
   go_ret
   exact ⟨by rw [HR.out];rfl,by repeat (first|exact Below.refl _ _|refine Below.al ?_ _|refine Below.dr ?_ _|refine Below.drew ?_|assumption|(refine Below.st ?_ (by assumption)))⟩
  ·by_cases h3:16384<g.es.length
   ·have HR:=Bi5 (G2.out h1 h2 h3)
    go_enter Tryz.func78,Tryz.ntmps78
    go_wp2
    go_ret
    exact ⟨by rw [HR.out];rfl,by repeat (first|exact Below.refl _ _|refine Below.al ?_ _|refine Below.dr ?_ _|refine Below.drew ?_|assumption|(refine Below.st ?_ (by assumption)))⟩
   ·have HH:=Bi5 (And.intro h1 (And.intro h2 h3))
    go_enter Tryz.func78,Tryz.ntmps78
    go_wp2
    obtain ⟨W,hW,c0,c1,hsW⟩:∃W,W=w.alloc (Obj.cells #[.int .i64 g.n,.slice ao g.es.length cap] 24)/\W.cell? ⟨w.heap.size,0,none⟩=some (.int .i64 g.n)/\W.cell? ⟨w.heap.size,1,none⟩=some (.slice ao g.es.length cap)/\w.heap.size<W.heap.size:=⟨_,rfl,by go_simp,by go_simp,by simp⟩;rw [<-hW];have HW:=Bi5 (show Below w.heap.size w W by rw [hW];repeat (first|exact Below.refl _ _|refine Below.al ?_ _|refine Below.dr ?_ _|refine Below.drew ?_|assumption|(refine Below.st ?_ (by assumption))));clear hW
    go_loopg [3] g.es.length (fun gg i wr=>∃k:Nat,k<=g.es.length/\g.es.length-k<=gg/\i=.int .i64 k/\Aside (Below W.heap.size W wr)/\Aside (∀j (h:j<g.es.length),j<k->Cv g.n g.es[j]=false))
    case atStart=>exact ⟨0,Bi8 _,by omega,rfl,Below.refl _ _,fun j _ h=>absurd h (Nat.not_lt_zero _)⟩
    case round=>
     obtain ⟨k,hk,hg,rfl,HB,HA⟩:=hrel;have m0:=Bi6 HB.out c0;have m1:=Bi6 HB.out c1
     by_cases hlt:k<g.es.length
     ·have hlt3:(k:Int)<(g.es.length:Int):=by omega
      have hk0:(0:Int)<=(k:Int):=by omega
      obtain ⟨b,o,hao,f1,f2,f3⟩:=((HC.out.go HW.out).go HB.out).edge hlt;have HN:=Bi5 (fun h=>Mw HA.out hlt h);have HY:=Bi5 (fun h=>@Ae0 _ (Cv g.n) g.es k hlt h);generalize g.es[k]=x at*;subst hao;have X1:=Bi5 (fun p=>Ot g (some ⟨b,o,none⟩) cap x.f (ext wr p));have X2:=Bi5 (fun p=>Ot g (some ⟨b,o,none⟩) cap x.t (ext wr p));have e0:=fun p=>Ac p m0;have e1:=fun p=>Ac p m1;have e2:=fun p=>Ac p f1;have e3:=fun p=>Ac p f2
      cases q1:Bs g.n x.f with
      |false=>
       have HL:=Bi5 (show Cv g.n x=true by rw [Jv g.n x q1 rfl rfl];rfl);rw [q1] at X1;have HR:=Bi5 (G3.out h1 h2 h3 (HY.out HL.out));clear f1 f2 f3
       go_wp2
       refine Ag (by kernel_rfl) (by kernel_rfl) ?_
       repeat (go_big_quiet_step (first
        |(go_at_call_of 136 (Value.int .i64 x.f);exact Calls.ext_of (X1.out _))
        |(go_at_call_of 136 (Value.int .i64 x.t);exact Calls.ext_of (X2.out _))))
       refine wpQuiet_nil ?_;rintro _ ⟨pq,rfl⟩;have HBq:=Bi5 (Ah wr pq);generalize ext wr pq=wq at HBq ⊢
       go_wp2
       go_ret
       exact ⟨by rw [HR.out];rfl,(HW.out.st HB.out).st HBq.out⟩
      |true=>
       rw [q1] at X1
       cases q2:Bs g.n x.t with
       |false=>
        have HL:=Bi5 (show Cv g.n x=true by rw [Jv g.n x q1 q2 rfl];rfl);rw [q2] at X2;have HR:=Bi5 (G3.out h1 h2 h3 (HY.out HL.out));clear f1 f2 f3
        go_wp2
        refine Ag (by kernel_rfl) (by kernel_rfl) ?_
        repeat (go_big_quiet_step (first
         |(go_at_call_of 136 (Value.int .i64 x.f);exact Calls.ext_of (X1.out _))
         |(go_at_call_of 136 (Value.int .i64 x.t);exact Calls.ext_of (X2.out _))))
        refine wpQuiet_nil ?_;rintro _ ⟨pq,rfl⟩;have HBq:=Bi5 (Ah wr pq);generalize ext wr pq=wq at HBq ⊢
        go_wp2
        go_ret
        exact ⟨by rw [HR.out];rfl,(HW.out.st HB.out).st HBq.out⟩
       |true=>
        rw [q2] at X2
        cases q3:(x.f==x.t) with
        |true=>
         have HL:=Bi5 (show Cv g.n x=true by rw [Jv g.n x q1 q2 q3];rfl);have HR:=Bi5 (G3.out h1 h2 h3 (HY.out HL.out));clear f1 f2 f3
         go_wp2
         refine Ag (by kernel_rfl) (by kernel_rfl) ?_
         repeat (go_big_quiet_step (first
          |(go_at_call_of 136 (Value.int .i64 x.f);exact Calls.ext_of (X1.out _))
          |(go_at_call_of 136 (Value.int .i64 x.t);exact Calls.ext_of (X2.out _))))
         refine wpQuiet_nil ?_;rintro _ ⟨pq,rfl⟩;have HBq:=Bi5 (Ah wr pq);generalize ext wr pq=wq at HBq ⊢
         go_wp2
         go_ret
         exact ⟨by rw [HR.out];rfl,(HW.out.st HB.out).st HBq.out⟩
        |false=>
         have HL:=Bi5 (show Cv g.n x=false by rw [Jv g.n x q1 q2 q3];rfl);clear q1 q2 f1 f2 f3
         go_wp2
         refine Ag (by kernel_rfl) (by kernel_rfl) ?_
         repeat (go_big_quiet_step (first
          |(go_at_call_of 136 (Value.int .i64 x.f);exact Calls.ext_of (X1.out _))
          |(go_at_call_of 136 (Value.int .i64 x.t);exact Calls.ext_of (X2.out _))))
         refine wpQuiet_nil ?_;rintro _ ⟨pq,rfl⟩;have HBq:=Bi5 (Ah wr pq);generalize ext wr pq=wq at HBq ⊢
         go_wp2
         go_roundg (g.es.length-(k+1))
         case measure=>omega
         case rel=>exact ⟨k+1,by omega,by omega,by go_num,HB.out.st HBq.out,HN.out HL.out⟩
     ·obtain rfl:k=g.es.length:=by omega
      have q1:=Sa (fun j h=>HA.out j h h)
      go_wp2
      go_loopg [4] g.es.length (fun gg i wr2=>∃k:Nat,k<=g.es.length/\g.es.length-k<=gg/\i=.int .i64 k/\Aside (Below W.heap.size W wr2)/\Aside (∀j (h:j<g.es.length),j<k->(!Bg g.es[j].w)=false))
      case atStart=>exact ⟨0,Bi8 _,by omega,rfl,HB.out,fun j _ h=>absurd h (Nat.not_lt_zero _)⟩
      case round=>
       clear HB HA m0 m1 hlt hg hk;have Q1:=Bi5 q1;clear q1;obtain ⟨k,hk,hg,rfl,HB,HA⟩:=hrel;have m0:=Bi6 HB.out c0;have m1:=Bi6 HB.out c1
       by_cases hlt:k<g.es.length
       ·obtain ⟨b,o,hao,f1,f2,f3⟩:=((HC.out.go HW.out).go HB.out).edge hlt
        have HN:=Bi5 (fun h=>@Mw _ (fun e=>!Bg e.w) g.es k HA.out hlt h);have HY:=Bi5 (fun h=>@Ae0 _ (fun e=>!Bg e.w) g.es k hlt h);generalize g.es[k]=x at*;subst hao;have X1:=Bi5 (Sm x.w)
        cases q2:(Bg x.w) with
        |true=>
         have HL:=Bi5 (show (!Bg x.w)=false by rw [q2];rfl);rw [q2] at X1;clear q2
         go_wp2_with (go_at_call 137;refine (X1.out _).mono ?_;rintro e w1 ⟨rfl,rfl⟩)
         go_roundg (g.es.length-(k+1))
         case measure=>omega
         case rel=>exact ⟨k+1,by omega,by omega,by go_num,HB.out,HN.out HL.out⟩
        |false=>
         have HR:=Bi5 (G4.out HH.out.1 HH.out.2.1 HH.out.2.2 Q1.out (HY.out (show (!Bg x.w)=true by rw [q2];rfl)));rw [q2] at X1;clear q2
         go_wp2_with (go_at_call 137;refine (X1.out _).mono ?_;rintro e w1 ⟨rfl,rfl⟩)
         go_ret
         exact ⟨by rw [HR.out];rfl,HW.out.st HB.out⟩
       ·obtain rfl:k=g.es.length:=by omega
        have HR:=Bi5 (G5.out HH.out.1 HH.out.2.1 HH.out.2.2 Q1.out (Sa (fun j h=>HA.out j h h)))
        go_wp2
        go_ret
        exact ⟨by rw [HR.out];rfl,HW.out.st HB.out⟩
end
section
open Ch
def Am (es:List EdgeD):Int->Int->Int->Prop:=fun u v w=>∃x∈es,x.f=u/\x.t=v/\x.w=w
def Yl (es:List EdgeD):Int->Int->Int->Int->Prop:=fun e u v w=>es[e.toNat]? =some ⟨u,v,w⟩/\e<es.length
def scE (k:Nat) (x:EdgeD):SC:=⟨x.f,x.t,x.w,(k:Int),-1,-1⟩
def Ij (n:Nat):CoreD:=⟨List.replicate n [],fun _ _=>none,[]⟩
def Kn (n:Nat) (es:List EdgeD):Nat->CoreD
 |0=>Ij n
 |k+1=>match es[k]? with
  |some x=>Ed (Kn n es k) (scE k x)
  |none=>Kn n es k
structure EdgesOK (n:Nat) (es:List EdgeD):Prop where
 ok:∀x∈es,Aa n x.f/\Aa n x.t/\x.f≠x.t/\1<=x.w/\x.w<=4294967296
theorem Ao2 (n:Nat):InvN n (Ij n):=by
 refine ⟨by simp [Ij],?_,by simp [Ij],by simp [Ij],by simp [Ij],by simp [Ij]⟩;intro u v w hu;constructor
 ·intro h
  exfalso
  have:Cl (Ij n).O u=[]:=by
   unfold Cl Ij;rw [Bj1,Bm5]
   split<;>rfl
  rw [this] at h
  cases h
 ·rintro ⟨i,x,h,_⟩
  cases h
structure BegI (n:Nat) (es:List EdgeD) (k:Nat):Prop where
 inv:InvN n (Kn n es k)
 frm:∀(j:Nat) (x:SC),(Kn n es k).S[j]? =some x->∃i y,es[i]? =some y/\x=scE i y
 low:∀i y,i<k->es[i]? =some y->∃x∈(Kn n es k).S,x.f=y.f/\x.t=y.t/\x.w<=y.w
 len:(Kn n es k).S.length<=k
theorem Bc4 {n:Nat} {es:List EdgeD} (h:EdgesOK n es):∀k,BegI n es k
 |0=>⟨Ao2 n,by intro j x hx;simp [Kn,Ij] at hx,by intro i y hi;omega,by simp [Kn,Ij]⟩
 |k+1=>by
  have ih:=Bc4 h k
  cases e:es[k]? with
  |none=>
   have hb:Kn n es (k+1)=Kn n es k:=by show (match es[k]? with|some x=>_|none=>_)=_;rw [e]
   refine ⟨by rw [hb];exact ih.inv,by rw [hb];exact ih.frm,?_,by rw [hb];exact Nat.le_succ_of_le ih.len⟩;intro i y hi hy;rw [hb];refine ih.low i y ?_ hy;have:=(Bj8.1 hy).1;have:=List.getElem?_eq_none_iff.1 e;omega
  |some z=>
   have hb:Kn n es (k+1)=Ed (Kn n es k) (scE k z):=by show (match es[k]? with|some x=>_|none=>_)=_;rw [e]
   have hz:=h.ok z (Bl3 e);have hx:Aa n (scE k z).f/\Aa n (scE k z).t/\(scE k z).f≠(scE k z).t/\1<=(scE k z).w:=⟨hz.1,hz.2.1,hz.2.2.1,hz.2.2.2.1⟩;refine ⟨by rw [hb];exact ih.inv.add hx,?_,?_,?_⟩
   ·intro j x hj
    rw [hb] at hj
    rcases Og ih.inv (scE k z) with e2|e2
    ·rw [e2] at hj
     exact ih.frm j x hj
    ·rw [e2] at hj
     by_cases hl:j<(Kn n es k).S.length
     ·rw [Bm4 hl] at hj
      exact ih.frm j x hj
     ·rw [Bm3 (by omega)] at hj
      have h0:j-(Kn n es k).S.length=0:=by
       have:=(Bj8.1 hj).1
       simpa using this
      rw [h0] at hj;simp at hj;exact ⟨k,z,e,hj.symm⟩
   ·intro i y hi hy
    rw [hb]
    by_cases hik:i=k
    ·subst hik
     rw [e] at hy
     cases hy
     exact Yv ih.inv (scE i z)
    ·obtain ⟨x,x1,x2⟩:=ih.low i y (by omega) hy
     obtain ⟨j,hj,ej⟩:=Bm9.1 x1;have:=Sb ih.inv (scE k z) (i:=j) (y:=x) (by rw [Bj0 hj,ej]);exact ⟨x,Bl3 this,x2⟩
   ·rw [hb]
    rcases Og ih.inv (scE k z) with e2|e2
    ·rw [e2];exact Nat.le_succ_of_le ih.len
    ·rw [e2,Bl5]
     have:=ih.len;simp;omega
theorem Ad8 {n:Nat} {es:List EdgeD} (h:EdgesOK n es):Core (Am es) (Yl es) n [] (Kn n es es.length):=by
 have hb:=Bc4 h es.length;have hA:∀u v w,Am es u v w->1<=w:=by
  rintro u v w ⟨x,hx,_,_,rfl⟩;exact (h.ok x hx).2.2.2.1
 refine ⟨hb.inv,Part.start ?_ ?_,?_,?_⟩
 ·rintro u v w ⟨x,hx,rfl,rfl,rfl⟩
  obtain ⟨j,hj,ej⟩:=Bm9.1 hx;obtain ⟨i,y,hy,rfl⟩:=hb.frm j x (by rw [Bj0 hj,ej]);have hm:=Bl3 hy;exact ⟨(h.ok y hm).2.2.1,y,hm,rfl,rfl,rfl⟩
 ·rintro u v w hne ⟨y,hy,rfl,rfl,rfl⟩ hd
  obtain ⟨i,hi,ei⟩:=Bm9.1 hy;obtain ⟨x,x1,x2,x3,x4⟩:=hb.low i y hi (by rw [Bj0 hi,ei]);obtain ⟨j,hj,ej⟩:=Bm9.1 x1;obtain ⟨i2,z,hz,e⟩:=hb.frm j x (by rw [Bj0 hj,ej]);have hmz:=Bl3 hz;subst e;have:=hd.2 z.w (.inr (.one ⟨z,hmz,x2,x3,rfl⟩));have hw:z.w<=y.w:=x4;exact ⟨_,x1,x2,x3,by show z.w=y.w;omega⟩
 ·intro j x hj
  obtain ⟨i,y,hy,rfl⟩:=hb.frm j x hj;have hl:=(Bj8.1 hy).1;exact .inl ⟨⟨by show es[((i:Nat):Int).toNat]? =_;rw [Bj9];exact hy,by show (i:Int)<_;omega⟩,by show (0:Int)<=(i:Int);omega,rfl,rfl⟩
 ·intro x hx
  obtain ⟨j,hj,ej⟩:=Bm9.1 hx;obtain ⟨i,y,hy,rfl⟩:=hb.frm j x (by rw [Bj0 hj,ej]);have:=(h.ok y (Bl3 hy)).2.2.2.2
  show y.w<=_
  simpa using this
end
end Go.Proofs.YteaaapdjplbljaaGreat
