/- Parts; no condition. -/
import Derived.WideKeyPair
import Derived.Test.YteaaapdjplbljaaGreatVa08
set_option linter.unusedVariables false
set_option linter.unusedSimpArgs false
set_option linter.unnecessarySimpa false
set_option maxRecDepth 100000
set_option maxHeartbeats 8000000
namespace Go.Proofs.YteaaapdjplbljaaGreat
section
open Go.Proofs Go.RowKit Go.Shelf
structure EdgeD where
 f:Int
 t:Int
 w:Int
 deriving DecidableEq
structure GD where
 n:Int
 es:List EdgeD
abbrev Tv (e:EdgeD):Value:=.agg #[.int .i64 e.f,.int .i64 e.t,.int .u64 e.w]
def Ar:List EdgeD->List Value
 |[]=>[]
 |e::r=>.int .i64 e.f::.int .i64 e.t::.int .u64 e.w::Ar r
theorem Jy:∀es:List EdgeD,(Ar es).length=es.length*3
 |[]=>rfl
 |e::r=>by simp [Ar,Jy r];omega
theorem Sc:∀(es:List EdgeD) (i:Nat) (h:i<es.length),(Ar es)[i*3]? =some (.int .i64 es[i].f)/\(Ar es)[i*3+1]? =some (.int .i64 es[i].t)/\(Ar es)[i*3+2]? =some (.int .u64 es[i].w)
 |e::r,0,_=>⟨rfl,rfl,rfl⟩
 |e::r,i+1,h=>by
  have ih:=Sc r i (by simpa using h);have e1:(i+1)*3=i*3+1+1+1:=by omega
  simp only [e1,Ar,Bl4,List.getElem_cons_succ];exact ih
theorem Cel.edge {w:World} {ao:Option Addr} {es:List EdgeD} (h:Cel w ao (Ar es)) {i:Nat} (hi:i<es.length):
  ∃b o,ao=some ⟨b,o,none⟩/\w.cell? ⟨b,o+i*3,none⟩=some (.int .i64 es[i].f)/\w.cell? ⟨b,o+i*3+1,none⟩=some (.int .i64 es[i].t)/\w.cell? ⟨b,o+i*3+2,none⟩=some (.int .u64 es[i].w):=by
 obtain ⟨h1,h2,h3⟩:=Sc es i hi;obtain ⟨b,o,e,c1⟩:=h _ _ h1;obtain ⟨b',o',e',c2⟩:=h _ _ h2;obtain ⟨b'',o'',e'',c3⟩:=h _ _ h3;rw [e] at e' e''
 cases e'
 cases e''
 exact ⟨b,o,e,c1,by rw [Nat.add_assoc];exact c2,by rw [Nat.add_assoc];exact c3⟩
def Dc (n v:Int):Bool:=decide (0<=v)&&decide (v<n)
def Ej (m:Nat) (e:Int):Bool:=decide (0<=e)&&decide (e<(m:Int))
def Bj (w:Int):Bool:=decide (1<=w)&&decide (w<=4294967296)
def Cz (n:Int) (e:EdgeD):Bool:=!Dc n e.f||!Dc n e.t||e.f==e.t
def Aj (g:GD):Int:=
 if g.n<1\/4096<g.n then 2 else if 16384<g.es.length then 5 else if g.es.any (Cz g.n) then 7 else if g.es.any (fun e=>!Bj e.w) then 2 else 0
theorem Zf (x:Int) (w:World):Calls Tryz.prog 129 #[.int .u64 x] w fun e w'=>e=.returned (.bool (Bj x))/\w=w':=by
 unfold Bj
 go_enter Tryz.func129,Tryz.ntmps129
 go_wp2
 all_goals
  go_ret
  exact ⟨by simp [*]<;>omega,rfl⟩
theorem Tl (x:Int) (w:World):Calls Tryz.prog 137 #[.int .u64 x] w fun e w'=>e=.returned (.bool (Bj x))/\w=w':=by
 unfold Bj
 go_enter Tryz.func137,Tryz.ntmps137
 go_wp2
 all_goals
  go_ret
  exact ⟨by simp [*]<;>omega,rfl⟩
theorem Hl (g:GD) (ao:Option Addr) (cap:Nat) (v:Int) (w:World):
  Calls Tryz.prog 75 #[.agg #[.int .i64 g.n,.slice ao g.es.length cap],.int .i64 v] w fun e w'=>e=.returned (.bool (Dc g.n v))/\Below w.heap.size w w':=by
 unfold Dc
 go_enter Tryz.func75,Tryz.ntmps75
 go_wp2
 all_goals
  go_ret
  exact ⟨by simp [*]<;>omega,by repeat (first|exact Below.refl _ _|refine Below.al ?_ _|refine Below.dr ?_ _|refine Below.drew ?_|assumption|(refine Below.st ?_ (by assumption)))⟩
theorem Pg (g:GD) (ao:Option Addr) (cap:Nat) (v:Int) (w:World):
  Calls Tryz.prog 136 #[.agg #[.int .i64 g.n,.slice ao g.es.length cap],.int .i64 v] w fun e w'=>e=.returned (.bool (Dc g.n v))/\Below w.heap.size w w':=by
 unfold Dc
 go_enter Tryz.func136,Tryz.ntmps136
 go_wp2
 all_goals
  go_ret
  exact ⟨by simp [*]<;>omega,by repeat (first|exact Below.refl _ _|refine Below.al ?_ _|refine Below.dr ?_ _|refine Below.drew ?_|assumption|(refine Below.st ?_ (by assumption)))⟩
theorem Tc (g:Nat) (cb:Array Value) (p:EdgeD->Bool) (ao:Option Addr) (cap:Nat) (l:List EdgeD) (w:World) (hen:Enters Tryz.prog g)
  (hp:Mb Tryz.prog g cb Tv p l w) (hl:l.length<=9223372036854775807) (hc:Cel w ao (Ar l)):
  Calls Tryz.prog 184 #[.slice ao l.length cap,.func (.func g) #[] cb] w fun e w'=>e=.returned (.int .i64 (Fr p l))/\Below w.heap.size w w':=by
 have HP:=Bj3 hp;have HC:=Bj3 hc;clear hp hc;unfold Enters at hen
 go_enter Tryz.func184,Tryz.ntmps184
 go_wp2
 go_loopg [8] l.length (fun g i wr=>∃k:Nat,k<=l.length/\l.length-k<=g/\i=.int .i64 k/\Aside (Below w.heap.size w wr)/\Aside (∀j (h:j<l.length),j<k->p l[j]=false))
 case atStart=>exact ⟨0,Bj6 _,by omega,rfl,Below.refl _ _,fun j _ h=>absurd h (Nat.not_lt_zero _)⟩
 case round=>
  obtain ⟨k,hk,hg,rfl,HB,HA⟩:=hrel
  by_cases hlt:k<l.length
  ·obtain ⟨b,o,hao,hc1,hc2,hc3⟩:=(HC.out.below HB.out (Bj5 _)).edge hlt
   have HQ:=Bj3 (HP.out wr l[k] HB.out (Bk5 hlt));have HN:=Bj3 (fun h:p l[k]=true=>Ju p l k hlt h (fun j h1 h2=>HA.out j h1 h2));have HM:=Bj3 (fun h:p l[k]=false=>(fun j (h1:j<l.length) (h2:j<k+1)=>(by
    by_cases e:j=k
    ·subst e;exact h
    ·exact HA.out j h1 (by omega):p l[j]=false)))
   generalize hx:l[k]=x at*;clear hx;subst hao
   cases hq:p x with
   |true=>
    have HN2:=Bj3 (HN.out hq);have HQ2:=Bj3 (hq▸HQ.out);clear hq
    go_wp2_with (go_at_fn g;refine HQ2.out.mono ?_;rintro e w1 ⟨rfl,hb1⟩)
    go_ret
    exact ⟨by rw [HN2.out];rfl,HB.out.trans (hb1.mono (by have:=HB.out.size;omega))⟩
   |false=>
    have HN2:=Bj3 (HM.out hq);have HQ2:=Bj3 (hq▸HQ.out);clear hq
    go_wp2_with (go_at_fn g;refine HQ2.out.mono ?_;rintro e w1 ⟨rfl,hb1⟩)
    go_roundg (l.length-(k+1))
    case measure=>omega
    case rel=>exact ⟨k+1,by omega,by omega,by go_num,HB.out.trans (hb1.mono (by have:=HB.out.size;omega)),HN2.out⟩
  ·obtain rfl:k=l.length:=by omega
   have HN:=Bj3 (Hj p l (fun j h=>HA.out j h h))
   go_wp2
   go_ret
   exact ⟨by rw [HN.out];rfl,HB.out⟩
theorem Gv (g:Nat) (cb:Array Value) (p:EdgeD->Bool) (ao:Option Addr) (cap:Nat) (l:List EdgeD) (w:World) (hen:Enters Tryz.prog g)
  (hp:Mb Tryz.prog g cb Tv p l w) (hl:l.length<=9223372036854775807) (hc:Cel w ao (Ar l)):
  Calls Tryz.prog 130 #[.slice ao l.length cap,.func (.func g) #[] cb] w fun e w'=>e=.returned (.bool (l.any p))/\Below w.heap.size w w':=by
 have HC:=Bj3 (Tc g cb p ao cap l w hen hp hl hc);have HI:=Bj3 (Rz p l);clear hp hc hen;generalize Fr p l=r at*
 go_enter Tryz.func130,Tryz.ntmps130
 go_wp2_with (go_at_call 184;refine HC.out.mono ?_;rintro e w1 ⟨rfl,hb1⟩)
 go_ret
 exact ⟨by rw [<-HI.out];rfl,hb1⟩
theorem Ag2 (e:EdgeD) (w:World):Calls Tryz.prog 128 (#[Tv e]++#[]) w fun x w'=>x=.returned (.bool (!Bj e.w))/\Below w.heap.size w w':=by
 have HX:=Bj3 (Zf e.w);generalize Bj e.w=r at*
 go_enter Tryz.func128,Tryz.ntmps128
 go_wp2_with (go_at_call 129;refine (HX.out _).mono ?_;rintro e w1 ⟨rfl,rfl⟩)
 go_ret
 exact ⟨rfl,by repeat (first|exact Below.refl _ _|refine Below.al ?_ _|refine Below.dr ?_ _|refine Below.drew ?_|assumption|(refine Below.st ?_ (by assumption)))⟩
theorem Zx (g:GD) (ao:Option Addr) (cap B:Nat) (e:EdgeD) (w:World) (h0:w.cell? ⟨B,0,none⟩=some (.int .i64 g.n)) (h1:w.cell? ⟨B,1,none⟩=some (.slice ao g.es.length cap)):
  Calls Tryz.prog 127 (#[Tv e]++#[.pointer (some ⟨B,0,none⟩)]) w fun x w'=>x=.returned (.bool (Cz g.n e))/\Below w.heap.size w w':=by
 unfold Cz;have X1:=Bj3 (Hl g ao cap e.f);have X2:=Bj3 (Hl g ao cap e.t);have k0:∀o,(w.alloc o).cell? ⟨B,0,none⟩=some (.int .i64 g.n):=fun o=>Bj4 (Below.of_al _ o) h0;have k1:∀o,(w.alloc o).cell? ⟨B,1,none⟩=some (.slice ao g.es.length cap):=fun o=>Bj4 (Below.of_al _ o) h1
 cases q1:Dc g.n e.f with
 |false=>
  rw [q1] at X1;clear q1
  go_enter Tryz.func127,Tryz.ntmps127
  go_wp2_with (go_at_call 75;refine (X1.out _).mono ?_;rintro e w1 ⟨rfl,hb1⟩)
  go_ret
  exact ⟨rfl,by repeat (first|exact Below.refl _ _|refine Below.al ?_ _|refine Below.dr ?_ _|refine Below.drew ?_|assumption|(refine Below.st ?_ (by assumption)))⟩
 |true=>
  rw [q1] at X1;clear q1
  cases q2:Dc g.n e.t with
  |false=>
   rw [q2] at X2;clear q2
   go_enter Tryz.func127,Tryz.ntmps127
   go_wp2_with fail
   refine (X1.out _).mono ?_;rintro e w1 ⟨rfl,hb1⟩;have m0:=Bj4 hb1 (k0 _);have m1:=Bj4 hb1 (k1 _);have m2:=Bj4 hb1 (show (w.alloc (Obj.cells #[.int .i64 e.f,.int .i64 e.t,.int .u64 e.w] 109)).cell? ⟨w.heap.size,0,none⟩=some (.int .i64 e.f) by go_simp);have m3:=Bj4 hb1 (show (w.alloc (Obj.cells #[.int .i64 e.f,.int .i64 e.t,.int .u64 e.w] 109)).cell? ⟨w.heap.size,1,none⟩=some (.int .i64 e.t) by go_simp);have HB1:=Bj3 hb1
   go_wp2_with fail
   refine (X2.out _).mono ?_;rintro e w2 ⟨rfl,hb2⟩;have n2:=Bj4 hb2 m2;have n3:=Bj4 hb2 m3
   go_wp2
   go_ret
   exact ⟨rfl,by repeat (first|exact Below.refl _ _|refine Below.al ?_ _|refine Below.dr ?_ _|refine Below.drew ?_|assumption|(refine Below.st ?_ (by assumption)))⟩
  |true=>
   rw [q2] at X2;clear q2
   go_enter Tryz.func127,Tryz.ntmps127
   go_wp2_with fail
   refine (X1.out _).mono ?_;rintro e w1 ⟨rfl,hb1⟩;have m0:=Bj4 hb1 (k0 _);have m1:=Bj4 hb1 (k1 _);have m2:=Bj4 hb1 (show (w.alloc (Obj.cells #[.int .i64 e.f,.int .i64 e.t,.int .u64 e.w] 109)).cell? ⟨w.heap.size,0,none⟩=some (.int .i64 e.f) by go_simp);have m3:=Bj4 hb1 (show (w.alloc (Obj.cells #[.int .i64 e.f,.int .i64 e.t,.int .u64 e.w] 109)).cell? ⟨w.heap.size,1,none⟩=some (.int .i64 e.t) by go_simp);have HB1:=Bj3 hb1
   go_wp2_with fail
   refine (X2.out _).mono ?_;rintro e w2 ⟨rfl,hb2⟩;have n2:=Bj4 hb2 m2;have n3:=Bj4 hb2 m3
   go_wp2
   go_ret
   exact ⟨rfl,by repeat (first|exact Below.refl _ _|refine Below.al ?_ _|refine Below.dr ?_ _|refine Below.drew ?_|assumption|(refine Below.st ?_ (by assumption)))⟩
theorem Xz {g:GD} (h:g.n<1\/4096<g.n):Aj g=2:=by unfold Aj;rw [if_pos h]
theorem Xy {g:GD} (h1:¬g.n<1) (h1':¬4096<g.n) (h2:16384<g.es.length):Aj g=5:=by unfold Aj;rw [if_neg (by omega),if_pos h2]
theorem Xx {g:GD} (h1:¬g.n<1) (h1':¬4096<g.n) (h2:¬16384<g.es.length) (h3:g.es.any (Cz g.n)=true):Aj g=7:=by
 unfold Aj;rw [if_neg (by omega),if_neg h2,if_pos h3]
theorem Xw {g:GD} (h1:¬g.n<1) (h1':¬4096<g.n) (h2:¬16384<g.es.length) (h3:g.es.any (Cz g.n)=false) (h4:g.es.any (fun e=>!Bj e.w)=true):Aj g=2:=by
 unfold Aj;rw [if_neg (by omega),if_neg h2,if_neg (by simp [h3]),if_pos h4]
theorem Xv {g:GD} (h1:¬g.n<1) (h1':¬4096<g.n) (h2:¬16384<g.es.length) (h3:g.es.any (Cz g.n)=false) (h4:g.es.any (fun e=>!Bj e.w)=false):Aj g=0:=by
 unfold Aj;rw [if_neg (by omega),if_neg h2,if_neg (by simp [h3]),if_neg (by simp [h4])]
theorem Dh (g:GD) (ao:Option Addr) (cap:Nat) (w:World) (hl:g.es.length<=9223372036854775807) (hc:Cel w ao (Ar g.es)):
  Calls Tryz.prog 72 #[.agg #[.int .i64 g.n,.slice ao g.es.length cap]] w fun e w'=>e=.returned (.int .i64 (Aj g))/\Below w.heap.size w w':=by
 have HC:=Bj3 hc;clear hc;have G1:=Bj3 (@Xz g);have G2:=Bj3 (@Xy g);have G3:=Bj3 (@Xx g);have G4:=Bj3 (@Xw g);have G5:=Bj3 (@Xv g);have hw2:∀o:Obj,o=Obj.cells #[.int .i64 g.n,.slice ao g.es.length cap] 24->Mb Tryz.prog 127 #[.pointer (some ⟨w.heap.size,0,none⟩)] Tv (Cz g.n) g.es (w.alloc o):=by
  rintro o rfl W x hb _;exact Zx g ao cap w.heap.size x W (Bj4 hb (by go_simp)) (Bj4 hb (by go_simp))
 have hw3:∀W,Mb Tryz.prog 128 #[] Tv (fun e=>!Bj e.w) g.es W:=fun W W' x _ _=>Ag2 x W';have X1:=Bj3 (Gv 127 #[.pointer (some ⟨w.heap.size,0,none⟩)] (Cz g.n) ao cap g.es _ (enters_of Tryz.func127 (by kernel_rfl) rfl) (hw2 _ rfl) hl (HC.out.go (Below.of_al _ _)));have X2:=Bj3 (fun W h=>Gv 128 #[] (fun e=>!Bj e.w) ao cap g.es W (enters_of Tryz.func128 (by kernel_rfl) rfl) (hw3 W) hl h);clear hw2 hw3;generalize Aj g=r at*
 by_cases h1:g.n<1
 ·have HR:=Bj3 (G1.out (.inl h1))
  go_enter Tryz.func72,Tryz.ntmps72
  go_wp2
  go_ret
  exact ⟨by rw [HR.out];rfl,by repeat (first|exact Below.refl _ _|refine Below.al ?_ _|refine Below.dr ?_ _|refine Below.drew ?_|assumption|(refine Below.st ?_ (by assumption)))⟩
 ·by_cases h2:4096<g.n
  ·have HR:=Bj3 (G1.out (.inr h2))
   go_enter Tryz.func72,Tryz.ntmps72
   go_wp2
   go_ret
   exact ⟨by rw [HR.out];rfl,by repeat (first|exact Below.refl _ _|refine Below.al ?_ _|refine Below.dr ?_ _|refine Below.drew ?_|assumption|(refine Below.st ?_ (by assumption)))⟩
  ·by_cases h3:16384<g.es.length
   ·have HR:=Bj3 (G2.out h1 h2 h3)
    go_enter Tryz.func72,Tryz.ntmps72
    go_wp2
    go_ret
    exact ⟨by rw [HR.out];rfl,by repeat (first|exact Below.refl _ _|refine Below.al ?_ _|refine Below.dr ?_ _|refine Below.drew ?_|assumption|(refine Below.st ?_ (by assumption)))⟩
   ·cases q1:g.es.any (Cz g.n) with
    |true=>
     have HR:=Bj3 (G3.out h1 h2 h3 q1);rw [q1] at X1;clear q1
     go_enter Tryz.func72,Tryz.ntmps72
     go_wp2_with (go_at_call 130;refine X1.out.mono ?_;rintro e w1 ⟨rfl,hb1⟩)
     go_ret
     exact ⟨by rw [HR.out];rfl,by repeat (first|exact Below.refl _ _|refine Below.al ?_ _|refine Below.dr ?_ _|refine Below.drew ?_|assumption|(refine Below.st ?_ (by assumption)))⟩
    |false=>
     rw [q1] at X1
     cases q2:g.es.any (fun e=>!Bj e.w) with
     |true=>
      have HR:=Bj3 (G4.out h1 h2 h3 q1 q2);rw [q2] at X2;clear q1 q2
      go_enter Tryz.func72,Tryz.ntmps72
      go_wp2_with fail
      refine X1.out.mono ?_;rintro e w1 ⟨rfl,hb1⟩;have m0:=Bj4 hb1 (show (w.alloc (Obj.cells #[.int .i64 g.n,.slice ao g.es.length cap] 24)).cell? ⟨w.heap.size,1,none⟩=some (.slice ao g.es.length cap) by go_simp)
      go_wp2_with fail
      refine (X2.out _ (HC.out.go (by repeat (first|exact Below.refl _ _|refine Below.al ?_ _|refine Below.dr ?_ _|refine Below.drew ?_|assumption|(refine Below.st ?_ (by assumption)))))).mono ?_;rintro e w2 ⟨rfl,hb2⟩
      go_wp2
      go_ret
      exact ⟨by rw [HR.out];rfl,by repeat (first|exact Below.refl _ _|refine Below.al ?_ _|refine Below.dr ?_ _|refine Below.drew ?_|assumption|(refine Below.st ?_ (by assumption)))⟩
     |false=>
      have HR:=Bj3 (G5.out h1 h2 h3 q1 q2);rw [q2] at X2;clear q1 q2
      go_enter Tryz.func72,Tryz.ntmps72
      go_wp2_with fail
      refine X1.out.mono ?_;rintro e w1 ⟨rfl,hb1⟩;have m0:=Bj4 hb1 (show (w.alloc (Obj.cells #[.int .i64 g.n,.slice ao g.es.length cap] 24)).cell? ⟨w.heap.size,1,none⟩=some (.slice ao g.es.length cap) by go_simp)
      go_wp2_with fail
      refine (X2.out _ (HC.out.go (by repeat (first|exact Below.refl _ _|refine Below.al ?_ _|refine Below.dr ?_ _|refine Below.drew ?_|assumption|(refine Below.st ?_ (by assumption)))))).mono ?_;rintro e w2 ⟨rfl,hb2⟩
      go_wp2
      go_ret
      exact ⟨by rw [HR.out];rfl,by repeat (first|exact Below.refl _ _|refine Below.al ?_ _|refine Below.dr ?_ _|refine Below.drew ?_|assumption|(refine Below.st ?_ (by assumption)))⟩
open Go.Proofs Go.RowKit Go.Shelf
theorem Sx {α:Type} {p:α->Bool} {l:List α} (h:∀j (h:j<l.length),p l[j]=false):l.any p=false:=by
 rw [List.any_eq_false];intro x hx;obtain ⟨j,hj,rfl⟩:=List.getElem_of_mem hx;simp [h j hj]
theorem Af9 {α:Type} {p:α->Bool} {l:List α} {j:Nat} (hj:j<l.length) (h:p l[j]=true):l.any p=true:=List.any_eq_true.2 ⟨_,Bk5 hj,h⟩
theorem No {α:Type} {p:α->Bool} {l:List α} {k:Nat} (h:∀j (h:j<l.length),j<k->p l[j]=false) (hk:k<l.length) (hp:p l[k]=false):∀j (h:j<l.length),j<k+1->p l[j]=false:=by
 intro j hj h2
 by_cases e:j=k
 ·subst e;exact hp
 ·exact h j hj (by omega)
theorem Kh (n:Int) (e:EdgeD) {a b c:Bool} (h1:Dc n e.f=a) (h2:Dc n e.t=b) (h3:(e.f==e.t)=c):Cz n e=(!a||!b||c):=by unfold Cz;rw [h1,h2,h3]
theorem Dr (g:GD) (ao:Option Addr) (cap:Nat) (w:World) (hl:g.es.length<=9223372036854775807) (hc:Cel w ao (Ar g.es)):
  Calls Tryz.prog 78 #[.agg #[.int .i64 g.n,.slice ao g.es.length cap]] w fun e w'=>e=.returned (.int .i64 (Aj g))/\Below w.heap.size w w':=by
 have HC:=Bj3 hc;clear hc;have G1:=Bj3 (@Xz g);have G2:=Bj3 (@Xy g);have G3:=Bj3 (@Xx g);have G4:=Bj3 (@Xw g);have G5:=Bj3 (@Xv g);generalize Aj g=r at*
 by_cases h1:g.n<1
 ·have HR:=Bj3 (G1.out (.inl h1))
  go_enter Tryz.func78,Tryz.ntmps78
  go_wp2
  go_ret
  exact ⟨by rw [HR.out];rfl,by repeat (first|exact Below.refl _ _|refine Below.al ?_ _|refine Below.dr ?_ _|refine Below.drew ?_|assumption|(refine Below.st ?_ (by assumption)))⟩
 ·by_cases h2:4096<g.n
  ·have HR:=Bj3 (G1.out (.inr h2))
   go_enter Tryz.func78,Tryz.ntmps78
   go_wp2
   go_ret
   exact ⟨by rw [HR.out];rfl,by repeat (first|exact Below.refl _ _|refine Below.al ?_ _|refine Below.dr ?_ _|refine Below.drew ?_|assumption|(refine Below.st ?_ (by assumption)))⟩
  ·by_cases h3:16384<g.es.length
   ·have HR:=Bj3 (G2.out h1 h2 h3)
    go_enter Tryz.func78,Tryz.ntmps78
    go_wp2
    go_ret
    exact ⟨by rw [HR.out];rfl,by repeat (first|exact Below.refl _ _|refine Below.al ?_ _|refine Below.dr ?_ _|refine Below.drew ?_|assumption|(refine Below.st ?_ (by assumption)))⟩
   ·have HH:=Bj3 (And.intro h1 (And.intro h2 h3))
    go_enter Tryz.func78,Tryz.ntmps78
    go_wp2
    obtain ⟨W,hW,c0,c1,hsW⟩:∃W,W=w.alloc (Obj.cells #[.int .i64 g.n,.slice ao g.es.length cap] 24)/\W.cell? ⟨w.heap.size,0,none⟩=some (.int .i64 g.n)/\W.cell? ⟨w.heap.size,1,none⟩=some (.slice ao g.es.length cap)/\w.heap.size<W.heap.size:=⟨_,rfl,by go_simp,by go_simp,by simp⟩;rw [<-hW];have HW:=Bj3 (show Below w.heap.size w W by rw [hW];repeat (first|exact Below.refl _ _|refine Below.al ?_ _|refine Below.dr ?_ _|refine Below.drew ?_|assumption|(refine Below.st ?_ (by assumption))));clear hW
    go_loopg [3] g.es.length (fun gg i wr=>∃k:Nat,k<=g.es.length/\g.es.length-k<=gg/\i=.int .i64 k/\Aside (Below W.heap.size W wr)/\Aside (∀j (h:j<g.es.length),j<k->Cz g.n g.es[j]=false))
    case atStart=>exact ⟨0,Bj6 _,by omega,rfl,Below.refl _ _,fun j _ h=>absurd h (Nat.not_lt_zero _)⟩
    case round=>
     obtain ⟨k,hk,hg,rfl,HB,HA⟩:=hrel;have m0:=Bj4 HB.out c0;have m1:=Bj4 HB.out c1
     by_cases hlt:k<g.es.length
     ·have hlt3:(k:Int)<(g.es.length:Int):=by omega
      have hk0:(0:Int)<=(k:Int):=by omega
      obtain ⟨b,o,hao,f1,f2,f3⟩:=((HC.out.go HW.out).go HB.out).edge hlt;have HN:=Bj3 (fun h=>No HA.out hlt h);have HY:=Bj3 (fun h=>@Af9 _ (Cz g.n) g.es k hlt h);generalize g.es[k]=x at*;subst hao;have X1:=Bj3 (fun p=>Pg g (some ⟨b,o,none⟩) cap x.f (ext wr p));have X2:=Bj3 (fun p=>Pg g (some ⟨b,o,none⟩) cap x.t (ext wr p));have e0:=fun p=>Ab p m0;have e1:=fun p=>Ab p m1;have e2:=fun p=>Ab p f1;have e3:=fun p=>Ab p f2
      cases q1:Dc g.n x.f with
      |false=>
       have HL:=Bj3 (show Cz g.n x=true by rw [Kh g.n x q1 rfl rfl];rfl);rw [q1] at X1;have HR:=Bj3 (G3.out h1 h2 h3 (HY.out HL.out));clear f1 f2 f3
       go_wp2
       refine Af (by kernel_rfl) (by kernel_rfl) ?_
       repeat (go_big_quiet_step (first
        |(go_at_call_of 136 (Value.int .i64 x.f);exact Calls.ext_of (X1.out _))
        |(go_at_call_of 136 (Value.int .i64 x.t);exact Calls.ext_of (X2.out _))))
       refine wpQuiet_nil ?_;rintro _ ⟨pq,rfl⟩;have HBq:=Bj3 (Ah wr pq);generalize ext wr pq=wq at HBq ⊢
       go_wp2
       go_ret
       exact ⟨by rw [HR.out];rfl,(HW.out.st HB.out).st HBq.out⟩
      |true=>
       rw [q1] at X1
       cases q2:Dc g.n x.t with
       |false=>
        have HL:=Bj3 (show Cz g.n x=true by rw [Kh g.n x q1 q2 rfl];rfl);rw [q2] at X2;have HR:=Bj3 (G3.out h1 h2 h3 (HY.out HL.out));clear f1 f2 f3
        go_wp2
        refine Af (by kernel_rfl) (by kernel_rfl) ?_
        repeat (go_big_quiet_step (first
         |(go_at_call_of 136 (Value.int .i64 x.f);exact Calls.ext_of (X1.out _))
         |(go_at_call_of 136 (Value.int .i64 x.t);exact Calls.ext_of (X2.out _))))
        refine wpQuiet_nil ?_;rintro _ ⟨pq,rfl⟩;have HBq:=Bj3 (Ah wr pq);generalize ext wr pq=wq at HBq ⊢
        go_wp2
        go_ret
        exact ⟨by rw [HR.out];rfl,(HW.out.st HB.out).st HBq.out⟩
       |true=>
        rw [q2] at X2
        cases q3:(x.f==x.t) with
        |true=>
         have HL:=Bj3 (show Cz g.n x=true by rw [Kh g.n x q1 q2 q3];rfl);have HR:=Bj3 (G3.out h1 h2 h3 (HY.out HL.out));clear f1 f2 f3
         go_wp2
         refine Af (by kernel_rfl) (by kernel_rfl) ?_
         repeat (go_big_quiet_step (first
          |(go_at_call_of 136 (Value.int .i64 x.f);exact Calls.ext_of (X1.out _))
          |(go_at_call_of 136 (Value.int .i64 x.t);exact Calls.ext_of (X2.out _))))
         refine wpQuiet_nil ?_;rintro _ ⟨pq,rfl⟩;have HBq:=Bj3 (Ah wr pq);generalize ext wr pq=wq at HBq ⊢
         go_wp2
         go_ret
         exact ⟨by rw [HR.out];rfl,(HW.out.st HB.out).st HBq.out⟩
        |false=>
         have HL:=Bj3 (show Cz g.n x=false by rw [Kh g.n x q1 q2 q3];rfl);clear q1 q2 f1 f2 f3
         go_wp2
         refine Af (by kernel_rfl) (by kernel_rfl) ?_
         repeat (go_big_quiet_step (first
          |(go_at_call_of 136 (Value.int .i64 x.f);exact Calls.ext_of (X1.out _))
          |(go_at_call_of 136 (Value.int .i64 x.t);exact Calls.ext_of (X2.out _))))
         refine wpQuiet_nil ?_;rintro _ ⟨pq,rfl⟩;have HBq:=Bj3 (Ah wr pq);generalize ext wr pq=wq at HBq ⊢
         go_wp2
         go_roundg (g.es.length-(k+1))
         case measure=>omega
         case rel=>exact ⟨k+1,by omega,by omega,by go_num,HB.out.st HBq.out,HN.out HL.out⟩
     ·obtain rfl:k=g.es.length:=by omega
      have q1:=Sx (fun j h=>HA.out j h h)
      go_wp2
      go_loopg [4] g.es.length (fun gg i wr2=>∃k:Nat,k<=g.es.length/\g.es.length-k<=gg/\i=.int .i64 k/\Aside (Below W.heap.size W wr2)/\Aside (∀j (h:j<g.es.length),j<k->(!Bj g.es[j].w)=false))
      case atStart=>exact ⟨0,Bj6 _,by omega,rfl,HB.out,fun j _ h=>absurd h (Nat.not_lt_zero _)⟩
      case round=>
       clear HB HA m0 m1 hlt hg hk;have Q1:=Bj3 q1;clear q1;obtain ⟨k,hk,hg,rfl,HB,HA⟩:=hrel;have m0:=Bj4 HB.out c0;have m1:=Bj4 HB.out c1
       by_cases hlt:k<g.es.length
       ·obtain ⟨b,o,hao,f1,f2,f3⟩:=((HC.out.go HW.out).go HB.out).edge hlt
        have HN:=Bj3 (fun h=>@No _ (fun e=>!Bj e.w) g.es k HA.out hlt h);have HY:=Bj3 (fun h=>@Af9 _ (fun e=>!Bj e.w) g.es k hlt h);generalize g.es[k]=x at*;subst hao;have X1:=Bj3 (Tl x.w)
        cases q2:(Bj x.w) with
        |true=>
         have HL:=Bj3 (show (!Bj x.w)=false by rw [q2];rfl);rw [q2] at X1;clear q2
         go_wp2_with (go_at_call 137;refine (X1.out _).mono ?_;rintro e w1 ⟨rfl,rfl⟩)
         go_roundg (g.es.length-(k+1))
         case measure=>omega
         case rel=>exact ⟨k+1,by omega,by omega,by go_num,HB.out,HN.out HL.out⟩
        |false=>
         have HR:=Bj3 (G4.out HH.out.1 HH.out.2.1 HH.out.2.2 Q1.out (HY.out (show (!Bj x.w)=true by rw [q2];rfl)));rw [q2] at X1;clear q2
         go_wp2_with (go_at_call 137;refine (X1.out _).mono ?_;rintro e w1 ⟨rfl,rfl⟩)
         go_ret
         exact ⟨by rw [HR.out];rfl,HW.out.st HB.out⟩
       ·obtain rfl:k=g.es.length:=by omega
        have HR:=Bj3 (G5.out HH.out.1 HH.out.2.1 HH.out.2.2 Q1.out (Sx (fun j h=>HA.out j h h)))
        go_wp2
        go_ret
        exact ⟨by rw [HR.out];rfl,HW.out.st HB.out⟩
end
section
open Go Go.Proofs Go.RowKit Go.Shelf Ch
theorem mq_arr:Go.WideMaps.ArrKey Tryz.prog 254 3 2:=⟨Tryz.underlying254,by kernel_rfl,by kernel_rfl,by kernel_rfl⟩
theorem mq_keyed:Maps.Keyed Tryz.prog 254:=Maps.Keyed.of_law mq_arr.law
theorem Rl:Tryz.prog.underlying 180=some (.map 254 3):=Tryz.underlying180
def Rf (u v:Int):Lit:=.string (keyBytes [.int .i64 u,.int .i64 v])
theorem Jp {u v:Int} (hu:In6 u) (hv:In6 v):keyOf Tryz.prog 254 (.agg #[.int .i64 u,.int .i64 v])=some (Rf u v):=
 Go.WideMaps.keyOf_pair mq_arr Tryz.underlying3 ⟨Tryz.prog.types.size-1,by kernel_rfl⟩ (Rx hu) (Rx hv)
theorem Ui {u v u' v':Int} (hu:In6 u) (hv:In6 v) (hu':In6 u') (hv':In6 v') (h:Rf u v=Rf u' v'):u=u'/\v=v':=by
 have:=mq_keyed.inj (Jp hu hv) (by rw [h];exact Jp hu' hv');simp at this;exact this
def Iw (o:Option Nat):Int:=o.elim 0 (fun i=>(i:Int))
def MapP (w:World) (b n:Nat) (p:Int->Int->Option Nat):Prop:=
 ∃D:DataW Unit,w.ownsMap Tryz.prog 254 (plainElem Tryz.prog 3) b n D/\∀u v,In6 u->In6 v->Maps.has D (Rf u v)=(p u v).isSome/\D.atKey (Rf u v) (.lit (.int .i64 0))=.lit (.int .i64 (Iw (p u v)))
variable {w w':World} {b n:Nat} {p:Int->Int->Option Nat}
theorem MapP.lt (h:MapP w b n p):b<w.heap.size:=let ⟨_,k,_⟩:=h;k.lt
theorem MapP.mono (h:MapP w b n p) {n':Nat} (hn:n<=n'):MapP w b n' p:=let ⟨D,k,r⟩:=h;⟨D,k.mono hn,r⟩
theorem MapP.eq (h:MapP w b n p) (he:w'.heap[b]? =w.heap[b]?):MapP w' b n p:=by
 obtain ⟨D,⟨es,clock,hb,r⟩,q⟩:=h;exact ⟨D,⟨es,clock,he.trans hb,r⟩,q⟩
theorem MapP.go (h:MapP w b n p) (hb:Below w.heap.size w w'):MapP w' b n p:=h.eq (hb.block b h.lt)
theorem MapP.off {X:Nat->Prop} (h:MapP w b n p) (ho:OffX X w w') (hn:¬X b):MapP w' b n p:=h.eq (ho.block b h.lt hn)
theorem MapP.new (w:World):MapP (w.alloc (.map #[] 0)) w.heap.size 0 (fun _ _=>none):=
 ⟨.map [],World.ownsMap_made w _ _ _,fun u _ _ _=>⟨rfl,rfl⟩⟩
theorem Ai0 (w:World):(zeroValue 3).run Tryz.prog w=.ok (.int .i64 0) w:=by kernel_rfl
theorem MapP.look (h:MapP w b n p) {u v:Int} (hu:In6 u) (hv:In6 v):(Instr.lookup 180 (.map (some b)) (.agg #[.int .i64 u,.int .i64 v]) true).run Tryz.prog w=.ok (.tuple #[.int .i64 (Iw (p u v)),.bool (p u v).isSome]) w:=by
 obtain ⟨D,k,q⟩:=h;obtain ⟨x,ps,h1,h2⟩:=k.look_ok mq_keyed Rl (Ai0 w) (zd:=.lit (.int .i64 0)) (zp:=[]) (plainElem_int Tryz.underlying3 (by decide)) (Jp hu hv);obtain ⟨q1,q2⟩:=q u v hu hv;rw [q2] at h2;obtain ⟨c,rfl,hc,_⟩:=plainElem_int_inv Tryz.underlying3 h2;simp only [Prod.mk.injEq,DataW.lit.injEq,Lit.int.injEq,true_and] at hc;rw [h1,q1,hc.1]
theorem MapP.get (h:MapP w b n p) {u v:Int} (hu:In6 u) (hv:In6 v):(Instr.lookup 180 (.map (some b)) (.agg #[.int .i64 u,.int .i64 v]) false).run Tryz.prog w=.ok (.int .i64 (Iw (p u v))) w:=by
 obtain ⟨D,k,q⟩:=h;obtain ⟨x,ps,h1,h2⟩:=k.lookup mq_keyed Rl (Ai0 w) (zd:=.lit (.int .i64 0)) (zp:=[]) (plainElem_int Tryz.underlying3 (by decide)) (Jp hu hv);obtain ⟨q1,q2⟩:=q u v hu hv;rw [q2] at h2;obtain ⟨c,rfl,hc,_⟩:=plainElem_int_inv Tryz.underlying3 h2;simp only [Prod.mk.injEq,DataW.lit.injEq,Lit.int.injEq,true_and] at hc;rw [h1,hc.1]
theorem MapP.put (h:MapP w b n p) (hn:n<1000000000000000000) {u v:Int} {i:Nat} (hu:In6 u) (hv:In6 v) (hi:i<1000000000000000000):
  ∃w',(Instr.mapUpdate 180 (.map (some b)) (.agg #[.int .i64 u,.int .i64 v]) (.int .i64 (i:Int))).run Tryz.prog w=.ok () w'/\MapP w' b (n+1) (fun a c=>if a=u/\c=v then some i else p a c)/\OffX (· =b) w w'/\w'.heap.size=w.heap.size/\∀a,w'.frozen? a=w.frozen? a:=by
 obtain ⟨D,k,q⟩:=h;obtain ⟨w',h1,h2,h3⟩:=k.store (H:=Unit) mq_keyed Rl (by unfold maxLen;omega) (val:=.int .i64 (i:Int)) (d:=.lit (.int .i64 (i:Int))) (ps:=[]) (Jp hu hv) (plainElem_int Tryz.underlying3 (Rx (by constructor<;>omega)));have hg:=h3.grown;have hz:w'.heap.size=w.heap.size:=by
  obtain ⟨es,clock,es',clock',hb,rfl⟩:=h3;simp [ChangeMaps.setBlock]
 refine ⟨w',h1,⟨_,h2,fun a c ha hc=>?_⟩,⟨hg.os,hg.tape,hg.output,hg.size,fun j hj hjb=>hg.block j hj (fun e=>hjb (Bm2 e))⟩,hz,h3.frozen⟩;obtain ⟨q1,q2⟩:=q a c ha hc
 show _=(if a=u/\c=v then some i else p a c).isSome/\_=DataW.lit (Lit.int IntKind.i64 (Iw (if a=u/\c=v then some i else p a c)))
 by_cases e:a=u/\c=v
 ·obtain ⟨rfl,rfl⟩:=e
  rw [if_pos ⟨rfl,rfl⟩,Maps.has_put_same k.isMap (k:=Rf a c) trivial,Maps.atKey_put_same k.isMap (k:=Rf a c) trivial];exact ⟨rfl,rfl⟩
 ·rw [if_neg e,Maps.has_put_other (fun h=>e (Ui ha hc hu hv h)),Maps.atKey_put_other (fun h=>e (Ui ha hc hu hv h))]
  exact ⟨q1,q2⟩
end
section
open Go Go.Proofs Go.RowKit Go.Shelf Hp Ch
def Da (x:SC):List Value:=[.int .i64 x.f,.int .i64 x.t,.int .u64 x.w,.int .i64 x.e,.int .i64 x.a,.int .i64 x.b]
def Bh:List SC->List Value
 |[]=>[]
 |x::l=>Da x++Bh l
theorem Va:∀l,(Bh l).length=l.length*6
 |[]=>rfl
 |x::l=>by rw [Bh];simp [Va l,Da];omega
theorem Mz:∀(l m:List SC),Bh (l++m)=Bh l++Bh m
 |[],m=>rfl
 |x::l,m=>by rw [List.cons_append,Bh,Bh,Mz l m,Bn6]
theorem Kl:∀(l:List SC) (k:Nat) (h:k<l.length) (j:Nat),j<6->(Bh l)[k*6+j]? =(Da l[k])[j]?
 |x::l,0,_,j,hj=>by
  rw [Bh,Bn2 (by simp [Da];omega)];simp
 |x::l,k+1,h,j,hj=>by
  have:=Kl l k (by simpa using h) j hj;rw [Bh,Bn1 (by simp [Da];omega)];rw [show (k+1)*6+j-(Da x).length=k*6+j by simp [Da];omega];exact this
structure CS where
 cb:Nat
 ob:Nat
 gb:Nat
 mb:Nat
 db:Nat
 cO:Nat
 cG:Nat
 cD:Nat
 hops:Int
 settles:Int
 vr:Value
 vS:Value
 rows:List Value
 c:CoreD
 gone:List Bool
 dep:List Int
 nb:Nat
abbrev Bo:Value:=.slice none 0 0
def CS.blk (s:CS):Nat->Option Nat
 |0=>some s.cb
 |1=>some s.ob
 |2=>some s.gb
 |3=>some s.mb
 |4=>some s.db
 |5=>s.vS.ownBlock
 |i+6=>(s.rows.getD i Bo).ownBlock
def CS.X (s:CS) (k:Nat):Prop:=∃i,s.blk i=some k
abbrev CS.n (s:CS):Nat:=s.c.O.length
def CS.cells (s:CS):List Value:=[.slice (some ⟨s.ob,0,none⟩) s.n s.cO,.slice (some ⟨s.gb,0,none⟩) s.n s.cG,.map (some s.mb),s.vS,.int .i64 s.hops,.int .i64 s.settles,s.vr,.slice (some ⟨s.db,0,none⟩) s.n s.cD]
structure CoreW (w:World) (base:Nat) (s:CS):Prop where
 re:PB w s.cb s.cells
 out:w.ownsRow base 247 1 (.slice (some ⟨s.ob,0,none⟩) s.n s.cO) s.n s.rows
 gon:w.ownsRow base 4 1 (.slice (some ⟨s.gb,0,none⟩) s.n s.cG) s.n (s.gone.map Jb)
 dp:w.ownsRow base 3 1 (.slice (some ⟨s.db,0,none⟩) s.n s.cD) s.n (s.dep.map Ai)
 mp:MapP w s.mb s.nb s.c.p
 ss:w.ownsRow base 187 6 s.vS s.c.S.length (Bh s.c.S)
 row:∀u,w.ownsRow base 253 2 (s.rows.getD u Bo) (s.c.O.getD u []).length (Aq (s.c.O.getD u []))
 ge:∀i k,s.blk i=some k->base<=k/\k<w.heap.size
 sep:∀i j k,i≠j->s.blk i=some k->s.blk j≠some k
variable {w w':World} {base:Nat} {s:CS}
theorem CoreW.lens (h:CoreW w base s):s.rows.length=s.n/\s.gone.length=s.n/\s.dep.length=s.n:=by
 have h1:=h.out.1;have h2:=h.gon.1;have h3:=h.dp.1;simp at h1 h2 h3;exact ⟨h1,h2,h3⟩
theorem Ak {w w':World} {base size n:Nat} {e:TypeId} {v:Value} {xs:List Value} (h:w.ownsRow base e size v n xs) (he:∀k,v.ownBlock=some k->w'.heap[k]? =w.heap[k]?):w'.ownsRow base e size v n xs:=by
 refine ⟨h.1,?_⟩
 rcases h.2 with h2|⟨g,cap,cur,hv,hb,hg,r⟩
 ·exact .inl h2
 ·exact .inr ⟨g,cap,cur,hv,hb,(he g (by rw [hv];rfl)).trans hg,r⟩
theorem CoreW.off {X:Nat->Prop} (h:CoreW w base s) (ho:OffX X w w') (hX:∀k,s.X k->¬X k):CoreW w' base s:=by
 have hk:∀i k,s.blk i=some k->w'.heap[k]? =w.heap[k]?:=fun i k hi=>ho.block k (h.ge i k hi).2 (hX k ⟨i,hi⟩);exact ⟨h.re.eq (hk 0 _ rfl),Ak h.out (fun k e=>hk 1 k e),Ak h.gon (fun k e=>hk 2 k e),Ak h.dp (fun k e=>hk 4 k e),h.mp.eq (hk 3 _ rfl),Ak h.ss (fun k e=>hk 5 k e),fun u=>Ak (h.row u) (fun k e=>hk (u+6) k e),
  fun i k hi=>⟨(h.ge i k hi).1,by have:=(h.ge i k hi).2;have:=ho.size;omega⟩,h.sep⟩
theorem CoreW.go (h:CoreW w base s) (hb:Below w.heap.size w w'):CoreW w' base s:=h.off (X:=fun _=>False) (.of_below hb) (fun _ _ h=>h)
theorem CoreW.map (h:CoreW w base s) {p:Int->Int->Option Nat} {nb:Nat} (hm:MapP w' s.mb nb p) (ho:OffX (· =s.mb) w w'):CoreW w' base { s with c:=⟨s.c.O,p,s.c.S⟩,nb:=nb }:=by
 have hk:∀i k,i≠3->s.blk i=some k->w'.heap[k]? =w.heap[k]?:=fun i k hi hb=>ho.block k (h.ge i k hb).2 (fun e=>h.sep i 3 k hi hb (by rw [e];rfl));exact ⟨h.re.eq (hk 0 _ (by omega) rfl),Ak h.out (fun k e=>hk 1 k (by omega) e),Ak h.gon (fun k e=>hk 2 k (by omega) e),Ak h.dp (fun k e=>hk 4 k (by omega) e),hm,Ak h.ss (fun k e=>hk 5 k (by omega) e),fun u=>Ak (h.row u) (fun k e=>hk (u+6) k (by omega) e),
  fun i k hi=>⟨(h.ge i k hi).1,by have:=(h.ge i k hi).2;have:=ho.size;omega⟩,h.sep⟩
theorem Ah1 {f f':Nat->Option Nat} {i0 N:Nat} (hsep:∀i j k,i≠j->f i=some k->f j≠some k) (hlt:∀i k,f i=some k->k<N) (hne:∀i,i≠i0->f' i=f i) (hi0:f' i0=f i0\/∃g,f' i0=some g/\N<=g):
  ∀i j k,i≠j->f' i=some k->f' j≠some k:=by
 intro i j k hij hi hj
 by_cases e1:i=i0
 ·subst e1
  rw [hne j (Ne.symm hij)] at hj
  rcases hi0 with e|⟨g,e,hg⟩
  ·rw [e] at hi
   exact hsep i j k hij hi hj
  ·rw [e] at hi
   cases hi
   have:=hlt _ _ hj;omega
 ·rw [hne i e1] at hi
  by_cases e2:j=i0
  ·subst e2
   rcases hi0 with e|⟨g,e,hg⟩
   ·rw [e] at hj
    exact hsep i j k hij hi hj
   ·rw [e] at hj
    cases hj
    have:=hlt _ _ hi;omega
  ·rw [hne j e2] at hj
   exact hsep i j k hij hi hj
theorem Fv {W:World} {a:Addr} {v:Value} {k:Nat} (h:k≠a.block):(W.setCell a v).heap[k]? =W.heap[k]?:=Below.heap_setCell _ _ _ _ h
theorem CoreW.sapp (h:CoreW w base s) {v':Value} {S':List SC} (hown:w'.ownsRow base 187 6 v' S'.length (Bh S')) (ho:OffX (fun k=>s.vS.ownBlock=some k) w w') (hb:v'.ownBlock=s.vS.ownBlock\/∃g,v'.ownBlock=some g/\w.heap.size<=g):
  CoreW (w'.setCell ⟨s.cb,3,none⟩ v') base { s with vS:=v',c:=⟨s.c.O,s.c.p,S'⟩ }:=by
 have hk:∀i k,i≠5->s.blk i=some k->w'.heap[k]? =w.heap[k]?:=fun i k hi hb=>ho.block k (h.ge i k hb).2 (fun e=>h.sep i 5 k hi hb e);have hk2:∀i k,i≠5->i≠0->s.blk i=some k->(w'.setCell ⟨s.cb,3,none⟩ v').heap[k]? =w.heap[k]?:=fun i k hi h0 hb=>(Fv (fun e=>h.sep 0 i k (Ne.symm h0) (by rw [show k=s.cb from e];rfl) hb)).trans (hk i k hi hb);have hne:∀i,i≠5->CS.blk { s with vS:=v',c:=⟨s.c.O,s.c.p,S'⟩ } i=s.blk i:=by
  intro i hi
  match i with
  |0|1|2|3|4=>rfl
  |5=>exact absurd rfl hi
  |i+6=>rfl
 have hvc:∀k,v'.ownBlock=some k->k≠s.cb:=by
  rintro k hk3 rfl
  rcases hb with e|⟨g,e,hg⟩
  ·exact h.sep 0 5 s.cb (by omega) rfl (by show s.vS.ownBlock=_;rw [<-e];exact hk3)
  ·rw [e] at hk3
   cases hk3
   have:=(h.ge 0 s.cb rfl).2;omega
 refine ⟨?_,Ak h.out (fun k e=>hk2 1 k (by omega) (by omega) e),Ak h.gon (fun k e=>hk2 2 k (by omega) (by omega) e),Ak h.dp (fun k e=>hk2 4 k (by omega) (by omega) e),h.mp.eq (hk2 3 _ (by omega) (by omega) rfl),Ak hown (fun k e=>Fv (hvc k e)),
  fun u=>Ak (h.row u) (fun k e=>hk2 (u+6) k (by omega) (by omega) e),?_,Ah1 h.sep (fun i k hi=>(h.ge i k hi).2) hne hb⟩
 ·exact (h.re.eq (hk 0 _ (by omega) rfl)).set 3 v'
 ·intro i k hi
  by_cases e:i=5
  ·subst e
   have:=hown.lt k hi;exact ⟨this.1,by rw [World.size_setCell];exact this.2⟩
  ·rw [hne i e] at hi
   have:=h.ge i k hi;exact ⟨this.1,by rw [World.size_setCell];have:=ho.size;omega⟩
theorem CoreW.rset (h:CoreW w base s) {v':Value} {u:Nat} {r':List (Int×Int)} (hu:u<s.n) (hown:w'.ownsRow base 253 2 v' r'.length (Aq r')) (ho:OffX (fun k=>(s.rows.getD u Bo).ownBlock=some k) w w')
  (hb:v'.ownBlock=(s.rows.getD u Bo).ownBlock\/∃g,v'.ownBlock=some g/\w.heap.size<=g):
  CoreW (w'.setCell ⟨s.ob,u,none⟩ v') base { s with rows:=s.rows.set u v',c:=⟨s.c.O.set u r',s.c.p,s.c.S⟩ }:=by
 obtain ⟨l1,l2,l3⟩:=h.lens;have hn:CS.n { s with rows:=s.rows.set u v',c:=⟨s.c.O.set u r',s.c.p,s.c.S⟩ }=s.n:=Bk4;have hk:∀i k,i≠u+6->s.blk i=some k->w'.heap[k]? =w.heap[k]?:=fun i k hi hb=>ho.block k (h.ge i k hb).2 (fun e=>h.sep i (u+6) k hi hb e);have hk2:∀i k,i≠u+6->i≠1->s.blk i=some k->(w'.setCell ⟨s.ob,u,none⟩ v').heap[k]? =w.heap[k]?:=fun i k hi h0 hb=>(Fv (fun e=>h.sep 1 i k (Ne.symm h0) (by rw [show k=s.ob from e];rfl) hb)).trans (hk i k hi hb);have hgd:∀i,(s.rows.set u v').getD i Bo=if i=u then v' else s.rows.getD i Bo:=fun i=>Eg _ _ _ _ _ (by omega)
 have hgO:∀i,(s.c.O.set u r').getD i []=if i=u then r' else s.c.O.getD i []:=fun i=>Eg _ _ _ _ _ hu
 have hne:∀i,i≠u+6->CS.blk { s with rows:=s.rows.set u v',c:=⟨s.c.O.set u r',s.c.p,s.c.S⟩ } i=s.blk i:=by
  intro i hi
  match i with
  |0|1|2|3|4|5=>rfl
  |i+6=>
   show ((s.rows.set u v').getD i Bo).ownBlock=(s.rows.getD i Bo).ownBlock
   rw [hgd,if_neg (by omega)]
 have hu6:CS.blk { s with rows:=s.rows.set u v',c:=⟨s.c.O.set u r',s.c.p,s.c.S⟩ } (u+6)=v'.ownBlock:=by
  show ((s.rows.set u v').getD u Bo).ownBlock=_
  rw [hgd,if_pos rfl]
 have hvc:∀k,v'.ownBlock=some k->k≠s.ob:=by
  rintro k hk3 rfl
  rcases hb with e|⟨g,e,hg⟩
  ·exact h.sep 1 (u+6) s.ob (by omega) rfl (by show (s.rows.getD u Bo).ownBlock=_;rw [<-e];exact hk3)
  ·rw [e] at hk3
   cases hk3
   have:=(h.ge 1 s.ob rfl).2;omega
 refine ⟨?_,?_,?_,?_,h.mp.eq (hk2 3 _ (by omega) (by omega) rfl),Ak h.ss (fun k e=>hk2 5 k (by omega) (by omega) e),?_,?_,Ah1 h.sep (fun i k hi=>(h.ge i k hi).2) hne (by rw [hu6];exact hb)⟩
 ·have:=h.re.eq (hk2 0 _ (by omega) (by omega) rfl)
  unfold CS.cells at this ⊢;rw [hn];exact this
 ·rw [hn]
  exact (((Ak h.out (fun k e=>hk 1 k (by omega) e):w'.ownsRow base _ 1 _ _ s.rows)).stored u v').1
 ·rw [hn]
  exact Ak h.gon (fun k e=>hk2 2 k (by omega) (by omega) e)
 ·rw [hn]
  exact Ak h.dp (fun k e=>hk2 4 k (by omega) (by omega) e)
 ·intro i
  show World.ownsRow _ base _ 2 ((s.rows.set u v').getD i Bo) ((s.c.O.set u r').getD i []).length (Aq ((s.c.O.set u r').getD i []))
  rw [hgd,hgO]
  by_cases e:i=u
  ·rw [if_pos e,if_pos e]
   exact Ak hown (fun k e=>Fv (hvc k e))
  ·rw [if_neg e,if_neg e]
   exact Ak (h.row i) (fun k e2=>hk2 (i+6) k (by omega) (by omega) e2)
 ·intro i k hi
  by_cases e:i=u+6
  ·subst e
   rw [hu6] at hi;have:=hown.lt k hi;exact ⟨this.1,by rw [World.size_setCell];exact this.2⟩
  ·rw [hne i e] at hi
   have:=h.ge i k hi;exact ⟨this.1,by rw [World.size_setCell];have:=ho.size;omega⟩
theorem CoreW.gset (h:CoreW w base s) (u:Nat) (b:Bool):CoreW (w.setCell ⟨s.gb,u,none⟩ (.bool b)) base { s with gone:=s.gone.set u b }:=by
 have hk2:∀i k,i≠2->s.blk i=some k->(w.setCell ⟨s.gb,u,none⟩ (.bool b)).heap[k]? =w.heap[k]?:=fun i k h0 hb=>Fv (fun e=>h.sep 2 i k (Ne.symm h0) (by rw [show k=s.gb from e];rfl) hb);refine ⟨h.re.eq (hk2 0 _ (by omega) rfl),Ak h.out (fun k e=>hk2 1 k (by omega) e),?_,Ak h.dp (fun k e=>hk2 4 k (by omega) e),h.mp.eq (hk2 3 _ (by omega) rfl),Ak h.ss (fun k e=>hk2 5 k (by omega) e),fun u=>Ak (h.row u) (fun k e=>hk2 (u+6) k (by omega) e),
  fun i k hi=>by rw [World.size_setCell];exact h.ge i k hi,h.sep⟩
 have:=(h.gon.stored u (.bool b)).1
 show World.ownsRow _ _ _ _ _ _ ((s.gone.set u b).map Jb)
 rw [List.map_set];exact this
theorem CoreW.dset (h:CoreW w base s) (u:Nat) (x:Int):CoreW (w.setCell ⟨s.db,u,none⟩ (.int .i64 x)) base { s with dep:=s.dep.set u x }:=by
 have hk2:∀i k,i≠4->s.blk i=some k->(w.setCell ⟨s.db,u,none⟩ (.int .i64 x)).heap[k]? =w.heap[k]?:=fun i k h0 hb=>Fv (fun e=>h.sep 4 i k (Ne.symm h0) (by rw [show k=s.db from e];rfl) hb);refine ⟨h.re.eq (hk2 0 _ (by omega) rfl),Ak h.out (fun k e=>hk2 1 k (by omega) e),Ak h.gon (fun k e=>hk2 2 k (by omega) e),?_,h.mp.eq (hk2 3 _ (by omega) rfl),Ak h.ss (fun k e=>hk2 5 k (by omega) e),fun u=>Ak (h.row u) (fun k e=>hk2 (u+6) k (by omega) e),
  fun i k hi=>by rw [World.size_setCell];exact h.ge i k hi,h.sep⟩
 have:=(h.dp.stored u (.int .i64 x)).1
 show World.ownsRow _ _ _ _ _ _ ((s.dep.set u x).map Ai)
 rw [List.map_set];exact this
theorem CoreW.net (h:CoreW w base s):NetW w (.slice (some ⟨s.ob,0,none⟩) s.n s.cO) (.slice (some ⟨s.gb,0,none⟩) s.n s.cG) s.c.O s.gone:=by
 obtain ⟨l1,l2,l3⟩:=h.lens;obtain ⟨a1,c1,e1,k1⟩:=Cel.of_owns h.out;obtain ⟨a2,c2,e2,k2⟩:=Cel.of_owns h.gon
 cases e1
 cases e2
 refine ⟨_,_,_,_,s.rows,rfl,by rw [l2],k1,l1,k2,?_⟩;intro i hi;have hr:=h.row i;have hi2:i<s.rows.length:=by rw [l1];exact hi
 have eO:s.c.O.getD i []=s.c.O[i]:=by rw [Bj9,Bj8 hi];rfl
 have eR:s.rows.getD i Bo=s.rows[i]:=by rw [Bj9,Bj8 hi2];rfl
 rw [eO,eR] at hr;obtain ⟨a,c,e,k⟩:=Cel.of_owns hr;exact ⟨a,c,by rw [Bj8 hi2,e],k⟩
end
end Go.Proofs.YteaaapdjplbljaaGreat
