/- Walks over graphs: which may be, nodes, edges; are all edges of a graph. Walks: the reference's Right and edges. The core with which a contraction begins, in plain Lean: the edges of a graph, each added. -/
import Derived.Test.YtkdomobedfhhgaaGreatProg
import Derived.Test.YtkdomobedfhhgaaGreatQm01
import Derived.Test.YtkdomobedfhhgaaGreatQm10
set_option linter.unusedVariables false
set_option linter.unusedSimpArgs false
set_option linter.unnecessarySimpa false
section
namespace Go.Proofs.YtkdomobedfhhgaaGreat
open Go.Proofs Go.RowKit Go.Shelf
structure EdgeD where
 f:Int
 t:Int
 w:Int
 deriving DecidableEq
structure GD where
 n:Int
 es:List EdgeD
abbrev encE (e:EdgeD):Value:=.agg #[.int .i64 e.f,.int .i64 e.t,.int .u64 e.w]
def flat:List EdgeD→List Value
 |[]=>[]
 |e::r=>.int .i64 e.f::.int .i64 e.t::.int .u64 e.w::flat r
theorem flat_length:∀es:List EdgeD,(flat es).length=es.length*3
 |[]=>rfl
 |e::r=>by simp [flat,flat_length r];omega
theorem flat_get:∀(es:List EdgeD) (i:Nat) (h:i<es.length),(flat es)[i*3]? =some (.int .i64 es[i].f)∧(flat es)[i*3+1]? =some (.int .i64 es[i].t)∧(flat es)[i*3+2]? =some (.int .u64 es[i].w)
 |e::r,0,_=>⟨rfl,rfl,rfl⟩
 |e::r,i+1,h=>by
  have ih:=flat_get r i (by simpa using h)
  have e1:(i+1)*3=i*3+1+1+1:=by omega
  simp only [e1,flat,List.getElem?_cons_succ,List.getElem_cons_succ]
  exact ih
theorem flat_append:∀a b:List EdgeD,flat (a++b)=flat a++flat b
 |[],b=>rfl
 |e::r,b=>by simp [flat,flat_append r b]
theorem Cel.edge {w:World} {ao:Option Addr} {es:List EdgeD} (h:Cel w ao (flat es)) {i:Nat} (hi:i<es.length):
  ∃b o,ao=some ⟨b,o,none⟩∧w.cell? ⟨b,o+i*3,none⟩=some (.int .i64 es[i].f)∧w.cell? ⟨b,o+i*3+1,none⟩=some (.int .i64 es[i].t)∧w.cell? ⟨b,o+i*3+2,none⟩=some (.int .u64 es[i].w):=by
 obtain ⟨h1,h2,h3⟩:=flat_get es i hi
 obtain ⟨b,o,e,c1⟩:=h _ _ h1
 obtain ⟨b',o',e',c2⟩:=h _ _ h2
 obtain ⟨b'',o'',e'',c3⟩:=h _ _ h3
 rw [e] at e' e''
 cases e'
 cases e''
 exact ⟨b,o,e,c1,by rw [Nat.add_assoc];exact c2,by rw [Nat.add_assoc];exact c3⟩
def nodeB (n v:Int):Bool:=decide (0≤v)&&decide (v<n)
def edgeB (m:Nat) (e:Int):Bool:=decide (0≤e)&&decide (e<(m:Int))
def weightB (w:Int):Bool:=decide (1≤w)&&decide (w≤4294967296)
def looseB (n:Int) (e:EdgeD):Bool:=!nodeB n e.f||!nodeB n e.t||e.f==e.t
def rightG (g:GD):Int:=
 if g.n<1∨4096<g.n then 2 else if 16384<g.es.length then 5 else if g.es.any (looseB g.n) then 7 else if g.es.any (fun e=>!weightB e.w) then 2 else 0
theorem gweight_any (x:Int) (w:World):Calls Tryz.prog 149 #[.int .u64 x] w fun e w'=>e=.returned (.bool (weightB x))∧w=w':=by
 unfold weightB
 go_enter Tryz.func149,Tryz.ntmps149
 go_wp2
 all_goals
  go_ret
  exact ⟨by simp [*]<;>omega,rfl⟩
theorem refweight_any (x:Int) (w:World):Calls Tryz.prog 93 #[.int .u64 x] w fun e w'=>e=.returned (.bool (weightB x))∧w=w':=by
 unfold weightB
 go_enter Tryz.func93,Tryz.ntmps93
 go_wp2
 all_goals
  go_ret
  exact ⟨by simp [*]<;>omega,rfl⟩
theorem gnode_any (g:GD) (ao:Option Addr) (cap:Nat) (v:Int) (w:World):
  Calls Tryz.prog 147 #[.agg #[.int .i64 g.n,.slice ao g.es.length cap],.int .i64 v] w fun e w'=>e=.returned (.bool (nodeB g.n v))∧Below w.heap.size w w':=by
 unfold nodeB
 go_enter Tryz.func147,Tryz.ntmps147
 go_wp2
 all_goals
  go_ret
  exact ⟨by simp [*]<;>omega,by repeat (first|exact Below.refl _ _|refine Below.al ?_ _|refine Below.dr ?_ _|refine Below.drew ?_|assumption|(refine Below.st ?_ (by assumption)))⟩
theorem refnode_any (g:GD) (ao:Option Addr) (cap:Nat) (v:Int) (w:World):
  Calls Tryz.prog 92 #[.agg #[.int .i64 g.n,.slice ao g.es.length cap],.int .i64 v] w fun e w'=>e=.returned (.bool (nodeB g.n v))∧Below w.heap.size w w':=by
 unfold nodeB
 go_enter Tryz.func92,Tryz.ntmps92
 go_wp2
 all_goals
  go_ret
  exact ⟨by simp [*]<;>omega,by repeat (first|exact Below.refl _ _|refine Below.al ?_ _|refine Below.dr ?_ _|refine Below.drew ?_|assumption|(refine Below.st ?_ (by assumption)))⟩
set_option maxHeartbeats 400000 in
theorem IndexFunc_edge (g:Nat) (cb:Array Value) (p:EdgeD→Bool) (ao:Option Addr) (cap:Nat) (l:List EdgeD) (w:World) (hen:Enters Tryz.prog g)
  (hp:PredOn Tryz.prog g cb encE p l w) (hl:l.length≤9223372036854775807) (hc:Cel w ao (flat l)):
  Calls Tryz.prog 175 #[.slice ao l.length cap,.func (.func g) #[] cb] w fun e w'=>e=.returned (.int .i64 (idxI p l))∧Below w.heap.size w w':=by
 have HP:=Lib.hid hp
 have HC:=Lib.hid hc
 clear hp hc
 unfold Enters at hen
 go_enter Tryz.func175,Tryz.ntmps175
 go_wp2
 go_loopg [8] l.length (fun g i wr=>∃k:Nat,k≤l.length∧l.length-k≤g∧i=.int .i64 k∧Aside (Below w.heap.size w wr)∧Aside (∀j (h:j<l.length),j<k→p l[j]=false))
 case atStart=>exact ⟨0,Nat.zero_le _,by omega,rfl,Below.refl _ _,fun j _ h=>absurd h (Nat.not_lt_zero _)⟩
 case round=>
  obtain ⟨k,hk,hg,rfl,HB,HA⟩:=hrel
  by_cases hlt:k<l.length
  ·obtain ⟨b,o,hao,hc1,hc2,hc3⟩:=(HC.out.below HB.out (Nat.le_refl _)).edge hlt
   have HQ:=Lib.hid (HP.out wr l[k] HB.out (List.getElem_mem hlt))
   have HN:=Lib.hid (fun h:p l[k]=true=>idxI_hit p l k hlt h (fun j h1 h2=>HA.out j h1 h2))
   have HM:=Lib.hid (fun h:p l[k]=false=>(fun j (h1:j<l.length) (h2:j<k+1)=>(by
    by_cases e:j=k
    ·subst e;exact h
    ·exact HA.out j h1 (by omega):p l[j]=false)))
   generalize hx:l[k]=x at*
   clear hx
   subst hao
   cases hq:p x with
   |true=>
    have HN2:=Lib.hid (HN.out hq)
    have HQ2:=Lib.hid (hq▸HQ.out)
    clear hq
    go_wp2_with (go_at_fn g;refine HQ2.out.mono ?_;rintro e w1 ⟨rfl,hb1⟩)
    go_ret
    exact ⟨by rw [HN2.out];rfl,HB.out.trans (hb1.mono (by have:=HB.out.size;omega))⟩
   |false=>
    have HN2:=Lib.hid (HM.out hq)
    have HQ2:=Lib.hid (hq▸HQ.out)
    clear hq
    go_wp2_with (go_at_fn g;refine HQ2.out.mono ?_;rintro e w1 ⟨rfl,hb1⟩)
    go_roundg (l.length-(k+1))
    case measure=>omega
    case rel=>exact ⟨k+1,by omega,by omega,by go_num,HB.out.trans (hb1.mono (by have:=HB.out.size;omega)),HN2.out⟩
  ·obtain rfl:k=l.length:=by omega
   have HN:=Lib.hid (idxI_miss p l (fun j h=>HA.out j h h))
   go_wp2
   go_ret
   exact ⟨by rw [HN.out];rfl,HB.out⟩
theorem ContainsFunc_edge (g:Nat) (cb:Array Value) (p:EdgeD→Bool) (ao:Option Addr) (cap:Nat) (l:List EdgeD) (w:World) (hen:Enters Tryz.prog g)
  (hp:PredOn Tryz.prog g cb encE p l w) (hl:l.length≤9223372036854775807) (hc:Cel w ao (flat l)):
  Calls Tryz.prog 150 #[.slice ao l.length cap,.func (.func g) #[] cb] w fun e w'=>e=.returned (.bool (l.any p))∧Below w.heap.size w w':=by
 have HC:=Lib.hid (IndexFunc_edge g cb p ao cap l w hen hp hl hc)
 have HI:=Lib.hid (idxI_any p l)
 clear hp hc hen
 generalize idxI p l=r at*
 go_enter Tryz.func150,Tryz.ntmps150
 go_wp2_with (go_at_call 175;refine HC.out.mono ?_;rintro e w1 ⟨rfl,hb1⟩)
 go_ret
 exact ⟨by rw [←HI.out];rfl,hb1⟩
theorem Right2_any (e:EdgeD) (w:World):Calls Tryz.prog 148 (#[encE e]++#[]) w fun x w'=>x=.returned (.bool (!weightB e.w))∧Below w.heap.size w w':=by
 have HX:=Lib.hid (gweight_any e.w)
 generalize weightB e.w=r at*
 go_enter Tryz.func148,Tryz.ntmps148
 go_wp2_with (go_at_call 149;refine (HX.out _).mono ?_;rintro e w1 ⟨rfl,rfl⟩)
 go_ret
 exact ⟨rfl,by repeat (first|exact Below.refl _ _|refine Below.al ?_ _|refine Below.dr ?_ _|refine Below.drew ?_|assumption|(refine Below.st ?_ (by assumption)))⟩
theorem Right1G_any (g:GD) (ao:Option Addr) (cap B:Nat) (e:EdgeD) (w:World) (h0:w.cell? ⟨B,0,none⟩=some (.int .i64 g.n)) (h1:w.cell? ⟨B,1,none⟩=some (.slice ao g.es.length cap)):
  Calls Tryz.prog 146 (#[encE e]++#[.pointer (some ⟨B,0,none⟩)]) w fun x w'=>x=.returned (.bool (looseB g.n e))∧Below w.heap.size w w':=by
 unfold looseB
 have X1:=Lib.hid (gnode_any g ao cap e.f)
 have X2:=Lib.hid (gnode_any g ao cap e.t)
 have k0:∀o,(w.alloc o).cell? ⟨B,0,none⟩=some (.int .i64 g.n):=fun o=>cell_later (Below.of_al _ o) h0
 have k1:∀o,(w.alloc o).cell? ⟨B,1,none⟩=some (.slice ao g.es.length cap):=fun o=>cell_later (Below.of_al _ o) h1
 cases q1:nodeB g.n e.f with
 |false=>
  rw [q1] at X1
  clear q1
  go_enter Tryz.func146,Tryz.ntmps146
  go_wp2_with (go_at_call 147;refine (X1.out _).mono ?_;rintro e w1 ⟨rfl,hb1⟩)
  go_ret
  exact ⟨rfl,by repeat (first|exact Below.refl _ _|refine Below.al ?_ _|refine Below.dr ?_ _|refine Below.drew ?_|assumption|(refine Below.st ?_ (by assumption)))⟩
 |true=>
  rw [q1] at X1
  clear q1
  cases q2:nodeB g.n e.t with
  |false=>
   rw [q2] at X2
   clear q2
   go_enter Tryz.func146,Tryz.ntmps146
   go_wp2_with fail
   refine (X1.out _).mono ?_
   rintro e w1 ⟨rfl,hb1⟩
   have m0:=cell_later hb1 (k0 _)
   have m1:=cell_later hb1 (k1 _)
   have m2:=cell_later hb1 (show (w.alloc (Obj.cells #[.int .i64 e.f,.int .i64 e.t,.int .u64 e.w] 119)).cell? ⟨w.heap.size,0,none⟩=some (.int .i64 e.f) by go_simp)
   have m3:=cell_later hb1 (show (w.alloc (Obj.cells #[.int .i64 e.f,.int .i64 e.t,.int .u64 e.w] 119)).cell? ⟨w.heap.size,1,none⟩=some (.int .i64 e.t) by go_simp)
   have HB1:=Lib.hid hb1
   go_wp2_with fail
   refine (X2.out _).mono ?_
   rintro e w2 ⟨rfl,hb2⟩
   have n2:=cell_later hb2 m2
   have n3:=cell_later hb2 m3
   go_wp2
   go_ret
   exact ⟨rfl,by repeat (first|exact Below.refl _ _|refine Below.al ?_ _|refine Below.dr ?_ _|refine Below.drew ?_|assumption|(refine Below.st ?_ (by assumption)))⟩
  |true=>
   rw [q2] at X2
   clear q2
   go_enter Tryz.func146,Tryz.ntmps146
   go_wp2_with fail
   refine (X1.out _).mono ?_
   rintro e w1 ⟨rfl,hb1⟩
   have m0:=cell_later hb1 (k0 _)
   have m1:=cell_later hb1 (k1 _)
   have m2:=cell_later hb1 (show (w.alloc (Obj.cells #[.int .i64 e.f,.int .i64 e.t,.int .u64 e.w] 119)).cell? ⟨w.heap.size,0,none⟩=some (.int .i64 e.f) by go_simp)
   have m3:=cell_later hb1 (show (w.alloc (Obj.cells #[.int .i64 e.f,.int .i64 e.t,.int .u64 e.w] 119)).cell? ⟨w.heap.size,1,none⟩=some (.int .i64 e.t) by go_simp)
   have HB1:=Lib.hid hb1
   go_wp2_with fail
   refine (X2.out _).mono ?_
   rintro e w2 ⟨rfl,hb2⟩
   have n2:=cell_later hb2 m2
   have n3:=cell_later hb2 m3
   go_wp2
   go_ret
   exact ⟨rfl,by repeat (first|exact Below.refl _ _|refine Below.al ?_ _|refine Below.dr ?_ _|refine Below.drew ?_|assumption|(refine Below.st ?_ (by assumption)))⟩
theorem rightG_1 {g:GD} (h:g.n<1∨4096<g.n):rightG g=2:=by unfold rightG;rw [if_pos h]
theorem rightG_2 {g:GD} (h1:¬g.n<1) (h1':¬4096<g.n) (h2:16384<g.es.length):rightG g=5:=by unfold rightG;rw [if_neg (by omega),if_pos h2]
theorem rightG_3 {g:GD} (h1:¬g.n<1) (h1':¬4096<g.n) (h2:¬16384<g.es.length) (h3:g.es.any (looseB g.n)=true):rightG g=7:=by
 unfold rightG;rw [if_neg (by omega),if_neg h2,if_pos h3]
theorem rightG_4 {g:GD} (h1:¬g.n<1) (h1':¬4096<g.n) (h2:¬16384<g.es.length) (h3:g.es.any (looseB g.n)=false) (h4:g.es.any (fun e=>!weightB e.w)=true):rightG g=2:=by
 unfold rightG;rw [if_neg (by omega),if_neg h2,if_neg (by simp [h3]),if_pos h4]
theorem rightG_5 {g:GD} (h1:¬g.n<1) (h1':¬4096<g.n) (h2:¬16384<g.es.length) (h3:g.es.any (looseB g.n)=false) (h4:g.es.any (fun e=>!weightB e.w)=false):rightG g=0:=by
 unfold rightG;rw [if_neg (by omega),if_neg h2,if_neg (by simp [h3]),if_neg (by simp [h4])]
set_option maxHeartbeats 1000000 in
theorem gRight_any (g:GD) (ao:Option Addr) (cap:Nat) (w:World) (hl:g.es.length≤9223372036854775807) (hc:Cel w ao (flat g.es)):
  Calls Tryz.prog 113 #[.agg #[.int .i64 g.n,.slice ao g.es.length cap]] w fun e w'=>e=.returned (.int .i64 (rightG g))∧Below w.heap.size w w':=by
 have HC:=Lib.hid hc
 clear hc
 have G1:=Lib.hid (@rightG_1 g)
 have G2:=Lib.hid (@rightG_2 g)
 have G3:=Lib.hid (@rightG_3 g)
 have G4:=Lib.hid (@rightG_4 g)
 have G5:=Lib.hid (@rightG_5 g)
 have hw2:∀o:Obj,o=Obj.cells #[.int .i64 g.n,.slice ao g.es.length cap] 24→PredOn Tryz.prog 146 #[.pointer (some ⟨w.heap.size,0,none⟩)] encE (looseB g.n) g.es (w.alloc o):=by
  rintro o rfl W x hb _
  exact Right1G_any g ao cap w.heap.size x W (cell_later hb (by go_simp)) (cell_later hb (by go_simp))
 have hw3:∀W,PredOn Tryz.prog 148 #[] encE (fun e=>!weightB e.w) g.es W:=fun W W' x _ _=>Right2_any x W'
 have X1:=Lib.hid (ContainsFunc_edge 146 #[.pointer (some ⟨w.heap.size,0,none⟩)] (looseB g.n) ao cap g.es _ (enters_of Tryz.func146 (by kernel_rfl) rfl) (hw2 _ rfl) hl (HC.out.go (Below.of_al _ _)))
 have X2:=Lib.hid (fun W h=>ContainsFunc_edge 148 #[] (fun e=>!weightB e.w) ao cap g.es W (enters_of Tryz.func148 (by kernel_rfl) rfl) (hw3 W) hl h)
 clear hw2 hw3
 generalize rightG g=r at*
 by_cases h1:g.n<1
 ·have HR:=Lib.hid (G1.out (.inl h1))
  go_enter Tryz.func113,Tryz.ntmps113
  go_wp2
  go_ret
  exact ⟨by rw [HR.out];rfl,by repeat (first|exact Below.refl _ _|refine Below.al ?_ _|refine Below.dr ?_ _|refine Below.drew ?_|assumption|(refine Below.st ?_ (by assumption)))⟩
 ·by_cases h2:4096<g.n
  ·have HR:=Lib.hid (G1.out (.inr h2))
   go_enter Tryz.func113,Tryz.ntmps113
   go_wp2
   go_ret
   exact ⟨by rw [HR.out];rfl,by repeat (first|exact Below.refl _ _|refine Below.al ?_ _|refine Below.dr ?_ _|refine Below.drew ?_|assumption|(refine Below.st ?_ (by assumption)))⟩
  ·by_cases h3:16384<g.es.length
   ·have HR:=Lib.hid (G2.out h1 h2 h3)
    go_enter Tryz.func113,Tryz.ntmps113
    go_wp2
    go_ret
    exact ⟨by rw [HR.out];rfl,by repeat (first|exact Below.refl _ _|refine Below.al ?_ _|refine Below.dr ?_ _|refine Below.drew ?_|assumption|(refine Below.st ?_ (by assumption)))⟩
   ·cases q1:g.es.any (looseB g.n) with
    |true=>
     have HR:=Lib.hid (G3.out h1 h2 h3 q1)
     rw [q1] at X1
     clear q1
     go_enter Tryz.func113,Tryz.ntmps113
     go_wp2_with (go_at_call 150;refine X1.out.mono ?_;rintro e w1 ⟨rfl,hb1⟩)
     go_ret
     exact ⟨by rw [HR.out];rfl,by repeat (first|exact Below.refl _ _|refine Below.al ?_ _|refine Below.dr ?_ _|refine Below.drew ?_|assumption|(refine Below.st ?_ (by assumption)))⟩
    |false=>
     rw [q1] at X1
     cases q2:g.es.any (fun e=>!weightB e.w) with
     |true=>
      have HR:=Lib.hid (G4.out h1 h2 h3 q1 q2)
      rw [q2] at X2
      clear q1 q2
      go_enter Tryz.func113,Tryz.ntmps113
      go_wp2_with fail
      refine X1.out.mono ?_
      rintro e w1 ⟨rfl,hb1⟩
      have m0:=cell_later hb1 (show (w.alloc (Obj.cells #[.int .i64 g.n,.slice ao g.es.length cap] 24)).cell? ⟨w.heap.size,1,none⟩=some (.slice ao g.es.length cap) by go_simp)
      go_wp2_with fail
      refine (X2.out _ (HC.out.go (by repeat (first|exact Below.refl _ _|refine Below.al ?_ _|refine Below.dr ?_ _|refine Below.drew ?_|assumption|(refine Below.st ?_ (by assumption)))))).mono ?_
      rintro e w2 ⟨rfl,hb2⟩
      go_wp2
      go_ret
      exact ⟨by rw [HR.out];rfl,by repeat (first|exact Below.refl _ _|refine Below.al ?_ _|refine Below.dr ?_ _|refine Below.drew ?_|assumption|(refine Below.st ?_ (by assumption)))⟩
     |false=>
      have HR:=Lib.hid (G5.out h1 h2 h3 q1 q2)
      rw [q2] at X2
      clear q1 q2
      go_enter Tryz.func113,Tryz.ntmps113
      go_wp2_with fail
      refine X1.out.mono ?_
      rintro e w1 ⟨rfl,hb1⟩
      have m0:=cell_later hb1 (show (w.alloc (Obj.cells #[.int .i64 g.n,.slice ao g.es.length cap] 24)).cell? ⟨w.heap.size,1,none⟩=some (.slice ao g.es.length cap) by go_simp)
      go_wp2_with fail
      refine (X2.out _ (HC.out.go (by repeat (first|exact Below.refl _ _|refine Below.al ?_ _|refine Below.dr ?_ _|refine Below.drew ?_|assumption|(refine Below.st ?_ (by assumption)))))).mono ?_
      rintro e w2 ⟨rfl,hb2⟩
      go_wp2
      go_ret
      exact ⟨by rw [HR.out];rfl,by repeat (first|exact Below.refl _ _|refine Below.al ?_ _|refine Below.dr ?_ _|refine Below.drew ?_|assumption|(refine Below.st ?_ (by assumption)))⟩
end Go.Proofs.YtkdomobedfhhgaaGreat
namespace Go.Proofs.YtkdomobedfhhgaaGreat
open Go.Proofs Go.RowKit Go.Shelf
theorem any_from {α:Type} {p:α→Bool} {l:List α} (h:∀j (h:j<l.length),p l[j]=false):l.any p=false:=by
 rw [List.any_eq_false]
 intro x hx
 obtain ⟨j,hj,rfl⟩:=List.getElem_of_mem hx
 simp [h j hj]
theorem any_at {α:Type} {p:α→Bool} {l:List α} {j:Nat} (hj:j<l.length) (h:p l[j]=true):l.any p=true:=List.any_eq_true.2 ⟨_,List.getElem_mem hj,h⟩
theorem upto_succ {α:Type} {p:α→Bool} {l:List α} {k:Nat} (h:∀j (h:j<l.length),j<k→p l[j]=false) (hk:k<l.length) (hp:p l[k]=false):∀j (h:j<l.length),j<k+1→p l[j]=false:=by
 intro j hj h2
 by_cases e:j=k
 ·subst e;exact hp
 ·exact h j hj (by omega)
theorem looseB_eq (n:Int) (e:EdgeD) {a b c:Bool} (h1:nodeB n e.f=a) (h2:nodeB n e.t=b) (h3:(e.f==e.t)=c):looseB n e=(!a||!b||c):=by unfold looseB;rw [h1,h2,h3]
set_option maxHeartbeats 4000000 in
theorem refRightG_any (g:GD) (ao:Option Addr) (cap:Nat) (w:World) (hl:g.es.length≤9223372036854775807) (hc:Cel w ao (flat g.es)):
  Calls Tryz.prog 41 #[.agg #[.int .i64 g.n,.slice ao g.es.length cap]] w fun e w'=>e=.returned (.int .i64 (rightG g))∧Below w.heap.size w w':=by
 have HC:=Lib.hid hc
 clear hc
 have G1:=Lib.hid (@rightG_1 g)
 have G2:=Lib.hid (@rightG_2 g)
 have G3:=Lib.hid (@rightG_3 g)
 have G4:=Lib.hid (@rightG_4 g)
 have G5:=Lib.hid (@rightG_5 g)
 generalize rightG g=r at*
 by_cases h1:g.n<1
 ·have HR:=Lib.hid (G1.out (.inl h1))
  go_enter Tryz.func41,Tryz.ntmps41
  go_wp2
  go_ret
  exact ⟨by rw [HR.out];rfl,by repeat (first|exact Below.refl _ _|refine Below.al ?_ _|refine Below.dr ?_ _|refine Below.drew ?_|assumption|(refine Below.st ?_ (by assumption)))⟩
 ·by_cases h2:4096<g.n
  ·have HR:=Lib.hid (G1.out (.inr h2))
   go_enter Tryz.func41,Tryz.ntmps41
   go_wp2
   go_ret
   exact ⟨by rw [HR.out];rfl,by repeat (first|exact Below.refl _ _|refine Below.al ?_ _|refine Below.dr ?_ _|refine Below.drew ?_|assumption|(refine Below.st ?_ (by assumption)))⟩
  ·by_cases h3:16384<g.es.length
   ·have HR:=Lib.hid (G2.out h1 h2 h3)
    go_enter Tryz.func41,Tryz.ntmps41
    go_wp2
    go_ret
    exact ⟨by rw [HR.out];rfl,by repeat (first|exact Below.refl _ _|refine Below.al ?_ _|refine Below.dr ?_ _|refine Below.drew ?_|assumption|(refine Below.st ?_ (by assumption)))⟩
   ·have HH:=Lib.hid (And.intro h1 (And.intro h2 h3))
    go_enter Tryz.func41,Tryz.ntmps41
    go_wp2
    obtain ⟨W,hW,c0,c1,hsW⟩:∃W,W=w.alloc (Obj.cells #[.int .i64 g.n,.slice ao g.es.length cap] 24)∧W.cell? ⟨w.heap.size,0,none⟩=some (.int .i64 g.n)∧W.cell? ⟨w.heap.size,1,none⟩=some (.slice ao g.es.length cap)∧w.heap.size<W.heap.size:=⟨_,rfl,by go_simp,by go_simp,by simp⟩
    rw [←hW]
    have HW:=Lib.hid (show Below w.heap.size w W by rw [hW];repeat (first|exact Below.refl _ _|refine Below.al ?_ _|refine Below.dr ?_ _|refine Below.drew ?_|assumption|(refine Below.st ?_ (by assumption))))
    clear hW
    go_loopg [3] g.es.length (fun gg i wr=>∃k:Nat,k≤g.es.length∧g.es.length-k≤gg∧i=.int .i64 k∧Aside (Below W.heap.size W wr)∧Aside (∀j (h:j<g.es.length),j<k→looseB g.n g.es[j]=false))
    case atStart=>exact ⟨0,Nat.zero_le _,by omega,rfl,Below.refl _ _,fun j _ h=>absurd h (Nat.not_lt_zero _)⟩
    case round=>
     obtain ⟨k,hk,hg,rfl,HB,HA⟩:=hrel
     have m0:=cell_later HB.out c0
     have m1:=cell_later HB.out c1
     by_cases hlt:k<g.es.length
     ·have hlt3:(k:Int)<(g.es.length:Int):=by omega
      have hk0:(0:Int)≤(k:Int):=by omega
      obtain ⟨b,o,hao,f1,f2,f3⟩:=((HC.out.go HW.out).go HB.out).edge hlt
      have HN:=Lib.hid (fun h=>upto_succ HA.out hlt h)
      have HY:=Lib.hid (fun h=>@any_at _ (looseB g.n) g.es k hlt h)
      generalize g.es[k]=x at*
      subst hao
      have X1:=Lib.hid (fun p=>refnode_any g (some ⟨b,o,none⟩) cap x.f (ext wr p))
      have X2:=Lib.hid (fun p=>refnode_any g (some ⟨b,o,none⟩) cap x.t (ext wr p))
      have e0:=fun p=>cell_ext p m0
      have e1:=fun p=>cell_ext p m1
      have e2:=fun p=>cell_ext p f1
      have e3:=fun p=>cell_ext p f2
      cases q1:nodeB g.n x.f with
      |false=>
       have HL:=Lib.hid (show looseB g.n x=true by rw [looseB_eq g.n x q1 rfl rfl];rfl)
       rw [q1] at X1
       have HR:=Lib.hid (G3.out h1 h2 h3 (HY.out HL.out))
       clear f1 f2 f3
       go_wp2
       refine wp_region_ext (by kernel_rfl) (by kernel_rfl) ?_
       repeat (go_big_quiet_step (first
        |(go_at_call_of 92 (Value.int .i64 x.f);exact Calls.ext_of (X1.out _))
        |(go_at_call_of 92 (Value.int .i64 x.t);exact Calls.ext_of (X2.out _))))
       refine wpQuiet_nil ?_
       rintro _ ⟨pq,rfl⟩
       have HBq:=Lib.hid (below_ext wr pq)
       generalize ext wr pq=wq at HBq ⊢
       go_wp2
       go_ret
       exact ⟨by rw [HR.out];rfl,(HW.out.st HB.out).st HBq.out⟩
      |true=>
       rw [q1] at X1
       cases q2:nodeB g.n x.t with
       |false=>
        have HL:=Lib.hid (show looseB g.n x=true by rw [looseB_eq g.n x q1 q2 rfl];rfl)
        rw [q2] at X2
        have HR:=Lib.hid (G3.out h1 h2 h3 (HY.out HL.out))
        clear f1 f2 f3
        go_wp2
        refine wp_region_ext (by kernel_rfl) (by kernel_rfl) ?_
        repeat (go_big_quiet_step (first
         |(go_at_call_of 92 (Value.int .i64 x.f);exact Calls.ext_of (X1.out _))
         |(go_at_call_of 92 (Value.int .i64 x.t);exact Calls.ext_of (X2.out _))))
        refine wpQuiet_nil ?_
        rintro _ ⟨pq,rfl⟩
        have HBq:=Lib.hid (below_ext wr pq)
        generalize ext wr pq=wq at HBq ⊢
        go_wp2
        go_ret
        exact ⟨by rw [HR.out];rfl,(HW.out.st HB.out).st HBq.out⟩
       |true=>
        rw [q2] at X2
        cases q3:(x.f==x.t) with
        |true=>
         have HL:=Lib.hid (show looseB g.n x=true by rw [looseB_eq g.n x q1 q2 q3];rfl)
         have HR:=Lib.hid (G3.out h1 h2 h3 (HY.out HL.out))
         clear f1 f2 f3
         go_wp2
         refine wp_region_ext (by kernel_rfl) (by kernel_rfl) ?_
         repeat (go_big_quiet_step (first
          |(go_at_call_of 92 (Value.int .i64 x.f);exact Calls.ext_of (X1.out _))
          |(go_at_call_of 92 (Value.int .i64 x.t);exact Calls.ext_of (X2.out _))))
         refine wpQuiet_nil ?_
         rintro _ ⟨pq,rfl⟩
         have HBq:=Lib.hid (below_ext wr pq)
         generalize ext wr pq=wq at HBq ⊢
         go_wp2
         go_ret
         exact ⟨by rw [HR.out];rfl,(HW.out.st HB.out).st HBq.out⟩
        |false=>
         have HL:=Lib.hid (show looseB g.n x=false by rw [looseB_eq g.n x q1 q2 q3];rfl)
         clear q1 q2 f1 f2 f3
         go_wp2
         refine wp_region_ext (by kernel_rfl) (by kernel_rfl) ?_
         repeat (go_big_quiet_step (first
          |(go_at_call_of 92 (Value.int .i64 x.f);exact Calls.ext_of (X1.out _))
          |(go_at_call_of 92 (Value.int .i64 x.t);exact Calls.ext_of (X2.out _))))
         refine wpQuiet_nil ?_
         rintro _ ⟨pq,rfl⟩
         have HBq:=Lib.hid (below_ext wr pq)
         generalize ext wr pq=wq at HBq ⊢
         go_wp2
         go_roundg (g.es.length-(k+1))
         case measure=>omega
         case rel=>exact ⟨k+1,by omega,by omega,by go_num,HB.out.st HBq.out,HN.out HL.out⟩
     ·obtain rfl:k=g.es.length:=by omega
      have q1:=any_from (fun j h=>HA.out j h h)
      go_wp2
      go_loopg [4] g.es.length (fun gg i wr2=>∃k:Nat,k≤g.es.length∧g.es.length-k≤gg∧i=.int .i64 k∧Aside (Below W.heap.size W wr2)∧Aside (∀j (h:j<g.es.length),j<k→(!weightB g.es[j].w)=false))
      case atStart=>exact ⟨0,Nat.zero_le _,by omega,rfl,HB.out,fun j _ h=>absurd h (Nat.not_lt_zero _)⟩
      case round=>
       clear HB HA m0 m1 hlt hg hk
       have Q1:=Lib.hid q1
       clear q1
       obtain ⟨k,hk,hg,rfl,HB,HA⟩:=hrel
       have m0:=cell_later HB.out c0
       have m1:=cell_later HB.out c1
       by_cases hlt:k<g.es.length
       ·obtain ⟨b,o,hao,f1,f2,f3⟩:=((HC.out.go HW.out).go HB.out).edge hlt
        have HN:=Lib.hid (fun h=>@upto_succ _ (fun e=>!weightB e.w) g.es k HA.out hlt h)
        have HY:=Lib.hid (fun h=>@any_at _ (fun e=>!weightB e.w) g.es k hlt h)
        generalize g.es[k]=x at*
        subst hao
        have X1:=Lib.hid (refweight_any x.w)
        cases q2:(weightB x.w) with
        |true=>
         have HL:=Lib.hid (show (!weightB x.w)=false by rw [q2];rfl)
         rw [q2] at X1
         clear q2
         go_wp2_with (go_at_call 93;refine (X1.out _).mono ?_;rintro e w1 ⟨rfl,rfl⟩)
         go_roundg (g.es.length-(k+1))
         case measure=>omega
         case rel=>exact ⟨k+1,by omega,by omega,by go_num,HB.out,HN.out HL.out⟩
        |false=>
         have HR:=Lib.hid (G4.out HH.out.1 HH.out.2.1 HH.out.2.2 Q1.out (HY.out (show (!weightB x.w)=true by rw [q2];rfl)))
         rw [q2] at X1
         clear q2
         go_wp2_with (go_at_call 93;refine (X1.out _).mono ?_;rintro e w1 ⟨rfl,rfl⟩)
         go_ret
         exact ⟨by rw [HR.out];rfl,HW.out.st HB.out⟩
       ·obtain rfl:k=g.es.length:=by omega
        have HR:=Lib.hid (G5.out HH.out.1 HH.out.2.1 HH.out.2.2 Q1.out (any_from (fun j h=>HA.out j h h)))
        go_wp2
        go_ret
        exact ⟨by rw [HR.out];rfl,HW.out.st HB.out⟩
end Go.Proofs.YtkdomobedfhhgaaGreat
end
section
namespace Go.Proofs.YtkdomobedfhhgaaGreat
open Go.Proofs.YtkdomobedfhhgaaGreat.Ch
def arcG (es:List EdgeD):Int→Int→Int→Prop:=fun u v w=>∃x∈es,x.f=u∧x.t=v∧x.w=w
def edgG (es:List EdgeD):Int→Int→Int→Int→Prop:=fun e u v w=>es[e.toNat]? =some ⟨u,v,w⟩∧e<es.length
def scE (k:Nat) (x:EdgeD):SC:=⟨x.f,x.t,x.w,(k:Int),-1,-1⟩
def core0 (n:Nat):CoreD:=⟨List.replicate n [],fun _ _=>none,[]⟩
def begK (n:Nat) (es:List EdgeD):Nat→CoreD
 |0=>core0 n
 |k+1=>match es[k]? with
  |some x=>addF (begK n es k) (scE k x)
  |none=>begK n es k
structure EdgesOK (n:Nat) (es:List EdgeD):Prop where
 ok:∀x∈es,nodeN n x.f∧nodeN n x.t∧x.f≠x.t∧1≤x.w∧x.w≤4294967296
theorem core0_inv (n:Nat):InvN n (core0 n):=by
 refine ⟨by simp [core0],?_,by simp [core0],by simp [core0],by simp [core0],by simp [core0]⟩
 intro u v w hu
 constructor
 ·intro h
  exfalso
  have:rowO (core0 n).O u=[]:=by
   unfold rowO core0
   rw [List.getD_eq_getElem?_getD,List.getElem?_replicate]
   split<;>rfl
  rw [this] at h
  cases h
 ·rintro ⟨i,x,h,_⟩
  cases h
structure BegI (n:Nat) (es:List EdgeD) (k:Nat):Prop where
 inv:InvN n (begK n es k)
 frm:∀(j:Nat) (x:SC),(begK n es k).S[j]? =some x→∃i y,es[i]? =some y∧x=scE i y
 low:∀i y,i<k→es[i]? =some y→∃x∈(begK n es k).S,x.f=y.f∧x.t=y.t∧x.w≤y.w
 len:(begK n es k).S.length≤k
theorem begI {n:Nat} {es:List EdgeD} (h:EdgesOK n es):∀k,BegI n es k
 |0=>⟨core0_inv n,by intro j x hx;simp [begK,core0] at hx,by intro i y hi;omega,by simp [begK,core0]⟩
 |k+1=>by
  have ih:=begI h k
  cases e:es[k]? with
  |none=>
   have hb:begK n es (k+1)=begK n es k:=by show (match es[k]? with|some x=>_|none=>_)=_;rw [e]
   refine ⟨by rw [hb];exact ih.inv,by rw [hb];exact ih.frm,?_,by rw [hb];exact Nat.le_succ_of_le ih.len⟩
   intro i y hi hy
   rw [hb]
   refine ih.low i y ?_ hy
   have:=(List.getElem?_eq_some_iff.1 hy).1
   have:=List.getElem?_eq_none_iff.1 e
   omega
  |some z=>
   have hb:begK n es (k+1)=addF (begK n es k) (scE k z):=by show (match es[k]? with|some x=>_|none=>_)=_;rw [e]
   have hz:=h.ok z (List.mem_of_getElem? e)
   have hx:nodeN n (scE k z).f∧nodeN n (scE k z).t∧(scE k z).f≠(scE k z).t∧1≤(scE k z).w:=⟨hz.1,hz.2.1,hz.2.2.1,hz.2.2.2.1⟩
   refine ⟨by rw [hb];exact ih.inv.add hx,?_,?_,?_⟩
   ·intro j x hj
    rw [hb] at hj
    rcases addF_S ih.inv (scE k z) with e2|e2
    ·rw [e2] at hj
     exact ih.frm j x hj
    ·rw [e2] at hj
     by_cases hl:j<(begK n es k).S.length
     ·rw [List.getElem?_append_left hl] at hj
      exact ih.frm j x hj
     ·rw [List.getElem?_append_right (by omega)] at hj
      have h0:j-(begK n es k).S.length=0:=by
       have:=(List.getElem?_eq_some_iff.1 hj).1
       simpa using this
      rw [h0] at hj
      simp at hj
      exact ⟨k,z,e,hj.symm⟩
   ·intro i y hi hy
    rw [hb]
    by_cases hik:i=k
    ·subst hik
     rw [e] at hy
     cases hy
     exact addF_low ih.inv (scE i z)
    ·obtain ⟨x,x1,x2⟩:=ih.low i y (by omega) hy
     obtain ⟨j,hj,ej⟩:=List.mem_iff_getElem.1 x1
     have:=addF_old ih.inv (scE k z) (i:=j) (y:=x) (by rw [List.getElem?_eq_getElem hj,ej])
     exact ⟨x,List.mem_of_getElem? this,x2⟩
   ·rw [hb]
    rcases addF_S ih.inv (scE k z) with e2|e2
    ·rw [e2];exact Nat.le_succ_of_le ih.len
    ·rw [e2,List.length_append]
     have:=ih.len
     simp
     omega
theorem begun_core {n:Nat} {es:List EdgeD} (h:EdgesOK n es):Core (arcG es) (edgG es) n [] (begK n es es.length):=by
 have hb:=begI h es.length
 have hA:∀u v w,arcG es u v w→1≤w:=by
  rintro u v w ⟨x,hx,_,_,rfl⟩
  exact (h.ok x hx).2.2.2.1
 refine ⟨hb.inv,Part.start ?_ ?_,?_,?_⟩
 ·rintro u v w ⟨x,hx,rfl,rfl,rfl⟩
  obtain ⟨j,hj,ej⟩:=List.mem_iff_getElem.1 hx
  obtain ⟨i,y,hy,rfl⟩:=hb.frm j x (by rw [List.getElem?_eq_getElem hj,ej])
  have hm:=List.mem_of_getElem? hy
  exact ⟨(h.ok y hm).2.2.1,y,hm,rfl,rfl,rfl⟩
 ·rintro u v w hne ⟨y,hy,rfl,rfl,rfl⟩ hd
  obtain ⟨i,hi,ei⟩:=List.mem_iff_getElem.1 hy
  obtain ⟨x,x1,x2,x3,x4⟩:=hb.low i y hi (by rw [List.getElem?_eq_getElem hi,ei])
  obtain ⟨j,hj,ej⟩:=List.mem_iff_getElem.1 x1
  obtain ⟨i2,z,hz,e⟩:=hb.frm j x (by rw [List.getElem?_eq_getElem hj,ej])
  have hmz:=List.mem_of_getElem? hz
  subst e
  have:=hd.2 z.w (.inr (.one ⟨z,hmz,x2,x3,rfl⟩))
  have hw:z.w≤y.w:=x4
  exact ⟨_,x1,x2,x3,by show z.w=y.w;omega⟩
 ·intro j x hj
  obtain ⟨i,y,hy,rfl⟩:=hb.frm j x hj
  have hl:=(List.getElem?_eq_some_iff.1 hy).1
  exact .inl ⟨⟨by show es[((i:Nat):Int).toNat]? =_;rw [Int.toNat_natCast];exact hy,by show (i:Int)<_;omega⟩,by show (0:Int)≤(i:Int);omega,rfl,rfl⟩
 ·intro x hx
  obtain ⟨j,hj,ej⟩:=List.mem_iff_getElem.1 hx
  obtain ⟨i,y,hy,rfl⟩:=hb.frm j x (by rw [List.getElem?_eq_getElem hj,ej])
  have:=(h.ok y (List.mem_of_getElem? hy)).2.2.2.2
  show y.w≤_
  simpa using this
end Go.Proofs.YtkdomobedfhhgaaGreat
end
