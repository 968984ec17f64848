/- Walks over graphs: which may be, nodes, edges; are all edges of a graph. Walks: the reference's Right and edges. Walks over the reference of searches: is a number in a row, which edges count, their ends, all weights. Walks over the reference of searches: all weights, how far all nodes are. -/
import Derived.Test.YteaaapdjplbljaaGreatProg
import Derived.Test.YteaaapdjplbljaaGreatLw02
import Derived.Test.YteaaapdjplbljaaGreatLw04
import Derived.Test.YteaaapdjplbljaaGreatLw13
set_option linter.unusedVariables false
set_option linter.unusedSimpArgs false
set_option linter.unnecessarySimpa false
section
namespace Go.Proofs.YteaaapdjplbljaaGreat
open Go.Proofs Go.RowKit Go.Shelf
structure EdgeD where
 f:Int
 t:Int
 w:Int
 deriving DecidableEq
structure GD where
 n:Int
 es:List EdgeD
abbrev encE (e:EdgeD):Value:=.agg #[.int .i64 e.f,.int .i64 e.t,.int .u64 e.w]
def flat:List EdgeD→List Value
 |[]=>[]
 |e::r=>.int .i64 e.f::.int .i64 e.t::.int .u64 e.w::flat r
theorem flat_length:∀es:List EdgeD,(flat es).length=es.length*3
 |[]=>rfl
 |e::r=>by simp [flat,flat_length r];omega
theorem flat_get:∀(es:List EdgeD) (i:Nat) (h:i<es.length),(flat es)[i*3]? =some (.int .i64 es[i].f)∧(flat es)[i*3+1]? =some (.int .i64 es[i].t)∧(flat es)[i*3+2]? =some (.int .u64 es[i].w)
 |e::r,0,_=>⟨rfl,rfl,rfl⟩
 |e::r,i+1,h=>by
  have ih:=flat_get r i (by simpa using h)
  have e1:(i+1)*3=i*3+1+1+1:=by omega
  simp only [e1,flat,List.getElem?_cons_succ,List.getElem_cons_succ]
  exact ih
theorem Cel.edge {w:World} {ao:Option Addr} {es:List EdgeD} (h:Cel w ao (flat es)) {i:Nat} (hi:i<es.length):
  ∃b o,ao=some ⟨b,o,none⟩∧w.cell? ⟨b,o+i*3,none⟩=some (.int .i64 es[i].f)∧w.cell? ⟨b,o+i*3+1,none⟩=some (.int .i64 es[i].t)∧w.cell? ⟨b,o+i*3+2,none⟩=some (.int .u64 es[i].w):=by
 obtain ⟨h1,h2,h3⟩:=flat_get es i hi
 obtain ⟨b,o,e,c1⟩:=h _ _ h1
 obtain ⟨b',o',e',c2⟩:=h _ _ h2
 obtain ⟨b'',o'',e'',c3⟩:=h _ _ h3
 rw [e] at e' e''
 cases e'
 cases e''
 exact ⟨b,o,e,c1,by rw [Nat.add_assoc];exact c2,by rw [Nat.add_assoc];exact c3⟩
def nodeB (n v:Int):Bool:=decide (0≤v)&&decide (v<n)
def edgeB (m:Nat) (e:Int):Bool:=decide (0≤e)&&decide (e<(m:Int))
def weightB (w:Int):Bool:=decide (1≤w)&&decide (w≤4294967296)
def looseB (n:Int) (e:EdgeD):Bool:=!nodeB n e.f||!nodeB n e.t||e.f==e.t
def rightG (g:GD):Int:=
 if g.n<1∨4096<g.n then 2 else if 16384<g.es.length then 5 else if g.es.any (looseB g.n) then 7 else if g.es.any (fun e=>!weightB e.w) then 2 else 0
theorem gweight_any (x:Int) (w:World):Calls Tryz.prog 129 #[.int .u64 x] w fun e w'=>e=.returned (.bool (weightB x))∧w=w':=by
 unfold weightB
 go_enter Tryz.func129,Tryz.ntmps129
 go_wp2
 all_goals
  go_ret
  exact ⟨by simp [*]<;>omega,rfl⟩
theorem refweight_any (x:Int) (w:World):Calls Tryz.prog 137 #[.int .u64 x] w fun e w'=>e=.returned (.bool (weightB x))∧w=w':=by
 unfold weightB
 go_enter Tryz.func137,Tryz.ntmps137
 go_wp2
 all_goals
  go_ret
  exact ⟨by simp [*]<;>omega,rfl⟩
theorem gnode_any (g:GD) (ao:Option Addr) (cap:Nat) (v:Int) (w:World):
  Calls Tryz.prog 75 #[.agg #[.int .i64 g.n,.slice ao g.es.length cap],.int .i64 v] w fun e w'=>e=.returned (.bool (nodeB g.n v))∧Below w.heap.size w w':=by
 unfold nodeB
 go_enter Tryz.func75,Tryz.ntmps75
 go_wp2
 all_goals
  go_ret
  exact ⟨by simp [*]<;>omega,by repeat (first|exact Below.refl _ _|refine Below.al ?_ _|refine Below.dr ?_ _|refine Below.drew ?_|assumption|(refine Below.st ?_ (by assumption)))⟩
theorem refnode_any (g:GD) (ao:Option Addr) (cap:Nat) (v:Int) (w:World):
  Calls Tryz.prog 136 #[.agg #[.int .i64 g.n,.slice ao g.es.length cap],.int .i64 v] w fun e w'=>e=.returned (.bool (nodeB g.n v))∧Below w.heap.size w w':=by
 unfold nodeB
 go_enter Tryz.func136,Tryz.ntmps136
 go_wp2
 all_goals
  go_ret
  exact ⟨by simp [*]<;>omega,by repeat (first|exact Below.refl _ _|refine Below.al ?_ _|refine Below.dr ?_ _|refine Below.drew ?_|assumption|(refine Below.st ?_ (by assumption)))⟩
set_option maxHeartbeats 400000 in
theorem IndexFunc_edge (g:Nat) (cb:Array Value) (p:EdgeD→Bool) (ao:Option Addr) (cap:Nat) (l:List EdgeD) (w:World) (hen:Enters Tryz.prog g)
  (hp:PredOn Tryz.prog g cb encE p l w) (hl:l.length≤9223372036854775807) (hc:Cel w ao (flat l)):
  Calls Tryz.prog 184 #[.slice ao l.length cap,.func (.func g) #[] cb] w fun e w'=>e=.returned (.int .i64 (idxI p l))∧Below w.heap.size w w':=by
 have HP:=Lib.hid hp
 have HC:=Lib.hid hc
 clear hp hc
 unfold Enters at hen
 go_enter Tryz.func184,Tryz.ntmps184
 go_wp2
 go_loopg [8] l.length (fun g i wr=>∃k:Nat,k≤l.length∧l.length-k≤g∧i=.int .i64 k∧Aside (Below w.heap.size w wr)∧Aside (∀j (h:j<l.length),j<k→p l[j]=false))
 case atStart=>exact ⟨0,Nat.zero_le _,by omega,rfl,Below.refl _ _,fun j _ h=>absurd h (Nat.not_lt_zero _)⟩
 case round=>
  obtain ⟨k,hk,hg,rfl,HB,HA⟩:=hrel
  by_cases hlt:k<l.length
  ·obtain ⟨b,o,hao,hc1,hc2,hc3⟩:=(HC.out.below HB.out (Nat.le_refl _)).edge hlt
   have HQ:=Lib.hid (HP.out wr l[k] HB.out (List.getElem_mem hlt))
   have HN:=Lib.hid (fun h:p l[k]=true=>idxI_hit p l k hlt h (fun j h1 h2=>HA.out j h1 h2))
   have HM:=Lib.hid (fun h:p l[k]=false=>(fun j (h1:j<l.length) (h2:j<k+1)=>(by
    by_cases e:j=k
    ·subst e;exact h
    ·exact HA.out j h1 (by omega):p l[j]=false)))
   generalize hx:l[k]=x at*
   clear hx
   subst hao
   cases hq:p x with
   |true=>
    have HN2:=Lib.hid (HN.out hq)
    have HQ2:=Lib.hid (hq▸HQ.out)
    clear hq
    go_wp2_with (go_at_fn g;refine HQ2.out.mono ?_;rintro e w1 ⟨rfl,hb1⟩)
    go_ret
    exact ⟨by rw [HN2.out];rfl,HB.out.trans (hb1.mono (by have:=HB.out.size;omega))⟩
   |false=>
    have HN2:=Lib.hid (HM.out hq)
    have HQ2:=Lib.hid (hq▸HQ.out)
    clear hq
    go_wp2_with (go_at_fn g;refine HQ2.out.mono ?_;rintro e w1 ⟨rfl,hb1⟩)
    go_roundg (l.length-(k+1))
    case measure=>omega
    case rel=>exact ⟨k+1,by omega,by omega,by go_num,HB.out.trans (hb1.mono (by have:=HB.out.size;omega)),HN2.out⟩
  ·obtain rfl:k=l.length:=by omega
   have HN:=Lib.hid (idxI_miss p l (fun j h=>HA.out j h h))
   go_wp2
   go_ret
   exact ⟨by rw [HN.out];rfl,HB.out⟩
theorem ContainsFunc_edge (g:Nat) (cb:Array Value) (p:EdgeD→Bool) (ao:Option Addr) (cap:Nat) (l:List EdgeD) (w:World) (hen:Enters Tryz.prog g)
  (hp:PredOn Tryz.prog g cb encE p l w) (hl:l.length≤9223372036854775807) (hc:Cel w ao (flat l)):
  Calls Tryz.prog 130 #[.slice ao l.length cap,.func (.func g) #[] cb] w fun e w'=>e=.returned (.bool (l.any p))∧Below w.heap.size w w':=by
 have HC:=Lib.hid (IndexFunc_edge g cb p ao cap l w hen hp hl hc)
 have HI:=Lib.hid (idxI_any p l)
 clear hp hc hen
 generalize idxI p l=r at*
 go_enter Tryz.func130,Tryz.ntmps130
 go_wp2_with (go_at_call 184;refine HC.out.mono ?_;rintro e w1 ⟨rfl,hb1⟩)
 go_ret
 exact ⟨by rw [←HI.out];rfl,hb1⟩
theorem Right2_any (e:EdgeD) (w:World):Calls Tryz.prog 128 (#[encE e]++#[]) w fun x w'=>x=.returned (.bool (!weightB e.w))∧Below w.heap.size w w':=by
 have HX:=Lib.hid (gweight_any e.w)
 generalize weightB e.w=r at*
 go_enter Tryz.func128,Tryz.ntmps128
 go_wp2_with (go_at_call 129;refine (HX.out _).mono ?_;rintro e w1 ⟨rfl,rfl⟩)
 go_ret
 exact ⟨rfl,by repeat (first|exact Below.refl _ _|refine Below.al ?_ _|refine Below.dr ?_ _|refine Below.drew ?_|assumption|(refine Below.st ?_ (by assumption)))⟩
theorem Right1G_any (g:GD) (ao:Option Addr) (cap B:Nat) (e:EdgeD) (w:World) (h0:w.cell? ⟨B,0,none⟩=some (.int .i64 g.n)) (h1:w.cell? ⟨B,1,none⟩=some (.slice ao g.es.length cap)):
  Calls Tryz.prog 127 (#[encE e]++#[.pointer (some ⟨B,0,none⟩)]) w fun x w'=>x=.returned (.bool (looseB g.n e))∧Below w.heap.size w w':=by
 unfold looseB
 have X1:=Lib.hid (gnode_any g ao cap e.f)
 have X2:=Lib.hid (gnode_any g ao cap e.t)
 have k0:∀o,(w.alloc o).cell? ⟨B,0,none⟩=some (.int .i64 g.n):=fun o=>cell_later (Below.of_al _ o) h0
 have k1:∀o,(w.alloc o).cell? ⟨B,1,none⟩=some (.slice ao g.es.length cap):=fun o=>cell_later (Below.of_al _ o) h1
 cases q1:nodeB g.n e.f with
 |false=>
  rw [q1] at X1
  clear q1
  go_enter Tryz.func127,Tryz.ntmps127
  go_wp2_with (go_at_call 75;refine (X1.out _).mono ?_;rintro e w1 ⟨rfl,hb1⟩)
  go_ret
  exact ⟨rfl,by repeat (first|exact Below.refl _ _|refine Below.al ?_ _|refine Below.dr ?_ _|refine Below.drew ?_|assumption|(refine Below.st ?_ (by assumption)))⟩
 |true=>
  rw [q1] at X1
  clear q1
  cases q2:nodeB g.n e.t with
  |false=>
   rw [q2] at X2
   clear q2
   go_enter Tryz.func127,Tryz.ntmps127
   go_wp2_with fail
   refine (X1.out _).mono ?_
   rintro e w1 ⟨rfl,hb1⟩
   have m0:=cell_later hb1 (k0 _)
   have m1:=cell_later hb1 (k1 _)
   have m2:=cell_later hb1 (show (w.alloc (Obj.cells #[.int .i64 e.f,.int .i64 e.t,.int .u64 e.w] 109)).cell? ⟨w.heap.size,0,none⟩=some (.int .i64 e.f) by go_simp)
   have m3:=cell_later hb1 (show (w.alloc (Obj.cells #[.int .i64 e.f,.int .i64 e.t,.int .u64 e.w] 109)).cell? ⟨w.heap.size,1,none⟩=some (.int .i64 e.t) by go_simp)
   have HB1:=Lib.hid hb1
   go_wp2_with fail
   refine (X2.out _).mono ?_
   rintro e w2 ⟨rfl,hb2⟩
   have n2:=cell_later hb2 m2
   have n3:=cell_later hb2 m3
   go_wp2
   go_ret
   exact ⟨rfl,by repeat (first|exact Below.refl _ _|refine Below.al ?_ _|refine Below.dr ?_ _|refine Below.drew ?_|assumption|(refine Below.st ?_ (by assumption)))⟩
  |true=>
   rw [q2] at X2
   clear q2
   go_enter Tryz.func127,Tryz.ntmps127
   go_wp2_with fail
   refine (X1.out _).mono ?_
   rintro e w1 ⟨rfl,hb1⟩
   have m0:=cell_later hb1 (k0 _)
   have m1:=cell_later hb1 (k1 _)
   have m2:=cell_later hb1 (show (w.alloc (Obj.cells #[.int .i64 e.f,.int .i64 e.t,.int .u64 e.w] 109)).cell? ⟨w.heap.size,0,none⟩=some (.int .i64 e.f) by go_simp)
   have m3:=cell_later hb1 (show (w.alloc (Obj.cells #[.int .i64 e.f,.int .i64 e.t,.int .u64 e.w] 109)).cell? ⟨w.heap.size,1,none⟩=some (.int .i64 e.t) by go_simp)
   have HB1:=Lib.hid hb1
   go_wp2_with fail
   refine (X2.out _).mono ?_
   rintro e w2 ⟨rfl,hb2⟩
   have n2:=cell_later hb2 m2
   have n3:=cell_later hb2 m3
   go_wp2
   go_ret
   exact ⟨rfl,by repeat (first|exact Below.refl _ _|refine Below.al ?_ _|refine Below.dr ?_ _|refine Below.drew ?_|assumption|(refine Below.st ?_ (by assumption)))⟩
theorem rightG_1 {g:GD} (h:g.n<1∨4096<g.n):rightG g=2:=by unfold rightG;rw [if_pos h]
theorem rightG_2 {g:GD} (h1:¬g.n<1) (h1':¬4096<g.n) (h2:16384<g.es.length):rightG g=5:=by unfold rightG;rw [if_neg (by omega),if_pos h2]
theorem rightG_3 {g:GD} (h1:¬g.n<1) (h1':¬4096<g.n) (h2:¬16384<g.es.length) (h3:g.es.any (looseB g.n)=true):rightG g=7:=by
 unfold rightG;rw [if_neg (by omega),if_neg h2,if_pos h3]
theorem rightG_4 {g:GD} (h1:¬g.n<1) (h1':¬4096<g.n) (h2:¬16384<g.es.length) (h3:g.es.any (looseB g.n)=false) (h4:g.es.any (fun e=>!weightB e.w)=true):rightG g=2:=by
 unfold rightG;rw [if_neg (by omega),if_neg h2,if_neg (by simp [h3]),if_pos h4]
theorem rightG_5 {g:GD} (h1:¬g.n<1) (h1':¬4096<g.n) (h2:¬16384<g.es.length) (h3:g.es.any (looseB g.n)=false) (h4:g.es.any (fun e=>!weightB e.w)=false):rightG g=0:=by
 unfold rightG;rw [if_neg (by omega),if_neg h2,if_neg (by simp [h3]),if_neg (by simp [h4])]
set_option maxHeartbeats 1000000 in
theorem gRight_any (g:GD) (ao:Option Addr) (cap:Nat) (w:World) (hl:g.es.length≤9223372036854775807) (hc:Cel w ao (flat g.es)):
  Calls Tryz.prog 72 #[.agg #[.int .i64 g.n,.slice ao g.es.length cap]] w fun e w'=>e=.returned (.int .i64 (rightG g))∧Below w.heap.size w w':=by
 have HC:=Lib.hid hc
 clear hc
 have G1:=Lib.hid (@rightG_1 g)
 have G2:=Lib.hid (@rightG_2 g)
 have G3:=Lib.hid (@rightG_3 g)
 have G4:=Lib.hid (@rightG_4 g)
 have G5:=Lib.hid (@rightG_5 g)
 have hw2:∀o:Obj,o=Obj.cells #[.int .i64 g.n,.slice ao g.es.length cap] 24→PredOn Tryz.prog 127 #[.pointer (some ⟨w.heap.size,0,none⟩)] encE (looseB g.n) g.es (w.alloc o):=by
  rintro o rfl W x hb _
  exact Right1G_any g ao cap w.heap.size x W (cell_later hb (by go_simp)) (cell_later hb (by go_simp))
 have hw3:∀W,PredOn Tryz.prog 128 #[] encE (fun e=>!weightB e.w) g.es W:=fun W W' x _ _=>Right2_any x W'
 have X1:=Lib.hid (ContainsFunc_edge 127 #[.pointer (some ⟨w.heap.size,0,none⟩)] (looseB g.n) ao cap g.es _ (enters_of Tryz.func127 (by kernel_rfl) rfl) (hw2 _ rfl) hl (HC.out.go (Below.of_al _ _)))
 have X2:=Lib.hid (fun W h=>ContainsFunc_edge 128 #[] (fun e=>!weightB e.w) ao cap g.es W (enters_of Tryz.func128 (by kernel_rfl) rfl) (hw3 W) hl h)
 clear hw2 hw3
 generalize rightG g=r at*
 by_cases h1:g.n<1
 ·have HR:=Lib.hid (G1.out (.inl h1))
  go_enter Tryz.func72,Tryz.ntmps72
  go_wp2
  go_ret
  exact ⟨by rw [HR.out];rfl,by repeat (first|exact Below.refl _ _|refine Below.al ?_ _|refine Below.dr ?_ _|refine Below.drew ?_|assumption|(refine Below.st ?_ (by assumption)))⟩
 ·by_cases h2:4096<g.n
  ·have HR:=Lib.hid (G1.out (.inr h2))
   go_enter Tryz.func72,Tryz.ntmps72
   go_wp2
   go_ret
   exact ⟨by rw [HR.out];rfl,by repeat (first|exact Below.refl _ _|refine Below.al ?_ _|refine Below.dr ?_ _|refine Below.drew ?_|assumption|(refine Below.st ?_ (by assumption)))⟩
  ·by_cases h3:16384<g.es.length
   ·have HR:=Lib.hid (G2.out h1 h2 h3)
    go_enter Tryz.func72,Tryz.ntmps72
    go_wp2
    go_ret
    exact ⟨by rw [HR.out];rfl,by repeat (first|exact Below.refl _ _|refine Below.al ?_ _|refine Below.dr ?_ _|refine Below.drew ?_|assumption|(refine Below.st ?_ (by assumption)))⟩
   ·cases q1:g.es.any (looseB g.n) with
    |true=>
     have HR:=Lib.hid (G3.out h1 h2 h3 q1)
     rw [q1] at X1
     clear q1
     go_enter Tryz.func72,Tryz.ntmps72
     go_wp2_with (go_at_call 130;refine X1.out.mono ?_;rintro e w1 ⟨rfl,hb1⟩)
     go_ret
     exact ⟨by rw [HR.out];rfl,by repeat (first|exact Below.refl _ _|refine Below.al ?_ _|refine Below.dr ?_ _|refine Below.drew ?_|assumption|(refine Below.st ?_ (by assumption)))⟩
    |false=>
     rw [q1] at X1
     cases q2:g.es.any (fun e=>!weightB e.w) with
     |true=>
      have HR:=Lib.hid (G4.out h1 h2 h3 q1 q2)
      rw [q2] at X2
      clear q1 q2
      go_enter Tryz.func72,Tryz.ntmps72
      go_wp2_with fail
      refine X1.out.mono ?_
      rintro e w1 ⟨rfl,hb1⟩
      have m0:=cell_later hb1 (show (w.alloc (Obj.cells #[.int .i64 g.n,.slice ao g.es.length cap] 24)).cell? ⟨w.heap.size,1,none⟩=some (.slice ao g.es.length cap) by go_simp)
      go_wp2_with fail
      refine (X2.out _ (HC.out.go (by repeat (first|exact Below.refl _ _|refine Below.al ?_ _|refine Below.dr ?_ _|refine Below.drew ?_|assumption|(refine Below.st ?_ (by assumption)))))).mono ?_
      rintro e w2 ⟨rfl,hb2⟩
      go_wp2
      go_ret
      exact ⟨by rw [HR.out];rfl,by repeat (first|exact Below.refl _ _|refine Below.al ?_ _|refine Below.dr ?_ _|refine Below.drew ?_|assumption|(refine Below.st ?_ (by assumption)))⟩
     |false=>
      have HR:=Lib.hid (G5.out h1 h2 h3 q1 q2)
      rw [q2] at X2
      clear q1 q2
      go_enter Tryz.func72,Tryz.ntmps72
      go_wp2_with fail
      refine X1.out.mono ?_
      rintro e w1 ⟨rfl,hb1⟩
      have m0:=cell_later hb1 (show (w.alloc (Obj.cells #[.int .i64 g.n,.slice ao g.es.length cap] 24)).cell? ⟨w.heap.size,1,none⟩=some (.slice ao g.es.length cap) by go_simp)
      go_wp2_with fail
      refine (X2.out _ (HC.out.go (by repeat (first|exact Below.refl _ _|refine Below.al ?_ _|refine Below.dr ?_ _|refine Below.drew ?_|assumption|(refine Below.st ?_ (by assumption)))))).mono ?_
      rintro e w2 ⟨rfl,hb2⟩
      go_wp2
      go_ret
      exact ⟨by rw [HR.out];rfl,by repeat (first|exact Below.refl _ _|refine Below.al ?_ _|refine Below.dr ?_ _|refine Below.drew ?_|assumption|(refine Below.st ?_ (by assumption)))⟩
end Go.Proofs.YteaaapdjplbljaaGreat
namespace Go.Proofs.YteaaapdjplbljaaGreat
open Go.Proofs Go.RowKit Go.Shelf
theorem any_from {α:Type} {p:α→Bool} {l:List α} (h:∀j (h:j<l.length),p l[j]=false):l.any p=false:=by
 rw [List.any_eq_false]
 intro x hx
 obtain ⟨j,hj,rfl⟩:=List.getElem_of_mem hx
 simp [h j hj]
theorem any_at {α:Type} {p:α→Bool} {l:List α} {j:Nat} (hj:j<l.length) (h:p l[j]=true):l.any p=true:=List.any_eq_true.2 ⟨_,List.getElem_mem hj,h⟩
theorem upto_succ {α:Type} {p:α→Bool} {l:List α} {k:Nat} (h:∀j (h:j<l.length),j<k→p l[j]=false) (hk:k<l.length) (hp:p l[k]=false):∀j (h:j<l.length),j<k+1→p l[j]=false:=by
 intro j hj h2
 by_cases e:j=k
 ·subst e;exact hp
 ·exact h j hj (by omega)
theorem looseB_eq (n:Int) (e:EdgeD) {a b c:Bool} (h1:nodeB n e.f=a) (h2:nodeB n e.t=b) (h3:(e.f==e.t)=c):looseB n e=(!a||!b||c):=by unfold looseB;rw [h1,h2,h3]
set_option maxHeartbeats 4000000 in
theorem refRightG_any (g:GD) (ao:Option Addr) (cap:Nat) (w:World) (hl:g.es.length≤9223372036854775807) (hc:Cel w ao (flat g.es)):
  Calls Tryz.prog 78 #[.agg #[.int .i64 g.n,.slice ao g.es.length cap]] w fun e w'=>e=.returned (.int .i64 (rightG g))∧Below w.heap.size w w':=by
 have HC:=Lib.hid hc
 clear hc
 have G1:=Lib.hid (@rightG_1 g)
 have G2:=Lib.hid (@rightG_2 g)
 have G3:=Lib.hid (@rightG_3 g)
 have G4:=Lib.hid (@rightG_4 g)
 have G5:=Lib.hid (@rightG_5 g)
 generalize rightG g=r at*
 by_cases h1:g.n<1
 ·have HR:=Lib.hid (G1.out (.inl h1))
  go_enter Tryz.func78,Tryz.ntmps78
  go_wp2
  go_ret
  exact ⟨by rw [HR.out];rfl,by repeat (first|exact Below.refl _ _|refine Below.al ?_ _|refine Below.dr ?_ _|refine Below.drew ?_|assumption|(refine Below.st ?_ (by assumption)))⟩
 ·by_cases h2:4096<g.n
  ·have HR:=Lib.hid (G1.out (.inr h2))
   go_enter Tryz.func78,Tryz.ntmps78
   go_wp2
   go_ret
   exact ⟨by rw [HR.out];rfl,by repeat (first|exact Below.refl _ _|refine Below.al ?_ _|refine Below.dr ?_ _|refine Below.drew ?_|assumption|(refine Below.st ?_ (by assumption)))⟩
  ·by_cases h3:16384<g.es.length
   ·have HR:=Lib.hid (G2.out h1 h2 h3)
    go_enter Tryz.func78,Tryz.ntmps78
    go_wp2
    go_ret
    exact ⟨by rw [HR.out];rfl,by repeat (first|exact Below.refl _ _|refine Below.al ?_ _|refine Below.dr ?_ _|refine Below.drew ?_|assumption|(refine Below.st ?_ (by assumption)))⟩
   ·have HH:=Lib.hid (And.intro h1 (And.intro h2 h3))
    go_enter Tryz.func78,Tryz.ntmps78
    go_wp2
    obtain ⟨W,hW,c0,c1,hsW⟩:∃W,W=w.alloc (Obj.cells #[.int .i64 g.n,.slice ao g.es.length cap] 24)∧W.cell? ⟨w.heap.size,0,none⟩=some (.int .i64 g.n)∧W.cell? ⟨w.heap.size,1,none⟩=some (.slice ao g.es.length cap)∧w.heap.size<W.heap.size:=⟨_,rfl,by go_simp,by go_simp,by simp⟩
    rw [←hW]
    have HW:=Lib.hid (show Below w.heap.size w W by rw [hW];repeat (first|exact Below.refl _ _|refine Below.al ?_ _|refine Below.dr ?_ _|refine Below.drew ?_|assumption|(refine Below.st ?_ (by assumption))))
    clear hW
    go_loopg [3] g.es.length (fun gg i wr=>∃k:Nat,k≤g.es.length∧g.es.length-k≤gg∧i=.int .i64 k∧Aside (Below W.heap.size W wr)∧Aside (∀j (h:j<g.es.length),j<k→looseB g.n g.es[j]=false))
    case atStart=>exact ⟨0,Nat.zero_le _,by omega,rfl,Below.refl _ _,fun j _ h=>absurd h (Nat.not_lt_zero _)⟩
    case round=>
     obtain ⟨k,hk,hg,rfl,HB,HA⟩:=hrel
     have m0:=cell_later HB.out c0
     have m1:=cell_later HB.out c1
     by_cases hlt:k<g.es.length
     ·have hlt3:(k:Int)<(g.es.length:Int):=by omega
      have hk0:(0:Int)≤(k:Int):=by omega
      obtain ⟨b,o,hao,f1,f2,f3⟩:=((HC.out.go HW.out).go HB.out).edge hlt
      have HN:=Lib.hid (fun h=>upto_succ HA.out hlt h)
      have HY:=Lib.hid (fun h=>@any_at _ (looseB g.n) g.es k hlt h)
      generalize g.es[k]=x at*
      subst hao
      have X1:=Lib.hid (fun p=>refnode_any g (some ⟨b,o,none⟩) cap x.f (ext wr p))
      have X2:=Lib.hid (fun p=>refnode_any g (some ⟨b,o,none⟩) cap x.t (ext wr p))
      have e0:=fun p=>cell_ext p m0
      have e1:=fun p=>cell_ext p m1
      have e2:=fun p=>cell_ext p f1
      have e3:=fun p=>cell_ext p f2
      cases q1:nodeB g.n x.f with
      |false=>
       have HL:=Lib.hid (show looseB g.n x=true by rw [looseB_eq g.n x q1 rfl rfl];rfl)
       rw [q1] at X1
       have HR:=Lib.hid (G3.out h1 h2 h3 (HY.out HL.out))
       clear f1 f2 f3
       go_wp2
       refine wp_region_ext (by kernel_rfl) (by kernel_rfl) ?_
       repeat (go_big_quiet_step (first
        |(go_at_call_of 136 (Value.int .i64 x.f);exact Calls.ext_of (X1.out _))
        |(go_at_call_of 136 (Value.int .i64 x.t);exact Calls.ext_of (X2.out _))))
       refine wpQuiet_nil ?_
       rintro _ ⟨pq,rfl⟩
       have HBq:=Lib.hid (below_ext wr pq)
       generalize ext wr pq=wq at HBq ⊢
       go_wp2
       go_ret
       exact ⟨by rw [HR.out];rfl,(HW.out.st HB.out).st HBq.out⟩
      |true=>
       rw [q1] at X1
       cases q2:nodeB g.n x.t with
       |false=>
        have HL:=Lib.hid (show looseB g.n x=true by rw [looseB_eq g.n x q1 q2 rfl];rfl)
        rw [q2] at X2
        have HR:=Lib.hid (G3.out h1 h2 h3 (HY.out HL.out))
        clear f1 f2 f3
        go_wp2
        refine wp_region_ext (by kernel_rfl) (by kernel_rfl) ?_
        repeat (go_big_quiet_step (first
         |(go_at_call_of 136 (Value.int .i64 x.f);exact Calls.ext_of (X1.out _))
         |(go_at_call_of 136 (Value.int .i64 x.t);exact Calls.ext_of (X2.out _))))
        refine wpQuiet_nil ?_
        rintro _ ⟨pq,rfl⟩
        have HBq:=Lib.hid (below_ext wr pq)
        generalize ext wr pq=wq at HBq ⊢
        go_wp2
        go_ret
        exact ⟨by rw [HR.out];rfl,(HW.out.st HB.out).st HBq.out⟩
       |true=>
        rw [q2] at X2
        cases q3:(x.f==x.t) with
        |true=>
         have HL:=Lib.hid (show looseB g.n x=true by rw [looseB_eq g.n x q1 q2 q3];rfl)
         have HR:=Lib.hid (G3.out h1 h2 h3 (HY.out HL.out))
         clear f1 f2 f3
         go_wp2
         refine wp_region_ext (by kernel_rfl) (by kernel_rfl) ?_
         repeat (go_big_quiet_step (first
          |(go_at_call_of 136 (Value.int .i64 x.f);exact Calls.ext_of (X1.out _))
          |(go_at_call_of 136 (Value.int .i64 x.t);exact Calls.ext_of (X2.out _))))
         refine wpQuiet_nil ?_
         rintro _ ⟨pq,rfl⟩
         have HBq:=Lib.hid (below_ext wr pq)
         generalize ext wr pq=wq at HBq ⊢
         go_wp2
         go_ret
         exact ⟨by rw [HR.out];rfl,(HW.out.st HB.out).st HBq.out⟩
        |false=>
         have HL:=Lib.hid (show looseB g.n x=false by rw [looseB_eq g.n x q1 q2 q3];rfl)
         clear q1 q2 f1 f2 f3
         go_wp2
         refine wp_region_ext (by kernel_rfl) (by kernel_rfl) ?_
         repeat (go_big_quiet_step (first
          |(go_at_call_of 136 (Value.int .i64 x.f);exact Calls.ext_of (X1.out _))
          |(go_at_call_of 136 (Value.int .i64 x.t);exact Calls.ext_of (X2.out _))))
         refine wpQuiet_nil ?_
         rintro _ ⟨pq,rfl⟩
         have HBq:=Lib.hid (below_ext wr pq)
         generalize ext wr pq=wq at HBq ⊢
         go_wp2
         go_roundg (g.es.length-(k+1))
         case measure=>omega
         case rel=>exact ⟨k+1,by omega,by omega,by go_num,HB.out.st HBq.out,HN.out HL.out⟩
     ·obtain rfl:k=g.es.length:=by omega
      have q1:=any_from (fun j h=>HA.out j h h)
      go_wp2
      go_loopg [4] g.es.length (fun gg i wr2=>∃k:Nat,k≤g.es.length∧g.es.length-k≤gg∧i=.int .i64 k∧Aside (Below W.heap.size W wr2)∧Aside (∀j (h:j<g.es.length),j<k→(!weightB g.es[j].w)=false))
      case atStart=>exact ⟨0,Nat.zero_le _,by omega,rfl,HB.out,fun j _ h=>absurd h (Nat.not_lt_zero _)⟩
      case round=>
       clear HB HA m0 m1 hlt hg hk
       have Q1:=Lib.hid q1
       clear q1
       obtain ⟨k,hk,hg,rfl,HB,HA⟩:=hrel
       have m0:=cell_later HB.out c0
       have m1:=cell_later HB.out c1
       by_cases hlt:k<g.es.length
       ·obtain ⟨b,o,hao,f1,f2,f3⟩:=((HC.out.go HW.out).go HB.out).edge hlt
        have HN:=Lib.hid (fun h=>@upto_succ _ (fun e=>!weightB e.w) g.es k HA.out hlt h)
        have HY:=Lib.hid (fun h=>@any_at _ (fun e=>!weightB e.w) g.es k hlt h)
        generalize g.es[k]=x at*
        subst hao
        have X1:=Lib.hid (refweight_any x.w)
        cases q2:(weightB x.w) with
        |true=>
         have HL:=Lib.hid (show (!weightB x.w)=false by rw [q2];rfl)
         rw [q2] at X1
         clear q2
         go_wp2_with (go_at_call 137;refine (X1.out _).mono ?_;rintro e w1 ⟨rfl,rfl⟩)
         go_roundg (g.es.length-(k+1))
         case measure=>omega
         case rel=>exact ⟨k+1,by omega,by omega,by go_num,HB.out,HN.out HL.out⟩
        |false=>
         have HR:=Lib.hid (G4.out HH.out.1 HH.out.2.1 HH.out.2.2 Q1.out (HY.out (show (!weightB x.w)=true by rw [q2];rfl)))
         rw [q2] at X1
         clear q2
         go_wp2_with (go_at_call 137;refine (X1.out _).mono ?_;rintro e w1 ⟨rfl,rfl⟩)
         go_ret
         exact ⟨by rw [HR.out];rfl,HW.out.st HB.out⟩
       ·obtain rfl:k=g.es.length:=by omega
        have HR:=Lib.hid (G5.out HH.out.1 HH.out.2.1 HH.out.2.2 Q1.out (any_from (fun j h=>HA.out j h h)))
        go_wp2
        go_ret
        exact ⟨by rw [HR.out];rfl,HW.out.st HB.out⟩
end Go.Proofs.YteaaapdjplbljaaGreat
end
section
namespace Go.Proofs.YteaaapdjplbljaaGreat
open Go Go.Proofs Go.RowKit Go.Shelf Go.Proofs.YteaaapdjplbljaaGreat.Ch
theorem refHas_any (ao:Option Addr) (cap:Nat) (l:List Int) (x:Int) (w:World) (hl:l.length≤9223372036854775807) (hc:Cel w ao (l.map encI)):
  Calls Tryz.prog 44 #[.slice ao l.length cap,.int .i64 x] w fun e w'=>e=.returned (.bool (decide (x∈l)))∧w=w':=by
 have HC:=Lib.hid hc
 clear hc
 have HT:=Lib.hid (fun k (h:k<l.length) (e:l[k]=x)=>(decide_eq_true (e▸List.getElem_mem h):decide (x∈l)=true))
 have HF:=Lib.hid (fun (h:∀j (hj:j<l.length),l[j]≠x)=>(decide_eq_false (fun hm=>by obtain ⟨j,hj,e⟩:=List.getElem_of_mem hm;exact h j hj e):decide (x∈l)=false))
 generalize decide (x∈l)=r at*
 go_enter Tryz.func44,Tryz.ntmps44
 go_wp2
 go_loopg [5] l.length (fun g i wr=>∃k:Nat,k≤l.length∧l.length-k≤g∧i=.int .i64 k∧wr=w∧Aside (∀j (hj:j<l.length),j<k→l[j]≠x))
 case atStart=>exact ⟨0,Nat.zero_le _,by omega,rfl,rfl,fun j _ h=>absurd h (Nat.not_lt_zero _)⟩
 case round=>
  obtain ⟨k,hk,hg,rfl,rfl,HA⟩:=hrel
  by_cases hlt:k<l.length
  ·have hlt3:(k:Int)<(l.length:Int):=by omega
   have hk0:(0:Int)≤(k:Int):=by omega
   obtain ⟨b,o,hao,hcell⟩:=HC.out.at hlt
   subst hao
   have H1:=Lib.hid (HT.out k hlt)
   have H2:=Lib.hid (fun h:l[k]≠x=>(fun j (h1:j<l.length) (h2:j<k+1)=>(by
    by_cases e:j=k
    ·subst e;exact h
    ·exact HA.out j h1 (by omega):l[j]≠x)))
   generalize l[k]=y at*
   by_cases e:y=x
   ·have he:(y==x)=true:=by simp [e]
    have HR:=Lib.hid (H1.out e)
    clear e
    go_wp2
    go_ret
    exact ⟨by rw [HR.out];rfl,rfl⟩
   ·have he:(y==x)=false:=by simp [e]
    have HR:=Lib.hid (H2.out e)
    clear e
    go_wp2
    go_roundg (l.length-(k+1))
    case measure=>omega
    case rel=>exact ⟨k+1,by omega,by omega,by go_num,rfl,HR.out⟩
  ·obtain rfl:k=l.length:=by omega
   have HR:=Lib.hid (HF.out fun j hj=>HA.out j hj hj)
   go_wp2
   go_ret
   exact ⟨by rw [HR.out];rfl,rfl⟩
def endsC (back:Bool) (e:EdgeD):Int×Int:=if back then (e.t,e.f) else (e.f,e.t)
theorem refEnds_any (e:EdgeD) (back:Bool) (w:World):
  Calls Tryz.prog 126 #[.agg #[.int .i64 e.f,.int .i64 e.t,.int .u64 e.w],.bool back] w fun x w'=>x=.returned (.tuple #[.int .i64 (endsC back e).1,.int .i64 (endsC back e).2])∧Below w.heap.size w w':=by
 obtain ⟨f,t,x⟩:=e
 unfold endsC
 obtain ⟨W,hW⟩:∃W,W=w.alloc (Obj.cells #[.int .i64 f,.int .i64 t,.int .u64 x] 109):=⟨_,rfl⟩
 have HB:=Lib.hid (show Below w.heap.size w W by rw [hW];exact Below.of_al _ _)
 have c0:W.cell? ⟨w.heap.size,0,none⟩=some (.int .i64 f):=by rw [hW];go_simp
 have c1:W.cell? ⟨w.heap.size,1,none⟩=some (.int .i64 t):=by rw [hW];go_simp
 have f0:=fun p=>cell_ext p c0
 have f1:=fun p=>cell_ext p c1
 have HW:=Lib.hid hW
 clear hW
 cases back
 all_goals
  go_enter Tryz.func126,Tryz.ntmps126
  go_upto_region 1 with (fail)
  rw [←HW.out]
  go_wp2
  refine wp_region_ext (by kernel_rfl) (by kernel_rfl) ?_
  repeat (go_big_quiet_step (fail))
  refine wpQuiet_nil ?_
  rintro _ ⟨pq,rfl⟩
  have HBq:=Lib.hid (below_ext W pq)
  generalize ext W pq=wq at HBq ⊢
  go_wp2
  refine bodyPost_ret (by simp [results,Tryz.results126,go_sem];try rfl) rfl ?_
  exact ⟨rfl,HB.out.st HBq.out⟩
def countB (no:List Int) (e:EdgeD):Bool:=!decide (e.f∈no)&&!decide (e.t∈no)
abbrev optC (back:Bool) (ao:Option Addr) (n cap:Nat):Value:=.agg #[.bool back,.slice ao n cap,.slice none 0 0,.slice none 0 0,.int .u64 0]
set_option maxRecDepth 100000 in
set_option maxHeartbeats 1000000 in
theorem refCounts_any (n:Int) (es:List EdgeD) (ao no:Option Addr) (cap nc:Nat) (back:Bool) (l:List Int) (k:Nat) (hk:k<es.length) (w:World) (hl:l.length≤1000000) (hel:es.length≤1000000) (hc:Cel w ao (flat es)) (hn:Cel w no (l.map encI)):
  Calls Tryz.prog 121 #[.agg #[.int .i64 n,.slice ao es.length cap],.int .i64 k,optC back no l.length nc] w fun x w'=>x=.returned (.bool (countB l es[k]))∧Below w.heap.size w w':=by
 obtain ⟨W,hW⟩:∃W,W=(w.alloc (Obj.cells #[.int .i64 n,.slice ao es.length cap] 24)).alloc (Obj.cells #[.bool back,.slice no l.length nc,.slice none 0 0,.slice none 0 0,.int .u64 0] 119):=⟨_,rfl⟩
 have hbw:Below w.heap.size w W:=by rw [hW];exact (Below.of_al _ _).al _
 have c1:W.cell? ⟨w.heap.size,1,none⟩=some (.slice ao es.length cap):=by rw [hW];go_simp
 have c2:W.cell? ⟨w.heap.size+1,1,none⟩=some (.slice no l.length nc):=by rw [hW];go_simp
 have c3:W.cell? ⟨w.heap.size+1,2,none⟩=some (.slice none 0 0):=by rw [hW];go_simp
 have HB:=Lib.hid hbw
 have HW:=Lib.hid hW
 obtain ⟨b,o,rfl,g0,g1,g2⟩:=(hc.go hbw).edge hk
 have HH:=Lib.hid (fun W' (hz:Below W.heap.size W W') x=>refHas_any no nc l x W' (by omega) ((hn.go hbw).go hz))
 have HN:=Lib.hid (fun (W':World) x=>refHas_any none 0 [] x W' (by simp) (Cel.nil _ _))
 have hk3:(k:Int)<(es.length:Int):=by omega
 have hk0:(0:Int)≤(k:Int):=by omega
 generalize es[k]=e at*
 have HE:=Lib.hid (show countB l e=(!decide (e.f∈l)&&!decide (e.t∈l)) from rfl)
 generalize countB l e=r at*
 have HF:=Lib.hid (fun W' hz=>HH.out W' hz e.f)
 have HT:=Lib.hid (fun W' hz=>HH.out W' hz e.t)
 have HX:=Lib.hid (fun p=>below_ext W p)
 clear hW hc hn hbw HH
 generalize decide (e.f∈l)=bf at*
 generalize decide (e.t∈l)=bt at*
 obtain ⟨f,t,x⟩:=e
 simp only at HF HT g0 g1
 have f1:=fun p=>cell_ext p c1
 have f2:=fun p=>cell_ext p c2
 have f3:=fun p=>cell_ext p c3
 have y0:=fun p=>cell_ext p g0
 have y1:=fun p=>cell_ext p g1
 cases bf<;>cases bt
 all_goals
  go_enter Tryz.func121,Tryz.ntmps121
  go_upto_region 1 with (fail)
  rw [←HW.out]
  refine wp_region_ext (by kernel_rfl) (by kernel_rfl) ?_
  repeat (go_big_quiet_step ((first|(go_at_call_of 44 (Value.slice none 0 0);exact Calls.ext_of_same (HN.out _ _))|(go_at_call 44;first|with_reducible exact Calls.ext_of_same (HF.out _ (HX.out _))|with_reducible exact Calls.ext_of_same (HT.out _ (HX.out _))))))
  refine wpQuiet_nil ?_
  rintro _ ⟨pq,rfl⟩
  have HBq:=Lib.hid (below_ext W pq)
  generalize ext W pq=wq at HBq ⊢
  go_wp2
  go_ret
  exact ⟨by rw [HE.out];rfl,HB.out.st HBq.out⟩
end Go.Proofs.YteaaapdjplbljaaGreat
end
section
namespace Go.Proofs.YteaaapdjplbljaaGreat
open Go Go.Proofs Go.RowKit Go.Shelf Go.Proofs.YteaaapdjplbljaaGreat.Ch
theorem elem_u64:Elem Tryz.prog 37 (.int .u64 0) 1 8:=⟨by kernel_rfl,rfl,by decide⟩
def wtsV (es:List EdgeD):List Value:=es.map fun x=>.int .u64 x.w
theorem wtsV_take {es:List EdgeD} {k:Nat} (h:k<es.length):wtsV (es.take (k+1))=wtsV (es.take k)++[.int .u64 es[k].w]:=by
 unfold wtsV
 rw [List.take_succ_eq_append_getElem h,List.map_append]
 rfl
def WtsPost (n:Nat) (xs:List Value) (w:World) (e:Ending) (w':World):Prop:=
 ∃ao cap,e=.returned (.slice ao n cap)∧Cel w' ao xs∧Below w.heap.size w w'∧∀k,(Value.slice ao n cap).ownBlock=some k→w.heap.size≤k
set_option maxRecDepth 100000 in
set_option maxHeartbeats 1000000 in
theorem refWeights_any (n:Int) (es:List EdgeD) (ao no:Option Addr) (cap nn nc:Nat) (back:Bool) (w:World) (hg:rightG ⟨n,es⟩=0) (hel:es.length≤1000000) (hc:Cel w ao (flat es)):
  Calls Tryz.prog 120 #[.agg #[.int .i64 n,.slice ao es.length cap],optC back no nn nc] w (WtsPost es.length (wtsV es) w):=by
 obtain ⟨W,hW⟩:∃W,W=(w.alloc (Obj.cells #[.int .i64 n,.slice ao es.length cap] 24)).alloc (Obj.cells #[.bool back,.slice no nn nc,.slice none 0 0,.slice none 0 0,.int .u64 0] 119):=⟨_,rfl⟩
 have hbw:Below w.heap.size w W:=by rw [hW];exact (Below.of_al _ _).al _
 have c0:W.cell? ⟨w.heap.size,0,none⟩=some (.int .i64 n):=by rw [hW];go_simp
 have c1:W.cell? ⟨w.heap.size,1,none⟩=some (.slice ao es.length cap):=by rw [hW];go_simp
 have c2:W.cell? ⟨w.heap.size+1,3,none⟩=some (.slice none 0 0):=by rw [hW];go_simp
 have HW:=Lib.hid hW
 have HR:=Lib.hid (refRightG_any ⟨n,es⟩ ao cap W (show es.length≤9223372036854775807 by omega) (hc.go hbw))
 have HC:=Lib.hid (hc.go hbw)
 have HB:=Lib.hid hbw
 have HSZ:=Lib.hid (show w.heap.size<W.heap.size by rw [hW];simp;omega)
 rw [hg] at HR
 simp only at HR
 unfold WtsPost
 clear hW hc hbw hg
 go_enter Tryz.func120,Tryz.ntmps120
 go_upto_region 1 with (fail)
 rw [←HW.out]
 go_upto_region 5 with (go_at_call 78;refine HR.out.mono ?_;rintro e w1 ⟨rfl,hb1⟩;(have d1:=cell_later hb1 c1);(have d2:=cell_later hb1 c2);(have HC1:=Lib.hid (HC.out.go hb1));(have HB1:=Lib.hid hb1);clear hb1)
 clear c0 c1 c2
 go_loopg [5,6] es.length (fun gm v5 v6 wr=>∃k:Nat,k≤es.length∧es.length-k≤gm∧v6=.int .i64 k∧Aside (wr.ownsRow w1.heap.size 37 1 v5 k (wtsV (es.take k)))∧Aside (Below w1.heap.size w1 wr))
 case atStart=>exact ⟨0,Nat.zero_le _,by omega,rfl,by rw [List.take_zero];exact World.ownsRow_nil _ _ _ _,Below.refl _ _⟩
 case round=>
  obtain ⟨k,hk,hg,rfl,HO,HBr⟩:=hrel
  have e1:=cell_later HBr.out d1
  have e2:=cell_later HBr.out d2
  by_cases hlt:k<es.length
  ·have hlt3:(k:Int)<(es.length:Int):=by omega
   have hk0:(0:Int)≤(k:Int):=by omega
   obtain ⟨qb,qo,rfl,y0,y1,y2⟩:=(HC1.out.go HBr.out).edge hlt
   have HST:=Lib.hid (wtsV_take hlt)
   generalize es[k]=x at*
   generalize wtsV (es.take k)=row at*
   clear y0 y1
   go_wp2_with (at_builtin;go_must (refine wpList_app w1.heap.size 37 _ 1 8 elem_u64 Tryz.underlying60 _ k row ⟨wr.heap.size,0,none⟩ 1 1 [.int .u64 x.w] rfl rfl (World.ownsRow.alloc HO.out _) (cell_one_new _ _ _) (one_cells rfl) ⟨rfl,by decide,by omega,by omega,(by have:=HBr.out.size;simp;omega)⟩ ?_);intro g6 cap6 w6 hown6 hgrow6 hbl6 hat6 hlt6;(have HO6:=Lib.hid hown6);(have HB6:=Lib.hid ((HBr.out.al _).trans hbl6));clear hown6 hgrow6 hbl6 hat6 hlt6)
   go_roundg (es.length-(k+1))
   case measure=>omega
   case rel=>exact ⟨k+1,by omega,Nat.le_refl _,by go_num,by rw [HST.out];exact HO6.out,HB6.out⟩
  ·obtain rfl:k=es.length:=by omega
   go_wp2
   obtain ⟨ao9,cap9,rfl,hce9⟩:=Cel.of_owns HO.out
   go_ret
   rw [List.take_length] at hce9
   exact ⟨ao9,cap9,rfl,hce9,HB.out.st (HB1.out.st HBr.out),fun j hj=>by have:=(HO.out.lt j hj).1;have:=HB1.out.size;have:=HSZ.out;omega⟩
end Go.Proofs.YteaaapdjplbljaaGreat
end
