/- Walks over graphs: which may be, nodes, edges; are all edges of a graph. -/
import Derived.Test.YteaaapdjplbljaaProg
import Derived.Test.YteaaapdjplbljaaVa01
set_option linter.unusedVariables false
set_option linter.unusedSimpArgs false
set_option linter.unnecessarySimpa false
namespace Go.Proofs.Yteaaapdjplbljaa
open Go.Proofs Go.RowKit Go.Shelf
structure EdgeD where
 f:Int
 t:Int
 w:Int
 deriving DecidableEq
structure GD where
 n:Int
 es:List EdgeD
abbrev encE (e:EdgeD):Value:=.agg #[.int .i64 e.f,.int .i64 e.t,.int .u64 e.w]
def flat:List EdgeD→List Value
 |[]=>[]
 |e::r=>.int .i64 e.f::.int .i64 e.t::.int .u64 e.w::flat r
theorem flat_length:∀es:List EdgeD,(flat es).length=es.length*3
 |[]=>rfl
 |e::r=>by simp [flat,flat_length r];omega
theorem flat_get:∀(es:List EdgeD) (i:Nat) (h:i<es.length),(flat es)[i*3]? =some (.int .i64 es[i].f)∧(flat es)[i*3+1]? =some (.int .i64 es[i].t)∧(flat es)[i*3+2]? =some (.int .u64 es[i].w)
 |e::r,0,_=>⟨rfl,rfl,rfl⟩
 |e::r,i+1,h=>by
  have ih:=flat_get r i (by simpa using h)
  have e1:(i+1)*3=i*3+1+1+1:=by omega
  simp only [e1,flat,List.getElem?_cons_succ,List.getElem_cons_succ]
  exact ih
theorem Cel.edge {w:World} {ao:Option Addr} {es:List EdgeD} (h:Cel w ao (flat es)) {i:Nat} (hi:i<es.length):
  ∃b o,ao=some ⟨b,o,none⟩∧w.cell? ⟨b,o+i*3,none⟩=some (.int .i64 es[i].f)∧w.cell? ⟨b,o+i*3+1,none⟩=some (.int .i64 es[i].t)∧w.cell? ⟨b,o+i*3+2,none⟩=some (.int .u64 es[i].w):=by
 obtain ⟨h1,h2,h3⟩:=flat_get es i hi
 obtain ⟨b,o,e,c1⟩:=h _ _ h1
 obtain ⟨b',o',e',c2⟩:=h _ _ h2
 obtain ⟨b'',o'',e'',c3⟩:=h _ _ h3
 rw [e] at e' e''
 cases e'
 cases e''
 exact ⟨b,o,e,c1,by rw [Nat.add_assoc];exact c2,by rw [Nat.add_assoc];exact c3⟩
def nodeB (n v:Int):Bool:=decide (0≤v)&&decide (v<n)
def edgeB (m:Nat) (e:Int):Bool:=decide (0≤e)&&decide (e<(m:Int))
def weightB (w:Int):Bool:=decide (1≤w)&&decide (w≤4294967296)
def looseB (n:Int) (e:EdgeD):Bool:=!nodeB n e.f||!nodeB n e.t||e.f==e.t
def rightG (g:GD):Int:=
 if g.n<1∨4096<g.n then 2 else if 16384<g.es.length then 5 else if g.es.any (looseB g.n) then 7 else if g.es.any (fun e=>!weightB e.w) then 2 else 0
theorem gweight_any (x:Int) (w:World):Calls Try.prog 49 #[.int .u64 x] w fun e w'=>e=.returned (.bool (weightB x))∧w=w':=by
 unfold weightB
 go_enter Try.func49,Try.ntmps49
 go_wp2
 all_goals
  go_ret
  exact ⟨by simp [*]<;>omega,rfl⟩
theorem refweight_any (x:Int) (w:World):Calls Try.prog 55 #[.int .u64 x] w fun e w'=>e=.returned (.bool (weightB x))∧w=w':=by
 unfold weightB
 go_enter Try.func55,Try.ntmps55
 go_wp2
 all_goals
  go_ret
  exact ⟨by simp [*]<;>omega,rfl⟩
theorem gnode_any (g:GD) (ao:Option Addr) (cap:Nat) (v:Int) (w:World):
  Calls Try.prog 30 #[.agg #[.int .i64 g.n,.slice ao g.es.length cap],.int .i64 v] w fun e w'=>e=.returned (.bool (nodeB g.n v))∧Below w.heap.size w w':=by
 unfold nodeB
 go_enter Try.func30,Try.ntmps30
 go_wp2
 all_goals
  go_ret
  exact ⟨by simp [*]<;>omega,by repeat (first|exact Below.refl _ _|refine Below.al ?_ _|refine Below.dr ?_ _|refine Below.drew ?_|assumption|(refine Below.st ?_ (by assumption)))⟩
theorem refnode_any (g:GD) (ao:Option Addr) (cap:Nat) (v:Int) (w:World):
  Calls Try.prog 54 #[.agg #[.int .i64 g.n,.slice ao g.es.length cap],.int .i64 v] w fun e w'=>e=.returned (.bool (nodeB g.n v))∧Below w.heap.size w w':=by
 unfold nodeB
 go_enter Try.func54,Try.ntmps54
 go_wp2
 all_goals
  go_ret
  exact ⟨by simp [*]<;>omega,by repeat (first|exact Below.refl _ _|refine Below.al ?_ _|refine Below.dr ?_ _|refine Below.drew ?_|assumption|(refine Below.st ?_ (by assumption)))⟩
theorem gedge_any (g:GD) (ao:Option Addr) (cap:Nat) (v:Int) (w:World):
  Calls Try.prog 76 #[.agg #[.int .i64 g.n,.slice ao g.es.length cap],.int .i64 v] w fun e w'=>e=.returned (.bool (edgeB g.es.length v))∧Below w.heap.size w w':=by
 unfold edgeB
 go_enter Try.func76,Try.ntmps76
 go_wp2
 all_goals
  go_ret
  exact ⟨by simp [*]<;>omega,by repeat (first|exact Below.refl _ _|refine Below.al ?_ _|refine Below.dr ?_ _|refine Below.drew ?_|assumption|(refine Below.st ?_ (by assumption)))⟩
set_option maxHeartbeats 400000 in
theorem IndexFunc_edge (g:Nat) (cb:Array Value) (p:EdgeD→Bool) (ao:Option Addr) (cap:Nat) (l:List EdgeD) (w:World) (hen:Enters Try.prog g)
  (hp:PredOn Try.prog g cb encE p l w) (hl:l.length≤9223372036854775807) (hc:Cel w ao (flat l)):
  Calls Try.prog 73 #[.slice ao l.length cap,.func (.func g) #[] cb] w fun e w'=>e=.returned (.int .i64 (idxI p l))∧Below w.heap.size w w':=by
 have HP:=Lib.hid hp
 have HC:=Lib.hid hc
 clear hp hc
 unfold Enters at hen
 go_enter Try.func73,Try.ntmps73
 go_wp2
 go_loopg [8] l.length (fun g i wr=>∃k:Nat,k≤l.length∧l.length-k≤g∧i=.int .i64 k∧Aside (Below w.heap.size w wr)∧Aside (∀j (h:j<l.length),j<k→p l[j]=false))
 case atStart=>exact ⟨0,Nat.zero_le _,by omega,rfl,Below.refl _ _,fun j _ h=>absurd h (Nat.not_lt_zero _)⟩
 case round=>
  obtain ⟨k,hk,hg,rfl,HB,HA⟩:=hrel
  by_cases hlt:k<l.length
  ·obtain ⟨b,o,hao,hc1,hc2,hc3⟩:=(HC.out.below HB.out (Nat.le_refl _)).edge hlt
   have HQ:=Lib.hid (HP.out wr l[k] HB.out (List.getElem_mem hlt))
   have HN:=Lib.hid (fun h:p l[k]=true=>idxI_hit p l k hlt h (fun j h1 h2=>HA.out j h1 h2))
   have HM:=Lib.hid (fun h:p l[k]=false=>(fun j (h1:j<l.length) (h2:j<k+1)=>(by
    by_cases e:j=k
    ·subst e;exact h
    ·exact HA.out j h1 (by omega):p l[j]=false)))
   generalize hx:l[k]=x at*
   clear hx
   subst hao
   cases hq:p x with
   |true=>
    have HN2:=Lib.hid (HN.out hq)
    have HQ2:=Lib.hid (hq▸HQ.out)
    clear hq
    go_wp2_with (go_at_fn g;refine HQ2.out.mono ?_;rintro e w1 ⟨rfl,hb1⟩)
    go_ret
    exact ⟨by rw [HN2.out];rfl,HB.out.trans (hb1.mono (by have:=HB.out.size;omega))⟩
   |false=>
    have HN2:=Lib.hid (HM.out hq)
    have HQ2:=Lib.hid (hq▸HQ.out)
    clear hq
    go_wp2_with (go_at_fn g;refine HQ2.out.mono ?_;rintro e w1 ⟨rfl,hb1⟩)
    go_roundg (l.length-(k+1))
    case measure=>omega
    case rel=>exact ⟨k+1,by omega,by omega,by go_num,HB.out.trans (hb1.mono (by have:=HB.out.size;omega)),HN2.out⟩
  ·obtain rfl:k=l.length:=by omega
   have HN:=Lib.hid (idxI_miss p l (fun j h=>HA.out j h h))
   go_wp2
   go_ret
   exact ⟨by rw [HN.out];rfl,HB.out⟩
theorem ContainsFunc_edge (g:Nat) (cb:Array Value) (p:EdgeD→Bool) (ao:Option Addr) (cap:Nat) (l:List EdgeD) (w:World) (hen:Enters Try.prog g)
  (hp:PredOn Try.prog g cb encE p l w) (hl:l.length≤9223372036854775807) (hc:Cel w ao (flat l)):
  Calls Try.prog 50 #[.slice ao l.length cap,.func (.func g) #[] cb] w fun e w'=>e=.returned (.bool (l.any p))∧Below w.heap.size w w':=by
 have HC:=Lib.hid (IndexFunc_edge g cb p ao cap l w hen hp hl hc)
 have HI:=Lib.hid (idxI_any p l)
 clear hp hc hen
 generalize idxI p l=r at*
 go_enter Try.func50,Try.ntmps50
 go_wp2_with (go_at_call 73;refine HC.out.mono ?_;rintro e w1 ⟨rfl,hb1⟩)
 go_ret
 exact ⟨by rw [←HI.out];rfl,hb1⟩
theorem Right2_any (e:EdgeD) (w:World):Calls Try.prog 48 (#[encE e]++#[]) w fun x w'=>x=.returned (.bool (!weightB e.w))∧Below w.heap.size w w':=by
 have HX:=Lib.hid (gweight_any e.w)
 generalize weightB e.w=r at*
 go_enter Try.func48,Try.ntmps48
 go_wp2_with (go_at_call 49;refine (HX.out _).mono ?_;rintro e w1 ⟨rfl,rfl⟩)
 go_ret
 exact ⟨rfl,by repeat (first|exact Below.refl _ _|refine Below.al ?_ _|refine Below.dr ?_ _|refine Below.drew ?_|assumption|(refine Below.st ?_ (by assumption)))⟩
theorem Right1G_any (g:GD) (ao:Option Addr) (cap B:Nat) (e:EdgeD) (w:World) (h0:w.cell? ⟨B,0,none⟩=some (.int .i64 g.n)) (h1:w.cell? ⟨B,1,none⟩=some (.slice ao g.es.length cap)):
  Calls Try.prog 47 (#[encE e]++#[.pointer (some ⟨B,0,none⟩)]) w fun x w'=>x=.returned (.bool (looseB g.n e))∧Below w.heap.size w w':=by
 unfold looseB
 have X1:=Lib.hid (gnode_any g ao cap e.f)
 have X2:=Lib.hid (gnode_any g ao cap e.t)
 have k0:∀o,(w.alloc o).cell? ⟨B,0,none⟩=some (.int .i64 g.n):=fun o=>cell_later (Below.of_al _ o) h0
 have k1:∀o,(w.alloc o).cell? ⟨B,1,none⟩=some (.slice ao g.es.length cap):=fun o=>cell_later (Below.of_al _ o) h1
 cases q1:nodeB g.n e.f with
 |false=>
  rw [q1] at X1
  clear q1
  go_enter Try.func47,Try.ntmps47
  go_wp2_with (go_at_call 30;refine (X1.out _).mono ?_;rintro e w1 ⟨rfl,hb1⟩)
  go_ret
  exact ⟨rfl,by repeat (first|exact Below.refl _ _|refine Below.al ?_ _|refine Below.dr ?_ _|refine Below.drew ?_|assumption|(refine Below.st ?_ (by assumption)))⟩
 |true=>
  rw [q1] at X1
  clear q1
  cases q2:nodeB g.n e.t with
  |false=>
   rw [q2] at X2
   clear q2
   go_enter Try.func47,Try.ntmps47
   go_wp2_with fail
   refine (X1.out _).mono ?_
   rintro e w1 ⟨rfl,hb1⟩
   have m0:=cell_later hb1 (k0 _)
   have m1:=cell_later hb1 (k1 _)
   have m2:=cell_later hb1 (show (w.alloc (Obj.cells #[.int .i64 e.f,.int .i64 e.t,.int .u64 e.w] 45)).cell? ⟨w.heap.size,0,none⟩=some (.int .i64 e.f) by go_simp)
   have m3:=cell_later hb1 (show (w.alloc (Obj.cells #[.int .i64 e.f,.int .i64 e.t,.int .u64 e.w] 45)).cell? ⟨w.heap.size,1,none⟩=some (.int .i64 e.t) by go_simp)
   have HB1:=Lib.hid hb1
   go_wp2_with fail
   refine (X2.out _).mono ?_
   rintro e w2 ⟨rfl,hb2⟩
   have n2:=cell_later hb2 m2
   have n3:=cell_later hb2 m3
   go_wp2
   go_ret
   exact ⟨rfl,by repeat (first|exact Below.refl _ _|refine Below.al ?_ _|refine Below.dr ?_ _|refine Below.drew ?_|assumption|(refine Below.st ?_ (by assumption)))⟩
  |true=>
   rw [q2] at X2
   clear q2
   go_enter Try.func47,Try.ntmps47
   go_wp2_with fail
   refine (X1.out _).mono ?_
   rintro e w1 ⟨rfl,hb1⟩
   have m0:=cell_later hb1 (k0 _)
   have m1:=cell_later hb1 (k1 _)
   have m2:=cell_later hb1 (show (w.alloc (Obj.cells #[.int .i64 e.f,.int .i64 e.t,.int .u64 e.w] 45)).cell? ⟨w.heap.size,0,none⟩=some (.int .i64 e.f) by go_simp)
   have m3:=cell_later hb1 (show (w.alloc (Obj.cells #[.int .i64 e.f,.int .i64 e.t,.int .u64 e.w] 45)).cell? ⟨w.heap.size,1,none⟩=some (.int .i64 e.t) by go_simp)
   have HB1:=Lib.hid hb1
   go_wp2_with fail
   refine (X2.out _).mono ?_
   rintro e w2 ⟨rfl,hb2⟩
   have n2:=cell_later hb2 m2
   have n3:=cell_later hb2 m3
   go_wp2
   go_ret
   exact ⟨rfl,by repeat (first|exact Below.refl _ _|refine Below.al ?_ _|refine Below.dr ?_ _|refine Below.drew ?_|assumption|(refine Below.st ?_ (by assumption)))⟩
theorem rightG_1 {g:GD} (h:g.n<1∨4096<g.n):rightG g=2:=by unfold rightG;rw [if_pos h]
theorem rightG_2 {g:GD} (h1:¬g.n<1) (h1':¬4096<g.n) (h2:16384<g.es.length):rightG g=5:=by unfold rightG;rw [if_neg (by omega),if_pos h2]
theorem rightG_3 {g:GD} (h1:¬g.n<1) (h1':¬4096<g.n) (h2:¬16384<g.es.length) (h3:g.es.any (looseB g.n)=true):rightG g=7:=by
 unfold rightG;rw [if_neg (by omega),if_neg h2,if_pos h3]
theorem rightG_4 {g:GD} (h1:¬g.n<1) (h1':¬4096<g.n) (h2:¬16384<g.es.length) (h3:g.es.any (looseB g.n)=false) (h4:g.es.any (fun e=>!weightB e.w)=true):rightG g=2:=by
 unfold rightG;rw [if_neg (by omega),if_neg h2,if_neg (by simp [h3]),if_pos h4]
theorem rightG_5 {g:GD} (h1:¬g.n<1) (h1':¬4096<g.n) (h2:¬16384<g.es.length) (h3:g.es.any (looseB g.n)=false) (h4:g.es.any (fun e=>!weightB e.w)=false):rightG g=0:=by
 unfold rightG;rw [if_neg (by omega),if_neg h2,if_neg (by simp [h3]),if_neg (by simp [h4])]
set_option maxHeartbeats 1000000 in
theorem gRight_any (g:GD) (ao:Option Addr) (cap:Nat) (w:World) (hl:g.es.length≤9223372036854775807) (hc:Cel w ao (flat g.es)):
  Calls Try.prog 29 #[.agg #[.int .i64 g.n,.slice ao g.es.length cap]] w fun e w'=>e=.returned (.int .i64 (rightG g))∧Below w.heap.size w w':=by
 have HC:=Lib.hid hc
 clear hc
 have G1:=Lib.hid (@rightG_1 g)
 have G2:=Lib.hid (@rightG_2 g)
 have G3:=Lib.hid (@rightG_3 g)
 have G4:=Lib.hid (@rightG_4 g)
 have G5:=Lib.hid (@rightG_5 g)
 have hw2:∀o:Obj,o=Obj.cells #[.int .i64 g.n,.slice ao g.es.length cap] 24→PredOn Try.prog 47 #[.pointer (some ⟨w.heap.size,0,none⟩)] encE (looseB g.n) g.es (w.alloc o):=by
  rintro o rfl W x hb _
  exact Right1G_any g ao cap w.heap.size x W (cell_later hb (by go_simp)) (cell_later hb (by go_simp))
 have hw3:∀W,PredOn Try.prog 48 #[] encE (fun e=>!weightB e.w) g.es W:=fun W W' x _ _=>Right2_any x W'
 have X1:=Lib.hid (ContainsFunc_edge 47 #[.pointer (some ⟨w.heap.size,0,none⟩)] (looseB g.n) ao cap g.es _ (enters_of Try.func47 (by kernel_rfl) rfl) (hw2 _ rfl) hl (HC.out.go (Below.of_al _ _)))
 have X2:=Lib.hid (fun W h=>ContainsFunc_edge 48 #[] (fun e=>!weightB e.w) ao cap g.es W (enters_of Try.func48 (by kernel_rfl) rfl) (hw3 W) hl h)
 clear hw2 hw3
 generalize rightG g=r at*
 by_cases h1:g.n<1
 ·have HR:=Lib.hid (G1.out (.inl h1))
  go_enter Try.func29,Try.ntmps29
  go_wp2
  go_ret
  exact ⟨by rw [HR.out];rfl,by repeat (first|exact Below.refl _ _|refine Below.al ?_ _|refine Below.dr ?_ _|refine Below.drew ?_|assumption|(refine Below.st ?_ (by assumption)))⟩
 ·by_cases h2:4096<g.n
  ·have HR:=Lib.hid (G1.out (.inr h2))
   go_enter Try.func29,Try.ntmps29
   go_wp2
   go_ret
   exact ⟨by rw [HR.out];rfl,by repeat (first|exact Below.refl _ _|refine Below.al ?_ _|refine Below.dr ?_ _|refine Below.drew ?_|assumption|(refine Below.st ?_ (by assumption)))⟩
  ·by_cases h3:16384<g.es.length
   ·have HR:=Lib.hid (G2.out h1 h2 h3)
    go_enter Try.func29,Try.ntmps29
    go_wp2
    go_ret
    exact ⟨by rw [HR.out];rfl,by repeat (first|exact Below.refl _ _|refine Below.al ?_ _|refine Below.dr ?_ _|refine Below.drew ?_|assumption|(refine Below.st ?_ (by assumption)))⟩
   ·cases q1:g.es.any (looseB g.n) with
    |true=>
     have HR:=Lib.hid (G3.out h1 h2 h3 q1)
     rw [q1] at X1
     clear q1
     go_enter Try.func29,Try.ntmps29
     go_wp2_with (go_at_call 50;refine X1.out.mono ?_;rintro e w1 ⟨rfl,hb1⟩)
     go_ret
     exact ⟨by rw [HR.out];rfl,by repeat (first|exact Below.refl _ _|refine Below.al ?_ _|refine Below.dr ?_ _|refine Below.drew ?_|assumption|(refine Below.st ?_ (by assumption)))⟩
    |false=>
     rw [q1] at X1
     cases q2:g.es.any (fun e=>!weightB e.w) with
     |true=>
      have HR:=Lib.hid (G4.out h1 h2 h3 q1 q2)
      rw [q2] at X2
      clear q1 q2
      go_enter Try.func29,Try.ntmps29
      go_wp2_with fail
      refine X1.out.mono ?_
      rintro e w1 ⟨rfl,hb1⟩
      have m0:=cell_later hb1 (show (w.alloc (Obj.cells #[.int .i64 g.n,.slice ao g.es.length cap] 24)).cell? ⟨w.heap.size,1,none⟩=some (.slice ao g.es.length cap) by go_simp)
      go_wp2_with fail
      refine (X2.out _ (HC.out.go (by repeat (first|exact Below.refl _ _|refine Below.al ?_ _|refine Below.dr ?_ _|refine Below.drew ?_|assumption|(refine Below.st ?_ (by assumption)))))).mono ?_
      rintro e w2 ⟨rfl,hb2⟩
      go_wp2
      go_ret
      exact ⟨by rw [HR.out];rfl,by repeat (first|exact Below.refl _ _|refine Below.al ?_ _|refine Below.dr ?_ _|refine Below.drew ?_|assumption|(refine Below.st ?_ (by assumption)))⟩
     |false=>
      have HR:=Lib.hid (G5.out h1 h2 h3 q1 q2)
      rw [q2] at X2
      clear q1 q2
      go_enter Try.func29,Try.ntmps29
      go_wp2_with fail
      refine X1.out.mono ?_
      rintro e w1 ⟨rfl,hb1⟩
      have m0:=cell_later hb1 (show (w.alloc (Obj.cells #[.int .i64 g.n,.slice ao g.es.length cap] 24)).cell? ⟨w.heap.size,1,none⟩=some (.slice ao g.es.length cap) by go_simp)
      go_wp2_with fail
      refine (X2.out _ (HC.out.go (by repeat (first|exact Below.refl _ _|refine Below.al ?_ _|refine Below.dr ?_ _|refine Below.drew ?_|assumption|(refine Below.st ?_ (by assumption)))))).mono ?_
      rintro e w2 ⟨rfl,hb2⟩
      go_wp2
      go_ret
      exact ⟨by rw [HR.out];rfl,by repeat (first|exact Below.refl _ _|refine Below.al ?_ _|refine Below.dr ?_ _|refine Below.drew ?_|assumption|(refine Below.st ?_ (by assumption)))⟩
def edgesB (g:GD) (l:List Int):Bool:=rightG g==0&&!(l.any fun e=>!edgeB g.es.length e)
set_option maxHeartbeats 400000 in
theorem IndexFunc_int (g:Nat) (cb:Array Value) (p:Int→Bool) (ao:Option Addr) (cap:Nat) (l:List Int) (w:World) (hen:Enters Try.prog g)
  (hp:PredOn Try.prog g cb encI p l w) (hl:l.length≤9223372036854775807) (hc:Cel w ao (l.map encI)):
  Calls Try.prog 85 #[.slice ao l.length cap,.func (.func g) #[] cb] w fun e w'=>e=.returned (.int .i64 (idxI p l))∧Below w.heap.size w w':=by
 have HP:=Lib.hid hp
 have HC:=Lib.hid hc
 clear hp hc
 unfold Enters at hen
 go_enter Try.func85,Try.ntmps85
 go_wp2
 go_loopg [8] l.length (fun g i wr=>∃k:Nat,k≤l.length∧l.length-k≤g∧i=.int .i64 k∧Aside (Below w.heap.size w wr)∧Aside (∀j (h:j<l.length),j<k→p l[j]=false))
 case atStart=>exact ⟨0,Nat.zero_le _,by omega,rfl,Below.refl _ _,fun j _ h=>absurd h (Nat.not_lt_zero _)⟩
 case round=>
  obtain ⟨k,hk,hg,rfl,HB,HA⟩:=hrel
  by_cases hlt:k<l.length
  ·obtain ⟨b,o,hao,hcell⟩:=(HC.out.below HB.out (Nat.le_refl _)).at hlt
   have HQ:=Lib.hid (HP.out wr l[k] HB.out (List.getElem_mem hlt))
   have HN:=Lib.hid (fun h:p l[k]=true=>idxI_hit p l k hlt h (fun j h1 h2=>HA.out j h1 h2))
   have HM:=Lib.hid (fun h:p l[k]=false=>(fun j (h1:j<l.length) (h2:j<k+1)=>(by
    by_cases e:j=k
    ·subst e;exact h
    ·exact HA.out j h1 (by omega):p l[j]=false)))
   generalize hx:l[k]=x at*
   clear hx
   subst hao
   cases hq:p x with
   |true=>
    have HN2:=Lib.hid (HN.out hq)
    have HQ2:=Lib.hid (hq▸HQ.out)
    clear hq
    go_wp2_with (go_at_fn g;refine HQ2.out.mono ?_;rintro e w1 ⟨rfl,hb1⟩)
    go_ret
    exact ⟨by rw [HN2.out];rfl,HB.out.trans (hb1.mono (by have:=HB.out.size;omega))⟩
   |false=>
    have HN2:=Lib.hid (HM.out hq)
    have HQ2:=Lib.hid (hq▸HQ.out)
    clear hq
    go_wp2_with (go_at_fn g;refine HQ2.out.mono ?_;rintro e w1 ⟨rfl,hb1⟩)
    go_roundg (l.length-(k+1))
    case measure=>omega
    case rel=>exact ⟨k+1,by omega,by omega,by go_num,HB.out.trans (hb1.mono (by have:=HB.out.size;omega)),HN2.out⟩
  ·obtain rfl:k=l.length:=by omega
   have HN:=Lib.hid (idxI_miss p l (fun j h=>HA.out j h h))
   go_wp2
   go_ret
   exact ⟨by rw [HN.out];rfl,HB.out⟩
theorem ContainsFunc_int (g:Nat) (cb:Array Value) (p:Int→Bool) (ao:Option Addr) (cap:Nat) (l:List Int) (w:World) (hen:Enters Try.prog g)
  (hp:PredOn Try.prog g cb encI p l w) (hl:l.length≤9223372036854775807) (hc:Cel w ao (l.map encI)):
  Calls Try.prog 74 #[.slice ao l.length cap,.func (.func g) #[] cb] w fun e w'=>e=.returned (.bool (l.any p))∧Below w.heap.size w w':=by
 have HC:=Lib.hid (IndexFunc_int g cb p ao cap l w hen hp hl hc)
 have HI:=Lib.hid (idxI_any p l)
 clear hp hc hen
 generalize idxI p l=r at*
 go_enter Try.func74,Try.ntmps74
 go_wp2_with (go_at_call 85;refine HC.out.mono ?_;rintro e w1 ⟨rfl,hb1⟩)
 go_ret
 exact ⟨by rw [←HI.out];rfl,hb1⟩
theorem edges1_any (g:GD) (ao:Option Addr) (cap B:Nat) (v:Int) (w:World) (h0:w.cell? ⟨B,0,none⟩=some (.int .i64 g.n)) (h1:w.cell? ⟨B,1,none⟩=some (.slice ao g.es.length cap)):
  Calls Try.prog 75 (#[encI v]++#[.pointer (some ⟨B,0,none⟩)]) w fun x w'=>x=.returned (.bool (!edgeB g.es.length v))∧Below w.heap.size w w':=by
 have X1:=Lib.hid (gedge_any g ao cap v)
 generalize edgeB g.es.length v=r at*
 go_enter Try.func75,Try.ntmps75
 go_wp2_with (go_at_call 76;refine (X1.out _).mono ?_;rintro e w1 ⟨rfl,hb1⟩)
 go_ret
 exact ⟨rfl,by repeat (first|exact Below.refl _ _|refine Below.al ?_ _|refine Below.dr ?_ _|refine Below.drew ?_|assumption|(refine Below.st ?_ (by assumption)))⟩
set_option maxHeartbeats 1000000 in
theorem edges_any (g:GD) (ao bo:Option Addr) (cap cb:Nat) (l:List Int) (w:World) (hl:g.es.length≤9223372036854775807) (hll:l.length≤9223372036854775807) (hc:Cel w ao (flat g.es)) (hd:Cel w bo (l.map encI)):
  Calls Try.prog 51 #[.agg #[.int .i64 g.n,.slice ao g.es.length cap],.slice bo l.length cb] w fun e w'=>e=.returned (.bool (edgesB g l))∧Below w.heap.size w w':=by
 have HC:=Lib.hid hc
 have HD:=Lib.hid hd
 clear hc hd
 have hw2:∀W,Below (w.alloc (Obj.cells #[.int .i64 g.n,.slice ao g.es.length cap] 24)).heap.size (w.alloc (Obj.cells #[.int .i64 g.n,.slice ao g.es.length cap] 24)) W→PredOn Try.prog 75 #[.pointer (some ⟨w.heap.size,0,none⟩)] encI (fun e=>!edgeB g.es.length e) l W:=by
  intro W0 hb0 W x hb _
  exact edges1_any g ao cap w.heap.size x W (cell_later hb (cell_later hb0 (by go_simp))) (cell_later hb (cell_later hb0 (by go_simp)))
 have X1:=Lib.hid (fun W h=>gRight_any g ao cap W hl h)
 have X2:=Lib.hid (fun W h hb=>ContainsFunc_int 75 #[.pointer (some ⟨w.heap.size,0,none⟩)] (fun e=>!edgeB g.es.length e) bo cb l W (enters_of Try.func75 (by kernel_rfl) rfl) (hw2 W hb) hll h)
 clear hw2
 unfold edgesB
 generalize (l.any fun e=>!edgeB g.es.length e)=r2 at*
 cases q1:(rightG g==0) with
 |false=>
  generalize rightG g=r at*
  go_enter Try.func51,Try.ntmps51
  go_wp2_with (go_at_call 29;refine (X1.out _ (HC.out.go (by repeat (first|exact Below.refl _ _|refine Below.al ?_ _|refine Below.dr ?_ _|refine Below.drew ?_|assumption|(refine Below.st ?_ (by assumption)))))).mono ?_;rintro e w1 ⟨rfl,hb1⟩)
  go_ret
  exact ⟨rfl,by repeat (first|exact Below.refl _ _|refine Below.al ?_ _|refine Below.dr ?_ _|refine Below.drew ?_|assumption|(refine Below.st ?_ (by assumption)))⟩
 |true=>
  generalize rightG g=r at*
  go_enter Try.func51,Try.ntmps51
  go_wp2_with fail
  refine (X1.out _ (HC.out.go (by repeat (first|exact Below.refl _ _|refine Below.al ?_ _|refine Below.dr ?_ _|refine Below.drew ?_|assumption|(refine Below.st ?_ (by assumption)))))).mono ?_
  rintro e w1 ⟨rfl,hb1⟩
  have HB1:=Lib.hid hb1
  go_wp2_with fail
  refine (X2.out _ (HD.out.go (by repeat (first|exact Below.refl _ _|refine Below.al ?_ _|refine Below.dr ?_ _|refine Below.drew ?_|assumption|(refine Below.st ?_ (by assumption))))) hb1).mono ?_
  rintro e w2 ⟨rfl,hb2⟩
  go_wp2
  go_ret
  exact ⟨rfl,by repeat (first|exact Below.refl _ _|refine Below.al ?_ _|refine Below.dr ?_ _|refine Below.drew ?_|assumption|(refine Below.st ?_ (by assumption)))⟩
end Go.Proofs.Yteaaapdjplbljaa
