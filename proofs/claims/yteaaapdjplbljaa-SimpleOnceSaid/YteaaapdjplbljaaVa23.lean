/- Walks: the nodes that a row of edges comes by: path.Nodes and its reference. -/
import Derived.Test.YteaaapdjplbljaaProg
import Derived.Test.YteaaapdjplbljaaVa05
import Derived.Test.YteaaapdjplbljaaVa14
set_option linter.unusedVariables false
set_option linter.unusedSimpArgs false
set_option linter.unnecessarySimpa false
namespace Go.Proofs.Yteaaapdjplbljaa
open Go.Proofs Go.RowKit Go.Shelf
def edD:EdgeD:=⟨0,0,0⟩
def walkGo (es:List EdgeD):Int→List Int→List Int→Option (List Int)
 |_,out,[]=>some out
 |s,out,e::r=>if (es.getD e.toNat edD).f=s then walkGo es (es.getD e.toNat edD).t (out++[(es.getD e.toNat edD).t]) r else none
def nodesG (g:GD) (s:Int) (l:List Int):Option (List Int):=if edgesB g l&&nodeB g.n s then walkGo g.es s [s] l else none
theorem nodesG_no1 {g:GD} {s:Int} {l:List Int} (h:edgesB g l=false):nodesG g s l=none:=by unfold nodesG;rw [h];rfl
theorem nodesG_no2 {g:GD} {s:Int} {l:List Int} (h:nodeB g.n s=false):nodesG g s l=none:=by unfold nodesG;rw [h,Bool.and_false];rfl
theorem nodesG_yes {g:GD} {s:Int} {l:List Int} (h:edgesB g l=true) (h2:nodeB g.n s=true):nodesG g s l=walkGo g.es s [s] l:=by unfold nodesG;rw [h,h2];rfl
theorem edgesB_mem {g:GD} {l:List Int} (h:edgesB g l=true) {e:Int} (he:e∈l):0≤e∧e<(g.es.length:Int):=by
 unfold edgesB at h
 simp only [Bool.and_eq_true,Bool.not_eq_true',List.any_eq_false] at h
 have:=h.2 e he
 simpa [edgeB] using this
theorem edgesB_right {g:GD} {l:List Int} (h:edgesB g l=true):rightG g=0:=by
 unfold edgesB at h
 simp only [Bool.and_eq_true,beq_iff_eq] at h
 exact h.1
theorem rightG_bounds {g:GD} (h:rightG g=0):1≤g.n∧g.n≤4096∧g.es.length≤16384:=by
 unfold rightG at h
 split at h
 ·omega
 ·split at h
  ·omega
  ·omega
theorem walk_step_yes {es:List EdgeD} {s:Int} {out l:List Int} {k:Nat} (hk:k<l.length) (h0:0≤l[k]) (h1:l[k].toNat<es.length) (h:es[l[k].toNat].f=s):
  walkGo es s out (l.drop k)=walkGo es es[l[k].toNat].t (out++[es[l[k].toNat].t]) (l.drop (k+1)):=by
 rw [List.drop_eq_getElem_cons hk,walkGo]
 have:es.getD l[k].toNat edD=es[l[k].toNat]:=by simp [List.getD,h1]
 rw [this,if_pos h]
theorem walk_step_no {es:List EdgeD} {s:Int} {out l:List Int} {k:Nat} (hk:k<l.length) (h0:0≤l[k]) (h1:l[k].toNat<es.length) (h:¬es[l[k].toNat].f=s):
  walkGo es s out (l.drop k)=none:=by
 rw [List.drop_eq_getElem_cons hk,walkGo]
 have:es.getD l[k].toNat edD=es[l[k].toNat]:=by simp [List.getD,h1]
 rw [this,if_neg h]
theorem walk_end {es:List EdgeD} {s:Int} {out l:List Int}:walkGo es s out (l.drop l.length)=some out:=by rw [List.drop_length,walkGo]
theorem cap_of_owns {w:World} {base:Nat} {e:TypeId} {size n cap:Nat} {ao:Option Addr} {xs:List Value} (h:w.ownsRow base e size (.slice ao n cap) n xs):n≤cap:=by
 rcases h.2 with ⟨h1,rfl⟩|⟨g,cap',cur,h1,hb,hg,rest⟩
 ·omega
 ·cases h1
  omega
def NodesPost (w:World) (r:Option (List Int)) (e:Ending) (w':World):Prop:=
 ∃ao cap,e=.returned (.tuple #[.slice ao (r.getD []).length cap,.bool r.isSome])∧Cel w' ao ((r.getD []).map encI)∧Below w.heap.size w w'∧(r.getD []).length≤cap
set_option maxHeartbeats 2000000 in
theorem Nodes_any (g:GD) (ao bo:Option Addr) (cap cb:Nat) (s:Int) (l:List Int) (w:World) (hl:g.es.length≤9223372036854775807) (hll:l.length≤1099511627776) (hc:Cel w ao (flat g.es)) (hd:Cel w bo (l.map encI)):
  Calls Try.prog 31 #[.agg #[.int .i64 g.n,.slice ao g.es.length cap],.int .i64 s,.slice bo l.length cb] w (NodesPost w (nodesG g s l)):=by
 have HC:=Lib.hid hc
 have HD:=Lib.hid hd
 clear hc hd
 have X1:=Lib.hid (fun W h1 h2=>edges_any g ao bo cap cb l W hl (by omega) h1 h2)
 have X2:=Lib.hid (fun W=>gnode_any g ao cap s W)
 cases q1:edgesB g l with
 |false=>
  have HR:=Lib.hid (nodesG_no1 (s:=s) q1)
  rw [q1] at X1
  clear q1
  generalize nodesG g s l=r at*
  go_enter Try.func31,Try.ntmps31
  go_wp2_with (go_at_call 51;refine (X1.out _ (HC.out.go (by repeat (first|exact Below.refl _ _|refine Below.al ?_ _|refine Below.dr ?_ _|refine Below.drew ?_|assumption|(refine Below.st ?_ (by assumption))))) (HD.out.go (by repeat (first|exact Below.refl _ _|refine Below.al ?_ _|refine Below.dr ?_ _|refine Below.drew ?_|assumption|(refine Below.st ?_ (by assumption)))))).mono ?_;rintro e w1 ⟨rfl,hb1⟩)
  go_ret2
  exact ⟨none,0,by rw [HR.out];rfl,by rw [HR.out];exact Cel.nil _ _,by repeat (first|exact Below.refl _ _|refine Below.al ?_ _|refine Below.dr ?_ _|refine Below.drew ?_|assumption|(refine Below.st ?_ (by assumption))),by rw [HR.out];exact Nat.le_refl _⟩
 |true=>
  have HM:=Lib.hid (fun e he=>edgesB_mem q1 (e:=e) he)
  rw [q1] at X1
  cases q2:nodeB g.n s with
  |false=>
   have HR:=Lib.hid (nodesG_no2 (l:=l) q2)
   rw [q2] at X2
   clear q1 q2
   generalize nodesG g s l=r at*
   go_enter Try.func31,Try.ntmps31
   go_wp2_with fail
   obtain ⟨W,hW,c0,c1,hsW⟩:∃W,W=w.alloc (Obj.cells #[.int .i64 g.n,.slice ao g.es.length cap] 24)∧W.cell? ⟨w.heap.size,0,none⟩=some (.int .i64 g.n)∧W.cell? ⟨w.heap.size,1,none⟩=some (.slice ao g.es.length cap)∧w.heap.size<W.heap.size:=⟨_,rfl,by go_simp,by go_simp,by simp⟩
   rw [←hW]
   have HW:=Lib.hid (show Below w.heap.size w W by rw [hW];repeat (first|exact Below.refl _ _|refine Below.al ?_ _|refine Below.dr ?_ _|refine Below.drew ?_|assumption|(refine Below.st ?_ (by assumption))))
   clear hW
   refine (X1.out _ (HC.out.go HW.out) (HD.out.go HW.out)).mono ?_
   rintro e w1 ⟨rfl,hb1⟩
   have m0:=cell_later hb1 c0
   have m1:=cell_later hb1 c1
   have HW1:=Lib.hid (HW.out.st hb1)
   have hs1:w.heap.size<w1.heap.size:=by have:=hb1.size;omega
   clear c0 c1 hb1 hsW HW
   go_wp2_with fail
   refine (X2.out _).mono ?_
   rintro e w2 ⟨rfl,hb2⟩
   have c0:=cell_later hb2 m0
   have c1:=cell_later hb2 m1
   have HW2:=Lib.hid (HW1.out.st hb2)
   have hs2:w.heap.size<w2.heap.size:=by have:=hb2.size;omega
   clear m0 m1 hb2 hs1 HW1
   go_wp2
   go_ret2
   exact ⟨none,0,by rw [HR.out];rfl,by rw [HR.out];exact Cel.nil _ _,HW2.out,by rw [HR.out];exact Nat.le_refl _⟩
  |true=>
   have HR:=Lib.hid (nodesG_yes q1 q2)
   rw [q2] at X2
   clear q1 q2
   generalize nodesG g s l=r at*
   go_enter Try.func31,Try.ntmps31
   go_wp2_with fail
   obtain ⟨W,hW,c0,c1,hsW⟩:∃W,W=w.alloc (Obj.cells #[.int .i64 g.n,.slice ao g.es.length cap] 24)∧W.cell? ⟨w.heap.size,0,none⟩=some (.int .i64 g.n)∧W.cell? ⟨w.heap.size,1,none⟩=some (.slice ao g.es.length cap)∧w.heap.size<W.heap.size:=⟨_,rfl,by go_simp,by go_simp,by simp⟩
   rw [←hW]
   have HW:=Lib.hid (show Below w.heap.size w W by rw [hW];repeat (first|exact Below.refl _ _|refine Below.al ?_ _|refine Below.dr ?_ _|refine Below.drew ?_|assumption|(refine Below.st ?_ (by assumption))))
   clear hW
   refine (X1.out _ (HC.out.go HW.out) (HD.out.go HW.out)).mono ?_
   rintro e w1 ⟨rfl,hb1⟩
   have m0:=cell_later hb1 c0
   have m1:=cell_later hb1 c1
   have HW1:=Lib.hid (HW.out.st hb1)
   have hs1:w.heap.size<w1.heap.size:=by have:=hb1.size;omega
   clear c0 c1 hb1 hsW HW
   go_wp2_with fail
   refine (X2.out _).mono ?_
   rintro e w2 ⟨rfl,hb2⟩
   have c0:=cell_later hb2 m0
   have c1:=cell_later hb2 m1
   have HW2:=Lib.hid (HW1.out.st hb2)
   have hs2:w.heap.size<w2.heap.size:=by have:=hb2.size;omega
   clear m0 m1 hb2 hs1 HW1
   go_wp2
   have HO1:=Lib.hid (World.ownsRow_lit (base:=w2.heap.size) (e:=3) (size:=1) w2 #[.int .i64 s] 1 (Nat.le_refl _) (by decide) rfl)
   go_loopg [1,8,25] l.length (fun gg cur v i wr=>∃(k cap':Nat) (x:Int) (ao':Option Addr) (O:List Int),k≤l.length∧l.length-k≤gg∧i=.int .i64 k∧cur=.int .i64 x∧v=.slice ao' O.length cap'∧O.length=k+1∧w2.heap.size≤wr.heap.size∧
    Aside (wr.ownsRow w2.heap.size 3 1 (.slice ao' O.length cap') O.length (O.map encI)∧Below w2.heap.size w2 wr)∧Aside (walkGo g.es x O (l.drop k)=r))
   case atStart=>exact ⟨0,1,s,_,[s],Nat.zero_le _,by omega,rfl,rfl,rfl,rfl,by simp,⟨HO1.out,Below.of_al _ _⟩,HR.out.symm⟩
   case round=>
    clear HO1
    obtain ⟨k,cap',x,ao',O,hk,hg,rfl,rfl,rfl,hO,hsz,HA,HG⟩:=hrel
    have m0:=cell_later HA.out.2 c0
    have m1:=cell_later HA.out.2 c1
    by_cases hlt:k<l.length
    ·obtain ⟨b,o,hbo,f1⟩:=(HD.out.go (HW2.out.st HA.out.2)).at hlt
     have hin:=HM.out l[k] (List.getElem_mem hlt)
     have hj:l[k].toNat<g.es.length:=by omega
     obtain ⟨b2,o2,hao2,j1,j2,j3⟩:=(HC.out.go (HW2.out.st HA.out.2)).edge hj
     have HY:=Lib.hid (fun h=>walk_step_yes (out:=O) (s:=x) hlt hin.1 hj h)
     have HNo:=Lib.hid (fun h=>walk_step_no (out:=O) (s:=x) hlt hin.1 hj h)
     rw [HG.out] at HY HNo
     have i0:0≤l[k]:=hin.1
     have i1:l[k]<(g.es.length:Int):=hin.2
     clear hin
     generalize g.es[l[k].toNat]=ed at*
     generalize l[k]=ei at*
     subst hbo hao2
     by_cases he:ed.f=x
     ·have t1:(ed.f != x)=false:=by simp [he]
      have HQ:=Lib.hid (HY.out he)
      clear he
      go_wp2_with (at_builtin;go_must ((with_reducible refine wpList_app w2.heap.size 3 _ 1 8 elem_int Try.underlying25 (.slice ao' O.length cap') O.length _ ⟨wr.heap.size,0,none⟩ 1 1 ?_ ?_ ?_ (World.ownsRow.alloc HA.out.1 _) ?_ ?_ ?_ ?_);rotate_left 1;(· rfl);(· rfl);(· exact cell_one_new _ _ _);(· exact one_cells rfl);(· exact ⟨rfl,by decide,by omega,by omega,by simp;omega⟩);intro g1 cap1 w1 hown hgrow hbl hat hlt1;(have H1o:=Lib.hid hown;have H1b:=Lib.hid hbl;have H1g:=Lib.hid (And.intro hgrow hat);clear hown hgrow hbl hat)))
      go_roundg (l.length-(k+1))
      case measure=>omega
      case rel=>
       refine ⟨k+1,cap1,ed.t,some ⟨g1,0,none⟩,O++[ed.t],by omega,by omega,by go_num,rfl,by simp [hO],by simp [hO],by have:=H1b.out.size;simp at this;omega,⟨?_,HA.out.2.trans ((Below.alloc (Below.refl _ _) hsz _).trans H1b.out)⟩,HQ.out.symm⟩
       rw [List.length_append,List.map_append]
       exact H1o.out
     ·have t1:(ed.f != x)=true:=by simp [he]
      have HQ:=Lib.hid (HNo.out he)
      clear he
      go_wp2
      go_ret2
      exact ⟨none,0,by rw [HQ.out];rfl,by rw [HQ.out];exact Cel.nil _ _,HW2.out.st HA.out.2,by rw [HQ.out];exact Nat.le_refl _⟩
    ·obtain rfl:k=l.length:=by omega
     have HQ:=Lib.hid (@walk_end g.es x O l)
     rw [HG.out] at HQ
     go_wp2
     go_ret2
     obtain ⟨ao3,cap3,e3,h3⟩:=Cel.of_owns HA.out.1
     cases e3
     exact ⟨ao',cap',by rw [HQ.out];rfl,by rw [HQ.out];exact h3,HW2.out.st HA.out.2,by rw [HQ.out];exact cap_of_owns HA.out.1⟩
set_option maxHeartbeats 2000000 in
theorem refNodes_any (g:GD) (ao bo:Option Addr) (cap cb:Nat) (s:Int) (l:List Int) (w:World) (hl:g.es.length≤9223372036854775807) (hll:l.length≤1099511627776) (hc:Cel w ao (flat g.es)) (hd:Cel w bo (l.map encI)):
  Calls Try.prog 26 #[.agg #[.int .i64 g.n,.slice ao g.es.length cap],.int .i64 s,.slice bo l.length cb] w (NodesPost w (nodesG g s l)):=by
 have HC:=Lib.hid hc
 have HD:=Lib.hid hd
 clear hc hd
 have X1:=Lib.hid (fun W h1 h2=>refedges_any g ao bo cap cb l W hl (by omega) h1 h2)
 cases q1:edgesB g l with
 |false=>
  have HR:=Lib.hid (nodesG_no1 (s:=s) q1)
  rw [q1] at X1
  clear q1
  generalize nodesG g s l=r at*
  go_enter Try.func26,Try.ntmps26
  go_wp2_with fail
  obtain ⟨W,hW,c0,c1,hsW⟩:∃W,W=w.alloc (Obj.cells #[.int .i64 g.n,.slice ao g.es.length cap] 24)∧W.cell? ⟨w.heap.size,0,none⟩=some (.int .i64 g.n)∧W.cell? ⟨w.heap.size,1,none⟩=some (.slice ao g.es.length cap)∧w.heap.size<W.heap.size:=⟨_,rfl,by go_simp,by go_simp,by simp⟩
  rw [←hW]
  have HW:=Lib.hid (show Below w.heap.size w W by rw [hW];repeat (first|exact Below.refl _ _|refine Below.al ?_ _|refine Below.dr ?_ _|refine Below.drew ?_|assumption|(refine Below.st ?_ (by assumption))))
  clear hW
  refine (X1.out _ (HC.out.go HW.out) (HD.out.go HW.out)).mono ?_
  rintro e w2 ⟨rfl,hb2⟩
  have m0:=cell_later hb2 c0
  have m1:=cell_later hb2 c1
  have HW2:=Lib.hid (HW.out.st hb2)
  have hs2:w.heap.size<w2.heap.size:=by have:=hb2.size;omega
  clear c0 c1 hb2 hsW HW
  have c0:=m0
  have c1:=m1
  clear m0 m1
  go_wp2
  go_ret2
  exact ⟨none,0,by rw [HR.out];rfl,by rw [HR.out];exact Cel.nil _ _,HW2.out,by rw [HR.out];exact Nat.le_refl _⟩
 |true=>
  have HM:=Lib.hid (fun e he=>edgesB_mem q1 (e:=e) he)
  rw [q1] at X1
  by_cases q2:s<0∨g.n≤s
  ·have HR:=Lib.hid (nodesG_no2 (g:=g) (s:=s) (l:=l) (by unfold nodeB;simp;omega))
   clear q1
   generalize nodesG g s l=r at*
   by_cases q3:s<0
   all_goals
    have q4:s<0∨g.n≤s:=q2
    clear q2
    try have q5:g.n≤s:=by omega
    clear q4
    go_enter Try.func26,Try.ntmps26
    go_wp2_with fail
    obtain ⟨W,hW,c0,c1,hsW⟩:∃W,W=w.alloc (Obj.cells #[.int .i64 g.n,.slice ao g.es.length cap] 24)∧W.cell? ⟨w.heap.size,0,none⟩=some (.int .i64 g.n)∧W.cell? ⟨w.heap.size,1,none⟩=some (.slice ao g.es.length cap)∧w.heap.size<W.heap.size:=⟨_,rfl,by go_simp,by go_simp,by simp⟩
    rw [←hW]
    have HW:=Lib.hid (show Below w.heap.size w W by rw [hW];repeat (first|exact Below.refl _ _|refine Below.al ?_ _|refine Below.dr ?_ _|refine Below.drew ?_|assumption|(refine Below.st ?_ (by assumption))))
    clear hW
    refine (X1.out _ (HC.out.go HW.out) (HD.out.go HW.out)).mono ?_
    rintro e w2 ⟨rfl,hb2⟩
    have m0:=cell_later hb2 c0
    have m1:=cell_later hb2 c1
    have HW2:=Lib.hid (HW.out.st hb2)
    have hs2:w.heap.size<w2.heap.size:=by have:=hb2.size;omega
    clear c0 c1 hb2 hsW HW
    have c0:=m0
    have c1:=m1
    clear m0 m1
    go_wp2
    go_ret2
    exact ⟨none,0,by rw [HR.out];rfl,by rw [HR.out];exact Cel.nil _ _,HW2.out,by rw [HR.out];exact Nat.le_refl _⟩
  ·have HR:=Lib.hid (nodesG_yes q1 (s:=s) (by unfold nodeB;simp;omega))
   clear q1
   generalize nodesG g s l=r at*
   have q3:¬s<0:=by omega
   have q4:¬g.n≤s:=by omega
   clear q2
   go_enter Try.func26,Try.ntmps26
   go_wp2_with fail
   obtain ⟨W,hW,c0,c1,hsW⟩:∃W,W=w.alloc (Obj.cells #[.int .i64 g.n,.slice ao g.es.length cap] 24)∧W.cell? ⟨w.heap.size,0,none⟩=some (.int .i64 g.n)∧W.cell? ⟨w.heap.size,1,none⟩=some (.slice ao g.es.length cap)∧w.heap.size<W.heap.size:=⟨_,rfl,by go_simp,by go_simp,by simp⟩
   rw [←hW]
   have HW:=Lib.hid (show Below w.heap.size w W by rw [hW];repeat (first|exact Below.refl _ _|refine Below.al ?_ _|refine Below.dr ?_ _|refine Below.drew ?_|assumption|(refine Below.st ?_ (by assumption))))
   clear hW
   refine (X1.out _ (HC.out.go HW.out) (HD.out.go HW.out)).mono ?_
   rintro e w2 ⟨rfl,hb2⟩
   have m0:=cell_later hb2 c0
   have m1:=cell_later hb2 c1
   have HW2:=Lib.hid (HW.out.st hb2)
   have hs2:w.heap.size<w2.heap.size:=by have:=hb2.size;omega
   clear c0 c1 hb2 hsW HW
   have c0:=m0
   have c1:=m1
   clear m0 m1
   go_wp2
   have HO1:=Lib.hid (World.ownsRow_lit (base:=w2.heap.size) (e:=3) (size:=1) w2 #[.int .i64 s] 1 (Nat.le_refl _) (by decide) rfl)
   go_loopg [8,9] l.length (fun gg v i wr=>∃(k cap':Nat) (x:Int) (ao':Option Addr) (O:List Int),k≤l.length∧l.length-k≤gg∧i=.int .i64 k∧v=.slice ao' (k+1) cap'∧w2.heap.size≤wr.heap.size∧
    Aside (O.length=k+1∧O[k]? =some x∧wr.ownsRow w2.heap.size 3 1 (.slice ao' (k+1) cap') (k+1) (O.map encI)∧Below w2.heap.size w2 wr)∧Aside (walkGo g.es x O (l.drop k)=r))
   case atStart=>exact ⟨0,1,s,_,[s],Nat.zero_le _,by omega,rfl,rfl,by simp,⟨rfl,rfl,HO1.out,Below.of_al _ _⟩,HR.out.symm⟩
   case round=>
    clear HO1
    obtain ⟨k,cap',x,ao',O,hk,hg,rfl,rfl,hsz,HA,HG⟩:=hrel
    have m0:=cell_later HA.out.2.2.2 c0
    have m1:=cell_later HA.out.2.2.2 c1
    by_cases hlt:k<l.length
    ·obtain ⟨b,o,hbo,f1⟩:=(HD.out.go (HW2.out.st HA.out.2.2.2)).at hlt
     have hin:=HM.out l[k] (List.getElem_mem hlt)
     have hj:l[k].toNat<g.es.length:=by omega
     obtain ⟨b2,o2,hao2,j1,j2,j3⟩:=(HC.out.go (HW2.out.st HA.out.2.2.2)).edge hj
     have HY:=Lib.hid (fun h=>walk_step_yes (out:=O) (s:=x) hlt hin.1 hj h)
     have HNo:=Lib.hid (fun h=>walk_step_no (out:=O) (s:=x) hlt hin.1 hj h)
     rw [HG.out] at HY HNo
     have i0:0≤l[k]:=hin.1
     have i1:l[k]<(g.es.length:Int):=hin.2
     have k0:(0:Int)≤(k:Int):=by omega
     have k1:(k:Int)<(l.length:Int):=by omega
     have hlast:∃b3,ao'=some ⟨b3,0,none⟩∧w2.heap.size≤b3∧b3<wr.heap.size∧wr.cell? ⟨b3,k,none⟩=some (.int .i64 x):=by
      obtain ⟨g3,cap3,e3,hg3,hb3⟩:=HA.out.2.2.1.form (by omega)
      cases e3
      refine ⟨g3,rfl,hg3,hb3,?_⟩
      rw [HA.out.2.2.1.cellAt k (by omega),List.getElem?_map,HA.out.2.1]
      rfl
     obtain ⟨b3,hao3,hb3,hb3',j4⟩:=hlast
     generalize g.es[l[k].toNat]=ed at*
     generalize l[k]=ei at*
     subst hbo hao2 hao3
     have t0:(0:Int)≤(k:Int)+1-1:=by omega
     by_cases he:ed.f=x
     ·have t1:(ed.f != x)=false:=by simp [he]
      have HQ:=Lib.hid (HY.out he)
      clear he
      have u1:=fun o'=>cell_later (Below.of_al wr o') f1
      have u2:=fun o'=>cell_later (Below.of_al wr o') j1
      have u3:=fun o'=>cell_later (Below.of_al wr o') j2
      have u4:=fun o'=>cell_later (Below.of_al wr o') j3
      have u5:=fun o'=>cell_later (Below.of_al wr o') m1
      have u6:=fun o'=>cell_later (Below.of_al wr o') j4
      go_wp2
      go_region
      obtain ⟨W4,hW4,n1,n2,n4,hs4⟩:∃W4,W4=(wr.alloc (Obj.cells #[.int .i64 ed.f,.int .i64 ed.t,.int .u64 ed.w] 45)).drew∧W4.cell? ⟨wr.heap.size,0,none⟩=some (.int .i64 ed.f)∧W4.cell? ⟨wr.heap.size,1,none⟩=some (.int .i64 ed.t)∧W4.cell? ⟨b3,k,none⟩=some (.int .i64 x)∧w2.heap.size≤W4.heap.size:=⟨_,rfl,by go_simp,by go_simp,by go_simp,by simp;omega⟩
      have HO4:=Lib.hid (show W4.ownsRow w2.heap.size 3 1 (.slice (some ⟨b3,0,none⟩) (k+1) cap') (k+1) (O.map encI) by rw [hW4];exact (HA.out.2.2.1.alloc _).drew)
      have HB4:=Lib.hid (show Below w2.heap.size w2 W4 by rw [hW4];exact ((HA.out.2.2.2.alloc hsz _).drew))
      rw [←hW4]
      clear hW4 u1 u2 u3 u4 u5 u6
      go_wp2
      go_quiet (fail)
      go_wp2_with (at_builtin;go_must ((with_reducible refine wpList_app w2.heap.size 3 _ 1 8 elem_int Try.underlying25 (.slice (some ⟨b3,0,none⟩) (k+1) cap') (k+1) _ ⟨W4.heap.size,0,none⟩ 1 1 ?_ ?_ ?_ (World.ownsRow.alloc (owns_dr HO4.out nq) _) ?_ ?_ ?_ ?_);rotate_left 1;(· rfl);(· rfl);(· exact cell_one_new _ _ _);(· exact one_cells rfl);(· exact ⟨rfl,by decide,by omega,by omega,by simp;omega⟩);intro g1 cap1 w1 hown hgrow hbl hat hlt1;(have H1o:=Lib.hid hown;have H1b:=Lib.hid hbl;have H1g:=Lib.hid (And.intro hgrow hat);clear hown hgrow hbl hat)))
      go_roundg (l.length-(k+1))
      case measure=>omega
      case rel=>
       refine ⟨k+1,cap1,ed.t,some ⟨g1,0,none⟩,O++[ed.t],by omega,by omega,by go_num,rfl,by have:=H1b.out.size;simp at this;omega,⟨by simp [HA.out.1],?_,?_,HB4.out.trans ((Below.alloc (below_drewN (Below.refl _ _) _) (by simp;omega) _).trans H1b.out)⟩,HQ.out.symm⟩
       ·rw [List.getElem?_append_right (by rw [HA.out.1];omega),HA.out.1];simp
       ·rw [List.map_append];exact H1o.out
     ·have t1:(ed.f != x)=true:=by simp [he]
      have HQ:=Lib.hid (HNo.out he)
      clear he
      have u1:=fun o'=>cell_later (Below.of_al wr o') f1
      have u2:=fun o'=>cell_later (Below.of_al wr o') j1
      have u3:=fun o'=>cell_later (Below.of_al wr o') j2
      have u4:=fun o'=>cell_later (Below.of_al wr o') j3
      have u5:=fun o'=>cell_later (Below.of_al wr o') m1
      have u6:=fun o'=>cell_later (Below.of_al wr o') j4
      go_wp2
      go_region
      obtain ⟨W4,hW4,n1,n2,n4,hs4⟩:∃W4,W4=(wr.alloc (Obj.cells #[.int .i64 ed.f,.int .i64 ed.t,.int .u64 ed.w] 45)).drew∧W4.cell? ⟨wr.heap.size,0,none⟩=some (.int .i64 ed.f)∧W4.cell? ⟨wr.heap.size,1,none⟩=some (.int .i64 ed.t)∧W4.cell? ⟨b3,k,none⟩=some (.int .i64 x)∧w2.heap.size≤W4.heap.size:=⟨_,rfl,by go_simp,by go_simp,by go_simp,by simp;omega⟩
      have HO4:=Lib.hid (show W4.ownsRow w2.heap.size 3 1 (.slice (some ⟨b3,0,none⟩) (k+1) cap') (k+1) (O.map encI) by rw [hW4];exact (HA.out.2.2.1.alloc _).drew)
      have HB4:=Lib.hid (show Below w2.heap.size w2 W4 by rw [hW4];exact ((HA.out.2.2.2.alloc hsz _).drew))
      rw [←hW4]
      clear hW4 u1 u2 u3 u4 u5 u6
      go_wp2
      go_quiet (fail)
      go_wp2
      go_ret2
      exact ⟨none,0,by rw [HQ.out];rfl,by rw [HQ.out];exact Cel.nil _ _,HW2.out.st (HB4.out.dr _),by rw [HQ.out];exact Nat.le_refl _⟩
    ·obtain rfl:k=l.length:=by omega
     have HQ:=Lib.hid (@walk_end g.es x O l)
     rw [HG.out] at HQ
     go_wp2
     go_ret2
     obtain ⟨ao3,cap3,e3,h3⟩:=Cel.of_owns HA.out.2.2.1
     cases e3
     exact ⟨ao',cap',by rw [HQ.out];simp [HA.out.1],by rw [HQ.out];exact h3,HW2.out.st HA.out.2.2.2,by rw [HQ.out];exact HA.out.1▸cap_of_owns HA.out.2.2.1⟩
end Go.Proofs.Yteaaapdjplbljaa
