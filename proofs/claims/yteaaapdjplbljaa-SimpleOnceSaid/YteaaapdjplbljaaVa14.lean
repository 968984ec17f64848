/- Walk of package contract: a shortcut is added to the core. The core with which a contraction begins, in plain Lean: the edges of a graph, each added. Walk of package contract: the core with which a contraction begins. Walk of package contract: a node goes. Walk of package contract: what a node would cost. The order in which nodes go: what waits, and how much is left of it, in plain Lean. Walk of package contract: the order in which nodes go. Walks of package rank that the hierarchies want: which lists are ranks, and their inverse. What a hierarchy that is built is, in plain Lean: a rank, and shortcuts that are its hierarchy. Walk of package contract: which options may be. slices.Clone at ints, edges and shortcuts. -/
import Derived.Test.YteaaapdjplbljaaProg
import Derived.Test.YteaaapdjplbljaaVa13
import Derived.StillTailTactics
import Derived.Test.YteaaapdjplbljaaVa05
import Derived.Test.YteaaapdjplbljaaVa08
import Derived.Deep.RegionLaw
set_option linter.unusedVariables false
set_option linter.unusedSimpArgs false
set_option linter.unnecessarySimpa false
section
namespace Go.Proofs.Yteaaapdjplbljaa
open Go Go.Proofs Go.RowKit Go.Shelf Go.Proofs.Yteaaapdjplbljaa.Hp Go.Proofs.Yteaaapdjplbljaa.Ch
end Go.Proofs.Yteaaapdjplbljaa
end
section
namespace Go.Proofs.Yteaaapdjplbljaa
open Go.Proofs.Yteaaapdjplbljaa.Ch
end Go.Proofs.Yteaaapdjplbljaa
end
section
namespace Go.Proofs.Yteaaapdjplbljaa
open Go Go.Proofs Go.RowKit Go.Shelf Go.Proofs.Yteaaapdjplbljaa.Hp Go.Proofs.Yteaaapdjplbljaa.Ch
end Go.Proofs.Yteaaapdjplbljaa
end
section
namespace Go.Proofs.Yteaaapdjplbljaa
open Go Go.Proofs Go.RowKit Go.Shelf Go.Proofs.Yteaaapdjplbljaa.Hp Go.Proofs.Yteaaapdjplbljaa.Ch
section
variable {A:Int→Int→Int→Prop} {E:Int→Int→Int→Int→Prop} {n cb se m:Nat} {hops:Int} {vr:Value} {out:List Int} {w wr:World} {s:CS}
end
end Go.Proofs.Yteaaapdjplbljaa
end
section
namespace Go.Proofs.Yteaaapdjplbljaa
open Go Go.Proofs Go.RowKit Go.Shelf Go.Proofs.Yteaaapdjplbljaa.Hp Go.Proofs.Yteaaapdjplbljaa.Ch
end Go.Proofs.Yteaaapdjplbljaa
end
section
namespace Go.Proofs.Yteaaapdjplbljaa.Hp
end Go.Proofs.Yteaaapdjplbljaa.Hp
end
section
namespace Go.Proofs.Yteaaapdjplbljaa
open Go Go.Proofs Go.RowKit Go.Shelf Go.Proofs.Yteaaapdjplbljaa.Hp Go.Proofs.Yteaaapdjplbljaa.Ch
section
variable {A:Int→Int→Int→Prop} {E:Int→Int→Int→Int→Prop} {n cb se m0 k hb:Nat} {hops:Int} {vr v2 va vh:Value} {s0 s:CS} {w0 wr w':World} {hand:Option Int} {l:List IK} {p out:List Int}
end
end Go.Proofs.Yteaaapdjplbljaa
end
section
namespace Go.Proofs.Yteaaapdjplbljaa
open Go.Proofs Go.RowKit Go.Shelf
def metL (l:List Int) (k:Nat):List Bool:=(List.range l.length).map fun v=>(l.take k).contains ((v:Nat):Int)
theorem metL_length (l:List Int) (k:Nat):(metL l k).length=l.length:=by simp [metL]
theorem metL_get {l:List Int} {k v:Nat} (hv:v<l.length):(metL l k)[v]? =some ((l.take k).contains (v:Int)):=by
 unfold metL
 rw [List.getElem?_map,List.getElem?_range hv]
 rfl
theorem metL_set {l:List Int} {k v:Nat} (hk:k<l.length) (hv:l[k]=(v:Int)) (hl:v<l.length):(metL l k).set v true=metL l (k+1):=by
 apply List.ext_getElem?
 intro i
 rw [List.getElem?_set]
 by_cases hi:i<l.length
 ·rw [metL_get hi,metL_get hi,List.take_succ_eq_append_getElem hk]
  by_cases e:v=i
  ·subst e
   simp [metL_length,hl,hv]
  ·rw [if_neg e]
   congr 1
   rw [List.contains_eq_mem,List.contains_eq_mem]
   congr 1
   rw [List.mem_append,List.mem_singleton,hv]
   simp
   omega
 ·rw [if_neg (by omega),List.getElem?_eq_none (by rw [metL_length];omega),List.getElem?_eq_none (by rw [metL_length];omega)]
theorem elem_int:Elem Try.prog 3 (.int .i64 0) 1 8:=⟨by kernel_rfl,rfl,by decide⟩
end Go.Proofs.Yteaaapdjplbljaa
end
section
namespace Go.Proofs.Yteaaapdjplbljaa
open Go.Proofs.Yteaaapdjplbljaa.Ch
theorem getD_in {l:List Int} {p:Nat} (hp:p<l.length):l.getD p 0=l[p]:=by simp [List.getD,hp]
end Go.Proofs.Yteaaapdjplbljaa
end
section
namespace Go.Proofs.Yteaaapdjplbljaa
open Go Go.Proofs Go.RowKit Go.Shelf Go.Proofs.Yteaaapdjplbljaa.Hp Go.Proofs.Yteaaapdjplbljaa.Ch
end Go.Proofs.Yteaaapdjplbljaa
end
section
namespace Go.Proofs.Yteaaapdjplbljaa
open Go Go.Proofs Go.RowKit Go.Shelf Go.Proofs.Yteaaapdjplbljaa.Hp Go.Proofs.Yteaaapdjplbljaa.Ch
def CloPost (n:Nat) (xs:List Value) (w:World) (e:Ending) (w':World):Prop:=
 ∃ao cap,e=.returned (.slice ao n cap)∧Cel w' ao xs∧Below w.heap.size w w'∧∀k,(Value.slice ao n cap).ownBlock=some k→w.heap.size≤k
theorem elem_edge:Elem Try.prog 45 (.agg #[.int .i64 0,.int .i64 0,.int .u64 0]) 3 24:=⟨by kernel_rfl,rfl,by decide⟩
set_option maxRecDepth 100000 in
set_option maxHeartbeats 1000000 in
theorem cloneE_any (n:Nat) (xs:List Value) (ao:Option Addr) (cap:Nat) (w:World) (hx:xs.length=n*3) (h:Cel w ao xs) (h1:∀u∈xs,u.oneCell'=true) (hl:n≤1000000):
  Calls Try.prog 78 #[.slice ao n cap] w (CloPost n xs w):=by
 have heq:=Lib.run_eql_slice_nil (P:=Try.prog) w 22 45 ao n cap 0 0 Try.underlying22
 unfold CloPost
 cases ao with
 |none=>
  have hn:n=0:=by
   rcases xs with _|⟨x,r⟩
   ·have:n*3=0:=hx.symm
    omega
   ·obtain ⟨b,o,e,_⟩:=h 0 x rfl
    cases e
  subst hn
  have hn2:xs=[]:=List.length_eq_zero_iff.1 (by simpa using hx)
  subst hn2
  simp only [Option.isNone] at heq
  clear h h1 hx
  go_enter Try.func78,Try.ntmps78
  go_wp2
  go_ret
  exact ⟨none,_,rfl,Cel.nil _ _,Below.refl _ _,fun k hk=>by cases hk⟩
 |some a=>
  simp only [Option.isNone] at heq
  by_cases hn:n=0
  ·subst hn
   have hn2:xs=[]:=List.length_eq_zero_iff.1 (by simpa using hx)
   subst hn2
   clear h h1 hx
   go_enter Try.func78,Try.ntmps78
   go_wp2
   go_ret
   exact ⟨_,_,rfl,Cel.nil _ _,Below.of_al _ _,fun k hk=>by cases hk;exact Nat.le_refl _⟩
  ·have hpos:0<n:=Nat.pos_of_ne_zero hn
   obtain ⟨gb,gof,e,-⟩:=h 0 _ (List.getElem?_eq_getElem (by omega))
   cases e
   have hlit:(w.alloc (.cells #[] 45)).ownsRow w.heap.size 45 3 (.slice (some ⟨w.heap.size,0,none⟩) 0 0) 0 []:=World.ownsRow_lit (base:=w.heap.size) (e:=45) (size:=3) w #[] 0 (Nat.le_refl _) (by unfold maxLen;omega) rfl
   obtain ⟨i0,hi,hz0,hsz,hby⟩:=info_parts elem_edge.1
   have HL:=Lib.hid hlit
   have HC:=Lib.hid (h.go (Below.of_al w (.cells #[] 45)))
   have HX:=Lib.hid hx
   have H1:=Lib.hid h1
   clear hlit h hx h1
   go_enter Try.func78,Try.ntmps78
   go_wp2_with (at_builtin;refine wpList_append_own _ rfl _ _ _ rfl w.heap.size 45 i0 (.agg #[.int .i64 0,.int .i64 0,.int .u64 0]) 3 24 Try.underlying22 hi hz0 hsz hby rfl (by decide) (.slice (some ⟨w.heap.size,0,none⟩) 0 0) 0 [] rfl HL.out ⟨gb,gof,none⟩ n cap xs rfl HX.out (fun j u hj=>by rw [Addr.add_lit];obtain ⟨b',o',e,h⟩:=HC.out j u hj;cases e;exact h) H1.out (by unfold maxLen;omega) (by omega) (by simp) ?_;intro v1 w1 ho1 hg1 hn1)
   have hbl:=(Below.of_al w (.cells #[] 45)).grown hg1 (by simp) (fun k hk=>(HL.out.lt k hk).1)
   rw [Nat.zero_add,List.nil_append] at ho1
   obtain ⟨g,cap,rfl⟩:=own_form ho1 hpos
   go_ret
   obtain ⟨a2,c2,e,hc⟩:=Cel.of_owns ho1
   cases e
   exact ⟨_,_,rfl,hc,hbl,fun k hk=>(ho1.lt k hk).1⟩
end Go.Proofs.Yteaaapdjplbljaa
end
