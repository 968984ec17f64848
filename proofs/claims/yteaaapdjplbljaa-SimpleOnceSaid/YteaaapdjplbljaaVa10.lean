/- The same within a round of a range over a function. A region within a round of a range over a function: operations that only grow memory, in any order, and a last one that waits for all of them. A region whose operations only grow memory, in any order, the frame unseen: what is asked of each operation is what its operands are. -/
import Derived.OrdersIn
import Derived.RangeFuncIn
import Derived.Test.YteaaapdjplbljaaVa09
set_option linter.unusedVariables false
set_option linter.unusedSimpArgs false
set_option linter.unnecessarySimpa false
section
namespace Go.Proofs.Yteaaapdjplbljaa
open Go Go.Proofs Go.RowKit
theorem wpOpIn_roundK {F:Fence} {n:Nat} {P:Program} {ops:Array Oper} {Q:Exit→Act→World→Prop} {i l:Nat} {K:Act→World→Prop} {a:Act} {w:World} (hro:F.round=none) (hd:∀o∈ops.toList,∀c,o.op≠.defer c)
  (h:wpOpIn F n P ops Q i K a w):wpOpIn (F.inRound l) n P ops Q i K a w:=by
 unfold wpOpIn at*
 cases ho:ops[i]? with
 |none=>rw [ho] at h;exact h
 |some o=>
  rw [ho] at h
  have hm:o∈ops.toList:=by rw [Array.mem_toList_iff];exact Array.mem_of_getElem? ho
  simp only at h ⊢
  split
  ·rename_i hw
   rw [if_pos hw] at h
   unfold Oper.wpIn at*
   refine ⟨h.1,?_⟩
   have h2:=h.2
   rw [Oper.semAt_eq _ _ _ (hd o hm)] at h2 ⊢
   generalize (execOp a.eval o).run P w=r at*
   cases r with
   |ok x w'=>cases x<;>exact h2
   |halt x w'=>cases x<;>exact h2
  ·rename_i hw
   rw [if_neg hw] at h
   exact h
theorem wpAnyIn_roundK {F:Fence} {n:Nat} {P:Program} {md:Region.Mode} {ops:Array Oper} {Q:Exit→Act→World→Prop} {l:Nat} (hro:F.round=none) (hd:∀o∈ops.toList,∀c,o.op≠.defer c):
  ∀(fuel:Nat) (listed:Array Bool) (a:Act) (w:World),wpAnyIn F n P md ops Q fuel listed a w→wpAnyIn (F.inRound l) n P md ops Q fuel listed a w
 |0,_,_,_,h=>h
 |fuel+1,listed,a,w,h=>⟨h.1,fun i hi=>wpOpIn_mono (fun a w h=>wpAnyIn_roundK hro hd fuel _ a w h) (wpOpIn_roundK hro hd (h.2 i hi))⟩
def noDefK (ops:List Oper):Bool:=ops.all fun o=>match o.op with| .defer _=>false|_=>true
theorem noDefK_spec {ops:List Oper} (h:noDefK ops=true):∀o∈ops,∀c,o.op≠.defer c:=by
 intro o ho c e
 unfold noDefK at h
 have:=List.all_eq_true.1 h o ho
 rw [e] at this
 cases this
theorem wpIn_region_roundK {F:Fence} {n:Nat} {P:Program} {ops:Array Oper} {Q:Exit→Act→World→Prop} {id l:Nat} {a:Act} {w:World} (hro:F.round=none) (hd:noDefK ops.toList=true) (hm:P.follows .mixedOrders=true)
  (h:wpAnyIn F n P .any ops Q ops.size (Array.replicate ops.size false) a w.drew):(Code.region id ops true).wpIn (F.inRound l) n P Q a w:=
 wpIn_region_any hm (wpAnyIn_roundK hro (noDefK_spec hd) _ _ _ _ h)
theorem Oper.wpIn_of_wp {m:Nat} {P:Program} {o:Oper} {a:Act} {w:World} {K:Act→World→Prop} {Q:Exit→Act→World→Prop} (h:o.wp P a w K Q):o.wpIn Fence.wide m P a w K Q:=by
 refine ⟨fun _ _=>trivial,?_⟩
 unfold Oper.wp at h
 show o.uponIn Fence.wide m P a K Q ((execOp a.eval o).run P w)
 generalize (execOp a.eval o).run P w=r at*
 cases r with
 |ok x w'=>
  cases x<;>simp only [Oper.upon] at h<;>simp only [Oper.uponIn]
  all_goals first
   |exact h
   |exact h.elim
   |exact ⟨(fun hh=>by cases hh),callsIn_wide.2 h⟩
   |exact ⟨(fun hh=>by cases hh),fun c cs _=>let ⟨v,w1,r,s⟩:=h c cs;⟨v,w1,r,stepsIn_wide.2 s⟩⟩
 |halt x w'=>cases x<;>exact h
section
variable {a:Act} {P:Program} {Q:Exit→Act→World→Prop} {w:World}
theorem wpAnyIn_inv {m:Nat} {ops:Array Oper} {md:Region.Mode} (J:Array Bool→Act→World→Prop) (hJ:∀listed a w i,J listed a w→i∈Region.ready md ops listed→wpOpIn Fence.wide m P ops Q i (fun a' w'=>J (listed.setIfInBounds i true) a' w') a w)
  (hend:∀listed a w,J listed a w→Region.ready md ops listed=[]→Q .normal a w):
  ∀(fuel:Nat) (listed:Array Bool) (a:Act) (w:World),toCome listed ops.size≤fuel→J listed a w→wpAnyIn Fence.wide m P md ops Q fuel listed a w
 |0,listed,a,w,hf,h=>by
  have hr:Region.ready md ops listed=[]:=by
   rw [List.eq_nil_iff_forall_not_mem]
   intro i hi
   obtain ⟨h1,o,h2,_⟩:=mem_ready.1 hi
   have hlt:i<ops.size:=(Array.getElem?_eq_some_iff.1 h2).1
   exact toCome_zero (by omega) hlt h1
  exact ⟨hr,hend _ _ _ h hr⟩
 |fuel+1,listed,a,w,hf,h=>by
  refine ⟨hend _ _ _ h,fun i hi=>?_⟩
  obtain ⟨h1,o,h2,_⟩:=mem_ready.1 hi
  have hlt:i<ops.size:=(Array.getElem?_eq_some_iff.1 h2).1
  have hc:=toCome_lt hlt h1
  exact wpOpIn_mono (fun a' w' h'=>wpAnyIn_inv J hJ hend fuel _ a' w' (by omega) h') (hJ _ _ _ _ h hi)
end
end Go.Proofs.Yteaaapdjplbljaa
end
section
namespace Go.Proofs.Yteaaapdjplbljaa
open Go Go.Proofs Go.RowKit
def lastB (l:List Oper) (n:Nat) (st:Oper):Bool:=
 st.guard.isNone&&(st.after.all fun e=>!Region.binds .any e||decide (e.on<n))&&((List.range n).all fun i=>(List.range (n+1)).any fun j=>decide (i<j)&&Region.waitsFor .any l.toArray j i)
section
variable {a:Act} {P:Program} {Q:Exit→Act→World→Prop} {w:World}
def offB (l:List Oper) (n t:Nat):Bool:=(List.range n).all fun i=>dstAt l i != t
end
end Go.Proofs.Yteaaapdjplbljaa
end
section
namespace Go.Proofs.Yteaaapdjplbljaa
open Go Go.Proofs Go.RowKit
section
variable {a:Act} {P:Program} {Q:Exit→Act→World→Prop} {w:World}
end
end Go.Proofs.Yteaaapdjplbljaa
end
