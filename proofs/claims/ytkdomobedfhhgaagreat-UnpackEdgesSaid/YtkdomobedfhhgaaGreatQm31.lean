/- Walk of package query: labels by their nodes. A region that draws its order: a head of reads and of calls that only grow memory, in any order, and a tail in one order. -/
import Derived.Test.YtkdomobedfhhgaaGreatProg
import Derived.Test.YtkdomobedfhhgaaGreatQm26
import Derived.StillTail
import Derived.Test.YtkdomobedfhhgaaGreatQm01
set_option linter.unusedVariables false
set_option linter.unusedSimpArgs false
set_option linter.unnecessarySimpa false
section
namespace Go.Proofs.YtkdomobedfhhgaaGreat
open Go Go.Proofs Go.RowKit Go.Shelf Go.Proofs.YtkdomobedfhhgaaGreat.Hp Go.Proofs.YtkdomobedfhhgaaGreat.Ch
structure LB where
 v:Int
 d:Int
 b:Int
def flatB:List LB→List Value
 |[]=>[]
 |x::l=>.int .i64 x.v::.int .u64 x.d::.int .i64 x.b::flatB l
theorem flatB_get:∀(l:List LB) (k:Nat) (h:k<l.length),(flatB l)[k*3]? =some (.int .i64 l[k].v)∧(flatB l)[k*3+1]? =some (.int .u64 l[k].d)∧(flatB l)[k*3+2]? =some (.int .i64 l[k].b)
 |x::l,0,_=>⟨rfl,rfl,rfl⟩
 |x::l,k+1,h=>by
  have ih:=flatB_get l k (by simpa using h)
  have e1:(k+1)*3=k*3+1+1+1:=by omega
  simp only [e1,flatB,List.getElem?_cons_succ,List.getElem_cons_succ]
  exact ih
theorem Cel.lab {w:World} {ao:Option Addr} {l:List LB} (h:Cel w ao (flatB l)) {i:Nat} (hi:i<l.length):
  ∃b o,ao=some ⟨b,o,none⟩∧w.cell? ⟨b,o+i*3,none⟩=some (.int .i64 l[i].v)∧w.cell? ⟨b,o+i*3+1,none⟩=some (.int .u64 l[i].d)∧w.cell? ⟨b,o+i*3+2,none⟩=some (.int .i64 l[i].b):=by
 obtain ⟨h1,h2,h3⟩:=flatB_get l i hi
 obtain ⟨b,o,e,c1⟩:=h _ _ h1
 obtain ⟨b',o',e',c2⟩:=h _ _ h2
 obtain ⟨b'',o'',e'',c3⟩:=h _ _ h3
 rw [e] at e' e''
 cases e'
 cases e''
 exact ⟨b,o,e,c1,by rw [Nat.add_assoc];exact c2,by rw [Nat.add_assoc];exact c3⟩
def byF (l:List LB):Int→Option Int:=l.foldl (fun f x=>updM f x.v x.d) (fun _=>none)
theorem byF_take {l:List LB} {k:Nat} (h:k<l.length):byF (l.take (k+1))=updM (byF (l.take k)) l[k].v l[k].d:=by
 unfold byF
 rw [List.take_succ_eq_append_getElem h,List.foldl_append]
 rfl
def ByPost (l:List LB) (w:World) (e:Ending) (w':World):Prop:=∃b,e=.returned (.map (some b))∧MapW w' b l.length (byF l)∧w.heap.size≤b∧Below w.heap.size w w'
set_option maxRecDepth 100000 in
set_option maxHeartbeats 2000000 in
theorem byNode_any (l:List LB) (ao:Option Addr) (cap:Nat) (w:World) (hc:Cel w ao (flatB l)) (hl:l.length≤1000000) (hin:∀x∈l,In6 x.v∧0≤x.d∧x.d≤18446744073709551615):
  Calls Tryz.prog 73 #[.slice ao l.length cap] w (ByPost l w):=by
 have hmm:=@run_makeMap Tryz.prog
 have HC:=Lib.hid hc
 have HIN:=Lib.hid hin
 have hl2:(l.length:Int)≤1000000:=by omega
 have HM0:=Lib.hid (MapW.new w)
 have HL:=Lib.hid hl
 unfold ByPost
 clear hc hin
 go_enter Tryz.func73,Tryz.ntmps73
 go_wp2
 go_loopg [9] l.length (fun gm v9 wr=>∃k:Nat,k≤l.length∧l.length-k≤gm∧v9=.int .i64 k∧Aside (MapW wr w.heap.size k (byF (l.take k)))∧Aside (Below w.heap.size w wr))
 case atStart=>exact ⟨0,Nat.zero_le _,by omega,rfl,by rw [List.take_zero];exact HM0.out,Below.of_al _ _⟩
 case round=>
  obtain ⟨k,hk,hg,rfl,HM,HB⟩:=hrel
  by_cases hlt:k<l.length
  ·have hlt2:(k:Int)<(l.length:Int):=by omega
   have hk0:(0:Int)≤(k:Int):=by omega
   obtain ⟨lb,lo,rfl,y0,y1,y2⟩:=(HC.out.go HB.out).lab hlt
   obtain ⟨i1,i2⟩:=HIN.out l[k] (List.getElem_mem hlt)
   have HTK:=Lib.hid (byF_take hlt)
   generalize l[k]=x at*
   obtain ⟨w2,hup,hm2,ho2⟩:=(HM.out.go (Below.of_al wr (Obj.cells #[.int .i64 x.v,.int .u64 x.d,.int .i64 x.b] 64))).put (by omega) i1 i2
   have HM2:=Lib.hid (show MapW w2 w.heap.size (k+1) (byF (l.take (k+1))) by rw [HTK.out];exact hm2)
   have HB2:=Lib.hid (show Below w.heap.size w w2 from (HB.out.st (Below.of_al wr _)).trans (ho2.below ((HB.out.st (Below.of_al wr (Obj.cells #[.int .i64 x.v,.int .u64 x.d,.int .i64 x.b] 64))).size) (fun j hj=>by have e:j=w.heap.size:=hj;omega)))
   clear hm2 ho2 i1 i2
   go_wp2
   go_roundg (l.length-(k+1))
   case measure=>omega
   case rel=>exact ⟨k+1,by omega,Nat.le_refl _,by go_num,HM2.out,HB2.out⟩
  ·obtain rfl:k=l.length:=by omega
   go_wp2
   go_ret
   have:=HM.out
   rw [List.take_length] at this
   exact ⟨_,rfl,this,Nat.le_refl _,HB.out⟩
def nearS (f:Int→Option Int) (best:Int) (x:LB):Int:=match f x.v with
 |some y=>min best (x.d+y)
 |none=>best
def nearF (f:Int→Option Int) (l:List LB):Int:=l.foldl (nearS f) 4611686018427387904
theorem nearF_take {f:Int→Option Int} {l:List LB} {k:Nat} (h:k<l.length):nearF f (l.take (k+1))=nearS f (nearF f (l.take k)) l[k]:=by
 unfold nearF
 rw [List.take_succ_eq_append_getElem h,List.foldl_append]
 rfl
set_option maxRecDepth 100000 in
set_option maxHeartbeats 2000000 in
theorem least_any (l:List LB) (f:Int→Option Int) (ao:Option Addr) (cap b n:Nat) (w:World) (hc:Cel w ao (flatB l)) (hm:MapW w b n f) (hl:l.length≤1000000) (hin:∀x∈l,In6 x.v∧0≤x.d∧x.d≤1152921504606846976) (hf:∀u x,f u=some x→0≤x∧x≤1152921504606846976):
  Calls Tryz.prog 72 #[.slice ao l.length cap,.map (some b)] w fun e w'=>e=.returned (.int .u64 (nearF f l))∧Below w.heap.size w w':=by
 have HC:=Lib.hid hc
 have HIN:=Lib.hid hin
 have HF:=Lib.hid hf
 have HM:=Lib.hid hm
 have hl2:(l.length:Int)≤1000000:=by omega
 clear hc hin hf hm
 go_enter Tryz.func72,Tryz.ntmps72
 go_wp2
 go_loopg [5,12] l.length (fun gm v5 v12 wr=>∃k:Nat,k≤l.length∧l.length-k≤gm∧v12=.int .i64 k∧v5=.int .u64 (nearF f (l.take k))∧Aside (Below w.heap.size w wr))
 case atStart=>exact ⟨0,Nat.zero_le _,by omega,rfl,rfl,Below.refl _ _⟩
 case round=>
  obtain ⟨k,hk,hg,rfl,rfl,HB⟩:=hrel
  by_cases hlt:k<l.length
  ·have hlt2:(k:Int)<(l.length:Int):=by omega
   have hk0:(0:Int)≤(k:Int):=by omega
   obtain ⟨lb,lo,rfl,y0,y1,y2⟩:=(HC.out.go HB.out).lab hlt
   obtain ⟨i1,d0,d1⟩:=HIN.out l[k] (List.getElem_mem hlt)
   have HTK:=Lib.hid (nearF_take (f:=f) hlt)
   generalize l[k]=x at*
   generalize nearF f (l.take k)=best at*
   have lk:=((HM.out.go HB.out).go (Below.of_al wr (Obj.cells #[.int .i64 x.v,.int .u64 x.d,.int .i64 x.b] 64))).look i1
   have HB2:=Lib.hid (HB.out.st (Below.of_al wr (Obj.cells #[.int .i64 x.v,.int .u64 x.d,.int .i64 x.b] 64)))
   cases hy:f x.v with
   |none=>
    rw [hy] at lk
    have HN:=Lib.hid (show nearF f (l.take (k+1))=best by have:=HTK.out;unfold nearS at this;rw [hy] at this;exact this)
    simp only [Option.isSome,Option.getD] at lk
    clear hy i1
    go_wp2
    go_roundg (l.length-(k+1))
    case measure=>omega
    case rel=>exact ⟨k+1,by omega,Nat.le_refl _,by go_num,by rw [HN.out],HB2.out⟩
   |some y=>
    rw [hy] at lk
    obtain ⟨e0,e1⟩:=HF.out _ _ hy
    have HN:=Lib.hid (show nearF f (l.take (k+1))=if x.d+y<best then x.d+y else best by
     have:=HTK.out
     unfold nearS at this
     rw [hy] at this
     rw [this]
     show min best (x.d+y)=_
     rw [Int.min_def]
     split<;>split<;>omega)
    simp only [Option.isSome,Option.getD] at lk
    clear hy i1
    by_cases hmn:x.d+y<best
    ·have HN2:=Lib.hid (show nearF f (l.take (k+1))=x.d+y by rw [HN.out,if_pos hmn])
     go_wp2
     go_roundg (l.length-(k+1))
     case measure=>omega
     case rel=>exact ⟨k+1,by omega,Nat.le_refl _,by go_num,by rw [HN2.out],HB2.out⟩
    ·have HN2:=Lib.hid (show nearF f (l.take (k+1))=best by rw [HN.out,if_neg hmn])
     go_wp2
     go_roundg (l.length-(k+1))
     case measure=>omega
     case rel=>exact ⟨k+1,by omega,Nat.le_refl _,by go_num,by rw [HN2.out],HB2.out⟩
  ·obtain rfl:k=l.length:=by omega
   rw [List.take_length]
   go_wp2
   go_ret
   exact ⟨rfl,HB.out⟩
end Go.Proofs.YtkdomobedfhhgaaGreat
end
section
namespace Go.Proofs.YtkdomobedfhhgaaGreat
open Go Go.Proofs Go.RowKit
section
variable {P:Program} {ops:Array Oper} {md:Region.Mode} {C:World→Prop}
def sinkFrom (md:Region.Mode) (ops:Array Oper) (m n:Nat):Bool:=
 (List.range n).all fun i=>decide (i<m)||(List.range (n+1)).any fun j=>decide (i<j)&&Region.waitsFor md ops j i
def Ahead (m:Nat) (listed:Array Bool):Prop:=∀i,i<m→listed.getD i true=true
theorem Ahead.set {m j:Nat} {listed:Array Bool} (h:Ahead m listed):Ahead m (listed.setIfInBounds j true):=by
 intro i hi
 by_cases e:j=i
 ·subst e
  rcases Nat.lt_or_ge j listed.size with h'|h'<;>simp [h']
 ·rw [getD_set_ne true e];exact h i hi
theorem tail_waits_from {m n:Nat} {listed:Array Bool} (hs:sinkFrom md ops m n=true) (hc:Region.chainB md ops n=true) (hn:n<ops.size) (inv:HeadInv md ops n listed) (hp:Ahead m listed):
  ∀(d i:Nat),n-i=d→i<n→listed.getD i true=false→∀t,n≤t→t∉Region.ready md ops listed:=by
 intro d
 induction d using Nat.strongRecOn with
 |_ d ih=>
  intro i hd hi hun t ht hr
  obtain ⟨_,ot,hot,hall⟩:=mem_ready.1 hr
  have htlt:t<ops.size:=(Array.getElem?_eq_some_iff.1 hot).1
  by_cases htn:t=n
  ·subst htn
   have h1:=List.all_eq_true.1 hs i (List.mem_range.2 hi)
   have him:¬i<m:=fun h=>by rw [hp i h] at hun;cases hun
   simp only [him,decide_false,Bool.false_or] at h1
   obtain ⟨j,hj,hj2⟩:=List.any_eq_true.1 h1
   simp only [Bool.and_eq_true,decide_eq_true_eq] at hj2
   obtain ⟨oj,hoj,e,he,hb,hon⟩:=Region.waitsFor_spec hj2.2
   have hjle:j≤t:=by have:=List.mem_range.1 hj;omega
   by_cases hjt:j=t
   ·subst hjt
    have:oj=ot:=Option.some.inj (hoj.symm.trans hot)
    subst this
    have h2:=hall e he hb
    rw [hon,getD_both hun] at h2
    cases h2
   ·cases hl:listed.getD j false with
    |true=>
     have h2:=inv.closed j oj hoj hl e he hb
     rw [hon,getD_both hun] at h2
     cases h2
    |false=>
     have hjs:j<listed.size:=by rw [inv.size];omega
     exact ih (t-j) (by omega) j rfl (by omega) (Go.getD_in hjs hl) t (Nat.le_refl _) hr
  ·have h1:=List.all_eq_true.1 hc t (List.mem_range.2 htlt)
   simp only [Bool.or_eq_true,decide_eq_true_eq] at h1
   rcases h1 with h1|h1
   ·omega
   ·obtain ⟨o',ho',e,he,hb,hon⟩:=Region.waitsFor_spec h1
    have:o'=ot:=Option.some.inj (ho'.symm.trans hot)
    subst this
    have h2:=hall e he hb
    rw [hon,getD_both (inv.tail (t-1) (by omega) (by omega))] at h2
    cases h2
def headQ (P:Program) (md:Region.Mode) (ops:Array Oper) (C:World→Prop) (n:Nat) (L:Array Bool→Act→Prop):Nat→Array Bool→Act→Prop
 |0,listed,a=>L listed a
 |f+1,listed,a=>
  Region.ready md ops listed≠[]∧∀i∈Region.ready md ops listed,i<n∧qOp P ops C i (headQ P md ops C n L f (listed.setIfInBounds i true)) a
theorem any_of_headQ {n g:Nat} {L:Array Bool→Act→Prop} {Q':Exit→Act→World→Prop} (hL:∀listed a w,C w→L listed a→wpAny P md ops Q' g listed a w):
  ∀(f:Nat) (listed:Array Bool) (a:Act) (w:World),C w→headQ P md ops C n L f listed a→wpAny P md ops Q' (f+g) listed a w
 |0,listed,a,w,hw,h=>by rw [Nat.zero_add];exact hL _ _ _ hw h
 |f+1,listed,a,w,hw,h=>by
  rw [show f+1+g=(f+g)+1 by omega]
  exact ⟨fun h0=>absurd h0 h.1,fun i hi=>wpOp_of_qOp hw (fun a' w' hw' h'=>any_of_headQ hL f _ a' w' hw' h') (h.2 i hi).2⟩
theorem headQ_first {m n i:Nat} {oi:Oper} {v:Value} {L:Array Bool→Act→Prop} (hi:ops[i]? =some oi) (hsel:∀(j:Nat) (o:Oper) cs b,ops[j]? =some o→o.op≠.select cs b)
  (hs:sinkFrom md ops m n=true) (hc:Region.chainB md ops n=true) (hn:n<ops.size) (hin:i<n)
  (hdone:∀listed a,L listed a→∀j∈Region.ready md ops listed,n≤j):
  ∀(f:Nat) (listed:Array Bool) (a:Act),HeadInv md ops n listed→Ahead m listed→
   (∀j oj,ops[j]? =some oj→j≠i→listed.getD j true=false→(∀e∈oj.after,Region.binds md e=true→e.on≠i)→oi.apart ops oj=true)→
   i∈Region.ready md ops listed→YieldsIn P ops C oi v a→
   headQ P md ops C n L f (listed.setIfInBounds i true) (a.put oi.dst v)→headQ P md ops C n L (f+1) listed a:=by
 intro f
 induction f with
 |zero=>
  intro listed a inv hp _ hr hy H
  have hun:=(mem_ready.1 hr).1
  refine ⟨fun h=>(by rw [h] at hr;cases hr),fun j hj=>?_⟩
  have hjn:j<n:=by
   rcases Nat.lt_or_ge j n with h|h
   ·exact h
   ·exact absurd hj (tail_waits_from hs hc hn inv hp _ i rfl hin hun j h)
  refine ⟨hjn,?_⟩
  by_cases hji:j=i
  ·subst hji;exact hy.qOp hi H
  ·have:=hdone _ _ H j (ready_mono hj hji)
   omega
 |succ f ih=>
  intro listed a inv hp hfree hr hy H
  have hun:=(mem_ready.1 hr).1
  refine ⟨fun h=>(by rw [h] at hr;cases hr),fun j hj=>?_⟩
  have hjn:j<n:=by
   rcases Nat.lt_or_ge j n with h|h
   ·exact h
   ·exact absurd hj (tail_waits_from hs hc hn inv hp _ i rfl hin hun j h)
  refine ⟨hjn,?_⟩
  by_cases hji:j=i
  ·subst hji;exact hy.qOp hi H
  ·have h1:=(H.2 j (ready_mono hj hji)).2
   obtain ⟨hjun,oj,hoj,hall⟩:=mem_ready.1 hj
   have hnot:∀e∈oj.after,Region.binds md e=true→e.on≠i:=fun e he hb heq=>by
    have h1:=hall e he hb
    rw [heq,getD_both hun] at h1
    cases h1
   have h2:=qOp_put hoj (hfree j oj hoj hji hjun hnot) (fun cs b=>hsel i oi cs b hi) (fun cs b=>hsel j oj cs b hoj) hy h1
   have hfree':∀k ok,ops[k]? =some ok→k≠i→(listed.setIfInBounds j true).getD k true=false→
     (∀e∈ok.after,Region.binds md e=true→e.on≠i)→oi.apart ops ok=true:=fun k ok hk hki hun hno=>by
    refine hfree k ok hk hki ?_ hno
    by_cases hjk:j=k
    ·subst hjk;exact hjun
    ·rw [getD_set_ne true hjk] at hun;exact hun
   refine qOp_mono (fun a' h3=>ih (listed.setIfInBounds j true) a' (inv.set hj hjn) hp.set hfree' (ready_mono hr (Ne.symm hji)) h3.1 ?_) h2
   rw [Array.setIfInBounds_comm _ _ hji]
   exact h3.2
theorem headQ_lex {m n g:Nat} {Lq:Act→Prop} (hsel:Region.noSelect ops=true) (hs:sinkFrom md ops m n=true) (hc:Region.chainB md ops n=true) (hn:n<ops.size):
  ∀(l:List Oper) (k:Nat) (listed:Array Bool) (a:Act),(∀j,j<l.length→l[j]? =ops[k+j]?)→k+l.length=n→HeadInv md ops n listed→Ahead m listed→
  Region.lexHead md ops g l.length k listed=true→wpQuiet P ops C Lq l a→
  headQ P md ops C n (fun listed' a'=>Region.seqB md ops g n listed'=true∧Lq a') l.length listed a
 |[],k,listed,a,_,hk,_,_,hB,h=>by
  have:k=n:=by simpa using hk
  subst this
  exact ⟨by simpa [Region.lexHead] using hB,h⟩
 |o::l,k,listed,a,hl,hk,inv,hp,hB,h=>by
  have h0:ops[k]? =some o:=by simpa using (hl 0 (by simp)).symm
  simp only [List.length_cons,Region.lexHead,Bool.and_eq_true] at hB
  obtain ⟨⟨hr,hf⟩,hB'⟩:=hB
  have hkn:k<n:=by simp only [List.length_cons] at hk;omega
  have hr':k∈Region.ready md ops listed:=by simpa using hr
  have hst:qOp P ops C k (wpQuiet P ops C Lq l) a:=by unfold qOp;simp only [h0];exact h
  obtain ⟨v,hy,hK⟩:=yieldsIn_of_qOp h0 hst
  exact headQ_first h0 (Region.noSelect_spec hsel) hs hc hn hkn (fun listed' a' hL=>seqB_ready hL.1) l.length listed a inv hp (Region.free_spec h0 hf) hr' hy
   (headQ_lex hsel hs hc hn l (k+1) _ _ (fun j hj=>by have:=hl (j+1) (by simp;omega);simpa [Nat.add_assoc,Nat.add_comm 1 j] using this) (by simp only [List.length_cons] at hk;omega) (inv.set hr' hkn) hp.set hB' hK)
theorem wp_region_qtail {id:Nat} {Q:Exit→Act→World→Prop} {a:Act} {w:World} {l:List Oper} (n:Nat) (hm:P.follows .mixedOrders=true) (hB:Region.lexTailB .any l.toArray n=true) (hC:C { w with drawn:=w.drawn+1 })
  (h:wpQuiet P l.toArray C (fun a'=>∀w',C w'→wpList P l.toArray Q (l.drop n) a' w') (l.take n) a):(Code.region id l.toArray true).wp P Q a w:=by
 simp only [Region.lexTailB,Bool.and_eq_true,decide_eq_true_eq] at hB
 obtain ⟨⟨⟨⟨hsel,hn⟩,hs⟩,hc⟩,hlex⟩:=hB
 have hn':n<l.length:=by simpa using hn
 have htl:(l.take n).length=n:=by simp;omega
 have hdl:(l.drop n).length=l.toArray.size-n:=by simp
 have inv0:HeadInv .any l.toArray n (Array.replicate l.toArray.size false):=
  ⟨by simp,fun j oj _ hl=>(by rw [getD_replicate_false] at hl;cases hl),fun t _ ht=>Go.getD_in (by simpa using ht) (getD_replicate_false _ _)⟩
 have hs0:sinkFrom .any l.toArray 0 n=true:=by
  unfold sinkFrom
  simpa [Region.sinkB] using hs
 have H:=headQ_lex (md:=.any) (C:=C) (m:=0) (g:=l.toArray.size-n) hsel hs0 hc hn (l.take n) 0 _ a (fun j hj=>by
  have hj':j<n:=by rw [htl] at hj;exact hj
  simp [hj']) (by simpa using htl) inv0 (fun i hi=>absurd hi (Nat.not_lt_zero _)) (by rw [htl];exact hlex) h
 refine wp_region_any hm ?_
 have:=any_of_headQ (Q':=Q) (g:=l.toArray.size-n) (fun listed a' w' hw hL=>by
  have:=wpAny_of_seq (md:=.any) (Q':=Q) (l.drop n) n listed a' w' (fun j=>by simp [List.getElem?_drop]) (by rw [hdl];exact hL.1) (hL.2 _ hw)
  rwa [hdl] at this) _ _ _ _ hC H
 rw [htl,show n+(l.toArray.size-n)=l.toArray.size by omega] at this
 exact this
def lexTail1B (md:Region.Mode) (ops:Array Oper) (n:Nat):Bool:=
 Region.noSelect ops&&decide (n<ops.size)&&sinkFrom md ops 1 n&&Region.chainB md ops n&&(decide (0<n)&&(Region.ready md ops (Array.replicate ops.size false)).contains 0&&Region.free md ops (Array.replicate ops.size false) 0)&&
  Region.lexHead md ops (ops.size-n) (n-1) 1 ((Array.replicate ops.size false).setIfInBounds 0 true)
theorem wp_region_qtail1 {id:Nat} {Q:Exit→Act→World→Prop} {a:Act} {w:World} {d:Option Tmp} {x:Operand} {ty:TypeId} {pos:String} {aft:Array Edge} {l:List Oper} (n:Nat) (hm:P.follows .mixedOrders=true)
  (hB:lexTail1B .any (⟨d,.move x,ty,pos,aft,none⟩::l).toArray (n+1)=true) (hC:C { w with drawn:=w.drawn+1 })
  (hQ:∀c a' w',Q (.panic c) (a'.put d (a.eval x)) w'→Q (.panic c) a' w')
  (h:wpQuiet P (⟨d,.move x,ty,pos,aft,none⟩::l).toArray C (fun a'=>∀w',C w'→wpList P (⟨d,.move x,ty,pos,aft,none⟩::l).toArray Q (l.drop n) a' w') (l.take n) (a.put d (a.eval x))):
  (Code.region id (⟨d,.move x,ty,pos,aft,none⟩::l).toArray true).wp P Q a w:=by
 simp only [lexTail1B,Bool.and_eq_true,decide_eq_true_eq] at hB
 obtain ⟨⟨⟨⟨⟨hsel,hn⟩,hs⟩,hc⟩,⟨_,hr0⟩,hf0⟩,hlex⟩:=hB
 have hn':n<l.length:=by simpa using hn
 have htl:(l.take n).length=n:=by simp;omega
 generalize hops:(⟨d,.move x,ty,pos,aft,none⟩::l).toArray=ops at*
 have hsz:ops.size=l.length+1:=by rw [←hops];simp
 have h0:ops[0]? =some ⟨d,.move x,ty,pos,aft,none⟩:=by rw [←hops];simp
 have hdl:(l.drop n).length=ops.size-(n+1):=by rw [hsz];simp
 have inv0:HeadInv .any ops (n+1) (Array.replicate ops.size false):=
  ⟨by simp,fun j oj _ hl=>(by rw [getD_replicate_false] at hl;cases hl),fun t _ ht=>Go.getD_in (by simpa using ht) (getD_replicate_false _ _)⟩
 have hr0':0∈Region.ready .any ops (Array.replicate ops.size false):=by simpa using hr0
 have hp:Ahead 1 ((Array.replicate ops.size false).setIfInBounds 0 true):=by
  intro i hi
  obtain rfl:i=0:=by omega
  simp [hsz]
 have H:=headQ_lex (md:=.any) (C:=C) (m:=1) (g:=ops.size-(n+1)) hsel hs hc hn (l.take n) 1 _ (a.put d (a.eval x)) (fun j hj=>by
  have hj':j<n:=by rw [htl] at hj;exact hj
  rw [←hops,Nat.add_comm 1 j]
  simp [hj']) (by rw [htl];omega) (inv0.set hr0' (by omega)) hp (by rw [htl];exact hlex) h
 refine wp_region_any hm ?_
 have H2:=any_of_headQ (Q':=Q) (g:=ops.size-(n+1)) (fun listed a' w' hw hL=>by
  have:=wpAny_of_seq (md:=.any) (Q':=Q) (l.drop n) (n+1) listed a' w' (fun j=>by rw [←hops,show n+1+j=(n+j)+1 by omega];simp [List.getElem?_drop]) (by rw [hdl];exact hL.1) (hL.2 _ hw)
  rwa [hdl] at this) _ _ _ _ hC H
 rw [htl] at H2
 have hy:Yields P ops ⟨d,.move x,ty,pos,aft,none⟩ (a.eval x) a:=.inl ⟨rfl,fun w'=>BigFrame.run_move (o:=⟨d,.move x,ty,pos,aft,none⟩) x rfl w'⟩
 have H3:=wpAny_take (fuel:=n+(ops.size-(n+1))) (Q:=Q) h0 hsel hf0 hr0 hQ hy H2
 rw [show n+(ops.size-(n+1))+1=ops.size by omega] at H3
 exact H3
end
theorem wp_region_ext_tail {P:Program} {id:Nat} {Q:Exit→Act→World→Prop} {a:Act} {w:World} {l:List Oper} (n:Nat) (hm:P.follows .mixedOrders=true) (hB:Region.lexTailB .any l.toArray n=true)
  (h:wpQuiet P l.toArray (fun w'=>∃p:EP,w'=ext w p) (fun a'=>∀w',(∃p:EP,w'=ext w p)→wpList P l.toArray Q (l.drop n) a' w') (l.take n) a):(Code.region id l.toArray true).wp P Q a w:=
 wp_region_qtail (C:=fun w'=>∃p:EP,w'=ext w p) n hm hB (ext_of_below (below_drewN (Below.refl _ w) 1)) h
theorem wp_region_ext_tail1 {P:Program} {id:Nat} {Q:Exit→Act→World→Prop} {a:Act} {w:World} {d:Option Tmp} {x:Operand} {ty:TypeId} {pos:String} {aft:Array Edge} {l:List Oper} (n:Nat) (hm:P.follows .mixedOrders=true)
  (hB:lexTail1B .any (⟨d,.move x,ty,pos,aft,none⟩::l).toArray (n+1)=true)
  (hQ:∀c a' w',Q (.panic c) (a'.put d (a.eval x)) w'→Q (.panic c) a' w')
  (h:wpQuiet P (⟨d,.move x,ty,pos,aft,none⟩::l).toArray (fun w'=>∃p:EP,w'=ext w p) (fun a'=>∀w',(∃p:EP,w'=ext w p)→wpList P (⟨d,.move x,ty,pos,aft,none⟩::l).toArray Q (l.drop n) a' w') (l.take n) (a.put d (a.eval x))):
  (Code.region id (⟨d,.move x,ty,pos,aft,none⟩::l).toArray true).wp P Q a w:=
 wp_region_qtail1 (C:=fun w'=>∃p:EP,w'=ext w p) n hm hB (ext_of_below (below_drewN (Below.refl _ w) 1)) hQ h
end Go.Proofs.YtkdomobedfhhgaaGreat
end
