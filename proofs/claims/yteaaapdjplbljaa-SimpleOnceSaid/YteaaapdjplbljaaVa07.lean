/- The order of routes is one: the plain law, and the walk of the statement PathTurns. Plain: all simple ways that go on from a node, as they come; how many there are at most; how they are sorted. -/
import Derived.Test.YteaaapdjplbljaaProg
import Derived.Test.YteaaapdjplbljaaVa02
import Derived.Test.YteaaapdjplbljaaVa03
import Derived.Test.YteaaapdjplbljaaVa05
import Derived.Test.YteaaapdjplbljaaVa06
set_option linter.unusedVariables false
set_option linter.unusedSimpArgs false
set_option linter.unnecessarySimpa false
section
namespace Go.Proofs.Yteaaapdjplbljaa
open Go.Proofs Go.RowKit Go.Shelf
theorem cmpI_neg (a b:Int):cmpI a b= -cmpI b a:=by unfold cmpI;split<;>(try split)<;>(try split)<;>omega
theorem lexI_neg:∀a b:List Int,lexI a b= -lexI b a
 |[],[]=>by simp [lexI]
 |[],_::_=>by simp [lexI]
 |_::_,[]=>by simp [lexI]
 |x::xs,y::ys=>by
  have h1:=cmpI_neg x y
  have h2:=lexI_neg xs ys
  unfold lexI
  split<;>split<;>omega
theorem cmpR_neg (wa:Int) (la:List Int) (wb:Int) (lb:List Int):cmpR wa la wb lb= -cmpR wb lb wa la:=by
 have h1:=cmpI_neg wa wb
 have h2:=lexI_neg la lb
 unfold cmpR
 split<;>split<;>omega
theorem cmpI_zero {a b:Int}:cmpI a b=0↔a=b:=by unfold cmpI;constructor<;>intro h<;>(repeat' split at*)<;>omega
theorem cmpI_le {a b:Int}:cmpI a b≤0↔a≤b:=by unfold cmpI;constructor<;>intro h<;>(repeat' split at*)<;>omega
theorem lexI_trans:∀a b c:List Int,lexI a b≤0→lexI b c≤0→lexI a c≤0
 |[],_,[],_,_=>by simp [lexI]
 |[],_,_::_,_,_=>by simp [lexI]
 |_::_,[],_,h,_=>by simp [lexI] at h
 |_::_,_::_,[],_,h=>by simp [lexI] at h
 |x::xs,y::ys,z::zs,h1,h2=>by
  have ih:=lexI_trans xs ys zs
  have e1:=@cmpI_zero x y
  have e2:=@cmpI_zero y z
  have e3:=@cmpI_zero x z
  have l1:=@cmpI_le x y
  have l2:=@cmpI_le y z
  have l3:=@cmpI_le x z
  unfold lexI at h1 h2 ⊢
  split at h1<;>split at h2<;>split
  all_goals first
   |exact ih h1 h2
   |omega
theorem cmpR_trans {wa wb wc:Int} {a b c:List Int} (h1:cmpR wa a wb b≤0) (h2:cmpR wb b wc c≤0):cmpR wa a wc c≤0:=by
 have ih:=lexI_trans a b c
 have e1:=@cmpI_zero wa wb
 have e2:=@cmpI_zero wb wc
 have e3:=@cmpI_zero wa wc
 have l1:=@cmpI_le wa wb
 have l2:=@cmpI_le wb wc
 have l3:=@cmpI_le wa wc
 unfold cmpR at h1 h2 ⊢
 split at h1<;>split at h2<;>split
 all_goals first
  |exact ih h1 h2
  |omega
end Go.Proofs.Yteaaapdjplbljaa
end
section
namespace Go.Proofs.Yteaaapdjplbljaa.Sm
open Go Go.Proofs Go.RowKit Go.Proofs.Yteaaapdjplbljaa Go.Proofs.Yteaaapdjplbljaa.Ad
def eE (es:List EdgeD) (i:Nat):EdgeD:=es.getD i ⟨0,0,0⟩
def simF (es:List EdgeD) (t:Int):Nat→Int→List Int→List Int→Int→List RtD
 |0,_,_,_,_=>[]
 |n+1,v,met,r,w=>if v=t then [⟨r,w⟩] else
  (List.range es.length).flatMap fun i=>if (eE es i).f=v∧(eE es i).t∉met then simF es t n (eE es i).t (met++[(eE es i).t]) (r++[(i:Int)]) (w+(eE es i).w) else []
def stF (es:List EdgeD) (t:Int) (n:Nat) (met r:List Int) (w:Int) (i:Nat):List RtD:=
 if (eE es i).t∉met then simF es t n (eE es i).t (met++[(eE es i).t]) (r++[(i:Int)]) (w+(eE es i).w) else []
theorem simF_end {es:List EdgeD} {t:Int} {n:Nat} {met r:List Int} {w:Int}:simF es t (n+1) t met r w=[⟨r,w⟩]:=by
 unfold simF;rw [if_pos rfl]
theorem flatMap_if {α β:Type} (p:α→Prop) [DecidablePred p] (f:α→List β):∀l:List α,(l.flatMap fun i=>if p i then f i else [])=(l.filter fun i=>decide (p i)).flatMap f
 |[]=>rfl
 |x::l=>by
  rw [List.flatMap_cons,flatMap_if p f l]
  by_cases h:p x
  ·rw [if_pos h,List.filter_cons_of_pos (by simpa using h),List.flatMap_cons]
  ·rw [if_neg h,List.filter_cons_of_neg (by simpa using h),List.nil_append]
def outN (es:List EdgeD) (v:Int):List Nat:=(List.range es.length).filter fun i=>decide ((eE es i).f=v)
theorem simF_go {es:List EdgeD} {t v:Int} {n:Nat} {met r:List Int} {w:Int} (h:v≠t):simF es t (n+1) v met r w=(outN es v).flatMap (stF es t n met r w):=by
 rw [simF,if_neg h]
 have e:∀i,(if (eE es i).f=v∧(eE es i).t∉met then simF es t n (eE es i).t (met++[(eE es i).t]) (r++[(i:Int)]) (w+(eE es i).w) else [])=(if (eE es i).f=v then stF es t n met r w i else []):=fun i=>by
  unfold stF
  by_cases h1:(eE es i).f=v
  ·simp only [h1,true_and,if_true]
  ·simp only [h1,false_and,if_false]
 simp only [e]
 exact flatMap_if (fun i=>(eE es i).f=v) _ _
theorem idxN_out (es:List EdgeD) (v:Nat) (hes:∀e∈es,0≤e.f):idxN (fun i=>(eE es i).f.toNat) es.length v=(outN es (v:Int)).map Int.ofNat:=by
 have h:∀k,k≤es.length→idxN (fun i=>(eE es i).f.toNat) k v=((List.range k).filter fun i=>decide ((eE es i).f=(v:Int))).map Int.ofNat:=by
  intro k
  induction k with
  |zero=>intro _;rfl
  |succ k ih=>
   intro hk
   have h0:0≤(eE es k).f:=by
    unfold eE
    rw [List.getD_eq_getElem?_getD,List.getElem?_eq_getElem (by omega),Option.getD_some]
    exact hes _ (List.getElem_mem _)
   rw [idxN,ih (by omega),List.range_succ,List.filter_append,List.map_append]
   by_cases e:(eE es k).f=(v:Int)
   ·rw [if_pos (by omega)]
    simp [e]
   ·rw [if_neg (by omega)]
    simp [e]
 exact h _ (Nat.le_refl _)
theorem simF_pre {es:List EdgeD} {t:Int}:∀(n:Nat) (v:Int) (met r:List Int) (w:Int) (x:RtD),x∈simF es t n v met r w→r <+:x.es
 |0,_,_,_,_,_,h=>by simp [simF] at h
 |n+1,v,met,r,w,x,h=>by
  by_cases e:v=t
  ·subst e
   rw [simF_end] at h
   rw [List.mem_singleton.1 h]
   exact List.prefix_refl _
  ·rw [simF_go e] at h
   obtain ⟨i,_,hi⟩:=List.mem_flatMap.1 h
   unfold stF at hi
   split at hi
   ·exact (List.prefix_append _ _).trans (simF_pre n _ _ _ _ _ hi)
   ·cases hi
theorem stF_pre {es:List EdgeD} {t:Int} {n:Nat} {met r:List Int} {w:Int} {i:Nat} {x:RtD} (h:x∈stF es t n met r w i):(r++[(i:Int)]) <+:x.es:=by
 unfold stF at h
 split at h
 ·exact simF_pre _ _ _ _ _ _ h
 ·cases h
theorem pre_at {r l:List Int} {i:Int} (h:(r++[i]) <+:l):l[r.length]? =some i:=by
 obtain ⟨k,rfl⟩:=h
 rw [List.append_assoc,List.getElem?_append_right (Nat.le_refl _),Nat.sub_self]
 rfl
theorem simF_apart {es:List EdgeD} {t:Int}:∀(n:Nat) (v:Int) (met r:List Int) (w:Int),(simF es t n v met r w).Pairwise fun a b=>a.es≠b.es
 |0,_,_,_,_=>by simp [simF]
 |n+1,v,met,r,w=>by
  by_cases e:v=t
  ·subst e
   rw [simF_end]
   exact List.pairwise_singleton _ _
  ·rw [simF_go e,List.pairwise_flatMap]
   refine ⟨fun i _=>?_,?_⟩
   ·unfold stF
    split
    ·exact simF_apart n _ _ _ _
    ·exact List.Pairwise.nil
   ·have hd:(outN es v).Pairwise (· <·):=(List.pairwise_lt_range).filter _
    refine hd.imp fun {i j} hij x hx y hy e=>?_
    have h1:=pre_at (stF_pre hx)
    have h2:=pre_at (stF_pre hy)
    rw [e,h2] at h1
    have:=Option.some.inj h1
    omega
abbrev leR (a b:RtD):Prop:=cmpR a.w a.es b.w b.es≤0
theorem leR_trans {a b c:RtD} (h1:leR a b) (h2:leR b c):leR a c:=cmpR_trans h1 h2
theorem leR_anti {a b:RtD} (h1:leR a b) (h2:leR b a):a=b:=by
 have h3:=cmpR_neg a.w a.es b.w b.es
 have h4:=cmpR_zero a b
 have h5:cmpR a.w a.es b.w b.es=0:=by unfold leR at h1 h2;omega
 rw [h5] at h4
 exact of_decide_eq_true h4.symm
theorem leR_not {a b:RtD} (h:¬leR a b):leR b a:=by
 have h3:=cmpR_neg a.w a.es b.w b.es
 unfold leR at*
 omega
def insR (x:RtD):List RtD→List RtD
 |[]=>[x]
 |a::p=>if leR a x then a::insR x p else x::a::p
def cutR (x:RtD):List RtD→Nat
 |[]=>0
 |a::p=>if leR a x then cutR x p+1 else 0
theorem insR_cut (x:RtD):∀p:List RtD,insR x p=p.take (cutR x p)++x::p.drop (cutR x p)
 |[]=>rfl
 |a::p=>by
  unfold insR cutR
  split
  ·rw [List.take_succ_cons,List.drop_succ_cons,List.cons_append,insR_cut x p]
  ·rfl
theorem insR_perm (x:RtD) (p:List RtD):(insR x p).Perm (x::p):=by
 rw [insR_cut]
 have h:=List.perm_middle (a:=x) (l₁:=p.take (cutR x p)) (l₂:=p.drop (cutR x p))
 rw [List.take_append_drop] at h
 exact h
theorem insR_srt {x:RtD}:∀{p:List RtD},p.Pairwise leR→(insR x p).Pairwise leR
 |[],_=>List.pairwise_singleton _ _
 |a::p,h=>by
  unfold insR
  have h2:=List.pairwise_cons.1 h
  split
  ·rename_i hw
   refine List.pairwise_cons.2 ⟨fun b hb=>?_,insR_srt h2.2⟩
   rcases List.mem_cons.1 ((insR_perm x p).mem_iff.1 hb) with rfl|hb
   ·exact hw
   ·exact h2.1 b hb
  ·rename_i hw
   refine List.pairwise_cons.2 ⟨fun b hb=>?_,h⟩
   rcases List.mem_cons.1 hb with rfl|hb
   ·exact leR_not hw
   ·exact leR_trans (leR_not hw) (h2.1 b hb)
def sortR (l:List RtD):List RtD:=l.foldl (fun o x=>insR x o) []
theorem sortR_snoc (l:List RtD) (x:RtD):sortR (l++[x])=insR x (sortR l):=by unfold sortR;rw [List.foldl_append];rfl
theorem rev_indR {P:List RtD→Prop} (h0:P []) (h1:∀l x,P l→P (l++[x])) (l:List RtD):P l:=by
 have h:∀k,∀l:List RtD,l.length=k→P l:=by
  intro k
  induction k with
  |zero=>intro l hl;rw [List.length_eq_zero_iff.1 hl];exact h0
  |succ k ih=>
   intro l hl
   have hne:l≠[]:=fun e=>by rw [e] at hl;cases hl
   rw [←List.dropLast_concat_getLast hne]
   exact h1 _ _ (ih _ (by rw [List.length_dropLast];omega))
 exact h _ l rfl
theorem sortR_perm:∀l:List RtD,(sortR l).Perm l:=by
 refine rev_indR (List.Perm.refl _) fun l x ih=>?_
 rw [sortR_snoc]
 exact ((insR_perm x _).trans (ih.cons x)).trans (List.perm_append_comm (l₁:=[x]) (l₂:=l))
theorem sortR_srt:∀l:List RtD,(sortR l).Pairwise leR:=by
 refine rev_indR List.Pairwise.nil fun l x ih=>?_
 rw [sortR_snoc]
 exact insR_srt ih
theorem sortR_len (l:List RtD):(sortR l).length=l.length:=(sortR_perm l).length_eq
theorem sortR_uniq {l l':List RtD} (hp:l'.Perm l) (hs:l'.Pairwise leR):l'=sortR l:=
 List.Perm.eq_of_pairwise (le:=leR) (fun _ _ _ _ h1 h2=>leR_anti h1 h2) hs (sortR_srt l) (hp.trans (sortR_perm l).symm)
theorem sortR_rise {l:List RtD} (h:l.Pairwise fun a b=>a.es≠b.es):(sortR l).Pairwise fun a b=>cmpR a.w a.es b.w b.es<0:=by
 have h1:(sortR l).Pairwise fun a b=>a.es≠b.es:=((sortR_perm l).pairwise_iff (fun h e=>h e.symm)).2 h
 refine (List.Pairwise.and (sortR_srt l) h1).imp ?_
 rintro a b ⟨h2,h3⟩
 unfold leR at h2
 rcases Int.lt_or_eq_of_le h2 with h|h
 ·exact h
 ·have h4:=cmpR_zero a b
  rw [h] at h4
  exact absurd (congrArg RtD.es (of_decide_eq_true h4.symm)) h3
def aheadR (l:List RtD) (x:RtD):Nat:=l.countP fun a=>decide (cmpR a.w a.es x.w x.es<0)
end Go.Proofs.Yteaaapdjplbljaa.Sm
end
