/- Sets of integers as maps: what a map's keys are, and how many; no program. -/
import Derived.Maps.OwnOps
import Derived.Maps.OwnSet
import Derived.Maps.Views
set_option linter.unusedVariables false
set_option linter.unusedSimpArgs false
set_option linter.unnecessarySimpa false
namespace Go.Proofs.Yteaaapdjplbljaa
open Go.Proofs Go.RowKit Go.Maps
theorem keyLit_int (x:Int):WideAt.IsKeyLit (.int .i64 x):=by simp [WideAt.IsKeyLit]
def SetOf {H:Type} (D:DataW H) (P:List Int):Prop:=
 Tidy D∧(∀x,has D (.int .i64 x)=decide (x∈P))∧size D≤P.length∧(size D=P.length↔P.Nodup)
theorem setOf_nil {H:Type}:SetOf (.map []:DataW H) []:=by
 refine ⟨tidy_empty,fun x=>?_,Nat.le_refl _,?_⟩
 ·rfl
 ·simp [size]
theorem setOf_put {H:Type} {D:DataW H} {P:List Int} (h:SetOf D P) (x:Int) (d:DataW H):SetOf (D.put (.int .i64 x) d) (P++[x]):=by
 obtain ⟨ht,hh,hs,hn⟩:=h
 refine ⟨ht.put (keyLit_int x) d,fun y=>?_,?_,?_⟩
 ·by_cases e:y=x
  ·subst e
   rw [has_put_same ht.isMap (keyLit_int y)]
   simp
  ·rw [has_put_other (fun h=>e (by cases h;rfl)),hh]
   simp [e]
 ·rw [size_put ht,hh]
  simp
  split<;>omega
 ·rw [size_put ht,hh,List.nodup_append]
  simp only [decide_eq_true_eq,List.length_append,List.length_singleton,List.nodup_cons,List.not_mem_nil,not_false_eq_true,List.nodup_nil,and_self,true_and,List.mem_singleton]
  by_cases e:x∈P
  ·rw [if_pos e]
   constructor
   ·intro h;omega
   ·intro h;exact absurd rfl (h.2 x e x rfl)
  ·rw [if_neg e]
   constructor
   ·intro h
    exact ⟨hn.1 (by omega),fun a ha b hb hab=>e (by subst hb;subst hab;exact ha)⟩
   ·intro h
    have:=hn.2 h.1
    omega
theorem setOf_step {H:Type} {D:DataW H} {l:List Int} {k:Nat} (h:SetOf D (l.take k)) (hk:k<l.length) (d:DataW H):SetOf (D.put (.int .i64 l[k]) d) (l.take (k+1)):=by
 rw [List.take_succ_eq_append_getElem hk]
 exact setOf_put h _ d
theorem nodup_take_step {l:List Int} {k:Nat} (hk:k<l.length):(l.take (k+1)).Nodup↔(l.take k).Nodup∧l[k]∉l.take k:=by
 rw [List.take_succ_eq_append_getElem hk,List.nodup_append]
 simp only [List.nodup_cons,List.not_mem_nil,not_false_eq_true,List.nodup_nil,and_self,true_and,List.mem_singleton]
 constructor
 ·intro h;exact ⟨h.1,fun hm=>h.2 _ hm _ rfl rfl⟩
 ·intro h;exact ⟨h.1,fun a ha b hb hab=>h.2 (by subst hb;subst hab;exact ha)⟩
theorem nodup_of_take {l:List Int} {k:Nat} (h:l.Nodup):(l.take k).Nodup:=h.sublist (List.take_sublist k l)
end Go.Proofs.Yteaaapdjplbljaa
