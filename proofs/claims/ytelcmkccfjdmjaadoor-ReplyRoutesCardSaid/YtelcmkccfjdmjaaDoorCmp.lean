/-
  Walks: cmp.Compare, slices.Compare, cmp.Or; path.Less, Cmp, Same.
-/
import Derived.Test.YtelcmkccfjdmjaaDoorProg
import Derived.Test.YtelcmkccfjdmjaaDoorBase
import Derived.Deep.RegionWith
import Derived.Deep.RegionHeld3
import Derived.StillTailTactics
namespace Go.Proofs.YtelcmkccfjdmjaaDoor
open Go.Proofs Go.RowKit Go.Shelf

def cmpI (a b : Int) : Int := if a < b then -1 else if b < a then 1 else 0
def lexI : List Int → List Int → Int
  | [], [] => 0
  | [], _ :: _ => -1
  | _ :: _, [] => 1
  | x :: xs, y :: ys => if cmpI x y = 0 then lexI xs ys else cmpI x y

theorem cmpI_bd (a b : Int) : -1 ≤ cmpI a b ∧ cmpI a b ≤ 1 := by unfold cmpI; split <;> (try split) <;> omega

theorem cmpI_lt {a b : Int} (h : a < b) : cmpI a b = -1 := by unfold cmpI; rw [if_pos h]
theorem cmpI_gt {a b : Int} (h : b < a) : cmpI a b = 1 := by unfold cmpI; rw [if_neg (by omega), if_pos h]
theorem cmpI_eq {a b : Int} (h : a = b) : cmpI a b = 0 := by unfold cmpI; rw [if_neg (by omega), if_neg (by omega)]

theorem lex_step {la lb : List Int} {k : Nat} (h1 : k < la.length) (h2 : k < lb.length) : lexI (la.drop k) (lb.drop k) = if cmpI la[k] lb[k] = 0 then lexI (la.drop (k + 1)) (lb.drop (k + 1)) else cmpI la[k] lb[k] := by
  rw [List.drop_eq_getElem_cons h1, List.drop_eq_getElem_cons h2, lexI]
theorem lex_long {la lb : List Int} {k : Nat} (h1 : k < la.length) (h2 : lb.length ≤ k) : lexI (la.drop k) (lb.drop k) = 1 := by
  rw [List.drop_eq_getElem_cons h1, List.drop_eq_nil_of_le h2, lexI]
theorem lex_end {la lb : List Int} {k : Nat} (h1 : la.length ≤ k) (h2 : k ≤ lb.length) (h3 : k = la.length): lexI (la.drop k) (lb.drop k) = if la.length < lb.length then -1 else 0 := by
  rw [List.drop_eq_nil_of_le h1]
  by_cases h : k < lb.length
  · rw [List.drop_eq_getElem_cons h, lexI, if_pos (by omega)]
  · rw [List.drop_eq_nil_of_le (by omega), lexI, if_neg (by omega)]

/-- how two routes stand -/
def cmpR (wa : Int) (la : List Int) (wb : Int) (lb : List Int) : Int := if cmpI wa wb = 0 then lexI la lb else cmpI wa wb

theorem lexI_bd : ∀ la lb : List Int, -1 ≤ lexI la lb ∧ lexI la lb ≤ 1
  | [], [] => by simp [lexI]
  | [], _ :: _ => by simp [lexI]
  | _ :: _, [] => by simp [lexI]
  | x :: xs, y :: ys => by
    have := lexI_bd xs ys
    have := cmpI_bd x y
    unfold lexI
    split <;> omega

end Go.Proofs.YtelcmkccfjdmjaaDoor
