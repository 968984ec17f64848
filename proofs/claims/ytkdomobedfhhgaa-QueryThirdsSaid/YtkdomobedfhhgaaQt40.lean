/-
  The rows of a hierarchy that is looked up, in plain Lean.
-/
import Derived.Test.YtkdomobedfhhgaaQt34
set_option linter.unusedVariables false
set_option linter.unusedSimpArgs false
set_option linter.unnecessarySimpa false
namespace Go.Proofs.Ytkdomobedfhhgaa
open Go Go.Proofs Go.RowKit Go.Shelf Go.Proofs.Ytkdomobedfhhgaa.Hp Go.Proofs.Ytkdomobedfhhgaa.Ch

abbrev Rows2 := List (List Int) × List (List Int)
def pushAt (O : List (List Int)) (v : Int) (i : Nat) : List (List Int) := O.set v.toNat (O.getD v.toNat [] ++ [(i : Int)])
def downB (R : List Int) (x : SC) : Bool := decide (rAt R x.t < rAt R x.f)
def rowsStep (R : List Int) (p : Rows2) (x : SC) (i : Nat) : Rows2 := if downB R x then (p.1, pushAt p.2 x.t i) else (pushAt p.1 x.f i, p.2)
def rowsK (R : List Int) (S : List SC) (n : Nat) : Nat → Rows2
  | 0 => (List.replicate n [], List.replicate n [])
  | k + 1 => rowsStep R (rowsK R S n k) (S.getD k scZ) k
theorem pushAt_len (O : List (List Int)) (v : Int) (i : Nat) : (pushAt O v i).length = O.length := List.length_set
theorem rowsK_len (R : List Int) (S : List SC) (n : Nat) : ∀ k, (rowsK R S n k).1.length = n ∧ (rowsK R S n k).2.length = n
  | 0 => ⟨by simp [rowsK], by simp [rowsK]⟩
  | k + 1 => by
    obtain ⟨h1, h2⟩ := rowsK_len R S n k
    show (rowsStep _ _ _ _).1.length = n ∧ (rowsStep _ _ _ _).2.length = n
    unfold rowsStep
    split
    · exact ⟨h1, by rw [pushAt_len]; exact h2⟩
    · exact ⟨by rw [pushAt_len]; exact h1, h2⟩
theorem pushAt_get {O : List (List Int)} {v : Int} {i : Nat} {u : Nat} (hv : v.toNat < O.length) : (pushAt O v i).getD u [] = if u = v.toNat then O.getD u [] ++ [(i : Int)] else O.getD u [] := by
  unfold pushAt
  rw [List.getD_eq_getElem?_getD, List.getElem?_set]
  by_cases e : v.toNat = u
  · subst e
    rw [if_pos rfl, if_pos rfl, if_pos hv]
    rfl
  · rw [if_neg e, if_neg (fun h => e h.symm), List.getD_eq_getElem?_getD]
/-- which shortcuts stand in a node's rows -/
theorem ex_succ {j : Int} {k : Nat} {Q : Nat → Prop} : (∃ i : Nat, j = (i : Int) ∧ i < k + 1 ∧ Q i) ↔ (∃ i : Nat, j = (i : Int) ∧ i < k ∧ Q i) ∨ (j = (k : Int) ∧ Q k) := by
  constructor
  · rintro ⟨i, h1, h2, h3⟩
    by_cases e : i = k
    · subst e; exact .inr ⟨h1, h3⟩
    · exact .inl ⟨i, h1, by omega, h3⟩
  · rintro (⟨i, h1, h2, h3⟩ | ⟨h1, h2⟩)
    · exact ⟨i, h1, by omega, h3⟩
    · exact ⟨k, h1, by omega, h2⟩
theorem rowsK_mem (R : List Int) (S : List SC) (n : Nat) (hends : ∀ x ∈ S, nodeN n x.f ∧ nodeN n x.t) : ∀ k, k ≤ S.length → ∀ (u : Nat), u < n →
    (∀ j : Int, j ∈ (rowsK R S n k).1.getD u [] ↔ ∃ i : Nat, j = (i : Int) ∧ i < k ∧ (S.getD i scZ).f = (u : Int) ∧ downB R (S.getD i scZ) = false) ∧
    (∀ j : Int, j ∈ (rowsK R S n k).2.getD u [] ↔ ∃ i : Nat, j = (i : Int) ∧ i < k ∧ (S.getD i scZ).t = (u : Int) ∧ downB R (S.getD i scZ) = true)
  | 0, _, u, hu => by
    have hz : (List.replicate n ([] : List Int)).getD u [] = [] := by
      rw [List.getD_eq_getElem?_getD, List.getElem?_replicate]
      split <;> rfl
    constructor <;> (intro j; show j ∈ (List.replicate n ([] : List Int)).getD u [] ↔ _; rw [hz]; constructor)
    · intro h; cases h
    · rintro ⟨i, _, hi, _⟩; omega
    · intro h; cases h
    · rintro ⟨i, _, hi, _⟩; omega
  | k + 1, hk, u, hu => by
    obtain ⟨ih1, ih2⟩ := rowsK_mem R S n hends k (by omega) u hu
    obtain ⟨l1, l2⟩ := rowsK_len R S n k
    have hx : S.getD k scZ ∈ S := by
      rw [List.getD_eq_getElem?_getD, List.getElem?_eq_getElem (by omega)]
      exact List.getElem_mem _
    obtain ⟨e1, e2⟩ := hends _ hx
    have hstep : rowsK R S n (k + 1) = rowsStep R (rowsK R S n k) (S.getD k scZ) k := rfl
    rw [hstep]
    unfold rowsStep
    cases hd : downB R (S.getD k scZ) with
    | true =>
      rw [if_pos rfl]
      refine ⟨fun j => ?_, fun j => ?_⟩
      · rw [ex_succ, ← ih1 j]
        constructor
        · exact .inl
        · rintro (h | ⟨_, _, h⟩)
          · exact h
          · rw [hd] at h; cases h
      · rw [ex_succ, ← ih2 j, pushAt_get (by rw [l2]; have := e2.1; have := e2.2; omega)]
        by_cases e : u = (S.getD k scZ).t.toNat
        · rw [if_pos e, List.mem_append, List.mem_singleton]
          have e3 : (S.getD k scZ).t = (u : Int) := by rw [e]; have := e2.1; omega
          constructor
          · rintro (h | h)
            · exact .inl h
            · exact .inr ⟨h, e3, hd⟩
          · rintro (h | ⟨h, _⟩)
            · exact .inl h
            · exact .inr h
        · rw [if_neg e]
          constructor
          · exact .inl
          · rintro (h | ⟨_, h, _⟩)
            · exact h
            · exact absurd (by rw [h]; rfl) e
    | false =>
      rw [if_neg (by simp)]
      refine ⟨fun j => ?_, fun j => ?_⟩
      · rw [ex_succ, ← ih1 j, pushAt_get (by rw [l1]; have := e1.1; have := e1.2; omega)]
        by_cases e : u = (S.getD k scZ).f.toNat
        · rw [if_pos e, List.mem_append, List.mem_singleton]
          have e3 : (S.getD k scZ).f = (u : Int) := by rw [e]; have := e1.1; omega
          constructor
          · rintro (h | h)
            · exact .inl h
            · exact .inr ⟨h, e3, hd⟩
          · rintro (h | ⟨h, _⟩)
            · exact .inl h
            · exact .inr h
        · rw [if_neg e]
          constructor
          · exact .inl
          · rintro (h | ⟨_, h, _⟩)
            · exact h
            · exact absurd (by rw [h]; rfl) e
      · rw [ex_succ, ← ih2 j]
        constructor
        · exact .inl
        · rintro (h | ⟨_, _, h⟩)
          · exact h
          · rw [hd] at h; cases h
end Go.Proofs.Ytkdomobedfhhgaa
