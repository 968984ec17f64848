/-
  Walks over graphs: which may be, nodes, edges; are all edges of a graph.
-/
import Derived.Test.YtelcmkccfjdmjaaDoorProg
import Derived.Test.YtelcmkccfjdmjaaDoorBase
namespace Go.Proofs.YtelcmkccfjdmjaaDoor
open Go.Proofs Go.RowKit Go.Shelf

/-- an edge, and a graph, as data -/
structure EdgeD where
  f : Int
  t : Int
  w : Int
  deriving DecidableEq
structure GD where
  n : Int
  es : List EdgeD

abbrev encE (e : EdgeD) : Value := .agg #[.int .i64 e.f, .int .i64 e.t, .int .u64 e.w]
def flat : List EdgeD → List Value
  | [] => []
  | e :: r => .int .i64 e.f :: .int .i64 e.t :: .int .u64 e.w :: flat r

theorem flat_length : ∀ es : List EdgeD, (flat es).length = es.length * 3
  | [] => rfl
  | e :: r => by simp [flat, flat_length r]; omega
theorem flat_get : ∀ (es : List EdgeD) (i : Nat) (h : i < es.length), (flat es)[i * 3]? = some (.int .i64 es[i].f) ∧ (flat es)[i * 3 + 1]? = some (.int .i64 es[i].t) ∧ (flat es)[i * 3 + 2]? = some (.int .u64 es[i].w)
  | e :: r, 0, _ => ⟨rfl, rfl, rfl⟩
  | e :: r, i + 1, h => by
    have ih := flat_get r i (by simpa using h)
    have e1 : (i + 1) * 3 = i * 3 + 1 + 1 + 1 := by omega
    simp only [e1, flat, List.getElem?_cons_succ, List.getElem_cons_succ]
    exact ih
theorem flat_append : ∀ a b : List EdgeD, flat (a ++ b) = flat a ++ flat b
  | [], b => rfl
  | e :: r, b => by simp [flat, flat_append r b]

/-- edge i of a row of edges -/
theorem Cel.edge {w : World} {ao : Option Addr} {es : List EdgeD} (h : Cel w ao (flat es)) {i : Nat} (hi : i < es.length) :
    ∃ b o, ao = some ⟨b, o, none⟩ ∧ w.cell? ⟨b, o + i * 3, none⟩ = some (.int .i64 es[i].f) ∧ w.cell? ⟨b, o + i * 3 + 1, none⟩ = some (.int .i64 es[i].t) ∧ w.cell? ⟨b, o + i * 3 + 2, none⟩ = some (.int .u64 es[i].w) := by
  obtain ⟨h1, h2, h3⟩ := flat_get es i hi
  obtain ⟨b, o, e, c1⟩ := h _ _ h1
  obtain ⟨b', o', e', c2⟩ := h _ _ h2
  obtain ⟨b'', o'', e'', c3⟩ := h _ _ h3
  rw [e] at e' e''
  cases e'
  cases e''
  exact ⟨b, o, e, c1, by rw [Nat.add_assoc]; exact c2, by rw [Nat.add_assoc]; exact c3⟩

def nodeB (n v : Int) : Bool := decide (0 ≤ v) && decide (v < n)
def edgeB (m : Nat) (e : Int) : Bool := decide (0 ≤ e) && decide (e < (m : Int))
def weightB (w : Int) : Bool := decide (1 ≤ w) && decide (w ≤ 4294967296)
def looseB (n : Int) (e : EdgeD) : Bool := !nodeB n e.f || !nodeB n e.t || e.f == e.t

/-- why a graph may not be -/
def rightG (g : GD) : Int :=
  if g.n < 1 ∨ 4096 < g.n then 2 else if 16384 < g.es.length then 5 else if g.es.any (looseB g.n) then 7 else if g.es.any (fun e => !weightB e.w) then 2 else 0

/-- what Right comes to, test by test -/
theorem rightG_1 {g : GD} (h : g.n < 1 ∨ 4096 < g.n) : rightG g = 2 := by unfold rightG; rw [if_pos h]
theorem rightG_2 {g : GD} (h1 : ¬ g.n < 1) (h1' : ¬ 4096 < g.n) (h2 : 16384 < g.es.length) : rightG g = 5 := by unfold rightG; rw [if_neg (by omega), if_pos h2]
theorem rightG_3 {g : GD} (h1 : ¬ g.n < 1) (h1' : ¬ 4096 < g.n) (h2 : ¬ 16384 < g.es.length) (h3 : g.es.any (looseB g.n) = true) : rightG g = 7 := by
  unfold rightG; rw [if_neg (by omega), if_neg h2, if_pos h3]
theorem rightG_4 {g : GD} (h1 : ¬ g.n < 1) (h1' : ¬ 4096 < g.n) (h2 : ¬ 16384 < g.es.length) (h3 : g.es.any (looseB g.n) = false) (h4 : g.es.any (fun e => !weightB e.w) = true) : rightG g = 2 := by
  unfold rightG; rw [if_neg (by omega), if_neg h2, if_neg (by simp [h3]), if_pos h4]
theorem rightG_5 {g : GD} (h1 : ¬ g.n < 1) (h1' : ¬ 4096 < g.n) (h2 : ¬ 16384 < g.es.length) (h3 : g.es.any (looseB g.n) = false) (h4 : g.es.any (fun e => !weightB e.w) = false) : rightG g = 0 := by
  unfold rightG; rw [if_neg (by omega), if_neg h2, if_neg (by simp [h3]), if_neg (by simp [h4])]

end Go.Proofs.YtelcmkccfjdmjaaDoor
