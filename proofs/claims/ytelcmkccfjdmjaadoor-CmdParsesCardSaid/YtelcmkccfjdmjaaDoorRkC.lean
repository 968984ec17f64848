/-
  Walks of package rank: the text of a rank.
-/
import Derived.Test.YtelcmkccfjdmjaaDoorProg
import Derived.Test.YtelcmkccfjdmjaaDoorRkB
import Derived.Test.YtelcmkccfjdmjaaDoorGtD
namespace Go.Proofs.YtelcmkccfjdmjaaDoor
open Go.Proofs Go.RowKit Go.Shelf Go.Sort

/-- texts, with commas between -/
def joinC (xs : List ByteArray) : ByteArray := ⟨(Lib.join (tlD xs) [44]).toArray⟩
def textR (l : List Int) : Nat → ByteArray
  | 0 => ByteArray.empty
  | k + 1 => (if k = 0 then textR l k else textR l k ++ ⟨#[44]⟩) ++ printI (l.getD k 0)
def textL (l : List Int) : ByteArray := if rankB l then joinC (l.map printI) else ByteArray.empty

theorem join_snoc (xs : List (List UInt8)) (y : List UInt8) (h : xs ≠ []) : Lib.join (xs ++ [y]) [44] = Lib.join xs [44] ++ [44] ++ y := by
  cases xs with
  | nil => exact absurd rfl h
  | cons x r =>
    rw [List.cons_append, Lib.join_cons, Lib.join_cons]
    simp [Lib.joinTail]
theorem textR_join (l : List Int) : ∀ k, k ≤ l.length → textR l k = joinC ((l.take k).map printI)
  | 0, _ => by unfold textR joinC; simp [tlD, Lib.join_nil]; rfl
  | k + 1, h => by
    have ih := textR_join l k (by omega)
    have hk : k < l.length := by omega
    unfold textR
    rw [List.take_succ_eq_append_getElem hk, List.map_append, ih]
    have hg : l.getD k 0 = l[k] := by simp [List.getD, hk]
    rw [hg]
    unfold joinC tlD
    by_cases h0 : k = 0
    · subst h0
      rw [if_pos rfl]
      apply Go.WideShapes.bytes_inj
      simp [Lib.join_nil, Lib.join_one]
    · rw [if_neg h0, List.map_append, List.map_cons, List.map_nil, List.map_cons, List.map_nil, join_snoc _ _ (by
        intro e
        have := congrArg List.length e
        rw [List.length_map, List.length_map, List.length_take, List.length_nil] at this
        omega)]
      apply Go.WideShapes.bytes_inj
      simp
theorem textR_all (l : List Int) : textR l l.length = joinC (l.map printI) := by
  rw [textR_join l _ (Nat.le_refl _), List.take_length]
theorem textR_size (l : List Int) (h : ∀ x ∈ l, 0 ≤ x ∧ x < 18446744073709551616) : ∀ k, k ≤ l.length → (textR l k).size ≤ 21 * k
  | 0, _ => by unfold textR; exact Nat.le_refl 0
  | k + 1, hk => by
    have ih := textR_size l h k (by omega)
    have hk2 : k < l.length := by omega
    have hg : l.getD k 0 = l[k] := by simp [List.getD, hk2]
    have hx := h l[k] (List.getElem_mem hk2)
    have hp := printI_size_le hx.1 hx.2
    unfold textR
    rw [hg]
    split
    · rw [ByteArray.size_append]; omega
    · rw [ByteArray.size_append, ByteArray.size_append]
      have : (⟨#[44]⟩ : ByteArray).size = 1 := rfl
      omega

/-- strings.Join with a comma, at some words -/
theorem sJoinC_any (l : List ByteArray) (ao : Option Addr) (cap : Nat) (w : World) (hl : l.length ≤ 140737488355328) (hcap : l.length ≤ cap) (hlen : (joinC l).size ≤ 140737488355328) (hc : Cel w ao (l.map encS)) :
    Calls Tryd.prog 46 #[.slice ao l.length cap, .string ⟨#[44]⟩] w fun e w' => e = .returned (.string (joinC l)) ∧ Below w.heap.size w w' := by
  cases l with
  | nil => exact (Tryd.strings_Join_none ao cap ⟨#[44]⟩ w).mono fun e w' ⟨he, hw⟩ => ⟨he, hw ▸ Below.refl _ _⟩
  | cons x r =>
    obtain ⟨b, o, e, h0⟩ := hc 0 (encS x) rfl
    subst e
    refine Tryd.strings_Join b o cap (x :: r) ⟨#[44]⟩ w ?_ ?_ hl hcap (by unfold joinC at hlen; simpa [ByteArray.size, tlD] using hlen)
    · intro j y hj
      obtain ⟨b', o', e', h'⟩ := hc j (encS y) (by rw [List.getElem?_map, hj]; rfl)
      cases e'
      exact h'
    · exact cell_ltD h0

theorem owns_cap {w : World} {base : Nat} {e : TypeId} {size n c : Nat} {ao : Option Addr} {xs : List Value} (h : w.ownsRow base e size (.slice ao n c) n xs) : n ≤ c := by
  rcases h.2 with ⟨e, h0⟩ | ⟨g, cap, cur, e, _, _, h1, _⟩
  · cases e; omega
  · cases e; exact h1

theorem one_str (s : ByteArray) : ∀ u ∈ [encS s], u.oneCell' = true := by
  intro u hu
  rw [List.mem_singleton] at hu
  subst hu
  rfl
theorem one_cell (x : Value) (w : World) (T : TypeId) : ∀ j u, [x][j]? = some u → (w.alloc (.cells #[x] T)).cell? ((⟨w.heap.size, 0, none⟩ : Addr).add j) = some u := by
  intro j u hu
  rw [Addr.add_lit]
  have := World.cell?_alloc_mark w #[x] T (0, 0) (0 + j)
  rw [this]
  simpa using hu

end Go.Proofs.YtelcmkccfjdmjaaDoor
