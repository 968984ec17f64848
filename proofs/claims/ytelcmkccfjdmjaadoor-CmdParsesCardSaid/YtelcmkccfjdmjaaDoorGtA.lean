/-
  Walks of package gtext: the words of an edge.
  Walks of package gtext: the words of a graph.
-/
import Derived.Test.YtelcmkccfjdmjaaDoorProg
import Derived.Test.YtelcmkccfjdmjaaDoorNumPrintR
import Derived.Test.YtelcmkccfjdmjaaDoorGraphD
import Derived.Test.YtelcmkccfjdmjaaDoorShelf2
namespace Go.Proofs.YtelcmkccfjdmjaaDoor
open Go.Proofs Go.RowKit Go.Shelf Go.Sort

theorem Itoa_any (n : Int) (h0 : 0 ≤ n) (h1 : n ≤ 9223372036854775807) (w : World) (ht : Pow10 w) :
    Calls Tryd.prog 44 #[.int .i64 n] w fun e w' => e = .returned (.string (printI n)) ∧ Below w.heap.size w w' := by
  refine (Tryd.strconv_Itoa n (by omega) h1 w ht).mono ?_
  rintro e w' ⟨rfl, k, os, rfl⟩
  refine ⟨?_, below_grow w os k⟩
  obtain ⟨u, rfl⟩ := Int.eq_ofNat_of_zero_le h0
  rw [Lib.itoa_nonneg]
  rfl

/-- the words of an edge -/
def ofE (e : EdgeD) : List ByteArray := [printI e.f, printI e.t, printI e.w]

theorem s3_start {W : World} {a0 a1 a2 : Addr} {v0 v1 v2 : Value} (h0 : W.cell? a0 = some v0) (h1 : W.cell? a1 = some v1) (h2 : W.cell? a2 = some v2) : W.drew.cell? a0 = some v0 ∧ W.drew.cell? a1 = some v1 ∧ W.drew.cell? a2 = some v2 ∧ Below W.heap.size W W.drew := ⟨h0, h1, h2, Below.of_dr W 1⟩
theorem s3_next {W w1 w2 : World} {a0 a1 a2 : Addr} {v0 v1 v2 : Value} (hb : Below w1.heap.size w1 w2) (h : w1.cell? a0 = some v0 ∧ w1.cell? a1 = some v1 ∧ w1.cell? a2 = some v2 ∧ Below W.heap.size W w1) : w2.cell? a0 = some v0 ∧ w2.cell? a1 = some v1 ∧ w2.cell? a2 = some v2 ∧ Below W.heap.size W w2 :=
  ⟨cell_later hb h.1, cell_later hb h.2.1, cell_later hb h.2.2.1, h.2.2.2.st hb⟩

end Go.Proofs.YtelcmkccfjdmjaaDoor

namespace Go.Proofs.YtelcmkccfjdmjaaDoor
open Go.Proofs Go.RowKit Go.Shelf Go.Sort

theorem elem_str : Elem Tryd.prog 9 (.string ByteArray.empty) 1 16 := ⟨by kernel_rfl, rfl, by decide⟩

/-- the words of a graph, as far as its first k edges -/
def wordsK (g : GD) (k : Nat) : List ByteArray := [printI g.n, printI (g.es.length : Int)] ++ (g.es.take k).flatMap ofE
theorem wordsK_zero (g : GD) : wordsK g 0 = [printI g.n, printI (g.es.length : Int)] := by simp [wordsK]
theorem wordsK_step (g : GD) (k : Nat) (h : k < g.es.length) : wordsK g (k + 1) = wordsK g k ++ ofE g.es[k] := by
  unfold wordsK
  rw [List.take_succ_eq_append_getElem h, List.flatMap_append]
  simp
theorem wordsK_length (g : GD) (k : Nat) (h : k ≤ g.es.length) : (wordsK g k).length = 2 + 3 * k := by
  induction k with
  | zero => simp [wordsK]
  | succ k ih =>
    rw [wordsK_step g k (by omega), List.length_append, ih (by omega)]
    simp [ofE]
    omega
/-- the words of a graph, and the fault's number -/
def wordsG (g : GD) : List ByteArray × Int := if rightG g ≠ 0 then ([], 1) else if 16384 < 2 + 3 * g.es.length then ([], 5) else (wordsK g g.es.length, 0)

theorem gright_of {g : GD} (h : rightG g = 0) : 1 ≤ g.n ∧ g.n ≤ 4096 ∧ g.es.length ≤ 16384 ∧ ∀ e ∈ g.es, 0 ≤ e.f ∧ e.f < g.n ∧ 0 ≤ e.t ∧ e.t < g.n ∧ 1 ≤ e.w ∧ e.w ≤ 4294967296 := by
  unfold rightG at h
  split at h
  · cases h
  · rename_i h1
    split at h
    · cases h
    · rename_i h2
      split at h
      · cases h
      · rename_i h3
        split at h
        · cases h
        · rename_i h4
          refine ⟨by omega, by omega, by omega, fun e he => ?_⟩
          have k3 : g.es.any (looseB g.n) = false := by simpa using h3
          have k4 : g.es.any (fun e => !weightB e.w) = false := by simpa using h4
          rw [List.any_eq_false] at k3 k4
          have a := k3 e he
          have b := k4 e he
          unfold looseB nodeB at a
          unfold weightB at b
          simp at a b
          omega

/-- what Words leaves -/
def GWordsPost (w : World) (r : List ByteArray × Int) (e : Ending) (w' : World) : Prop :=
  ∃ ao cap, e = .returned (.tuple #[.slice ao r.1.length cap, .int .i64 r.2]) ∧ Cel w' ao (r.1.map encS) ∧ Below w.heap.size w w'

theorem s2_start {W : World} {a0 a1 : Addr} {v0 v1 : Value} (h0 : W.cell? a0 = some v0) (h1 : W.cell? a1 = some v1) : W.drew.cell? a0 = some v0 ∧ W.drew.cell? a1 = some v1 ∧ Below W.heap.size W W.drew := ⟨h0, h1, Below.of_dr W 1⟩
theorem s2_next {W w1 w2 : World} {a0 a1 : Addr} {v0 v1 : Value} (hb : Below w1.heap.size w1 w2) (h : w1.cell? a0 = some v0 ∧ w1.cell? a1 = some v1 ∧ Below W.heap.size W w1) : w2.cell? a0 = some v0 ∧ w2.cell? a1 = some v1 ∧ Below W.heap.size W w2 :=
  ⟨cell_later hb h.1, cell_later hb h.2.1, h.2.2.st hb⟩
theorem owns_goD {w w' : World} {base : Nat} {e : TypeId} {size n : Nat} {v : Value} {xs : List Value} (h : w.ownsRow base e size v n xs) (hb : Below w.heap.size w w') : w'.ownsRow base e size v n xs := by
  refine ⟨h.1, ?_⟩
  rcases h.2 with h2 | ⟨g, cap, cur, hv, hbg, hg, r⟩
  · exact .inl h2
  · exact .inr ⟨g, cap, cur, hv, hbg, by rw [hb.block g (Array.getElem?_eq_some_iff.1 hg).1]; exact hg, r⟩
theorem cel_news {w : World} {g : Nat} {l : List ByteArray} (h : Cel w (some ⟨g, 0, none⟩) (l.map encS)) : ∀ j u, (l.map encS)[j]? = some u → w.cell? ((⟨g, 0, none⟩ : Addr).add j) = some u := by
  intro j u hu
  obtain ⟨b, o, e, h1⟩ := h j u hu
  cases e
  rw [Addr.add_lit]
  exact h1
theorem one_strs (l : List ByteArray) : ∀ u ∈ l.map encS, u.oneCell' = true := by
  intro u hu
  obtain ⟨s, _, rfl⟩ := List.mem_map.1 hu
  rfl

end Go.Proofs.YtelcmkccfjdmjaaDoor
