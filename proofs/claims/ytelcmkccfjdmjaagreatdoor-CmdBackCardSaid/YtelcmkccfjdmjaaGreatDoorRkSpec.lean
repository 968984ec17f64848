/-
  Ranks: which lists are ranks, their inverse, and the rank of a text, as plain Lean.
-/
import Derived.Test.YtelcmkccfjdmjaaGreatDoorNumSpec
import Derived.Test.YtelcmkccfjdmjaaGreatDoorRangeC
namespace Go.Proofs.YtelcmkccfjdmjaaGreatDoor
open Go.Proofs Go.RowKit Go.Shelf

def rngI (n : Nat) : List Int := (List.range n).map Int.ofNat
theorem rngI_length (n : Nat) : (rngI n).length = n := by simp [rngI]
theorem mem_rngI {n : Nat} {x : Int} : x ∈ rngI n ↔ 0 ≤ x ∧ x < n := by
  unfold rngI
  rw [List.mem_map]
  constructor
  · rintro ⟨a, ha, rfl⟩
    have := List.mem_range.1 ha
    exact ⟨Int.natCast_nonneg _, by show (a : Int) < n; omega⟩
  · rintro ⟨h0, h1⟩
    exact ⟨x.toNat, List.mem_range.2 (by omega), by show ((x.toNat : Nat) : Int) = x; omega⟩
theorem nodup_rngI (n : Nat) : (rngI n).Nodup := by
  unfold rngI
  refine List.Pairwise.map _ ?_ List.nodup_range
  intro a b hab h
  exact hab (Int.ofNat.inj h)
theorem sub_length : ∀ (a b : List Int), a.Nodup → (∀ x ∈ a, x ∈ b) → a.length ≤ b.length
  | [], _, _, _ => by simp
  | x :: r, b, hn, hs => by
    have hx := hs x (by simp)
    obtain ⟨h1, h2⟩ := List.nodup_cons.1 hn
    have h3 := sub_length r (b.erase x) h2 (fun y hy => (List.mem_erase_of_ne (by rintro rfl; exact h1 hy)).2 (hs y (by simp [hy])))
    have h4 := List.length_erase_of_mem hx
    have h5 := List.length_pos_of_mem hx
    rw [List.length_cons]
    omega

/-- is it a rank? -/
def rankB (l : List Int) : Bool := (List.range l.length).all fun i => l.contains (i : Int)
theorem rankB_true {l : List Int} (h : ∀ x ∈ rngI l.length, x ∈ l) : rankB l = true := by
  unfold rankB
  rw [List.all_eq_true]
  intro i hi
  rw [List.contains_iff_mem]
  exact h _ (mem_rngI.2 ⟨by omega, by have := List.mem_range.1 hi; omega⟩)
theorem rankB_sub {l : List Int} (h : rankB l = true) : ∀ x ∈ rngI l.length, x ∈ l := by
  intro x hx
  obtain ⟨h0, h1⟩ := mem_rngI.1 hx
  unfold rankB at h
  rw [List.all_eq_true] at h
  have := h x.toNat (List.mem_range.2 (by omega))
  rw [List.contains_iff_mem] at this
  rwa [Int.toNat_of_nonneg h0] at this

/-- the first k are within, and each once -/
def okPre (l : List Int) (k : Nat) : Prop := ∀ i (h : i < l.length), i < k → 0 ≤ l[i] ∧ l[i] < l.length ∧ ∀ j (h2 : j < i), l[j] ≠ l[i]
theorem okPre_zero (l : List Int) : okPre l 0 := fun _ _ h => absurd h (Nat.not_lt_zero _)
theorem okPre_succ {l : List Int} {k : Nat} (h : okPre l k) (hk : k < l.length) (h0 : 0 ≤ l[k]) (h1 : l[k] < l.length) (h2 : ∀ j (hj : j < k), l[j] ≠ l[k]) : okPre l (k + 1) := by
  intro i hi hik
  by_cases e : i = k
  · subst e; exact ⟨h0, h1, h2⟩
  · exact h i hi (by omega)
theorem okPre_nodup {l : List Int} (h : okPre l l.length) : l.Nodup := by
  unfold List.Nodup
  rw [List.pairwise_iff_getElem]
  intro i j hi hj hij
  exact (h j hj hj).2.2 i hij
theorem rankB_ok {l : List Int} (h : okPre l l.length) : rankB l = true := by
  refine rankB_true fun x hx => ?_
  by_cases hm : x ∈ l
  · exact hm
  · have h1 := sub_length (x :: l) (rngI l.length) (List.nodup_cons.2 ⟨hm, okPre_nodup h⟩) (fun y hy => by
      rcases List.mem_cons.1 hy with rfl | hy
      · exact hx
      · obtain ⟨i, hi, rfl⟩ := List.mem_iff_getElem.1 hy
        have := h i hi hi
        exact mem_rngI.2 ⟨this.1, this.2.1⟩)
    rw [rngI_length] at h1
    simp at h1
    omega
theorem rankB_in {l : List Int} (h : rankB l = true) : ∀ x ∈ l, 0 ≤ x ∧ x < l.length := by
  intro x hx
  by_cases hr : x ∈ rngI l.length
  · exact mem_rngI.1 hr
  · have h1 := sub_length (rngI l.length) (l.erase x) (nodup_rngI _) (fun y hy => (List.mem_erase_of_ne (by rintro rfl; exact hr hy)).2 (rankB_sub h y hy))
    rw [rngI_length, List.length_erase_of_mem hx] at h1
    have := List.length_pos_of_mem hx
    omega
theorem rankB_out {l : List Int} {x : Int} (hx : x ∈ l) (h : x < 0 ∨ (l.length : Int) ≤ x) : rankB l = false := by
  cases e : rankB l with
  | false => rfl
  | true => have := rankB_in e x hx; omega
theorem rankB_dup {l : List Int} {j k : Nat} (hk : k < l.length) (hj : j < k) (h : l[j] = l[k]) : rankB l = false := by
  cases e : rankB l with
  | false => rfl
  | true =>
    have h1 := sub_length (rngI l.length) (l.eraseIdx k) (nodup_rngI _) (fun y hy => by
      obtain ⟨i, hi, rfl⟩ := List.mem_iff_getElem.1 (rankB_sub e y hy)
      rw [List.mem_eraseIdx_iff_getElem]
      by_cases c : i = k
      · subst c; exact ⟨j, by omega, by omega, h⟩
      · exact ⟨i, hi, c, rfl⟩)
    rw [rngI_length, List.length_eraseIdx_of_lt hk] at h1
    omega
theorem rankB_nodup {l : List Int} (h : rankB l = true) : okPre l l.length := by
  intro i hi _
  have h1 := rankB_in h l[i] (List.getElem_mem hi)
  refine ⟨h1.1, h1.2, fun j hj e => ?_⟩
  rw [rankB_dup hi hj e] at h
  cases h

/-- which have come among the first k -/
def metL (l : List Int) (k : Nat) : List Bool := (List.range l.length).map fun v => (l.take k).contains ((v : Nat) : Int)
theorem metL_length (l : List Int) (k : Nat) : (metL l k).length = l.length := by simp [metL]
theorem metL_zero (l : List Int) : metL l 0 = List.replicate l.length false := by
  unfold metL
  apply List.ext_getElem
  · simp
  · intro i h1 h2
    simp
theorem metL_get {l : List Int} {k v : Nat} (hv : v < l.length) : (metL l k)[v]? = some ((l.take k).contains (v : Int)) := by
  unfold metL
  rw [List.getElem?_map, List.getElem?_range hv]
  rfl
theorem metL_set {l : List Int} {k v : Nat} (hk : k < l.length) (hv : l[k] = (v : Int)) (hl : v < l.length) : (metL l k).set v true = metL l (k + 1) := by
  apply List.ext_getElem?
  intro i
  rw [List.getElem?_set]
  by_cases hi : i < l.length
  · rw [metL_get hi, metL_get hi, List.take_succ_eq_append_getElem hk]
    by_cases e : v = i
    · subst e
      simp [metL_length, hl, hv]
    · rw [if_neg e]
      congr 1
      rw [List.contains_eq_mem, List.contains_eq_mem]
      congr 1
      rw [List.mem_append, List.mem_singleton, hv]
      simp
      omega
  · rw [if_neg (by omega), List.getElem?_eq_none (by rw [metL_length]; omega), List.getElem?_eq_none (by rw [metL_length]; omega)]
theorem metL_no {l : List Int} {k v : Nat} (hk : k < l.length) (hv : l[k] = (v : Int)) (h : (l.take k).contains (v : Int) = false) : ∀ j (hj : j < k), l[j] ≠ l[k] := by
  intro j hj e
  have : (v : Int) ∈ l.take k := by
    rw [← hv, ← e]
    rw [List.mem_take_iff_getElem]
    exact ⟨j, by omega, rfl⟩
  rw [List.contains_eq_mem] at h
  simp [this] at h
theorem metL_yes {l : List Int} {k v : Nat} (hk : k < l.length) (hv : l[k] = (v : Int)) (h : (l.take k).contains (v : Int) = true) : rankB l = false := by
  rw [List.contains_iff_mem, List.mem_take_iff_getElem] at h
  obtain ⟨j, hj, e⟩ := h
  exact rankB_dup hk (j := j) (by omega) (by rw [hv]; exact e)

/-- the inverse, as far as k -/
def invK (l : List Int) : Nat → List Int
  | 0 => List.replicate l.length 0
  | k + 1 => (invK l k).set (l.getD k 0).toNat k
theorem invK_length (l : List Int) : ∀ k, (invK l k).length = l.length
  | 0 => by simp [invK]
  | k + 1 => by simp [invK, invK_length l k]
def invL (l : List Int) : List Int := if rankB l then invK l l.length else []

/-- the rank of a text, and the fault -/
def synK (ps : List ByteArray) : Bool := ps.any fun p => (parseI p).2 == 3
def wideK (ps : List ByteArray) : Bool := ps.any fun p => (parseI p).2 != 0 || decide (4096 < (parseI p).1)
def valsK (ps : List ByteArray) : List Int := ps.map fun p => (parseI p).1
def rankP (s : ByteArray) : List Int × Int :=
  if s.size = 0 then ([], 0) else if synK (partsS 44 s) then ([], 3) else if wideK (partsS 44 s) || !rankB (valsK (partsS 44 s)) then ([], 2) else (valsK (partsS 44 s), 0)

end Go.Proofs.YtelcmkccfjdmjaaGreatDoor
