/-
  Package gtext: the graph of some words, as plain Lean.
  Package gtext: the graph of some words, as its reference goes through them, in plain Lean.
-/
import Derived.Test.YtelcmkccfjdmjaaGreatDoorNumSpec
import Derived.Test.YtelcmkccfjdmjaaGreatDoorGraphD
namespace Go.Proofs.YtelcmkccfjdmjaaGreatDoor
open Go.Proofs Go.RowKit Go.Shelf

def valK (l : List ByteArray) (k : Nat) : Int := (parseI (l.getD k ByteArray.empty)).1
def withinF (a b f n : Int) : Int := if n < a ∨ n > b then f else 0
/-- why the k-th number may not be n -/
def mayK (gn : Int) (k : Nat) (fr n : Int) : Int :=
  if k = 0 then withinF 1 4096 2 n else if k = 1 then withinF 0 16384 5 n
  else if (k - 2) % 3 = 2 then withinF 1 4294967296 2 n
  else if n ≥ gn ∨ ((k - 2) % 3 = 1 ∧ n = fr) then 7 else 0
theorem mayK_f {gn fr n : Int} {k : Nat} (h : 2 ≤ k) (h3 : (k - 2) % 3 = 0) : mayK gn k fr n = if n ≥ gn then 7 else 0 := by
  unfold mayK
  rw [if_neg (by omega), if_neg (by omega), if_neg (by omega)]
  simp [h3]
theorem mayK_t {gn fr n : Int} {k : Nat} (h : 2 ≤ k) (h3 : (k - 2) % 3 = 1) : mayK gn k fr n = if n ≥ gn ∨ n = fr then 7 else 0 := by
  unfold mayK
  rw [if_neg (by omega), if_neg (by omega), if_neg (by omega)]
  simp [h3]
theorem mayK_w {gn fr n : Int} {k : Nat} (h : 2 ≤ k) (h3 : (k - 2) % 3 = 2) : mayK gn k fr n = withinF 1 4294967296 2 n := by
  unfold mayK
  rw [if_neg (by omega), if_neg (by omega), if_pos h3]
/-- why the k-th word is wrong -/
def faultK (l : List ByteArray) (k : Nat) : Int :=
  if k < l.length then (if (parseI (l.getD k ByteArray.empty)).2 ≠ 0 then 3 else mayK (valK l 0) k (valK l (k - 1)) (valK l k)) else 3
/-- the words ahead of the k-th one are right -/
def Upto (l : List ByteArray) (k : Nat) : Prop := ∀ j, j < k → faultK l j = 0

theorem parseI_le (s : ByteArray) : 0 ≤ (parseI s).1 ∧ (parseI s).1 < 18446744073709551616 := by
  rcases parseI_cases s with h | h | ⟨v, h, h0, h1⟩ <;> rw [h]
  · exact ⟨by decide, by decide⟩
  · exact ⟨by decide, by decide⟩
  · exact ⟨h0, h1⟩
theorem parseI_zero {s : ByteArray} (h : (parseI s).2 ≠ 0) : (parseI s).1 = 0 := by
  rcases parseI_cases s with k | k | ⟨v, k, h0, h1⟩
  · rw [k]
  · rw [k]
  · rw [k] at h; exact absurd rfl h
theorem valK_le (l : List ByteArray) (k : Nat) : 0 ≤ valK l k ∧ valK l k < 18446744073709551616 := parseI_le _

theorem Upto.zero (l : List ByteArray) : Upto l 0 := fun _ h => absurd h (Nat.not_lt_zero _)
theorem Upto.succ {l : List ByteArray} {k : Nat} (h : Upto l k) (hk : faultK l k = 0) : Upto l (k + 1) := fun j hj => by
  by_cases e : j = k
  · subst e; exact hk
  · exact h j (by omega)
theorem Upto.le {l : List ByteArray} {k j : Nat} (h : Upto l k) (hj : j ≤ k) : Upto l j := fun i hi => h i (by omega)
theorem faultK_lt {l : List ByteArray} {k : Nat} (h : faultK l k = 0) : k < l.length := by
  unfold faultK at h
  split at h
  · assumption
  · cases h
theorem faultK_parse {l : List ByteArray} {k : Nat} (h : faultK l k = 0) : (parseI (l.getD k ByteArray.empty)).2 = 0 ∧ mayK (valK l 0) k (valK l (k - 1)) (valK l k) = 0 := by
  have hk := faultK_lt h
  unfold faultK at h
  rw [if_pos hk] at h
  split at h
  · cases h
  · rename_i h2
    exact ⟨by simpa using h2, h⟩
theorem Upto.n {l : List ByteArray} {k : Nat} (h : Upto l k) (hk : 1 ≤ k) : 1 ≤ valK l 0 ∧ valK l 0 ≤ 4096 := by
  have h0 := (faultK_parse (h 0 (by omega))).2
  unfold mayK withinF at h0
  simp at h0
  omega
theorem Upto.m {l : List ByteArray} {k : Nat} (h : Upto l k) (hk : 2 ≤ k) : 0 ≤ valK l 1 ∧ valK l 1 ≤ 16384 := by
  have h0 := (faultK_parse (h 1 (by omega))).2
  unfold mayK withinF at h0
  simp at h0
  omega

def edgeK (l : List ByteArray) (i : Nat) : EdgeD := ⟨valK l (2 + 3 * i), valK l (3 + 3 * i), valK l (4 + 3 * i)⟩
def fullEs (l : List ByteArray) (m : Nat) : List EdgeD := (List.range m).map (edgeK l)
theorem fullEs_succ (l : List ByteArray) (m : Nat) : fullEs l (m + 1) = fullEs l m ++ [edgeK l m] := by
  unfold fullEs
  rw [List.range_succ, List.map_append]
  rfl
theorem fullEs_length (l : List ByteArray) (m : Nat) : (fullEs l m).length = m := by simp [fullEs]

/-- how many words are wanted -/
def needP (l : List ByteArray) : Nat := if faultK l 0 ≠ 0 ∨ faultK l 1 ≠ 0 then 2 else 2 + 3 * (valK l 1).toNat
def firstBad (l : List ByteArray) (n : Nat) : Option Nat := (List.range n).find? (fun k => decide (faultK l k ≠ 0))
/-- the graph, where it is wrong, and why -/
def parseG (l : List ByteArray) : GD × Int × Int :=
  match firstBad l (needP l) with
  | some k => (⟨0, []⟩, (k : Int), faultK l k)
  | none => if needP l < l.length then (⟨0, []⟩, (needP l : Int), 3) else (⟨valK l 0, fullEs l (valK l 1).toNat⟩, 0, 0)

theorem needP_of {l : List ByteArray} (h : Upto l 2) : needP l = 2 + 3 * (valK l 1).toNat := by
  unfold needP
  rw [if_neg (by rw [h 0 (by omega), h 1 (by omega)]; simp)]
theorem needP_two (l : List ByteArray) : 2 ≤ needP l := by
  unfold needP
  split <;> omega

theorem parseG_bad {l : List ByteArray} {k : Nat} (h : Upto l k) (hk : k < needP l) (hf : faultK l k ≠ 0) : parseG l = (⟨0, []⟩, (k : Int), faultK l k) := by
  have e : firstBad l (needP l) = some k := by
    unfold firstBad
    rw [List.find?_eq_some_iff_append]
    refine ⟨by simpa using hf, List.range k, (List.range (needP l - (k + 1))).map (k + 1 + ·), ?_, ?_⟩
    · rw [show needP l = k + 1 + (needP l - (k + 1)) by omega, List.range_add, List.range_succ]
      rw [show k + 1 + (needP l - (k + 1)) - (k + 1) = needP l - (k + 1) by omega]
      simp
    · intro j hj
      have := h j (List.mem_range.1 hj)
      simp [this]
  unfold parseG
  rw [e]
theorem parseG_none {l : List ByteArray} (h : Upto l (needP l)) : firstBad l (needP l) = none := by
  unfold firstBad
  rw [List.find?_eq_none]
  intro j hj
  have := h j (List.mem_range.1 hj)
  simp [this]
theorem parseG_long {l : List ByteArray} (h : Upto l (needP l)) (hl : needP l < l.length) : parseG l = (⟨0, []⟩, (needP l : Int), 3) := by
  unfold parseG
  rw [parseG_none h]
  simp only
  rw [if_pos hl]
theorem parseG_ok {l : List ByteArray} (h : Upto l (needP l)) (hl : ¬ needP l < l.length) : parseG l = (⟨valK l 0, fullEs l (valK l 1).toNat⟩, 0, 0) := by
  unfold parseG
  rw [parseG_none h]
  simp only
  rw [if_neg hl]

/-- a number more, by the reader: what it is, how far the reader is, and its fault -/
def nextS (l : List ByteArray) (k : Nat) (f : Int) (may : Int → Int) : Int × Nat × Int :=
  if f ≠ 0 then (0, k, f) else if l.length ≤ k then (0, k, 3) else if (parseI (l.getD k ByteArray.empty)).2 ≠ 0 then (0, k, 3)
  else if may (valK l k) ≠ 0 then (0, k, may (valK l k)) else (valK l k, k + 1, 0)
theorem nextS_stop {l : List ByteArray} {k : Nat} {f : Int} {may : Int → Int} (h : f ≠ 0) : nextS l k f may = (0, k, f) := if_pos h
theorem nextS_go {l : List ByteArray} {k : Nat} {may : Int → Int} (hm : may (valK l k) = mayK (valK l 0) k (valK l (k - 1)) (valK l k)) :
    nextS l k 0 may = if faultK l k = 0 then (valK l k, k + 1, 0) else (0, k, faultK l k) := by
  unfold nextS faultK
  rw [if_neg (by simp)]
  by_cases h1 : k < l.length
  · rw [if_neg (by omega), if_pos h1]
    by_cases h2 : (parseI (l.getD k ByteArray.empty)).2 ≠ 0
    · rw [if_pos h2, if_pos h2, if_neg (by decide)]
    · rw [if_neg h2, if_neg h2, hm]
      by_cases h3 : mayK (valK l 0) k (valK l (k - 1)) (valK l k) = 0
      · rw [if_pos h3, if_neg (by simpa using h3)]
      · rw [if_neg h3, if_pos h3]
  · rw [if_pos (by omega), if_neg h1, if_neg (by decide)]

/-- how many nodes, and edges: by the reader -/
def firstS (l : List ByteArray) : Int × Int × Nat × Int :=
  ((nextS l 0 0 (withinF 1 4096 2)).1, (nextS l (nextS l 0 0 (withinF 1 4096 2)).2.1 (nextS l 0 0 (withinF 1 4096 2)).2.2 (withinF 0 16384 5)).1,
   (nextS l (nextS l 0 0 (withinF 1 4096 2)).2.1 (nextS l 0 0 (withinF 1 4096 2)).2.2 (withinF 0 16384 5)).2.1, (nextS l (nextS l 0 0 (withinF 1 4096 2)).2.1 (nextS l 0 0 (withinF 1 4096 2)).2.2 (withinF 0 16384 5)).2.2)
theorem firstS_law (l : List ByteArray) : (firstS l = (valK l 0, valK l 1, 2, 0) ∧ Upto l 2) ∨ ∃ n k f, firstS l = (n, 0, k, f) ∧ f ≠ 0 ∧ Upto l k ∧ faultK l k = f ∧ k < 2 ∧ 0 ≤ n ∧ n ≤ 4096 := by
  have e0 : nextS l 0 0 (withinF 1 4096 2) = _ := nextS_go (by unfold mayK; simp)
  by_cases h0 : faultK l 0 = 0
  · rw [if_pos h0] at e0
    have e1 : nextS l 1 0 (withinF 0 16384 5) = _ := nextS_go (by unfold mayK; simp)
    have u1 := (Upto.zero l).succ h0
    by_cases h1 : faultK l 1 = 0
    · rw [if_pos h1] at e1
      refine .inl ⟨?_, u1.succ h1⟩
      unfold firstS
      simp only [e0, e1]
    · rw [if_neg h1] at e1
      have hb := u1.n (Nat.le_refl _)
      refine .inr ⟨valK l 0, 1, faultK l 1, ?_, h1, u1, rfl, by decide, by omega, by omega⟩
      unfold firstS
      simp only [e0, e1]
  · rw [if_neg h0] at e0
    have e1 : nextS l 0 (faultK l 0) (withinF 0 16384 5) = _ := nextS_stop h0
    refine .inr ⟨0, 0, faultK l 0, ?_, h0, Upto.zero l, rfl, by decide, by decide, by decide⟩
    unfold firstS
    simp only [e0, e1]

/-- an edge more, by the reader -/
def edgeS (l : List ByteArray) (n : Int) (k : Nat) (f : Int) : EdgeD × Nat × Int :=
  let s1 := nextS l k f (withinF 0 (n - 1) 7)
  let s2 := nextS l s1.2.1 s1.2.2 (fun x => if x = s1.1 then 7 else withinF 0 (n - 1) 7 x)
  let s3 := nextS l s2.2.1 s2.2.2 (withinF 1 4294967296 2)
  (⟨s1.1, s2.1, s3.1⟩, s3.2)
theorem edgeS_law {l : List ByteArray} {i : Nat} (h : Upto l (2 + 3 * i)) :
    (edgeS l (valK l 0) (2 + 3 * i) 0 = (edgeK l i, 2 + 3 * (i + 1), 0) ∧ Upto l (2 + 3 * (i + 1))) ∨
    ∃ e k f, edgeS l (valK l 0) (2 + 3 * i) 0 = (e, k, f) ∧ f ≠ 0 ∧ Upto l k ∧ faultK l k = f ∧ k < 2 + 3 * (i + 1) := by
  have hn := h.n (by omega)
  have v0 := valK_le l (2 + 3 * i)
  have v1 := valK_le l (3 + 3 * i)
  have v2 := valK_le l (4 + 3 * i)
  have e0 : nextS l (2 + 3 * i) 0 (withinF 0 (valK l 0 - 1) 7) = _ := nextS_go (by
    rw [mayK_f (by omega) (by omega)]
    unfold withinF
    by_cases c : valK l (2 + 3 * i) ≥ valK l 0
    · rw [if_pos (by omega), if_pos c]
    · rw [if_neg (by omega), if_neg c])
  unfold edgeS
  by_cases h0 : faultK l (2 + 3 * i) = 0
  · rw [if_pos h0] at e0
    have u0 := h.succ h0
    have u0' : Upto l (3 + 3 * i) := by rw [show 3 + 3 * i = 2 + 3 * i + 1 by omega]; exact u0
    have e1 : nextS l (3 + 3 * i) 0 (fun x => if x = valK l (2 + 3 * i) then 7 else withinF 0 (valK l 0 - 1) 7 x) = _ := nextS_go (by
      rw [mayK_t (by omega) (by omega), show 3 + 3 * i - 1 = 2 + 3 * i by omega]
      unfold withinF
      by_cases c : valK l (3 + 3 * i) = valK l (2 + 3 * i)
      · rw [if_pos c, if_pos (.inr c)]
      · rw [if_neg c]
        by_cases c2 : valK l (3 + 3 * i) ≥ valK l 0
        · rw [if_pos (by omega), if_pos (.inl c2)]
        · rw [if_neg (by omega), if_neg (by omega)])
    rw [show 3 + 3 * i = 2 + 3 * i + 1 by omega] at e1
    by_cases h1 : faultK l (3 + 3 * i) = 0
    · rw [show 3 + 3 * i = 2 + 3 * i + 1 by omega] at h1
      rw [if_pos h1] at e1
      have u1 := u0.succ h1
      have e2 : nextS l (2 + 3 * i + 1 + 1) 0 (withinF 1 4294967296 2) = _ := nextS_go (by
        rw [mayK_w (by omega) (by omega)])
      by_cases h2 : faultK l (2 + 3 * i + 1 + 1) = 0
      · rw [if_pos h2] at e2
        refine .inl ⟨?_, by rw [show 2 + 3 * (i + 1) = 2 + 3 * i + 1 + 1 + 1 by omega]; exact u1.succ h2⟩
        simp only [e0, e1, e2]
        unfold edgeK
        rw [show 3 + 3 * i = 2 + 3 * i + 1 by omega, show 4 + 3 * i = 2 + 3 * i + 1 + 1 by omega]
        simp only [Prod.mk.injEq, true_and, and_true]
        omega
      · rw [if_neg h2] at e2
        refine .inr ⟨⟨valK l (2 + 3 * i), valK l (2 + 3 * i + 1), 0⟩, 2 + 3 * i + 1 + 1, faultK l (2 + 3 * i + 1 + 1), ?_, h2, u1, rfl, by omega⟩
        simp only [e0, e1, e2]
    · rw [show 3 + 3 * i = 2 + 3 * i + 1 by omega] at h1
      rw [if_neg h1] at e1
      have e2 : nextS l (2 + 3 * i + 1) (faultK l (2 + 3 * i + 1)) (withinF 1 4294967296 2) = _ := nextS_stop h1
      refine .inr ⟨⟨valK l (2 + 3 * i), 0, 0⟩, 2 + 3 * i + 1, faultK l (2 + 3 * i + 1), ?_, h1, u0, rfl, by omega⟩
      simp only [e0, e1, e2]
  · rw [if_neg h0] at e0
    have e1 : nextS l (2 + 3 * i) (faultK l (2 + 3 * i)) (fun x => if x = 0 then 7 else withinF 0 (valK l 0 - 1) 7 x) = _ := nextS_stop h0
    have e2 : nextS l (2 + 3 * i) (faultK l (2 + 3 * i)) (withinF 1 4294967296 2) = _ := nextS_stop h0
    refine .inr ⟨⟨0, 0, 0⟩, 2 + 3 * i, faultK l (2 + 3 * i), ?_, h0, h, rfl, by omega⟩
    simp only [e0, e1, e2]

end Go.Proofs.YtelcmkccfjdmjaaGreatDoor

namespace Go.Proofs.YtelcmkccfjdmjaaGreatDoor
open Go.Proofs Go.RowKit Go.Shelf

def edZ : EdgeD := ⟨0, 0, 0⟩
/-- the edges so far -/
def partEs (l : List ByteArray) (k : Nat) : List EdgeD :=
  fullEs l ((k - 2) / 3) ++ (if (k - 2) % 3 = 1 then [⟨valK l (k - 1), 0, 0⟩] else if (k - 2) % 3 = 2 then [⟨valK l (k - 2), valK l (k - 1), 0⟩] else [])
def partN (l : List ByteArray) (k : Nat) : Int := if k = 0 then 0 else valK l 0
/-- the k-th number, into the edges -/
def takeEs (k : Nat) (n : Int) (es : List EdgeD) : List EdgeD :=
  if k < 2 then es else if (k - 2) % 3 = 0 then es ++ [⟨n, 0, 0⟩]
  else if (k - 2) % 3 = 1 then es.set (es.length - 1) ⟨(es.getD (es.length - 1) edZ).f, n, (es.getD (es.length - 1) edZ).w⟩
  else es.set (es.length - 1) ⟨(es.getD (es.length - 1) edZ).f, (es.getD (es.length - 1) edZ).t, n⟩
def takeN (k : Nat) (n gn : Int) : Int := if k = 0 then n else gn
/-- from where the last edge goes -/
def lastF (es : List EdgeD) : Int := if es = [] then -1 else (es.getD (es.length - 1) edZ).f

theorem fullEs_zero (l : List ByteArray) : fullEs l 0 = [] := rfl
theorem partEs_two (l : List ByteArray) (i : Nat) : partEs l (2 + 3 * i) = fullEs l i := by
  unfold partEs
  rw [show (2 + 3 * i - 2) / 3 = i by omega, show (2 + 3 * i - 2) % 3 = 0 by omega]
  simp
theorem partEs_three (l : List ByteArray) (i : Nat) : partEs l (3 + 3 * i) = fullEs l i ++ [⟨valK l (2 + 3 * i), 0, 0⟩] := by
  unfold partEs
  rw [show (3 + 3 * i - 2) / 3 = i by omega, show (3 + 3 * i - 2) % 3 = 1 by omega, show 3 + 3 * i - 1 = 2 + 3 * i by omega]
  simp
theorem partEs_four (l : List ByteArray) (i : Nat) : partEs l (4 + 3 * i) = fullEs l i ++ [⟨valK l (2 + 3 * i), valK l (3 + 3 * i), 0⟩] := by
  unfold partEs
  rw [show (4 + 3 * i - 2) / 3 = i by omega, show (4 + 3 * i - 2) % 3 = 2 by omega, show 4 + 3 * i - 1 = 3 + 3 * i by omega, show 4 + 3 * i - 2 = 2 + 3 * i by omega]
  simp
theorem snoc_set {α : Type} (es : List α) (x y : α) : (es ++ [x]).set ((es ++ [x]).length - 1) y = es ++ [y] := by
  rw [List.length_append]
  simp
theorem snoc_getD {α : Type} (es : List α) (x d : α) : (es ++ [x]).getD ((es ++ [x]).length - 1) d = x := by
  rw [List.length_append]
  simp [List.getD]
theorem k_cases (k : Nat) (h : 2 ≤ k) : ∃ i, k = 2 + 3 * i ∨ k = 3 + 3 * i ∨ k = 4 + 3 * i := ⟨(k - 2) / 3, by omega⟩

theorem partEs_step (l : List ByteArray) (k : Nat) : partEs l (k + 1) = takeEs k (valK l k) (partEs l k) := by
  by_cases h : k < 2
  · have e : partEs l (k + 1) = partEs l k := by
      unfold partEs
      rw [show k + 1 - 2 = 0 by omega, show k - 2 = 0 by omega]
      simp
    rw [e]
    unfold takeEs
    rw [if_pos h]
  · obtain ⟨i, rfl | rfl | rfl⟩ := k_cases k (by omega)
    · rw [show 2 + 3 * i + 1 = 3 + 3 * i by omega, partEs_three, partEs_two]
      unfold takeEs
      rw [if_neg h, if_pos (by omega)]
    · rw [show 3 + 3 * i + 1 = 4 + 3 * i by omega, partEs_four, partEs_three]
      unfold takeEs
      rw [if_neg h, if_neg (by omega), if_pos (by omega), snoc_set, snoc_getD]
    · rw [show 4 + 3 * i + 1 = 2 + 3 * (i + 1) by omega, partEs_two, partEs_four, fullEs_succ]
      unfold takeEs
      rw [if_neg h, if_neg (by omega), if_neg (by omega), snoc_set, snoc_getD]
      rfl
theorem partN_step (l : List ByteArray) (k : Nat) : partN l (k + 1) = takeN k (valK l k) (partN l k) := by
  unfold partN takeN
  by_cases h : k = 0
  · subst h; rfl
  · rw [if_neg (by omega), if_neg h, if_neg h]
theorem partEs_ne (l : List ByteArray) (k : Nat) (h : 2 ≤ k) (h3 : (k - 2) % 3 ≠ 0) : partEs l k ≠ [] := by
  obtain ⟨i, rfl | rfl | rfl⟩ := k_cases k h
  · omega
  · rw [partEs_three]; simp
  · rw [partEs_four]; simp
theorem lastF_one (l : List ByteArray) (k : Nat) (h : 2 ≤ k) (h3 : (k - 2) % 3 = 1) : lastF (partEs l k) = valK l (k - 1) := by
  obtain ⟨i, rfl | rfl | rfl⟩ := k_cases k h
  · omega
  · rw [partEs_three]
    unfold lastF
    rw [if_neg (by simp), snoc_getD, show 3 + 3 * i - 1 = 2 + 3 * i by omega]
  · omega
/-- why the k-th number may not be n, by the graph so far -/
theorem mayK_part (l : List ByteArray) (k : Nat) (n : Int) : mayK (partN l k) k (lastF (partEs l k)) n = mayK (valK l 0) k (valK l (k - 1)) n := by
  by_cases h : k < 2
  · have : k = 0 ∨ k = 1 := by omega
    rcases this with rfl | rfl <;> (unfold mayK; simp)
  · have hp : partN l k = valK l 0 := by unfold partN; rw [if_neg (by omega)]
    rw [hp]
    by_cases h3 : (k - 2) % 3 = 1
    · rw [lastF_one l k (by omega) h3]
    · unfold mayK
      simp [h3]
theorem faultK_in {l : List ByteArray} {k : Nat} (h : k < l.length) : faultK l k = if (parseI l[k]).2 ≠ 0 then 3 else mayK (partN l k) k (lastF (partEs l k)) (parseI l[k]).1 := by
  have hg : l.getD k ByteArray.empty = l[k] := by rw [List.getD_eq_getElem?_getD, List.getElem?_eq_getElem h]; rfl
  unfold faultK
  rw [if_pos h, hg, mayK_part]
  unfold valK
  rw [hg]
theorem partN_bd {l : List ByteArray} {k : Nat} (h : Upto l k) : 0 ≤ partN l k ∧ partN l k ≤ 4096 := by
  unfold partN
  by_cases hk : k = 0
  · rw [if_pos hk]; exact ⟨by decide, by decide⟩
  · rw [if_neg hk]
    have := h.n (by omega)
    omega
theorem partEs_len {l : List ByteArray} {k : Nat} : (partEs l k).length ≤ k := by
  by_cases h : k < 2
  · unfold partEs
    rw [show k - 2 = 0 by omega]
    simp [fullEs]
  · obtain ⟨i, rfl | rfl | rfl⟩ := k_cases k (by omega)
    · rw [partEs_two, fullEs_length]; omega
    · rw [partEs_three, List.length_append, fullEs_length]; simp; omega
    · rw [partEs_four, List.length_append, fullEs_length]; simp; omega
/-- where edges may go from -/
theorem lastF_bd {l : List ByteArray} {k : Nat} (h : Upto l k) : -1 ≤ lastF (partEs l k) ∧ lastF (partEs l k) ≤ 4096 := by
  unfold lastF
  by_cases hk : k < 2
  · have e : partEs l k = [] := by
      unfold partEs
      rw [show k - 2 = 0 by omega]
      simp [fullEs]
    rw [if_pos e]
    exact ⟨by decide, by decide⟩
  · have key : ∀ j, 2 + 3 * j < k → 0 ≤ valK l (2 + 3 * j) ∧ valK l (2 + 3 * j) ≤ 4096 := by
      intro j hj
      have h1 := (faultK_parse (h _ hj)).2
      rw [mayK_f (by omega) (by omega)] at h1
      have h2 := h.n (by omega)
      have h3 := valK_le l (2 + 3 * j)
      split at h1
      · cases h1
      · omega
    obtain ⟨i, rfl | rfl | rfl⟩ := k_cases k (by omega)
    · rw [partEs_two]
      by_cases hi : i = 0
      · subst hi
        rw [if_pos (fullEs_zero l)]
        exact ⟨by decide, by decide⟩
      · obtain ⟨j, rfl⟩ : ∃ j, i = j + 1 := ⟨i - 1, by omega⟩
        rw [fullEs_succ, if_neg (by simp), snoc_getD]
        have := key j (by omega)
        show -1 ≤ valK l (2 + 3 * j) ∧ valK l (2 + 3 * j) ≤ 4096
        omega
    · rw [partEs_three, if_neg (by simp), snoc_getD]
      have := key i (by omega)
      show -1 ≤ valK l (2 + 3 * i) ∧ valK l (2 + 3 * i) ≤ 4096
      omega
    · rw [partEs_four, if_neg (by simp), snoc_getD]
      have := key i (by omega)
      show -1 ≤ valK l (2 + 3 * i) ∧ valK l (2 + 3 * i) ≤ 4096
      omega

/-- how many words are wanted, as far as is known -/
def needK (l : List ByteArray) (k : Nat) : Int := if k < 2 then 2 else 2 + 3 * valK l 1
theorem needK_step (l : List ByteArray) (k : Nat) : needK l (k + 1) = if k = 1 then 2 + 3 * valK l k else needK l k := by
  unfold needK
  by_cases h : k = 1
  · subst h; rfl
  · rw [if_neg h]
    by_cases h2 : k < 2
    · rw [if_pos (by omega), if_pos h2]
    · rw [if_neg (by omega), if_neg h2]
theorem needK_bd {l : List ByteArray} {k : Nat} (h : Upto l k) : 2 ≤ needK l k ∧ needK l k ≤ 49154 := by
  unfold needK
  by_cases h2 : k < 2
  · rw [if_pos h2]; exact ⟨by decide, by decide⟩
  · rw [if_neg h2]
    have := h.m (by omega)
    omega
theorem needK_p {l : List ByteArray} {k : Nat} (h : Upto l k) (hk : 2 ≤ k) : needK l k = (needP l : Int) := by
  have := h.m hk
  rw [needP_of (h.le hk)]
  unfold needK
  rw [if_neg (by omega)]
  omega
/-- how the reference ends -/
theorem part_bad {l : List ByteArray} {k : Nat} (h : Upto l k) (hk : (k : Int) < needK l k) (hf : faultK l k ≠ 0) : parseG l = (⟨0, []⟩, (k : Int), faultK l k) := by
  refine parseG_bad h ?_ hf
  by_cases h2 : k < 2
  · have := needP_two l; omega
  · have := needK_p h (by omega); omega
theorem Upto.len' {l : List ByteArray} {k : Nat} (h : Upto l k) : k ≤ l.length := by
  rcases Nat.eq_zero_or_pos k with h0 | h0
  · omega
  · have := faultK_lt (h (k - 1) (by omega))
    omega
theorem part_short {l : List ByteArray} {k : Nat} (h : Upto l k) (hk : (k : Int) < needK l k) (hl : l.length ≤ k) : parseG l = (⟨0, []⟩, (l.length : Int), 3) := by
  have e : k = l.length := by have := h.len'; omega
  have hf : faultK l k = 3 := by unfold faultK; rw [if_neg (by omega)]
  rw [part_bad h hk (by rw [hf]; decide), hf, e]
theorem part_end {l : List ByteArray} {k : Nat} (h : Upto l k) (hk : ¬ (k : Int) < needK l k) (hk2 : (k : Int) ≤ needK l k) : k = needP l ∧ 2 ≤ k := by
  have h2 : 2 ≤ k := by have := needK_bd h; omega
  have := needK_p h h2
  omega
theorem part_long {l : List ByteArray} {k : Nat} (h : Upto l k) (hk : ¬ (k : Int) < needK l k) (hk2 : (k : Int) ≤ needK l k) (hl : needK l k < l.length) : parseG l = (⟨0, []⟩, needK l k, 3) := by
  obtain ⟨e, h2⟩ := part_end h hk hk2
  have e2 := needK_p h h2
  rw [e] at h
  rw [e2, parseG_long h (by omega)]
theorem part_ok {l : List ByteArray} {k : Nat} (h : Upto l k) (hk : ¬ (k : Int) < needK l k) (hk2 : (k : Int) ≤ needK l k) (hl : ¬ needK l k < l.length) : parseG l = (⟨partN l k, partEs l k⟩, 0, 0) := by
  obtain ⟨e, h2⟩ := part_end h hk hk2
  have e2 := needK_p h h2
  have e3 : k = 2 + 3 * (valK l 1).toNat := by rw [e]; exact needP_of (h.le h2)
  have hu := h
  rw [e] at hu
  rw [parseG_ok hu (by omega)]
  have e4 : partEs l k = fullEs l (valK l 1).toNat := by rw [e3]; exact partEs_two l _
  rw [e4]
  unfold partN
  rw [if_neg (by omega)]
theorem needK_next {l : List ByteArray} {k : Nat} (h : Upto l (k + 1)) (hk : (k : Int) < needK l k) : ((k + 1 : Nat) : Int) ≤ needK l (k + 1) := by
  rw [needK_step]
  split
  · rename_i e
    subst e
    have := h.m (Nat.le_refl _)
    omega
  · omega

end Go.Proofs.YtelcmkccfjdmjaaGreatDoor
