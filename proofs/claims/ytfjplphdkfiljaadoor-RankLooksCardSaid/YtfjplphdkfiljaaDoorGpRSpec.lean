/-
  Package gtext: the graph of some words, as its reference goes through them, in plain Lean.
-/
import Derived.Test.YtfjplphdkfiljaaDoorGpSpec
namespace Go.Proofs.YtfjplphdkfiljaaDoor
open Go.Proofs Go.RowKit Go.Shelf

def edZ : EdgeD := ⟨0, 0, 0⟩
/-- the edges so far -/
def partEs (l : List ByteArray) (k : Nat) : List EdgeD :=
  fullEs l ((k - 2) / 3) ++ (if (k - 2) % 3 = 1 then [⟨valK l (k - 1), 0, 0⟩] else if (k - 2) % 3 = 2 then [⟨valK l (k - 2), valK l (k - 1), 0⟩] else [])
def partN (l : List ByteArray) (k : Nat) : Int := if k = 0 then 0 else valK l 0
/-- the k-th number, into the edges -/
def takeEs (k : Nat) (n : Int) (es : List EdgeD) : List EdgeD :=
  if k < 2 then es else if (k - 2) % 3 = 0 then es ++ [⟨n, 0, 0⟩]
  else if (k - 2) % 3 = 1 then es.set (es.length - 1) ⟨(es.getD (es.length - 1) edZ).f, n, (es.getD (es.length - 1) edZ).w⟩
  else es.set (es.length - 1) ⟨(es.getD (es.length - 1) edZ).f, (es.getD (es.length - 1) edZ).t, n⟩
def takeN (k : Nat) (n gn : Int) : Int := if k = 0 then n else gn
/-- from where the last edge goes -/
def lastF (es : List EdgeD) : Int := if es = [] then -1 else (es.getD (es.length - 1) edZ).f

theorem fullEs_zero (l : List ByteArray) : fullEs l 0 = [] := rfl
theorem partEs_two (l : List ByteArray) (i : Nat) : partEs l (2 + 3 * i) = fullEs l i := by
  unfold partEs
  rw [show (2 + 3 * i - 2) / 3 = i by omega, show (2 + 3 * i - 2) % 3 = 0 by omega]
  simp
theorem partEs_three (l : List ByteArray) (i : Nat) : partEs l (3 + 3 * i) = fullEs l i ++ [⟨valK l (2 + 3 * i), 0, 0⟩] := by
  unfold partEs
  rw [show (3 + 3 * i - 2) / 3 = i by omega, show (3 + 3 * i - 2) % 3 = 1 by omega, show 3 + 3 * i - 1 = 2 + 3 * i by omega]
  simp
theorem partEs_four (l : List ByteArray) (i : Nat) : partEs l (4 + 3 * i) = fullEs l i ++ [⟨valK l (2 + 3 * i), valK l (3 + 3 * i), 0⟩] := by
  unfold partEs
  rw [show (4 + 3 * i - 2) / 3 = i by omega, show (4 + 3 * i - 2) % 3 = 2 by omega, show 4 + 3 * i - 1 = 3 + 3 * i by omega, show 4 + 3 * i - 2 = 2 + 3 * i by omega]
  simp
theorem snoc_set {α : Type} (es : List α) (x y : α) : (es ++ [x]).set ((es ++ [x]).length - 1) y = es ++ [y] := by
  rw [List.length_append]
  simp
theorem snoc_getD {α : Type} (es : List α) (x d : α) : (es ++ [x]).getD ((es ++ [x]).length - 1) d = x := by
  rw [List.length_append]
  simp [List.getD]
theorem k_cases (k : Nat) (h : 2 ≤ k) : ∃ i, k = 2 + 3 * i ∨ k = 3 + 3 * i ∨ k = 4 + 3 * i := ⟨(k - 2) / 3, by omega⟩

theorem partEs_step (l : List ByteArray) (k : Nat) : partEs l (k + 1) = takeEs k (valK l k) (partEs l k) := by
  by_cases h : k < 2
  · have e : partEs l (k + 1) = partEs l k := by
      unfold partEs
      rw [show k + 1 - 2 = 0 by omega, show k - 2 = 0 by omega]
      simp
    rw [e]
    unfold takeEs
    rw [if_pos h]
  · obtain ⟨i, rfl | rfl | rfl⟩ := k_cases k (by omega)
    · rw [show 2 + 3 * i + 1 = 3 + 3 * i by omega, partEs_three, partEs_two]
      unfold takeEs
      rw [if_neg h, if_pos (by omega)]
    · rw [show 3 + 3 * i + 1 = 4 + 3 * i by omega, partEs_four, partEs_three]
      unfold takeEs
      rw [if_neg h, if_neg (by omega), if_pos (by omega), snoc_set, snoc_getD]
    · rw [show 4 + 3 * i + 1 = 2 + 3 * (i + 1) by omega, partEs_two, partEs_four, fullEs_succ]
      unfold takeEs
      rw [if_neg h, if_neg (by omega), if_neg (by omega), snoc_set, snoc_getD]
      rfl
theorem partN_step (l : List ByteArray) (k : Nat) : partN l (k + 1) = takeN k (valK l k) (partN l k) := by
  unfold partN takeN
  by_cases h : k = 0
  · subst h; rfl
  · rw [if_neg (by omega), if_neg h, if_neg h]
theorem partEs_ne (l : List ByteArray) (k : Nat) (h : 2 ≤ k) (h3 : (k - 2) % 3 ≠ 0) : partEs l k ≠ [] := by
  obtain ⟨i, rfl | rfl | rfl⟩ := k_cases k h
  · omega
  · rw [partEs_three]; simp
  · rw [partEs_four]; simp
theorem lastF_one (l : List ByteArray) (k : Nat) (h : 2 ≤ k) (h3 : (k - 2) % 3 = 1) : lastF (partEs l k) = valK l (k - 1) := by
  obtain ⟨i, rfl | rfl | rfl⟩ := k_cases k h
  · omega
  · rw [partEs_three]
    unfold lastF
    rw [if_neg (by simp), snoc_getD, show 3 + 3 * i - 1 = 2 + 3 * i by omega]
  · omega
/-- why the k-th number may not be n, by the graph so far -/
theorem mayK_part (l : List ByteArray) (k : Nat) (n : Int) : mayK (partN l k) k (lastF (partEs l k)) n = mayK (valK l 0) k (valK l (k - 1)) n := by
  by_cases h : k < 2
  · have : k = 0 ∨ k = 1 := by omega
    rcases this with rfl | rfl <;> (unfold mayK; simp)
  · have hp : partN l k = valK l 0 := by unfold partN; rw [if_neg (by omega)]
    rw [hp]
    by_cases h3 : (k - 2) % 3 = 1
    · rw [lastF_one l k (by omega) h3]
    · unfold mayK
      simp [h3]
theorem faultK_in {l : List ByteArray} {k : Nat} (h : k < l.length) : faultK l k = if (parseI l[k]).2 ≠ 0 then 3 else mayK (partN l k) k (lastF (partEs l k)) (parseI l[k]).1 := by
  have hg : l.getD k ByteArray.empty = l[k] := by rw [List.getD_eq_getElem?_getD, List.getElem?_eq_getElem h]; rfl
  unfold faultK
  rw [if_pos h, hg, mayK_part]
  unfold valK
  rw [hg]
theorem partN_bd {l : List ByteArray} {k : Nat} (h : Upto l k) : 0 ≤ partN l k ∧ partN l k ≤ 4096 := by
  unfold partN
  by_cases hk : k = 0
  · rw [if_pos hk]; exact ⟨by decide, by decide⟩
  · rw [if_neg hk]
    have := h.n (by omega)
    omega
theorem partEs_len {l : List ByteArray} {k : Nat} : (partEs l k).length ≤ k := by
  by_cases h : k < 2
  · unfold partEs
    rw [show k - 2 = 0 by omega]
    simp [fullEs]
  · obtain ⟨i, rfl | rfl | rfl⟩ := k_cases k (by omega)
    · rw [partEs_two, fullEs_length]; omega
    · rw [partEs_three, List.length_append, fullEs_length]; simp; omega
    · rw [partEs_four, List.length_append, fullEs_length]; simp; omega
/-- where edges may go from -/
theorem lastF_bd {l : List ByteArray} {k : Nat} (h : Upto l k) : -1 ≤ lastF (partEs l k) ∧ lastF (partEs l k) ≤ 4096 := by
  unfold lastF
  by_cases hk : k < 2
  · have e : partEs l k = [] := by
      unfold partEs
      rw [show k - 2 = 0 by omega]
      simp [fullEs]
    rw [if_pos e]
    exact ⟨by decide, by decide⟩
  · have key : ∀ j, 2 + 3 * j < k → 0 ≤ valK l (2 + 3 * j) ∧ valK l (2 + 3 * j) ≤ 4096 := by
      intro j hj
      have h1 := (faultK_parse (h _ hj)).2
      rw [mayK_f (by omega) (by omega)] at h1
      have h2 := h.n (by omega)
      have h3 := valK_le l (2 + 3 * j)
      split at h1
      · cases h1
      · omega
    obtain ⟨i, rfl | rfl | rfl⟩ := k_cases k (by omega)
    · rw [partEs_two]
      by_cases hi : i = 0
      · subst hi
        rw [if_pos (fullEs_zero l)]
        exact ⟨by decide, by decide⟩
      · obtain ⟨j, rfl⟩ : ∃ j, i = j + 1 := ⟨i - 1, by omega⟩
        rw [fullEs_succ, if_neg (by simp), snoc_getD]
        have := key j (by omega)
        show -1 ≤ valK l (2 + 3 * j) ∧ valK l (2 + 3 * j) ≤ 4096
        omega
    · rw [partEs_three, if_neg (by simp), snoc_getD]
      have := key i (by omega)
      show -1 ≤ valK l (2 + 3 * i) ∧ valK l (2 + 3 * i) ≤ 4096
      omega
    · rw [partEs_four, if_neg (by simp), snoc_getD]
      have := key i (by omega)
      show -1 ≤ valK l (2 + 3 * i) ∧ valK l (2 + 3 * i) ≤ 4096
      omega

/-- how many words are wanted, as far as is known -/
def needK (l : List ByteArray) (k : Nat) : Int := if k < 2 then 2 else 2 + 3 * valK l 1
theorem needK_step (l : List ByteArray) (k : Nat) : needK l (k + 1) = if k = 1 then 2 + 3 * valK l k else needK l k := by
  unfold needK
  by_cases h : k = 1
  · subst h; rfl
  · rw [if_neg h]
    by_cases h2 : k < 2
    · rw [if_pos (by omega), if_pos h2]
    · rw [if_neg (by omega), if_neg h2]
theorem needK_bd {l : List ByteArray} {k : Nat} (h : Upto l k) : 2 ≤ needK l k ∧ needK l k ≤ 49154 := by
  unfold needK
  by_cases h2 : k < 2
  · rw [if_pos h2]; exact ⟨by decide, by decide⟩
  · rw [if_neg h2]
    have := h.m (by omega)
    omega
theorem needK_p {l : List ByteArray} {k : Nat} (h : Upto l k) (hk : 2 ≤ k) : needK l k = (needP l : Int) := by
  have := h.m hk
  rw [needP_of (h.le hk)]
  unfold needK
  rw [if_neg (by omega)]
  omega
/-- how the reference ends -/
theorem part_bad {l : List ByteArray} {k : Nat} (h : Upto l k) (hk : (k : Int) < needK l k) (hf : faultK l k ≠ 0) : parseG l = (⟨0, []⟩, (k : Int), faultK l k) := by
  refine parseG_bad h ?_ hf
  by_cases h2 : k < 2
  · have := needP_two l; omega
  · have := needK_p h (by omega); omega
theorem Upto.len' {l : List ByteArray} {k : Nat} (h : Upto l k) : k ≤ l.length := by
  rcases Nat.eq_zero_or_pos k with h0 | h0
  · omega
  · have := faultK_lt (h (k - 1) (by omega))
    omega
theorem part_short {l : List ByteArray} {k : Nat} (h : Upto l k) (hk : (k : Int) < needK l k) (hl : l.length ≤ k) : parseG l = (⟨0, []⟩, (l.length : Int), 3) := by
  have e : k = l.length := by have := h.len'; omega
  have hf : faultK l k = 3 := by unfold faultK; rw [if_neg (by omega)]
  rw [part_bad h hk (by rw [hf]; decide), hf, e]
theorem part_end {l : List ByteArray} {k : Nat} (h : Upto l k) (hk : ¬ (k : Int) < needK l k) (hk2 : (k : Int) ≤ needK l k) : k = needP l ∧ 2 ≤ k := by
  have h2 : 2 ≤ k := by have := needK_bd h; omega
  have := needK_p h h2
  omega
theorem part_long {l : List ByteArray} {k : Nat} (h : Upto l k) (hk : ¬ (k : Int) < needK l k) (hk2 : (k : Int) ≤ needK l k) (hl : needK l k < l.length) : parseG l = (⟨0, []⟩, needK l k, 3) := by
  obtain ⟨e, h2⟩ := part_end h hk hk2
  have e2 := needK_p h h2
  rw [e] at h
  rw [e2, parseG_long h (by omega)]
theorem part_ok {l : List ByteArray} {k : Nat} (h : Upto l k) (hk : ¬ (k : Int) < needK l k) (hk2 : (k : Int) ≤ needK l k) (hl : ¬ needK l k < l.length) : parseG l = (⟨partN l k, partEs l k⟩, 0, 0) := by
  obtain ⟨e, h2⟩ := part_end h hk hk2
  have e2 := needK_p h h2
  have e3 : k = 2 + 3 * (valK l 1).toNat := by rw [e]; exact needP_of (h.le h2)
  have hu := h
  rw [e] at hu
  rw [parseG_ok hu (by omega)]
  have e4 : partEs l k = fullEs l (valK l 1).toNat := by rw [e3]; exact partEs_two l _
  rw [e4]
  unfold partN
  rw [if_neg (by omega)]
theorem needK_next {l : List ByteArray} {k : Nat} (h : Upto l (k + 1)) (hk : (k : Int) < needK l k) : ((k + 1 : Nat) : Int) ≤ needK l (k + 1) := by
  rw [needK_step]
  split
  · rename_i e
    subst e
    have := h.m (Nat.le_refl _)
    omega
  · omega

end Go.Proofs.YtfjplphdkfiljaaDoor
