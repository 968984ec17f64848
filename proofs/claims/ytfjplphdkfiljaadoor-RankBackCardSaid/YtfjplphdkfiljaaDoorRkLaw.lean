/-
  Ranks, in plain Lean: an inverse is a rank, whose inverse is the rank; what is thrown, and what is of keys, is a rank; a rank's text is read as it was.
-/
import Derived.Test.YtfjplphdkfiljaaDoorRkC
import Derived.Test.YtfjplphdkfiljaaDoorShufA
import Derived.Test.YtfjplphdkfiljaaDoorSortSpec
namespace Go.Proofs.YtfjplphdkfiljaaDoor
open Go.Proofs Go.RowKit Go.Shelf

theorem rankB_iff {l : List Int} : rankB l = true ↔ okPre l l.length := ⟨rankB_nodup, rankB_ok⟩
theorem perm_rank {l : List Int} {n : Nat} (hp : l.Perm (rngI n)) : rankB l = true := rankB_ok (perm_okPre hp)
theorem invL_length {l : List Int} (h : rankB l = true) : (invL l).length = l.length := by unfold invL; rw [if_pos h, invK_length]
theorem getD_in {l : List Int} {p : Nat} (hp : p < l.length) : l.getD p 0 = l[p] := by simp [List.getD, hp]
/-- what stands in the inverse -/
theorem invL_at {l : List Int} (h : rankB l = true) {p : Nat} (hp : p < l.length) : (invL l)[(l[p]).toNat]? = some (p : Int) := by
  have := invK_get (rankB_nodup h) l.length p (Nat.le_refl _) hp
  rw [getD_in hp] at this
  unfold invL
  rw [if_pos h]
  exact this
/-- each number has its place -/
theorem rank_place {l : List Int} (h : rankB l = true) {i : Nat} (hi : i < l.length) : ∃ p, ∃ hp : p < l.length, l[p] = (i : Int) := by
  have := rankB_sub h (i : Int) (mem_rngI.2 ⟨by omega, by omega⟩)
  obtain ⟨p, hp, e⟩ := List.mem_iff_getElem.1 this
  exact ⟨p, hp, e⟩
theorem invL_rank {l : List Int} (h : rankB l = true) : rankB (invL l) = true := by
  refine rankB_true fun x hx => ?_
  rw [invL_length h] at hx
  obtain ⟨h0, h1⟩ := mem_rngI.1 hx
  have hp : x.toNat < l.length := by omega
  have := List.mem_of_getElem? (invL_at h hp)
  rwa [Int.toNat_of_nonneg h0] at this
theorem invL_invL {l : List Int} (h : rankB l = true) : invL (invL l) = l := by
  have h2 := invL_rank h
  have hl := invL_length h
  apply List.ext_getElem?
  intro p
  by_cases hp : p < l.length
  · have hin := rankB_in h l[p] (List.getElem_mem hp)
    have h3 := invL_at h hp
    have hv : (l[p]).toNat < (invL l).length := by omega
    have h4 := invL_at h2 hv
    have e : (invL l)[(l[p]).toNat] = (p : Int) := Option.some.inj ((List.getElem?_eq_getElem hv).symm.trans h3)
    rw [e, Int.toNat_natCast] at h4
    rw [h4, List.getElem?_eq_getElem hp, Int.toNat_of_nonneg hin.1]
  · rw [List.getElem?_eq_none (by rw [invL_length h2]; omega), List.getElem?_eq_none (by omega)]

theorem shufK_perm : ∀ (i : Nat) (s : Int) (l : List Int), i < l.length ∨ i = 0 → 0 ≤ s → (shufK i s l).Perm l
  | 0, _, _, _, _ => List.Perm.refl _
  | i + 1, s, l, h, hs => by
    have hb := nxS_b s
    have hk := (kxS_eq hb.1 (i + 1)).2
    rw [shufK]
    have h1 := swapL_perm (l := l) (i := i + 1) (j := kxS (nxS s) (i + 1)) (by omega) (by omega)
    exact (shufK_perm i _ _ (by rw [swapL_length]; omega) hb.1).trans h1
theorem shufL_rank (n s : Int) (hs : 0 ≤ s) : rankB (shufL n s) = true := by
  have hp : (shufL n s).Perm (plainL n) := by
    unfold shufL
    refine shufK_perm _ _ _ ?_ hs
    omega
  unfold plainL at hp
  split at hp
  · have := hp.eq_nil
    rw [this]
    rfl
  · exact perm_rank hp
theorem shufL_length {n : Int} (s : Int) (h : n ≤ 200) : ((shufL n s).length : Int) = max n 0 := by
  unfold shufL
  rw [shufK_length, plainL_of (by omega), rngI_length]
  omega

theorem aheadB_iff {keys : List Int} {k i : Nat} : aheadB keys k i = true ↔ keys.getD k 0 < keys.getD i 0 ∨ (keys.getD k 0 = keys.getD i 0 ∧ k < i) := by
  unfold aheadB
  simp only [Bool.or_eq_true, Bool.and_eq_true, decide_eq_true_eq]
theorem byL_get {keys : List Int} {i : Nat} (hi : i < keys.length) : (byL keys)[i]? = some (((List.range keys.length).countP fun k => aheadB keys k i : Nat) : Int) := by
  unfold byL
  rw [List.getElem?_map, List.getElem?_range hi]
  rfl
theorem countP_less {α : Type} {p q : α → Bool} : ∀ (l : List α), (∀ x ∈ l, p x = true → q x = true) → (∃ x ∈ l, q x = true ∧ p x = false) → l.countP p < l.countP q
  | [], _, ⟨x, hx, _⟩ => by cases hx
  | a :: r, h, ⟨x, hx, h1, h2⟩ => by
    have hle := List.countP_mono_left (l := r) (p := p) (q := q) (fun y hy => h y (by simp [hy]))
    rw [List.countP_cons, List.countP_cons]
    rcases List.mem_cons.1 hx with rfl | hx
    · rw [h1, h2]
      simp
      omega
    · have ih := countP_less r (fun y hy => h y (by simp [hy])) ⟨x, hx, h1, h2⟩
      have ha := h a (by simp)
      by_cases hp : p a = true
      · rw [hp, ha hp]; simp; omega
      · rw [if_neg hp]
        omega
theorem byL_less {keys : List Int} {i j : Nat} (hi : i < keys.length) (_hj : j < keys.length) (h : aheadB keys i j = true) :
    (List.range keys.length).countP (fun k => aheadB keys k i) < (List.range keys.length).countP (fun k => aheadB keys k j) := by
  refine countP_less _ (fun x _ hx => ?_) ⟨i, List.mem_range.2 hi, h, ?_⟩
  · rw [aheadB_iff] at hx h ⊢
    omega
  · cases e : aheadB keys i i with
    | false => rfl
    | true => rw [aheadB_iff] at e; omega
theorem byL_order {keys : List Int} {k i : Nat} (hki : k < i) (hi : i < keys.length) (x y : Int) (hx : (byL keys)[k]? = some x) (hy : (byL keys)[i]? = some y) : x < y ↔ keys.getD k 0 ≤ keys.getD i 0 := by
  rw [byL_get (by omega)] at hx
  rw [byL_get hi] at hy
  cases hx
  cases hy
  constructor
  · intro h
    by_cases c : keys.getD k 0 ≤ keys.getD i 0
    · exact c
    · have := byL_less hi (by omega : k < keys.length) (aheadB_iff.2 (.inl (by omega)))
      omega
  · intro h
    have := byL_less (by omega : k < keys.length) hi (aheadB_iff.2 (by omega))
    omega
theorem byL_rank (keys : List Int) : rankB (byL keys) = true := by
  refine rankB_ok fun i hi _ => ?_
  have hik : i < keys.length := by rwa [byL_length] at hi
  have e := byL_get hik
  rw [List.getElem?_eq_getElem hi] at e
  have e2 := Option.some.inj e
  refine ⟨by rw [e2]; omega, ?_, fun j hj he => ?_⟩
  · rw [e2, byL_length]
    have h1 : (List.range keys.length).countP (fun k => aheadB keys k i) < (List.range keys.length).countP (fun _ => true) := by
      refine countP_less _ (fun _ _ _ => rfl) ⟨i, List.mem_range.2 hik, rfl, ?_⟩
      cases e : aheadB keys i i with
      | false => rfl
      | true => rw [aheadB_iff] at e; omega
    rw [List.countP_true, List.length_range] at h1
    omega
  · have hjk : j < keys.length := by omega
    have ej := byL_get hjk
    rw [List.getElem?_eq_getElem (by rw [byL_length]; exact hjk)] at ej
    have ej2 := Option.some.inj ej
    have hc : aheadB keys i j = true ∨ aheadB keys j i = true := by rw [aheadB_iff, aheadB_iff]; omega
    rcases hc with hc | hc
    · have := byL_less hik hjk hc; omega
    · have := byL_less hjk hik hc; omega

/-- the parts of joined texts -/
theorem splitB_plain (c : UInt8) : ∀ l : List UInt8, (∀ x ∈ l, x ≠ c) → splitB c l = [l]
  | [], _ => rfl
  | x :: r, h => by
    rw [splitB, if_neg (h x (by simp)), splitB_plain c r (fun y hy => h y (by simp [hy]))]
    rfl
theorem splitB_cut (c : UInt8) (r : List UInt8) : ∀ l : List UInt8, (∀ x ∈ l, x ≠ c) → splitB c (l ++ c :: r) = l :: splitB c r
  | [], _ => by rw [List.nil_append, splitB, if_pos rfl]
  | x :: t, h => by
    rw [List.cons_append, splitB, if_neg (h x (by simp)), splitB_cut c r t (fun y hy => h y (by simp [hy]))]
    rfl
theorem splitB_join (c : UInt8) : ∀ (xs : List (List UInt8)), xs ≠ [] → (∀ l ∈ xs, ∀ x ∈ l, x ≠ c) → splitB c (Lib.join xs [c]) = xs
  | [], h, _ => absurd rfl h
  | [l], _, h => by
    rw [show Lib.join [l] [c] = l by simp [Lib.join]]
    exact splitB_plain c l (h l (by simp))
  | l :: m :: r, _, h => by
    have ih := splitB_join c (m :: r) (by simp) (fun x hx => h x (by simp [hx]))
    rw [show Lib.join (l :: m :: r) [c] = l ++ c :: Lib.join (m :: r) [c] by simp [Lib.join]]
    rw [splitB_cut c _ l (h l (by simp)), ih]
theorem joinC_parts (xs : List ByteArray) (hne : xs ≠ []) (h : ∀ s ∈ xs, ∀ x ∈ s.data.toList, x ≠ 44) : partsS 44 (joinC xs) = xs := by
  unfold partsS joinC
  rw [show (⟨(Lib.join (tlD xs) [44]).toArray⟩ : ByteArray).data.toList = Lib.join (tlD xs) [44] by simp]
  rw [splitB_join 44 (tlD xs) (by unfold tlD; simpa using hne) (by
    intro l hl x hx
    unfold tlD at hl
    obtain ⟨s, hs, rfl⟩ := List.mem_map.1 hl
    exact h s hs x (by simpa using hx))]
  unfold tlD
  rw [List.map_map]
  conv => rhs; rw [← List.map_id xs]
  refine List.map_congr_left fun s _ => ?_
  simp
theorem printI_nocomma (n : Int) : ∀ x ∈ (printI n).data.toList, x ≠ 44 := by
  intro x hx e
  rw [printI_data] at hx
  have := isDig_of (decDigits_dig _ x hx)
  subst e
  revert this
  decide
theorem rankP_text {l : List Int} (h : rankB l = true) (hl : l.length ≤ 100) : rankP (textL l) = (l, 0) := by
  have hin := rankB_in h
  unfold textL
  rw [if_pos h]
  by_cases h0 : l = []
  · subst h0
    rfl
  · have hne : l.map printI ≠ [] := by simpa using h0
    have hp := joinC_parts (l.map printI) hne (fun s hs => by
      obtain ⟨n, _, rfl⟩ := List.mem_map.1 hs
      exact printI_nocomma n)
    have hpp : ∀ n ∈ l, parseI (printI n) = (n, 0) := fun n hn => parse_print (hin n hn).1 (by have := hin n hn; omega)
    have hv : valsK (l.map printI) = l := by
      unfold valsK
      rw [List.map_map]
      conv => rhs; rw [← List.map_id l]
      refine List.map_congr_left fun n hn => ?_
      show (parseI (printI n)).1 = n
      rw [hpp n hn]
    have hs : synK (l.map printI) = false := by
      unfold synK
      rw [List.any_eq_false]
      intro p hm
      obtain ⟨n, hn, rfl⟩ := List.mem_map.1 hm
      rw [hpp n hn]
      simp
    have hw : wideK (l.map printI) = false := by
      unfold wideK
      rw [List.any_eq_false]
      intro p hm
      obtain ⟨n, hn, rfl⟩ := List.mem_map.1 hm
      have := hin n hn
      rw [hpp n hn]
      simp
      omega
    have hz : ¬ (joinC (l.map printI)).size = 0 := by
      intro e
      have e2 := size_zero e
      rw [e2] at hp
      cases l with
      | nil => exact h0 rfl
      | cons a r =>
        have e3 : partsS 44 ByteArray.empty = [ByteArray.empty] := rfl
        rw [e3, List.map_cons] at hp
        have e4 : ByteArray.empty = printI a := (List.cons.inj hp).1
        have e5 := hpp a (by simp)
        rw [← e4] at e5
        have : parseI ByteArray.empty = (0, 3) := parseI_bad (.inl rfl)
        rw [this] at e5
        cases e5
    unfold rankP
    rw [if_neg hz, hp, hs, hw, hv, h]
    rfl
theorem digits_two : ∀ n, n < 100 → (Lib.decDigits n).length ≤ 2 := by decide +kernel
theorem textR_small (l : List Int) (h : ∀ x ∈ l, 0 ≤ x ∧ x < 100) : ∀ k, k ≤ l.length → (textR l k).size ≤ 3 * k
  | 0, _ => by unfold textR; exact Nat.le_refl 0
  | k + 1, hk => by
    have ih := textR_small l h k (by omega)
    have hk2 : k < l.length := by omega
    have hg : l.getD k 0 = l[k] := by simp [List.getD, hk2]
    have hx := h l[k] (List.getElem_mem hk2)
    have hp : (printI l[k]).size ≤ 2 := by
      have h1 := digits_two (l[k]).toNat (by omega)
      rw [← printI_data] at h1
      simpa using h1
    unfold textR
    rw [hg]
    split
    · rw [ByteArray.size_append]; omega
    · rw [ByteArray.size_append, ByteArray.size_append]
      have : (⟨#[44]⟩ : ByteArray).size = 1 := rfl
      omega
theorem textL_size {l : List Int} (h : rankB l = true) (hl : l.length ≤ 100) : (textL l).size ≤ 1000 := by
  have hin := rankB_in h
  unfold textL
  rw [if_pos h, ← textR_all]
  have := textR_small l (fun x hx => by have := hin x hx; omega) l.length (Nat.le_refl _)
  omega

end Go.Proofs.YtfjplphdkfiljaaDoor
