/-
  Words that are joined are found again; lines, with their ends, and what is left are the text, if it has no carriage return. No program in sight.
-/
import Derived.Test.YtelcmkccfjdmjaaGreatDoorLinesSpec
namespace Go.Proofs.YtelcmkccfjdmjaaGreatDoor
open Go.Proofs Go.RowKit Go.Shelf

theorem wordsGo_signs : ∀ (l r cur : List UInt8) (out : List ByteArray), (∀ c ∈ l, signB c = true) → wordsGo (l ++ r) cur out = wordsGo r (cur ++ l) out := by
  intro l
  induction l with
  | nil => intro r cur out _; simp
  | cons c l ih =>
    intro r cur out h
    rw [List.cons_append, wordsGo, if_pos (h c (by simp)), ih r (cur ++ [c]) out (fun d hd => h d (by simp [hd]))]
    simp

theorem wordB_signs {s : ByteArray} (h : wordB s = true) : s.data.toList ≠ [] ∧ ∀ c ∈ s.data.toList, signB c = true := by
  unfold wordB at h
  rw [Bool.and_eq_true] at h
  obtain ⟨h1, h2⟩ := h
  rw [ByteArray.toList_eq] at h1
  refine ⟨by intro e; rw [e] at h1; simp at h1, fun c hc => ?_⟩
  have h3 : s.data.toList.any (fun c => !signB c) = false := by simpa using h2
  rw [List.any_eq_false] at h3
  simpa using h3 c hc

theorem wordB_of {s : ByteArray} (h1 : s.data.toList ≠ []) (h2 : ∀ c ∈ s.data.toList, signB c = true) : wordB s = true := by
  unfold wordB
  rw [Bool.and_eq_true, ByteArray.toList_eq]
  refine ⟨by cases h : s.data.toList with | nil => exact absurd h h1 | cons => rfl, ?_⟩
  have : s.data.toList.any (fun c => !signB c) = false := by
    rw [List.any_eq_false]
    intro c hc
    simp [h2 c hc]
  rw [this]
  rfl

theorem wordsGo_tail : ∀ (r : List ByteArray) (cur : List UInt8) (out : List ByteArray), cur ≠ [] → (∀ x ∈ r, wordB x = true) →
    wordsGo (Lib.joinTail [32] (tl r)) cur out = some (out ++ ⟨cur.toArray⟩ :: r) := by
  intro r
  induction r with
  | nil => intro cur out hc _; simp [tl, Lib.joinTail, wordsGo, flushW, hc]
  | cons x r ih =>
    intro cur out hc h
    obtain ⟨h1, h2⟩ := wordB_signs (h x (by simp))
    have e : Lib.joinTail [32] (tl (x :: r)) = 32 :: (x.data.toList ++ Lib.joinTail [32] (tl r)) := by simp [Lib.joinTail, tl]
    rw [e, wordsGo, if_neg (by decide), if_pos (by decide), wordsGo_signs _ _ _ _ h2, List.nil_append, ih _ _ h1 (fun y hy => h y (by simp [hy]))]
    rw [Lib.mk_data]
    simp [flushW, hc]

theorem wordsGo_join {l : List ByteArray} (h : ∀ x ∈ l, wordB x = true) : wordsGo (Lib.join (tl l) [32]) [] [] = some l := by
  cases l with
  | nil => rfl
  | cons x r =>
    obtain ⟨h1, h2⟩ := wordB_signs (h x (by simp))
    rw [tl, List.map_cons, Lib.join_cons, wordsGo_signs _ _ _ _ h2, List.nil_append]
    have := wordsGo_tail r x.data.toList [] h1 (fun y hy => h y (by simp [hy]))
    rw [this, Lib.mk_data]
    rfl

theorem any_wordB {l : List ByteArray} (h : ¬ l.any (fun x => !wordB x) = true) : ∀ x ∈ l, wordB x = true := by
  intro x hx
  have h2 : l.any (fun x => !wordB x) = false := by simpa using h
  rw [List.any_eq_false] at h2
  simpa using h2 x hx

/-- words that are joined are found again -/
theorem wordsF_join {l : List ByteArray} {s : ByteArray} (h : joinF l = (s, 0)) : wordsF s = (l, 0) := by
  unfold joinF at h
  split at h
  · cases h
  · rename_i h1
    split at h
    · cases h
    · rename_i h2
      split at h
      · cases h
      · rename_i h3
        have hs : s = ⟨(Lib.join (tl l) [32]).toArray⟩ := (Prod.mk.inj h).1.symm
        refine wordsF_ok ?_ ?_ h2
        · rw [Lib.size_eq, hs]; simpa using h3
        · rw [hs]; simpa using wordsGo_join (any_wordB h1)

theorem joinF_fault (l : List ByteArray) : (joinF l).2 = 0 ∨ (joinF l).2 = 1 ∨ (joinF l).2 = 5 := by
  unfold joinF
  split
  · exact .inr (.inl rfl)
  · split
    · exact .inr (.inr rfl)
    · split
      · exact .inr (.inr rfl)
      · exact .inl rfl

/-- n times the letter x -/
def xs (n : Nat) : ByteArray := ⟨(List.replicate n (120 : UInt8)).toArray⟩
theorem xs_data (n : Nat) : (xs n).data.toList = List.replicate n (120 : UInt8) := by simp [xs]
theorem xs_size (n : Nat) : (xs n).size = n := by rw [Lib.size_eq, xs_data, List.length_replicate]
theorem xs_word {n : Nat} (h : 1 ≤ n) : wordB (xs n) = true := by
  refine wordB_of ?_ ?_
  · rw [xs_data]; intro e; have := congrArg List.length e; simp at this; omega
  · intro c hc
    rw [xs_data] at hc
    rw [(List.mem_replicate.1 hc).2]
    decide
theorem xs_words {n : Nat} (h : 1 ≤ n) (h2 : n ≤ 65536) : wordsF (xs n) = ([xs n], 0) := by
  refine wordsF_ok (by rw [xs_size]; omega) ?_ (by simp)
  have := wordsGo_join (l := [xs n]) (by simpa using xs_word h)
  rw [tl, List.map_singleton, Lib.join_one] at this
  exact this
theorem xs_words_big {n : Nat} (h : 65536 < n) : wordsF (xs n) = ([], 5) := wordsF_big (by rw [xs_size]; exact h)
theorem xs_join {n : Nat} (h : 1 ≤ n) (h2 : n ≤ 65536) : joinF [xs n] = (xs n, 0) := by
  have hw := xs_word h
  rw [joinF_ok (by simp [hw]) (by simp) (by rw [tl, List.map_singleton, Lib.join_one, ← Lib.size_eq, xs_size]; omega)]
  rw [tl, List.map_singleton, Lib.join_one, Lib.mk_data]
theorem xs_join_big {n : Nat} (h : 65536 < n) : joinF [xs n] = (ByteArray.empty, 5) := by
  have hw := xs_word (n := n) (by omega)
  exact joinF_long (by simp [hw]) (by rw [tl, List.map_singleton, Lib.join_one, ← Lib.size_eq, xs_size]; omega)

/-- the lines, each with its end -/
def catN (O : List ByteArray) : List UInt8 := (O.map fun x => x.data.toList ++ [10]).flatten
theorem catN_append (O : List ByteArray) (x : ByteArray) : catN (O ++ [x]) = catN O ++ (x.data.toList ++ [10]) := by simp [catN]

theorem linesGo_len : ∀ (n : Nat) (s : ByteArray), (catN (linesGo n s).1).length + (linesGo n s).2.size ≤ s.size := by
  intro n
  induction n with
  | zero => intro s; simp [linesGo, catN]
  | succ n ih =>
    intro s
    rw [linesGo]
    cases hc : cutF s with
    | none => simp [catN]
    | some p =>
      obtain ⟨l, r⟩ := p
      have h1 := cutF_size hc
      have h2 := ih r
      simp only [catN, List.map_cons, List.flatten_cons, List.length_append, List.length_cons, List.length_nil] at h2 ⊢
      rw [← Lib.size_eq]
      omega

theorem trim_no {l : List UInt8} (h : ∀ c ∈ l, c ≠ 13) : Lib.trimSuffix l [13] = l := by
  rcases List.eq_nil_or_concat l with rfl | ⟨r, c, rfl⟩
  · rfl
  · rw [List.concat_eq_append, suffix_concat, if_neg (fun e => h c (by simp) e.symm)]

theorem cut_no {s l r : ByteArray} (h : ∀ c ∈ s.data.toList, c ≠ 13) (hc : cutF s = some (l, r)) : l.data.toList ++ [10] ++ r.data.toList = s.data.toList := by
  rcases nlI_cases s with h1 | ⟨i, h1, hi⟩
  · rw [cutF_none h1] at hc; cases hc
  · rw [cutF_some h1] at hc
    have e := Option.some.inj hc
    unfold cutAt at e
    obtain ⟨e1, e2⟩ := Prod.mk.inj e
    have hx : (s.extract 0 i).data.toList = s.data.toList.take i := by rw [Lib.extract_data]; simp
    have hr : r.data.toList = s.data.toList.drop (i + 1) := by
      rw [← e2, Lib.extract_data, List.take_of_length_le (by rw [List.length_drop, ← Lib.size_eq]; exact Nat.le_refl _)]
    have hl : l.data.toList = s.data.toList.take i := by
      rw [← e1]
      simp only [List.toList_toArray]
      rw [hx, trim_no (fun c hc => h c (List.mem_of_mem_take hc))]
    have hn := (Lib.indexByte_some h1).1
    have hd : s.data.toList.drop i = 10 :: s.data.toList.drop (i + 1) := by
      have hlt : i < s.data.toList.length := by rw [← Lib.size_eq]; exact hi
      rw [List.drop_eq_getElem_cons hlt]
      rw [List.getElem?_eq_getElem hlt] at hn
      rw [Option.some.inj hn]
    rw [hl, hr, List.append_assoc, List.singleton_append, ← hd, List.take_append_drop]

theorem linesGo_back : ∀ (n : Nat) (s : ByteArray), (∀ c ∈ s.data.toList, c ≠ 13) → catN (linesGo n s).1 ++ (linesGo n s).2.data.toList = s.data.toList := by
  intro n
  induction n with
  | zero => intro s _; simp [linesGo, catN]
  | succ n ih =>
    intro s h
    rw [linesGo]
    cases hc : cutF s with
    | none => simp [catN]
    | some p =>
      obtain ⟨l, r⟩ := p
      have h1 := cut_no h hc
      have h2 := ih r (fun c hc => h c (by rw [← h1]; simp [hc]))
      simp only [catN, List.map_cons, List.flatten_cons] at h2 ⊢
      rw [List.append_assoc, h2, h1]

end Go.Proofs.YtelcmkccfjdmjaaGreatDoor
