/-
  The lines of a text, what is left, and the line of some words, as plain functions; no program in sight.
  Words that are joined are found again; lines, with their ends, and what is left are the text, if it has no carriage return. No program in sight.
-/
import Derived.Test.YtelcmkccfjdmjaaGreatDoorBase
import Derived.Test.YtelcmkccfjdmjaaGreatDoorWordsSpec
import Derived.Test.YtelcmkccfjdmjaaGreatDoorTokB
import Derived.Lib.Join
import Derived.Lib.Bytealg
import Derived.Lib.IndexLaws
namespace Go.Proofs.YtelcmkccfjdmjaaGreatDoor
open Go.Proofs Go.RowKit Go.Shelf

def nlI (s : ByteArray) : Int := Lib.indexByte s.data.toList 10
def cutAt (s : ByteArray) (i : Nat) : ByteArray × ByteArray := (⟨(Lib.trimSuffix (s.extract 0 i).data.toList [13]).toArray⟩, s.extract (i + 1) s.size)
def cutF (s : ByteArray) : Option (ByteArray × ByteArray) := if nlI s = -1 then none else some (cutAt s (nlI s).toNat)

theorem nlI_ge (s : ByteArray) : -1 ≤ nlI s := Lib.indexByte_ge _ _
theorem cutF_none {s : ByteArray} (h : nlI s = -1) : cutF s = none := if_pos h
theorem cutF_some {s : ByteArray} {i : Nat} (h : nlI s = (i : Int)) : cutF s = some (cutAt s i) := by
  unfold cutF
  rw [if_neg (by omega), h]
  rfl
theorem nlI_lt {s : ByteArray} {i : Nat} (h : nlI s = (i : Int)) : i < s.size := by
  have := (Lib.indexByte_some h).1
  rw [Lib.size_eq]
  exact (List.getElem?_eq_some_iff.1 this).1

theorem nlI_cases (s : ByteArray) : (nlI s = -1) ∨ ∃ i : Nat, nlI s = (i : Int) ∧ i < s.size := by
  by_cases h : nlI s = -1
  · exact .inl h
  · have := nlI_ge s
    have h2 : nlI s = ((nlI s).toNat : Int) := by omega
    exact .inr ⟨_, h2, nlI_lt h2⟩

theorem at_get (s : ByteArray) (k : Nat) (h : k < s.size) : s.data.toList[k]? = some s[k] := by
  have : k < s.data.toList.length := by rw [← Lib.size_eq]; exact h
  rw [List.getElem?_eq_getElem this]
  rfl

/-- found at k: no letter ahead of it is a line's end -/
theorem nlI_hit {s : ByteArray} {k : Nat} (hk : k < s.size) (h : s[k] = 10) (hb : ∀ j (hj : j < s.size), j < k → s[j] ≠ 10) : nlI s = (k : Int) := by
  rcases nlI_cases s with h1 | ⟨i, h1, hi⟩
  · exact absurd (by rw [at_get s k hk, h]) (Lib.indexByte_none h1 k)
  · obtain ⟨h2, h3⟩ := Lib.indexByte_some h1
    rcases Nat.lt_trichotomy i k with hl | rfl | hl
    · rw [at_get s i hi] at h2
      exact absurd (Option.some.inj h2) (hb i hi hl)
    · exact h1
    · exact absurd (by rw [at_get s k hk, h]) (h3 k hl)

theorem nlI_miss {s : ByteArray} (hb : ∀ j (hj : j < s.size), s[j] ≠ 10) : nlI s = -1 := by
  rcases nlI_cases s with h1 | ⟨i, h1, hi⟩
  · exact h1
  · obtain ⟨h2, h3⟩ := Lib.indexByte_some h1
    rw [at_get s i hi] at h2
    exact absurd (Option.some.inj h2) (hb i hi)

theorem ext_list (s : ByteArray) (f k : Nat) (hk : k ≤ s.size) : (s.extract f k).size = k - f := by
  rw [Lib.size_eq, Lib.extract_data, List.length_take, List.length_drop, ← Lib.size_eq]
  omega

theorem suffix_concat (l : List UInt8) (c d : UInt8) : Lib.trimSuffix (l ++ [c]) [d] = if d = c then l else l ++ [c] := by
  unfold Lib.trimSuffix Lib.hasSuffix
  by_cases h : d = c
  · subst h
    rw [if_pos (by simp), if_pos rfl]
    simp
  · rw [if_neg (by simp [h]), if_neg h]

theorem take_toBA (s : ByteArray) (i : Nat) : (⟨(s.data.toList.take i).toArray⟩ : ByteArray) = s.extract 0 i := by
  rw [Lib.extract_eq]
  simp

theorem cutAt_zero (s : ByteArray) : (cutAt s 0).1 = s.extract 0 0 := by
  unfold cutAt
  rw [Lib.extract_data]
  simp [Lib.trimSuffix, Lib.hasSuffix]
  rfl

theorem cutAt_turn {s : ByteArray} {i : Nat} (hi : i < s.size) (h : s[i] = 13) : (cutAt s (i + 1)).1 = s.extract 0 i := by
  unfold cutAt
  simp only
  rw [Lib.extract_data, List.drop_zero, Nat.sub_zero, take_at s i hi, suffix_concat, h, if_pos rfl, take_toBA]

theorem cutAt_no {s : ByteArray} {i : Nat} (hi : i < s.size) (h : s[i] ≠ 13) : (cutAt s (i + 1)).1 = s.extract 0 (i + 1) := by
  unfold cutAt
  simp only
  rw [Lib.extract_data, List.drop_zero, Nat.sub_zero, take_at s i hi, suffix_concat, if_neg (by exact fun e => h e.symm), ← take_at s i hi, take_toBA]

theorem cut_rest_size {s : ByteArray} {i : Nat} (hi : i < s.size) : (cutAt s i).2.size = s.size - (i + 1) := ext_list s (i + 1) s.size (Nat.le_refl _)

theorem trim_le (l p : List UInt8) : (Lib.trimSuffix l p).length ≤ l.length := by
  unfold Lib.trimSuffix
  split
  · rw [List.length_take]; omega
  · exact Nat.le_refl _

theorem cut_line_size {s : ByteArray} {i : Nat} (hi : i < s.size) : (cutAt s i).1.size ≤ i := by
  unfold cutAt
  simp only
  rw [Lib.size_eq]
  have := trim_le (s.extract 0 i).data.toList [13]
  have h2 := ext_list s 0 i (by omega)
  rw [Lib.size_eq] at h2
  simp only [List.toList_toArray] at *
  omega

theorem cutF_size {s l r : ByteArray} (h : cutF s = some (l, r)) : l.size + 1 + r.size ≤ s.size := by
  rcases nlI_cases s with h1 | ⟨i, h1, hi⟩
  · rw [cutF_none h1] at h; cases h
  · rw [cutF_some h1] at h
    have h2 := cut_rest_size hi
    have h3 := cut_line_size hi
    have h4 : cutAt s i = (l, r) := Option.some.inj h
    rw [h4] at h2 h3
    simp only at h2 h3
    omega

def linesGo : Nat → ByteArray → List ByteArray × ByteArray
  | 0, s => ([], s)
  | n + 1, s => match cutF s with
    | none => ([], s)
    | some (l, r) => (l :: (linesGo n r).1, (linesGo n r).2)

theorem linesGo_none (n : Nat) {s : ByteArray} (h : cutF s = none) : linesGo n s = ([], s) := by
  cases n with
  | zero => rfl
  | succ n => rw [linesGo, h]

theorem linesGo_more : ∀ (n m : Nat) (s : ByteArray), s.size ≤ n → s.size ≤ m → linesGo n s = linesGo m s := by
  intro n
  induction n with
  | zero =>
    intro m s h1 h2
    have : cutF s = none := by
      cases hc : cutF s with
      | none => rfl
      | some p => have := cutF_size (l := p.1) (r := p.2) hc; omega
    rw [linesGo_none _ this, linesGo_none _ this]
  | succ n ih =>
    intro m s h1 h2
    cases hc : cutF s with
    | none => rw [linesGo_none _ hc, linesGo_none _ hc]
    | some p =>
      obtain ⟨l, r⟩ := p
      have := cutF_size hc
      cases m with
      | zero => omega
      | succ m => rw [linesGo, linesGo, hc]; simp only; rw [ih m r (by omega) (by omega)]

def linesF (s : ByteArray) : List ByteArray × ByteArray := linesGo s.size s

/-- the state of the reading: these lines are read, t is left -/
def LS (s : ByteArray) (O : List ByteArray) (t : ByteArray) : Prop := linesF s = (O ++ (linesF t).1, (linesF t).2) ∧ O.length + t.size ≤ s.size

theorem ls_start (s : ByteArray) : LS s [] s := ⟨rfl, by simp⟩
theorem ls_step {s : ByteArray} {O : List ByteArray} {t l r : ByteArray} (h : LS s O t) (hc : cutF t = some (l, r)) : LS s (O ++ [l]) r := by
  obtain ⟨h, h2⟩ := h
  have hz := cutF_size hc
  refine ⟨?_, by simp; omega⟩
  have e : linesF t = (l :: (linesF r).1, (linesF r).2) := by
    unfold linesF
    rw [linesGo_more t.size (t.size + 1) t (Nat.le_refl _) (by omega), linesGo, hc]
    simp only
    rw [linesGo_more t.size r.size r (by omega) (Nat.le_refl _)]
  rw [h, e]
  simp
theorem ls_end {s : ByteArray} {O : List ByteArray} {t : ByteArray} (h : LS s O t) (hc : cutF t = none) : linesF s = (O, t) := by
  rw [h.1]
  unfold linesF
  rw [linesGo_none _ hc]
  simp

/-- the words' letters -/
abbrev tl (l : List ByteArray) : List (List UInt8) := l.map (·.data.toList)

/-- the line of these words, and the fault's number -/
def joinF (l : List ByteArray) : ByteArray × Int :=
  if l.any (fun x => !wordB x) then (ByteArray.empty, 1)
  else if 16384 < l.length then (ByteArray.empty, 5)
  else if 65536 < (Lib.join (tl l) [32]).length then (ByteArray.empty, 5)
  else (⟨(Lib.join (tl l) [32]).toArray⟩, 0)

theorem joinF_bad {l : List ByteArray} (h : l.any (fun x => !wordB x) = true) : joinF l = (ByteArray.empty, 1) := if_pos h
theorem joinF_many {l : List ByteArray} (h : ¬ l.any (fun x => !wordB x) = true) (h2 : 16384 < l.length) : joinF l = (ByteArray.empty, 5) := by
  unfold joinF; rw [if_neg h, if_pos h2]
theorem joinF_long {l : List ByteArray} (h : ¬ l.any (fun x => !wordB x) = true) (h3 : 65536 < (Lib.join (tl l) [32]).length) : joinF l = (ByteArray.empty, 5) := by
  unfold joinF; rw [if_neg h, if_pos h3]; simp
theorem joinF_ok {l : List ByteArray} (h : ¬ l.any (fun x => !wordB x) = true) (h2 : ¬ 16384 < l.length) (h3 : ¬ 65536 < (Lib.join (tl l) [32]).length) : joinF l = (⟨(Lib.join (tl l) [32]).toArray⟩, 0) := by
  unfold joinF; rw [if_neg h, if_neg h2, if_neg h3]

/-- the program's sum behind k words -/
def joinSz (l : List ByteArray) (k : Nat) : Nat := (l.length - 1) + Lib.lens ((tl l).take k)
theorem joinSz_zero (l : List ByteArray) : joinSz l 0 = l.length - 1 := by simp [joinSz, Lib.lens]
theorem joinSz_step (l : List ByteArray) (k : Nat) (h : k < l.length) : joinSz l (k + 1) = joinSz l k + l[k].size := by
  unfold joinSz
  rw [Lib.lens_take_succ (tl l) k l[k].data.toList (by simp [tl, h]), ← Lib.size_eq, Nat.add_assoc]
theorem join_len (l : List ByteArray) : (Lib.join (tl l) [32]).length = joinSz l l.length := by
  unfold joinSz
  rw [List.take_of_length_le (by simp [tl])]
  cases l with
  | nil => rfl
  | cons x r => rw [tl, List.map_cons, Lib.join_length]; simp
theorem joinSz_le (l : List ByteArray) (k : Nat) : joinSz l k ≤ (Lib.join (tl l) [32]).length := by
  rw [join_len]
  unfold joinSz
  have h1 := Lib.lens_take_le (tl l) k
  have h2 : (tl l).take l.length = tl l := List.take_of_length_le (by simp [tl])
  rw [h2]
  omega

/-- the reference's text behind k words -/
def joinT (l : List ByteArray) (k : Nat) : ByteArray := ⟨(Lib.join ((tl l).take k) [32]).toArray⟩
theorem ba_app (x y : List UInt8) : (⟨x.toArray⟩ ++ ⟨y.toArray⟩ : ByteArray) = ⟨(x ++ y).toArray⟩ := by
  apply Go.WideShapes.bytes_inj
  simp
theorem joinT_zero (l : List ByteArray) : joinT l 0 = ByteArray.empty := rfl
theorem joinT_one (l : List ByteArray) (h : 0 < l.length) : joinT l 1 = ByteArray.empty ++ l[0] := by
  cases l with
  | nil => simp at h
  | cons x r =>
    unfold joinT
    rw [tl, List.map_cons, List.take_succ_cons, List.take_zero, Lib.join_one, Lib.mk_data]
    simp
theorem joinT_step (l : List ByteArray) (k : Nat) (h : k < l.length) (hk : 0 < k) : joinT l (k + 1) = (joinT l k ++ ⟨#[32]⟩) ++ l[k] := by
  cases l with
  | nil => simp at h
  | cons x r =>
    obtain ⟨j, rfl⟩ : ∃ j, k = j + 1 := ⟨k - 1, by omega⟩
    unfold joinT
    have hj : j < r.length := by simpa using h
    rw [tl, List.map_cons, List.take_succ_cons, List.take_succ_cons, Lib.join_cons, Lib.join_cons, Lib.joinTail_take_succ [32] (tl r) j r[j].data.toList (by simp [tl, hj])]
    rw [show (⟨#[32]⟩ : ByteArray) = ⟨[32].toArray⟩ from rfl, ba_app]
    conv => rhs; rhs; rw [← Lib.mk_data ((x :: r)[j + 1])]
    rw [ba_app]
    simp [List.append_assoc]
theorem joinT_all (l : List ByteArray) : joinT l l.length = ⟨(Lib.join (tl l) [32]).toArray⟩ := by
  unfold joinT
  rw [List.take_of_length_le (by simp [tl])]
theorem joinT_size (l : List ByteArray) (k : Nat) : (joinT l k).size ≤ (Lib.join (tl l) [32]).length := by
  unfold joinT
  rw [Lib.size_eq]
  simp only [List.toList_toArray]
  cases l with
  | nil => simp [tl]
  | cons x r =>
    cases k with
    | zero => simp [Lib.join_nil]
    | succ k =>
      rw [tl, List.map_cons, List.take_succ_cons, Lib.join_cons, Lib.join_cons, List.length_append, List.length_append]
      have := Lib.joinTail_take_le [32] (r.map (·.data.toList)) k
      exact Nat.add_le_add_left this _

end Go.Proofs.YtelcmkccfjdmjaaGreatDoor

namespace Go.Proofs.YtelcmkccfjdmjaaGreatDoor
open Go.Proofs Go.RowKit Go.Shelf

theorem wordsGo_signs : ∀ (l r cur : List UInt8) (out : List ByteArray), (∀ c ∈ l, signB c = true) → wordsGo (l ++ r) cur out = wordsGo r (cur ++ l) out := by
  intro l
  induction l with
  | nil => intro r cur out _; simp
  | cons c l ih =>
    intro r cur out h
    rw [List.cons_append, wordsGo, if_pos (h c (by simp)), ih r (cur ++ [c]) out (fun d hd => h d (by simp [hd]))]
    simp

theorem wordB_signs {s : ByteArray} (h : wordB s = true) : s.data.toList ≠ [] ∧ ∀ c ∈ s.data.toList, signB c = true := by
  unfold wordB at h
  rw [Bool.and_eq_true] at h
  obtain ⟨h1, h2⟩ := h
  rw [ByteArray.toList_eq] at h1
  refine ⟨by intro e; rw [e] at h1; simp at h1, fun c hc => ?_⟩
  have h3 : s.data.toList.any (fun c => !signB c) = false := by simpa using h2
  rw [List.any_eq_false] at h3
  simpa using h3 c hc

theorem wordB_of {s : ByteArray} (h1 : s.data.toList ≠ []) (h2 : ∀ c ∈ s.data.toList, signB c = true) : wordB s = true := by
  unfold wordB
  rw [Bool.and_eq_true, ByteArray.toList_eq]
  refine ⟨by cases h : s.data.toList with | nil => exact absurd h h1 | cons => rfl, ?_⟩
  have : s.data.toList.any (fun c => !signB c) = false := by
    rw [List.any_eq_false]
    intro c hc
    simp [h2 c hc]
  rw [this]
  rfl

theorem wordsGo_tail : ∀ (r : List ByteArray) (cur : List UInt8) (out : List ByteArray), cur ≠ [] → (∀ x ∈ r, wordB x = true) →
    wordsGo (Lib.joinTail [32] (tl r)) cur out = some (out ++ ⟨cur.toArray⟩ :: r) := by
  intro r
  induction r with
  | nil => intro cur out hc _; simp [tl, Lib.joinTail, wordsGo, flushW, hc]
  | cons x r ih =>
    intro cur out hc h
    obtain ⟨h1, h2⟩ := wordB_signs (h x (by simp))
    have e : Lib.joinTail [32] (tl (x :: r)) = 32 :: (x.data.toList ++ Lib.joinTail [32] (tl r)) := by simp [Lib.joinTail, tl]
    rw [e, wordsGo, if_neg (by decide), if_pos (by decide), wordsGo_signs _ _ _ _ h2, List.nil_append, ih _ _ h1 (fun y hy => h y (by simp [hy]))]
    rw [Lib.mk_data]
    simp [flushW, hc]

theorem wordsGo_join {l : List ByteArray} (h : ∀ x ∈ l, wordB x = true) : wordsGo (Lib.join (tl l) [32]) [] [] = some l := by
  cases l with
  | nil => rfl
  | cons x r =>
    obtain ⟨h1, h2⟩ := wordB_signs (h x (by simp))
    rw [tl, List.map_cons, Lib.join_cons, wordsGo_signs _ _ _ _ h2, List.nil_append]
    have := wordsGo_tail r x.data.toList [] h1 (fun y hy => h y (by simp [hy]))
    rw [this, Lib.mk_data]
    rfl

theorem any_wordB {l : List ByteArray} (h : ¬ l.any (fun x => !wordB x) = true) : ∀ x ∈ l, wordB x = true := by
  intro x hx
  have h2 : l.any (fun x => !wordB x) = false := by simpa using h
  rw [List.any_eq_false] at h2
  simpa using h2 x hx

/-- words that are joined are found again -/
theorem wordsF_join {l : List ByteArray} {s : ByteArray} (h : joinF l = (s, 0)) : wordsF s = (l, 0) := by
  unfold joinF at h
  split at h
  · cases h
  · rename_i h1
    split at h
    · cases h
    · rename_i h2
      split at h
      · cases h
      · rename_i h3
        have hs : s = ⟨(Lib.join (tl l) [32]).toArray⟩ := (Prod.mk.inj h).1.symm
        refine wordsF_ok ?_ ?_ h2
        · rw [Lib.size_eq, hs]; simpa using h3
        · rw [hs]; simpa using wordsGo_join (any_wordB h1)

theorem joinF_fault (l : List ByteArray) : (joinF l).2 = 0 ∨ (joinF l).2 = 1 ∨ (joinF l).2 = 5 := by
  unfold joinF
  split
  · exact .inr (.inl rfl)
  · split
    · exact .inr (.inr rfl)
    · split
      · exact .inr (.inr rfl)
      · exact .inl rfl

/-- n times the letter x -/
def xs (n : Nat) : ByteArray := ⟨(List.replicate n (120 : UInt8)).toArray⟩
theorem xs_data (n : Nat) : (xs n).data.toList = List.replicate n (120 : UInt8) := by simp [xs]
theorem xs_size (n : Nat) : (xs n).size = n := by rw [Lib.size_eq, xs_data, List.length_replicate]
theorem xs_word {n : Nat} (h : 1 ≤ n) : wordB (xs n) = true := by
  refine wordB_of ?_ ?_
  · rw [xs_data]; intro e; have := congrArg List.length e; simp at this; omega
  · intro c hc
    rw [xs_data] at hc
    rw [(List.mem_replicate.1 hc).2]
    decide
theorem xs_words {n : Nat} (h : 1 ≤ n) (h2 : n ≤ 65536) : wordsF (xs n) = ([xs n], 0) := by
  refine wordsF_ok (by rw [xs_size]; omega) ?_ (by simp)
  have := wordsGo_join (l := [xs n]) (by simpa using xs_word h)
  rw [tl, List.map_singleton, Lib.join_one] at this
  exact this
theorem xs_words_big {n : Nat} (h : 65536 < n) : wordsF (xs n) = ([], 5) := wordsF_big (by rw [xs_size]; exact h)
theorem xs_join {n : Nat} (h : 1 ≤ n) (h2 : n ≤ 65536) : joinF [xs n] = (xs n, 0) := by
  have hw := xs_word h
  rw [joinF_ok (by simp [hw]) (by simp) (by rw [tl, List.map_singleton, Lib.join_one, ← Lib.size_eq, xs_size]; omega)]
  rw [tl, List.map_singleton, Lib.join_one, Lib.mk_data]
theorem xs_join_big {n : Nat} (h : 65536 < n) : joinF [xs n] = (ByteArray.empty, 5) := by
  have hw := xs_word (n := n) (by omega)
  exact joinF_long (by simp [hw]) (by rw [tl, List.map_singleton, Lib.join_one, ← Lib.size_eq, xs_size]; omega)

/-- the lines, each with its end -/
def catN (O : List ByteArray) : List UInt8 := (O.map fun x => x.data.toList ++ [10]).flatten
theorem catN_append (O : List ByteArray) (x : ByteArray) : catN (O ++ [x]) = catN O ++ (x.data.toList ++ [10]) := by simp [catN]

theorem linesGo_len : ∀ (n : Nat) (s : ByteArray), (catN (linesGo n s).1).length + (linesGo n s).2.size ≤ s.size := by
  intro n
  induction n with
  | zero => intro s; simp [linesGo, catN]
  | succ n ih =>
    intro s
    rw [linesGo]
    cases hc : cutF s with
    | none => simp [catN]
    | some p =>
      obtain ⟨l, r⟩ := p
      have h1 := cutF_size hc
      have h2 := ih r
      simp only [catN, List.map_cons, List.flatten_cons, List.length_append, List.length_cons, List.length_nil] at h2 ⊢
      rw [← Lib.size_eq]
      omega

theorem trim_no {l : List UInt8} (h : ∀ c ∈ l, c ≠ 13) : Lib.trimSuffix l [13] = l := by
  rcases List.eq_nil_or_concat l with rfl | ⟨r, c, rfl⟩
  · rfl
  · rw [List.concat_eq_append, suffix_concat, if_neg (fun e => h c (by simp) e.symm)]

theorem cut_no {s l r : ByteArray} (h : ∀ c ∈ s.data.toList, c ≠ 13) (hc : cutF s = some (l, r)) : l.data.toList ++ [10] ++ r.data.toList = s.data.toList := by
  rcases nlI_cases s with h1 | ⟨i, h1, hi⟩
  · rw [cutF_none h1] at hc; cases hc
  · rw [cutF_some h1] at hc
    have e := Option.some.inj hc
    unfold cutAt at e
    obtain ⟨e1, e2⟩ := Prod.mk.inj e
    have hx : (s.extract 0 i).data.toList = s.data.toList.take i := by rw [Lib.extract_data]; simp
    have hr : r.data.toList = s.data.toList.drop (i + 1) := by
      rw [← e2, Lib.extract_data, List.take_of_length_le (by rw [List.length_drop, ← Lib.size_eq]; exact Nat.le_refl _)]
    have hl : l.data.toList = s.data.toList.take i := by
      rw [← e1]
      simp only [List.toList_toArray]
      rw [hx, trim_no (fun c hc => h c (List.mem_of_mem_take hc))]
    have hn := (Lib.indexByte_some h1).1
    have hd : s.data.toList.drop i = 10 :: s.data.toList.drop (i + 1) := by
      have hlt : i < s.data.toList.length := by rw [← Lib.size_eq]; exact hi
      rw [List.drop_eq_getElem_cons hlt]
      rw [List.getElem?_eq_getElem hlt] at hn
      rw [Option.some.inj hn]
    rw [hl, hr, List.append_assoc, List.singleton_append, ← hd, List.take_append_drop]

theorem linesGo_back : ∀ (n : Nat) (s : ByteArray), (∀ c ∈ s.data.toList, c ≠ 13) → catN (linesGo n s).1 ++ (linesGo n s).2.data.toList = s.data.toList := by
  intro n
  induction n with
  | zero => intro s _; simp [linesGo, catN]
  | succ n ih =>
    intro s h
    rw [linesGo]
    cases hc : cutF s with
    | none => simp [catN]
    | some p =>
      obtain ⟨l, r⟩ := p
      have h1 := cut_no h hc
      have h2 := ih r (fun c hc => h c (by rw [← h1]; simp [hc]))
      simp only [catN, List.map_cons, List.flatten_cons] at h2 ⊢
      rw [List.append_assoc, h2, h1]

end Go.Proofs.YtelcmkccfjdmjaaGreatDoor
