/-
  The words of a line, as a plain function on its letters; no program in sight.
-/
import Derived.Test.YtelcmkccfjdmjaaGreatDoorBase
namespace Go.Proofs.YtelcmkccfjdmjaaGreatDoor

def signB (c : UInt8) : Bool := decide (33 ≤ (c.toNat : Int)) && decide ((c.toNat : Int) ≤ 126)
def blankB (c : UInt8) : Bool := decide (c.toNat = 32) || decide (c.toNat = 9)

def flushW (cur : List UInt8) (out : List ByteArray) : List ByteArray := if cur = [] then out else out ++ [⟨cur.toArray⟩]

def wordsGo : List UInt8 → List UInt8 → List ByteArray → Option (List ByteArray)
  | [], cur, out => some (flushW cur out)
  | c :: r, cur, out => if signB c then wordsGo r (cur ++ [c]) out else if blankB c then wordsGo r [] (flushW cur out) else none

/-- the words of a line, and the fault's number -/
def wordsF (s : ByteArray) : List ByteArray × Int :=
  if 65536 < s.size then ([], 5) else
    match wordsGo s.data.toList [] [] with
    | none => ([], 3)
    | some l => if 16384 < l.length then ([], 5) else (l, 0)

/-- the state of a scan at place k, a word begun at f -/
def WS (s : ByteArray) (k f : Nat) (O : List ByteArray) : Prop :=
  f ≤ k ∧ O.length ≤ f ∧ wordsGo (s.data.toList.drop k) ((s.data.toList.take k).drop f) O = wordsGo s.data.toList [] []

theorem extract_list (s : ByteArray) (f k : Nat) : s.extract f k = ⟨((s.data.toList.take k).drop f).toArray⟩ := by
  have : (s.extract f k).data.toList = (s.data.toList.take k).drop f := by
    rw [ByteArray.data_extract, Array.toList_extract, List.extract_eq_take_drop]
    rw [List.drop_take]
  cases h : s.extract f k with
  | mk d => rw [h] at this; rw [← this]

theorem ws_start (s : ByteArray) : WS s 0 0 [] := ⟨Nat.le_refl _, by simp, by simp⟩

theorem drop_at (s : ByteArray) (k : Nat) (h : k < s.size) : s.data.toList.drop k = s[k] :: s.data.toList.drop (k + 1) := by
  have hk : k < s.data.toList.length := by simpa using h
  rw [List.drop_eq_getElem_cons hk]
  rfl
theorem take_at (s : ByteArray) (k : Nat) (h : k < s.size) : s.data.toList.take (k + 1) = s.data.toList.take k ++ [s[k]] := by
  have hk : k < s.data.toList.length := by simpa using h
  rw [List.take_succ_eq_append_getElem hk]
  rfl

theorem ws_sign {s : ByteArray} {k f : Nat} {O : List ByteArray} (h : WS s k f O) (hk : k < s.size) (hs : signB s[k] = true) : WS s (k + 1) f O := by
  obtain ⟨h1, h2, h3⟩ := h
  refine ⟨by omega, h2, ?_⟩
  have hl : s.data.toList.length = s.size := by simp
  rw [← h3, drop_at s k hk, take_at s k hk, wordsGo, if_pos hs, List.drop_append_of_le_length (by rw [List.length_take]; omega)]

theorem cur_nil {s : ByteArray} {k f : Nat} (h : f ≤ k) (hk : k ≤ s.size) : ((s.data.toList.take k).drop f = []) ↔ f = k := by
  rw [List.drop_eq_nil_iff, List.length_take]
  have : s.data.toList.length = s.size := by simp
  omega

theorem ws_blank_new {s : ByteArray} {k f : Nat} {O : List ByteArray} (h : WS s k f O) (hk : k < s.size) (hs : signB s[k] = false) (hb : blankB s[k] = true) (hf : f < k) :
    WS s (k + 1) (k + 1) (O ++ [s.extract f k]) := by
  obtain ⟨h1, h2, h3⟩ := h
  refine ⟨by omega, by simp; omega, ?_⟩
  rw [drop_at s k hk, wordsGo, if_neg (by simp [hs]), if_pos hb, flushW, if_neg (by rw [cur_nil h1 (by omega)]; omega)] at h3
  rw [← h3, extract_list, (cur_nil (Nat.le_refl (k + 1)) (by omega)).2 rfl]

theorem ws_blank_old {s : ByteArray} {k : Nat} {O : List ByteArray} (h : WS s k k O) (hk : k < s.size) (hs : signB s[k] = false) (hb : blankB s[k] = true) :
    WS s (k + 1) (k + 1) O := by
  obtain ⟨h1, h2, h3⟩ := h
  refine ⟨by omega, by omega, ?_⟩
  rw [drop_at s k hk, wordsGo, if_neg (by simp [hs]), if_pos hb, flushW, if_pos (by rw [cur_nil h1 (by omega)])] at h3
  rw [← h3, (cur_nil (Nat.le_refl (k + 1)) (by omega)).2 rfl]

theorem ws_bad {s : ByteArray} {k f : Nat} {O : List ByteArray} (h : WS s k f O) (hk : k < s.size) (hs : signB s[k] = false) (hb : blankB s[k] = false) :
    wordsGo s.data.toList [] [] = none := by
  obtain ⟨h1, h2, h3⟩ := h
  rw [drop_at s k hk, wordsGo, if_neg (by simp [hs]), if_neg (by simp [hb])] at h3
  exact h3.symm

theorem ws_end_new {s : ByteArray} {f : Nat} {O : List ByteArray} (h : WS s s.size f O) (hf : f < s.size) : wordsGo s.data.toList [] [] = some (O ++ [s.extract f s.size]) := by
  obtain ⟨h1, h2, h3⟩ := h
  rw [List.drop_of_length_le (by simp), wordsGo, flushW, if_neg (by rw [cur_nil h1 (by omega)]; omega)] at h3
  rw [← h3, extract_list]

theorem ws_end_old {s : ByteArray} {O : List ByteArray} (h : WS s s.size s.size O) : wordsGo s.data.toList [] [] = some O := by
  obtain ⟨h1, h2, h3⟩ := h
  rw [List.drop_of_length_le (by simp), wordsGo, flushW, if_pos (by rw [cur_nil h1 (by omega)])] at h3
  exact h3.symm

theorem ws_cut {s : ByteArray} {k f : Nat} {O : List ByteArray} (h : WS s k f O) (hk : k ≤ s.size) (hs : ∀ h : k < s.size, signB s[k] = false) (hf : f < k) :
    WS s k k (O ++ [s.extract f k]) := by
  obtain ⟨h1, h2, h3⟩ := h
  refine ⟨by omega, by simp; omega, ?_⟩
  rw [← h3, (cur_nil (Nat.le_refl k) hk).2 rfl, extract_list]
  have hc : ¬ (s.data.toList.take k).drop f = [] := by rw [cur_nil h1 hk]; omega
  generalize (s.data.toList.take k).drop f = cur at hc
  rcases Nat.lt_or_ge k s.size with hl | hl
  · rw [drop_at s k hl]
    simp only [wordsGo, hs hl, Bool.false_eq_true, if_false, flushW, if_pos, if_neg hc]
  · rw [List.drop_of_length_le (by simpa using hl)]
    simp [wordsGo, flushW, hc]

theorem wordsF_big {s : ByteArray} (h : 65536 < s.size) : wordsF s = ([], 5) := by rw [wordsF, if_pos h]
theorem wordsF_bad {s : ByteArray} (h : ¬ 65536 < s.size) (h2 : wordsGo s.data.toList [] [] = none) : wordsF s = ([], 3) := by rw [wordsF, if_neg h, h2]
theorem wordsF_many {s : ByteArray} {O : List ByteArray} (h : ¬ 65536 < s.size) (h2 : wordsGo s.data.toList [] [] = some O) (h3 : 16384 < O.length) : wordsF s = ([], 5) := by
  rw [wordsF, if_neg h, h2]; simp [h3]
theorem wordsF_ok {s : ByteArray} {O : List ByteArray} (h : ¬ 65536 < s.size) (h2 : wordsGo s.data.toList [] [] = some O) (h3 : ¬ 16384 < O.length) : wordsF s = (O, 0) := by
  rw [wordsF, if_neg h, h2]; simp [h3]

theorem wordsF_len (s : ByteArray) : (wordsF s).1.length ≤ 16384 := by
  unfold wordsF
  split
  · simp
  · split
    · simp
    · split
      · simp
      · simp; omega

end Go.Proofs.YtelcmkccfjdmjaaGreatDoor
