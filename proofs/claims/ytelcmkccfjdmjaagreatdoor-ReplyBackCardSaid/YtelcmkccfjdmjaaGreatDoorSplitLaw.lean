/-
  The parts of a text between signs: joined they are the text, and what is joined has these parts. Plain Lean.
-/
import Derived.Test.YtelcmkccfjdmjaaGreatDoorSplit
import Derived.Lib.Join
namespace Go.Proofs.YtelcmkccfjdmjaaGreatDoor
open Go.Proofs Go.RowKit Go.Shelf

/-- texts, with a sign between -/
def joinB (c : UInt8) (xs : List ByteArray) : ByteArray := ⟨(Lib.join (xs.map (·.data.toList)) [c]).toArray⟩
theorem joinB_data (c : UInt8) (xs : List ByteArray) : (joinB c xs).data.toList = Lib.join (xs.map (·.data.toList)) [c] := by unfold joinB; simp
theorem splitB_plainL (c : UInt8) : ∀ l : List UInt8, (∀ x ∈ l, x ≠ c) → splitB c l = [l]
  | [], _ => rfl
  | x :: r, h => by
    rw [splitB, if_neg (h x (by simp)), splitB_plainL c r (fun y hy => h y (by simp [hy]))]
    rfl
theorem splitB_cutL (c : UInt8) (r : List UInt8) : ∀ l : List UInt8, (∀ x ∈ l, x ≠ c) → splitB c (l ++ c :: r) = l :: splitB c r
  | [], _ => by rw [List.nil_append, splitB, if_pos rfl]
  | x :: t, h => by
    rw [List.cons_append, splitB, if_neg (h x (by simp)), splitB_cutL c r t (fun y hy => h y (by simp [hy]))]
    rfl
theorem join_two (c : UInt8) (l m : List UInt8) (r : List (List UInt8)) : Lib.join (l :: m :: r) [c] = l ++ c :: Lib.join (m :: r) [c] := by simp [Lib.join]
theorem join_single (c : UInt8) (l : List UInt8) : Lib.join [l] [c] = l := by simp [Lib.join]
theorem splitB_joinL (c : UInt8) : ∀ (xs : List (List UInt8)), xs ≠ [] → (∀ l ∈ xs, ∀ x ∈ l, x ≠ c) → splitB c (Lib.join xs [c]) = xs
  | [], h, _ => absurd rfl h
  | [l], _, h => by rw [join_single]; exact splitB_plainL c l (h l (by simp))
  | l :: m :: r, _, h => by
    have ih := splitB_joinL c (m :: r) (by simp) (fun x hx => h x (by simp only [List.mem_cons] at hx ⊢; exact .inr hx))
    rw [join_two, splitB_cutL c _ l (h l (by simp)), ih]
theorem join_splitB (c : UInt8) : ∀ l : List UInt8, Lib.join (splitB c l) [c] = l
  | [] => by rw [splitB, join_single]
  | x :: r => by
    have ih := join_splitB c r
    obtain ⟨h, t, e⟩ := splitB_cons c r
    rw [e] at ih
    by_cases hx : x = c
    · subst hx
      rw [splitB, if_pos rfl, e, join_two, ih]
      rfl
    · rw [splitB, if_neg hx, e]
      cases t with
      | nil => rw [join_single] at ih; rw [show ((x :: [h].headD []) :: [h].tail : List (List UInt8)) = [x :: h] from rfl, join_single, ih]
      | cons m t => rw [join_two] at ih; rw [show ((x :: (h :: m :: t).headD []) :: (h :: m :: t).tail : List (List UInt8)) = (x :: h) :: m :: t from rfl, join_two, List.cons_append, ih]
theorem splitB_no (c : UInt8) : ∀ (l : List UInt8), ∀ p ∈ splitB c l, ∀ x ∈ p, x ≠ c
  | [], p, hp, x, hx => by simp [splitB] at hp; subst hp; cases hx
  | y :: r, p, hp, x, hx => by
    have ih := splitB_no c r
    obtain ⟨h, t, e⟩ := splitB_cons c r
    rw [splitB] at hp
    split at hp
    · rcases List.mem_cons.1 hp with rfl | hp
      · cases hx
      · exact ih p hp x hx
    · rename_i hyc
      rw [e] at hp ih
      rcases List.mem_cons.1 hp with rfl | hp
      · rcases List.mem_cons.1 hx with rfl | hx
        · exact hyc
        · exact ih h (by simp) x hx
      · exact ih p (by simp at hp; simp [hp]) x hx
theorem parts_join {c : UInt8} {xs : List ByteArray} (hne : xs ≠ []) (h : ∀ s ∈ xs, ∀ x ∈ s.data.toList, x ≠ c) : partsS c (joinB c xs) = xs := by
  unfold partsS
  rw [joinB_data, splitB_joinL c _ (by simpa using hne) (by
    intro l hl x hx
    obtain ⟨s, hs, rfl⟩ := List.mem_map.1 hl
    exact h s hs x (by simpa using hx)), List.map_map]
  conv => rhs; rw [← List.map_id xs]
  refine List.map_congr_left fun s _ => ?_
  simp
theorem join_parts (c : UInt8) (s : ByteArray) : joinB c (partsS c s) = s := by
  apply Go.WideShapes.bytes_inj
  rw [joinB_data]
  unfold partsS
  rw [List.map_map]
  have : (splitB c s.data.toList).map ((fun x : ByteArray => x.data.toList) ∘ fun l => (⟨l.toArray⟩ : ByteArray)) = splitB c s.data.toList := by
    conv => rhs; rw [← List.map_id (splitB c s.data.toList)]
    refine List.map_congr_left fun l _ => ?_
    simp
  rw [this, join_splitB]
theorem parts_no {c : UInt8} {s : ByteArray} : ∀ p ∈ partsS c s, ∀ x ∈ p.data.toList, x ≠ c := by
  intro p hp x hx
  unfold partsS at hp
  obtain ⟨l, hl, rfl⟩ := List.mem_map.1 hp
  exact splitB_no c _ l hl x (by simpa using hx)
theorem parts_ne (c : UInt8) (s : ByteArray) : partsS c s ≠ [] := by
  unfold partsS
  simpa using splitB_ne c s.data.toList

theorem join_memB {d c : UInt8} : ∀ {xs : List (List UInt8)}, c ∈ Lib.join xs [d] → c = d ∨ ∃ x ∈ xs, c ∈ x
  | [], h => by simp [Lib.join] at h
  | [x], h => by rw [join_single] at h; exact .inr ⟨x, by simp, h⟩
  | x :: y :: r, h => by
    rw [join_two, List.mem_append, List.mem_cons] at h
    rcases h with h | h | h
    · exact .inr ⟨x, by simp, h⟩
    · exact .inl h
    · rcases join_memB h with h | ⟨z, hz, h⟩
      · exact .inl h
      · exact .inr ⟨z, by simp only [List.mem_cons] at hz ⊢; exact .inr hz, h⟩

/-- where a sign stands first -/
theorem index_at {l : List UInt8} {c : UInt8} : ∀ {k : Nat}, l[k]? = some c → (∀ j, j < k → l[j]? ≠ some c) → Lib.indexByte l c = (k : Int) := by
  intro k hk h
  have hge := Lib.indexByte_ge l c
  by_cases hn : Lib.indexByte l c = -1
  · exact absurd hk (Lib.indexByte_none hn k)
  · obtain ⟨o, ho⟩ : ∃ o : Nat, Lib.indexByte l c = (o : Int) := ⟨(Lib.indexByte l c).toNat, by omega⟩
    obtain ⟨h1, h2⟩ := Lib.indexByte_some ho
    have : o = k := by
      rcases Nat.lt_trichotomy o k with hh | hh | hh
      · exact absurd h1 (h o hh)
      · exact hh
      · exact absurd hk (h2 k hh)
    rw [ho, this]
theorem index_mid {a b : List UInt8} {c : UInt8} (h : ∀ x ∈ a, x ≠ c) : Lib.indexByte (a ++ c :: b) c = (a.length : Int) := by
  refine index_at (by simp) fun j hj e => ?_
  rw [List.getElem?_append_left hj] at e
  exact h c (List.mem_of_getElem? e) rfl

theorem index_not {l : List UInt8} {c : UInt8} (h : ∀ j : Nat, l[j]? ≠ some c) : Lib.indexByte l c = -1 := by
  have hge := Lib.indexByte_ge l c
  by_cases hn : Lib.indexByte l c = -1
  · exact hn
  · obtain ⟨o, ho⟩ : ∃ o : Nat, Lib.indexByte l c = (o : Int) := ⟨(Lib.indexByte l c).toNat, by omega⟩
    exact absurd (Lib.indexByte_some ho).1 (h o)
theorem extB_at {s : ByteArray} {f j : Nat} (h : f + j < s.size) : (s.extract f s.size).data.toList[j]? = some s[f + j] := by
  rw [ext_data, List.take_of_length_le (by simp), List.getElem?_drop]
  rw [List.getElem?_eq_getElem (by simpa using h)]
  rfl
theorem extB_none {s : ByteArray} {f j : Nat} (h : ¬ f + j < s.size) : (s.extract f s.size).data.toList[j]? = none := by
  rw [ext_data, List.take_of_length_le (by simp), List.getElem?_drop]
  exact List.getElem?_eq_none (by simp; omega)
/-- no such sign from f to i -/
def noB (c : UInt8) (s : ByteArray) (f i : Nat) : Prop := ∀ j (h : j < s.size), f ≤ j → j < i → s[j] ≠ c
theorem indexB_at {c : UInt8} {s : ByteArray} {i : Nat} (hi : i < s.size) (hc : s[i] = c) (hn : noB c s 0 i) : Lib.indexByte s.data.toList c = (i : Int) := by
  have g : ∀ j (h : j < s.size), s.data.toList[j]? = some s[j] := fun j h => by rw [List.getElem?_eq_getElem (by simpa using h)]; rfl
  refine index_at (by rw [g i hi, hc]) fun j hj => ?_
  rw [g j (by omega)]
  intro e
  exact hn j (by omega) (Nat.zero_le _) hj (Option.some.inj e)
theorem indexB_none {c : UInt8} {s : ByteArray} (hn : noB c s 0 s.size) : Lib.indexByte s.data.toList c = -1 := by
  have g : ∀ j (h : j < s.size), s.data.toList[j]? = some s[j] := fun j h => by rw [List.getElem?_eq_getElem (by simpa using h)]; rfl
  refine index_not fun j => ?_
  by_cases h : j < s.size
  · rw [g j h]
    intro e
    exact hn j h (Nat.zero_le _) h (Option.some.inj e)
  · rw [List.getElem?_eq_none (by simp; omega)]
    simp
theorem partsB_at {c : UInt8} {s : ByteArray} {f i : Nat} (hf : f ≤ i) (hi : i < s.size) (hc : s[i] = c) (hn : noB c s f i) :
    partsS c (s.extract f s.size) = s.extract f i :: partsS c (s.extract (i + 1) s.size) := by
  have e := index_at (l := (s.extract f s.size).data.toList) (c := c) (k := i - f) (by rw [extB_at (by omega)]; simp only [show f + (i - f) = i by omega, hc]) (fun j hj => by
    rw [extB_at (by omega)]
    intro e
    exact hn (f + j) (by omega) (by omega) (by omega) (by simpa using e))
  have hz : (s.extract f s.size).size = s.size - f := by rw [ByteArray.size_extract]; omega
  rw [partsS_some e (by rw [hz]; omega), hz]
  congr 1
  · apply Go.WideShapes.bytes_inj
    have eT : s.data.toList.take s.size = s.data.toList := List.take_of_length_le (by simp)
    simp only [ext_data, eT, List.drop_zero, List.drop_take, Nat.sub_zero]
  · congr 1
    apply Go.WideShapes.bytes_inj
    have eT : s.data.toList.take s.size = s.data.toList := List.take_of_length_le (by simp)
    have eU : (s.data.toList.drop f).take (s.size - f) = s.data.toList.drop f := List.take_of_length_le (by simp)
    simp only [ext_data, eT, eU, List.drop_drop]
    congr 1
    omega
theorem partsB_end {c : UInt8} {s : ByteArray} {f : Nat} (hn : noB c s f s.size) : partsS c (s.extract f s.size) = [s.extract f s.size] := by
  refine partsS_none (index_not fun j => ?_)
  by_cases h : f + j < s.size
  · rw [extB_at h]
    intro e
    exact hn (f + j) h (by omega) h (by simpa using e)
  · rw [extB_none h]
    simp
theorem bB_c {c : UInt8} {n : Int} (hcn : (c.toNat : Int) = n) {s : ByteArray} {i : Nat} (h : i < s.size) (hc : s[i] = c) : ((s[i].toNat : Int) != n) = false := by rw [hc, hcn]; simp
theorem bB_n {c : UInt8} {n : Int} (hcn : (c.toNat : Int) = n) {s : ByteArray} {i : Nat} (h : i < s.size) (hc : s[i] ≠ c) : ((s[i].toNat : Int) != n) = true := by
  rw [bne_iff_ne]
  intro e
  apply hc
  apply UInt8.toNat_inj.1
  omega

end Go.Proofs.YtelcmkccfjdmjaaGreatDoor
