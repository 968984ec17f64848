/-
  Commands as lines, in plain Lean: a line that is a command is printed such that it is read as the same one.
-/
import Derived.Test.YtelcmkccfjdmjaaGreatDoorCnD
import Derived.Test.YtelcmkccfjdmjaaGreatDoorGbLaw
namespace Go.Proofs.YtelcmkccfjdmjaaGreatDoor
open Go.Proofs Go.RowKit Go.Shelf

/-! words that were found are words, and no longer than the line -/
theorem wordsGo_word : ∀ (l cur : List UInt8) (out o : List ByteArray), (∀ c ∈ cur, signB c = true) → (∀ x ∈ out, wordB x = true) → wordsGo l cur out = some o → ∀ x ∈ o, wordB x = true
  | [], cur, out, o, hc, ho, h => by
    rw [wordsGo] at h
    obtain rfl := Option.some.inj h
    unfold flushW
    split
    · exact ho
    · rename_i hne
      intro x hx
      rcases List.mem_append.1 hx with hx | hx
      · exact ho x hx
      · rw [List.mem_singleton] at hx
        subst hx
        exact wordB_of (by simpa using hne) (by simpa using hc)
  | c :: r, cur, out, o, hc, ho, h => by
    rw [wordsGo] at h
    split at h
    · rename_i hs
      refine wordsGo_word r (cur ++ [c]) out o ?_ ho h
      intro d hd
      rcases List.mem_append.1 hd with hd | hd
      · exact hc d hd
      · rw [List.mem_singleton] at hd
        exact hd ▸ hs
    · split at h
      · refine wordsGo_word r [] (flushW cur out) o (by simp) ?_ h
        unfold flushW
        split
        · exact ho
        · rename_i hne
          intro x hx
          rcases List.mem_append.1 hx with hx | hx
          · exact ho x hx
          · rw [List.mem_singleton] at hx
            subst hx
            exact wordB_of (by simpa using hne) (by simpa using hc)
      · cases h

/-- what words take, each with one sign behind it -/
def costW (o : List ByteArray) : Nat := (o.map fun x => x.size + 1).sum
theorem costW_snoc (o : List ByteArray) (x : ByteArray) : costW (o ++ [x]) = costW o + (x.size + 1) := by simp [costW]
theorem flush_cost (cur : List UInt8) (out : List ByteArray) : costW (flushW cur out) ≤ costW out + cur.length + (if cur = [] then 0 else 1) := by
  unfold flushW
  split
  · omega
  · rw [costW_snoc, Lib.size_eq]
    simp
    omega
theorem wordsGo_cost : ∀ (l cur : List UInt8) (out o : List ByteArray), wordsGo l cur out = some o → costW o ≤ costW out + cur.length + 1 + l.length
  | [], cur, out, o, h => by
    rw [wordsGo] at h
    obtain rfl := Option.some.inj h
    have := flush_cost cur out
    split at this <;> simp <;> omega
  | c :: r, cur, out, o, h => by
    rw [wordsGo] at h
    split at h
    · have := wordsGo_cost r (cur ++ [c]) out o h
      simp at this ⊢
      omega
    · split at h
      · have h1 := wordsGo_cost r [] (flushW cur out) o h
        have := flush_cost cur out
        simp at h1 ⊢
        split at this <;> omega
      · cases h
theorem wordsF_found {s : ByteArray} {o : List ByteArray} (h : wordsF s = (o, 0)) : (∀ x ∈ o, wordB x = true) ∧ costW o ≤ s.size + 1 ∧ o.length ≤ 16384 ∧ s.size ≤ 65536 := by
  unfold wordsF at h
  split at h
  · cases h
  · rename_i hs
    split at h
    · cases h
    · rename_i l hl
      split at h
      · cases h
      · rename_i hn
        cases h
        refine ⟨wordsGo_word _ [] [] _ (by simp) (by simp) hl, ?_, by omega, by omega⟩
        have := wordsGo_cost _ [] [] _ hl
        have e : s.data.toList.length = s.size := by simp
        simp [costW] at this ⊢
        omega
theorem lens_map (l : List ByteArray) : Lib.lens (tl l) + l.length = costW l := by
  induction l with
  | nil => rfl
  | cons x r ih =>
    have e : costW (x :: r) = (x.size + 1) + costW r := by simp [costW]
    have e2 : Lib.lens (tl (x :: r)) = x.size + Lib.lens (tl r) := by
      unfold Lib.lens tl
      simp
    rw [e, e2, ← ih, List.length_cons]
    omega
theorem join_fits {l : List ByteArray} (hne : l ≠ []) : (Lib.join (tl l) [32]).length + 1 = costW l := by
  rw [join_len]
  unfold joinSz
  have h := lens_map l
  have hl : 0 < l.length := List.length_pos_iff.2 hne
  rw [List.take_of_length_le (by simp [tl])]
  omega
theorem join_words {l : List ByteArray} (hne : l ≠ []) (h : ∀ x ∈ l, wordB x = true) (hn : l.length ≤ 16384) (hc : costW l ≤ 65537) : (joinF l).2 = 0 ∧ wordsF (joinF l).1 = (l, 0) := by
  have hj := join_fits hne
  have h1 := joinF_ok (l := l) (by rw [List.any_eq_true]; rintro ⟨x, hx, hw⟩; rw [h x hx] at hw; cases hw) (by omega) (by omega)
  exact ⟨by rw [h1], wordsF_join (by rw [h1])⟩

/-! upper case -/
theorem upB_sign (c : UInt8) : signB c = true → signB (upB c) = true := by
  revert c
  intro c
  have : ∀ n : Fin 256, signB (UInt8.ofNat n) = true → signB (upB (UInt8.ofNat n)) = true := by decide +kernel
  have := this ⟨c.toNat, c.toNat_lt⟩
  simpa using this
theorem upS_size (s : ByteArray) : (upS s).size = s.size := by
  rw [Lib.size_eq, Lib.size_eq]
  simp [upS]
theorem upS_word {s : ByteArray} (h : wordB s = true) : wordB (upS s) = true := by
  obtain ⟨h1, h2⟩ := wordB_signs h
  refine wordB_of (by simpa [upS] using h1) ?_
  intro c hc
  have hc' : c ∈ s.data.toList.map upB := by simpa [upS] using hc
  obtain ⟨d, hd, rfl⟩ := List.mem_map.1 hc'
  exact upB_sign d (h2 d hd)
theorem upS_name {nm : ByteArray} (h : isNm nm = true) : upS nm = nm := by
  have hx := isNm_cases h
  revert nm
  have : ∀ x ∈ nameL, upS x = x := by decide +kernel
  exact fun nm _ hx => this nm hx

/-! numbers and ratios are printed as they were written -/
theorem parse_nonneg {s : ByteArray} {v : Int} (h : parseI s = (v, 0)) : 0 ≤ v ∧ v < 18446744073709551616 := by
  have := parseI_le s
  rw [h] at this
  exact this
theorem intI_back {s : ByteArray} {m v : Int} (h : intI s m = (v, 0)) : parseI s = (v, 0) := by
  unfold intI at h
  split at h
  · rename_i h0
    exact absurd (Prod.mk.inj h).2 h0
  · rename_i h0
    split at h
    · cases h
    · have := (Prod.mk.inj h).1
      exact Prod.ext this (Decidable.not_not.1 h0)
theorem itoaT_back {s : ByteArray} {v : Int} (h : parseI s = (v, 0)) : itoaT v = s := by
  have h0 := parse_nonneg h
  rw [itoaT_nonneg h0.1]
  unfold refT
  rw [Int.max_eq_left h0.1, print_parse h]
theorem ratio_back {s : ByteArray} {q : Int × Int} (h : parseR s = (q, 0)) : ratioT q.1 q.2 = s := by
  rcases slI_cases s with h1 | ⟨i, h1, hi⟩
  · rw [parseR_none h1] at h
    cases h
  · rw [parseR_at h1] at h
    unfold parseP at h
    split at h
    · cases h
    · rename_i h2
      have ha : (parseI (s.extract 0 i)).2 = 0 := Decidable.byContradiction fun e => h2 (.inl e)
      have hb : (parseI (s.extract (i + 1) s.size)).2 = 0 := Decidable.byContradiction fun e => h2 (.inr e)
      split at h
      · rename_i hr
        obtain rfl := (Prod.mk.inj h).1
        unfold ratioT
        rw [if_pos hr, print_parse (s := s.extract 0 i) (Prod.ext rfl ha), print_parse (s := s.extract (i + 1) s.size) (Prod.ext rfl hb)]
        apply Go.WideShapes.bytes_inj
        have h3 := (Lib.indexByte_some h1).1
        have hl : i < s.data.toList.length := (List.getElem?_eq_some_iff.1 h3).1
        have hg : s.data.toList[i] = 47 := (List.getElem?_eq_some_iff.1 h3).2
        rw [ByteArray.data_append, ByteArray.data_append, Array.toList_append, Array.toList_append, ext_data, ext_data, List.drop_zero, List.take_of_length_le (i := s.size) (by simp)]
        show s.data.toList.take i ++ [47] ++ s.data.toList.drop (i + 1) = s.data.toList
        rw [List.append_assoc, List.singleton_append, ← hg, ← List.drop_eq_getElem_cons hl, List.take_append_drop]
      · cases h

/-! a rank's text -/
theorem split_join (c : UInt8) : ∀ l, Lib.join (splitB c l) [c] = l
  | [] => rfl
  | x :: r => by
    have ih := split_join c r
    obtain ⟨h, t, e⟩ := splitB_cons c r
    rw [splitB]
    rw [e] at ih ⊢
    split
    · rename_i hx
      subst hx
      rw [show Lib.join ([] :: h :: t) [x] = [] ++ [x] ++ Lib.join (h :: t) [x] by simp [Lib.join], ih]
      rfl
    · show Lib.join ((x :: h) :: t) [c] = x :: r
      cases t with
      | nil =>
        rw [show Lib.join [h] [c] = h by simp [Lib.join]] at ih
        rw [show Lib.join [x :: h] [c] = x :: h by simp [Lib.join], ih]
      | cons m t =>
        rw [show Lib.join (h :: m :: t) [c] = h ++ c :: Lib.join (m :: t) [c] by simp [Lib.join]] at ih
        rw [show Lib.join ((x :: h) :: m :: t) [c] = (x :: h) ++ c :: Lib.join (m :: t) [c] by simp [Lib.join], List.cons_append, ih]
theorem parts_join (s : ByteArray) : joinC (partsS 44 s) = s := by
  unfold joinC partsS tlD
  apply Go.WideShapes.bytes_inj
  rw [List.map_map, List.map_congr_left (g := id) (fun l _ => by simp), List.map_id, split_join]
theorem rank_back {s : ByteArray} {l : List Int} (h : rankP s = (l, 0)) (h0 : s.size ≠ 0) : textL l = s ∧ 0 < l.length := by
  unfold rankP at h
  rw [if_neg h0] at h
  split at h
  · cases h
  · split at h
    · cases h
    · rename_i h1 h2
      obtain rfl := (Prod.mk.inj h).1
      have hw : wideK (partsS 44 s) = false := by
        cases e : wideK (partsS 44 s) with
        | false => rfl
        | true => rw [e] at h2; simp at h2
      have hr : rankB (valsK (partsS 44 s)) = true := by
        cases e : rankB (valsK (partsS 44 s)) with
        | true => rfl
        | false => rw [e] at h2; simp at h2
      have hm : (valsK (partsS 44 s)).map printI = partsS 44 s := by
        unfold valsK
        rw [List.map_map]
        conv => rhs; rw [← List.map_id (partsS 44 s)]
        refine List.map_congr_left fun p hp => ?_
        unfold wideK at hw
        rw [List.any_eq_false] at hw
        have := hw p hp
        simp at this
        exact print_parse (s := p) (Prod.ext rfl this.1)
      refine ⟨?_, ?_⟩
      · unfold textL
        rw [if_pos hr, hm, parts_join]
      · unfold valsK
        rw [List.length_map]
        unfold partsS
        rw [List.length_map]
        exact List.length_pos_iff.2 (splitB_ne _ _)

end Go.Proofs.YtelcmkccfjdmjaaGreatDoor

namespace Go.Proofs.YtelcmkccfjdmjaaGreatDoor
open Go.Proofs Go.RowKit Go.Shelf

/-! what stands behind a name -/
def isIK (k : UInt8) : Bool := decide (k ≠ 114) && decide (k ≠ 119) && decide (k ≠ 97)
/-- integers first, then ratios, then a weight just where there is one -/
def Shape (nm : ByteArray) (ks : List UInt8) : Prop :=
  ∃ I R W, ks = I ++ (R ++ W) ∧ (∀ k ∈ I, isIK k = true) ∧ (∀ k ∈ R, k = 114) ∧ ((W = [] ∧ isSW nm = false) ∨ ∃ k, W = [k] ∧ (k = 119 ∨ k = 97) ∧ isSW nm = true)
def shapeB (nm : ByteArray) (ks : List UInt8) : Bool :=
  let I := ks.takeWhile isIK
  let R := (ks.drop I.length).takeWhile (fun k => decide (k = 114))
  let W := (ks.drop I.length).drop R.length
  if isSW nm then decide (W = [119]) || decide (W = [97]) else decide (W = [])
theorem take_while_append {p : UInt8 → Bool} (l : List UInt8) : l = l.takeWhile p ++ l.drop (l.takeWhile p).length := by
  induction l with
  | nil => rfl
  | cons x r ih =>
    rw [List.takeWhile_cons]
    split
    · rw [List.cons_append, List.length_cons, List.drop_succ_cons, ← ih]
    · rfl
theorem mem_while {p : UInt8 → Bool} : ∀ {l : List UInt8} {x : UInt8}, x ∈ l.takeWhile p → p x = true
  | [], x, h => by simp at h
  | y :: r, x, h => by
    rw [List.takeWhile_cons] at h
    split at h
    · rename_i hy
      rcases List.mem_cons.1 h with rfl | h
      · exact hy
      · exact mem_while h
    · simp at h
theorem shape_of {nm : ByteArray} {ks : List UInt8} (h : shapeB nm ks = true) : Shape nm ks := by
  unfold shapeB at h
  have e1 := take_while_append (p := isIK) ks
  have e2 := take_while_append (p := fun k => decide (k = 114)) (ks.drop (ks.takeWhile isIK).length)
  refine ⟨ks.takeWhile isIK, (ks.drop (ks.takeWhile isIK).length).takeWhile (fun k => decide (k = 114)), _, e1.trans (congrArg (ks.takeWhile isIK ++ ·) e2), fun k hk => mem_while hk, fun k hk => ?_, ?_⟩
  · have := mem_while hk
    simpa using this
  cases hs : isSW nm with
  | false =>
    rw [hs] at h
    exact .inl ⟨by simpa using h, rfl⟩
  | true =>
    rw [hs] at h
    simp only [if_true, Bool.or_eq_true, decide_eq_true_eq] at h
    rcases h with h | h
    · exact .inr ⟨119, h, .inl rfl, rfl⟩
    · exact .inr ⟨97, h, .inr rfl, rfl⟩
theorem kinds_shape {nm : ByteArray} {n : Nat} (hn : isNm nm = true) (h : (kindsC nm n).2 = true) : Shape nm (kindsC nm n).1.data.toList ∧ (kindsC nm n).1.data.toList.length = n := by
  by_cases ht : nm = tourC
  · subst ht
    unfold kindsC at h ⊢
    rw [if_pos rfl]
    have e : (cb (List.replicate n 110)).data.toList = List.replicate n 110 := by simp [cb]
    rw [e]
    refine ⟨⟨List.replicate n 110, [], [], by simp, ?_, by simp, .inl ⟨rfl, by decide⟩⟩, by simp⟩
    intro k hk
    rw [List.eq_of_mem_replicate hk]
    decide
  · unfold kindsC at h ⊢
    rw [if_neg ht] at h ⊢
    have hall : ∀ x ∈ nameL, x ≠ tourC → ∃ p, formL.find? (fun p => decide (p.1 = x)) = some p ∧ shapeB x p.2.data.toList = true := by decide +kernel
    obtain ⟨p, hp, hsh⟩ := hall nm (isNm_cases hn) ht
    rw [hp] at h ⊢
    have h2 : p.2.size = n := by simpa using h
    exact ⟨shape_of hsh, by rw [← Lib.size_eq]; exact h2⟩

theorem foldC_cons (c : CmD) (k : UInt8) (ks : List UInt8) (x : ByteArray) (xs : List ByteArray) : foldC c (k :: ks) (x :: xs) = if tkF k x = 0 then foldC (tkC k x c) ks xs else (cmd0, tkF k x) := by rw [foldC]
theorem fold_zero {c d : CmD} {k : UInt8} {ks : List UInt8} {x : ByteArray} {xs : List ByteArray} (h : foldC c (k :: ks) (x :: xs) = (d, 0)) : tkF k x = 0 ∧ foldC (tkC k x c) ks xs = (d, 0) := by
  rw [foldC_cons] at h
  split at h
  · rename_i h0
    exact ⟨h0, h⟩
  · rename_i h0
    exact absurd (Prod.mk.inj h).2 h0
theorem foldC_stop (c : CmD) (xs : List ByteArray) : foldC c [] xs = (c, 0) := by
  rw [foldC]
  intro k ks x xs h
  cases h
theorem fold_ints : ∀ (I ks : List UInt8) (xs : List ByteArray) (c d : CmD), (∀ k ∈ I, isIK k = true) → I.length ≤ xs.length → foldC c (I ++ ks) xs = (d, 0) →
    ∃ ns : List Int, ns.map itoaT = xs.take I.length ∧ foldC { c with ints := c.ints ++ ns } ks (xs.drop I.length) = (d, 0)
  | [], ks, xs, c, d, _, _, h => ⟨[], rfl, by simpa using h⟩
  | k :: I, ks, [], c, d, _, hl, _ => by simp at hl
  | k :: I, ks, x :: xs, c, d, hI, hl, h => by
    obtain ⟨h0, h1⟩ := fold_zero h
    have hk := hI k (by simp)
    unfold isIK at hk
    simp only [Bool.and_eq_true, decide_eq_true_eq] at hk
    obtain ⟨⟨k1, k2⟩, k3⟩ := hk
    have ht : tkC k x c = { c with ints := c.ints ++ [(intI x (mostC k)).1] } := by
      unfold tkC
      rw [if_neg k1, if_neg (by rintro (e | e) <;> contradiction)]
    rw [ht] at h1
    obtain ⟨ns, e1, e2⟩ := fold_ints I ks xs _ d (fun j hj => hI j (by simp [hj])) (by simp at hl; omega) h1
    have hf : (intI x (mostC k)).2 = 0 := by
      unfold tkF at h0
      rw [if_neg k1, if_neg k2, if_neg k3] at h0
      split at h0
      · cases h0
      · exact h0
    refine ⟨(intI x (mostC k)).1 :: ns, ?_, ?_⟩
    · rw [List.map_cons, e1, itoaT_back (intI_back (Prod.ext rfl hf))]
      rfl
    · simpa using e2
theorem fold_rats : ∀ (R ks : List UInt8) (xs : List ByteArray) (c d : CmD), (∀ k ∈ R, k = 114) → R.length ≤ xs.length → foldC c (R ++ ks) xs = (d, 0) →
    ∃ qs : List (Int × Int), qs.map (fun q => ratioT q.1 q.2) = xs.take R.length ∧ foldC { c with rats := c.rats ++ qs } ks (xs.drop R.length) = (d, 0)
  | [], ks, xs, c, d, _, _, h => ⟨[], rfl, by simpa using h⟩
  | k :: R, ks, [], c, d, _, hl, _ => by simp at hl
  | k :: R, ks, x :: xs, c, d, hR, hl, h => by
    obtain ⟨h0, h1⟩ := fold_zero h
    obtain rfl := hR k (by simp)
    have ht : tkC 114 x c = { c with rats := c.rats ++ [(parseR x).1] } := if_pos rfl
    rw [ht] at h1
    obtain ⟨qs, e1, e2⟩ := fold_rats R ks xs _ d (fun j hj => hR j (by simp [hj])) (by simp at hl; omega) h1
    have hf : (parseR x).2 = 0 := h0
    refine ⟨(parseR x).1 :: qs, ?_, ?_⟩
    · rw [List.map_cons, e1, ratio_back (Prod.ext rfl hf)]
      rfl
    · simpa using e2
theorem fold_w {k : UInt8} (hk : k = 119 ∨ k = 97) {x : ByteArray} {c d : CmD} (h : foldC c [k] [x] = (d, 0)) : d = { c with w := (parseI x).1 } ∧ printI (parseI x).1 = x := by
  obtain ⟨h0, h1⟩ := fold_zero h
  rw [foldC_stop] at h1
  have hf : (parseI x).2 = 0 := by
    unfold tkF at h0
    rcases hk with rfl | rfl
    · rw [if_neg (by decide), if_pos rfl] at h0
      split at h0
      · cases h0
      · exact h0
    · rw [if_neg (by decide), if_neg (by decide), if_pos rfl] at h0
      exact h0
  refine ⟨?_, print_parse (Prod.ext rfl hf)⟩
  rw [← (Prod.mk.inj h1).1]
  unfold tkC
  rw [if_neg (by rcases hk with rfl | rfl <;> decide), if_pos hk]
theorem split_three {I R W : List UInt8} {tl : List ByteArray} (h : (I ++ (R ++ W)).length = tl.length) : tl = tl.take I.length ++ ((tl.drop I.length).take R.length ++ (tl.drop I.length).drop R.length) ∧ ((tl.drop I.length).drop R.length).length = W.length := by
  refine ⟨by rw [List.take_append_drop, List.take_append_drop], ?_⟩
  simp only [List.length_append, List.length_drop] at h ⊢
  omega

theorem wordsBy_mk {nm : ByteArray} (ns : List Int) (v : Int) (qs : List (Int × Int)) (h1 : nm ≠ loadC) (h2 : nm ≠ buildC) :
    wordsBy itoaT ⟨nm, ns, v, qs, 0, [], []⟩ = nm :: (ns.map itoaT ++ (qs.map (fun q => ratioT q.1 q.2) ++ (if isSW nm = true then [printI v] else []))) := by
  unfold wordsBy
  rw [if_neg h1, if_neg (fun e => h2 e.1)]
/-- the words of what was read -/
theorem words_rest {nm : ByteArray} {tl : List ByteArray} {c : CmD} (hn : isNm nm = true) (hl : tl.length ≤ 16383) (hw : ∀ x ∈ tl, wordB x = true) (h : restC nm tl = (c, 0)) : wordsBy itoaT c = nm :: tl := by
  unfold restC at h
  split at h
  · rename_i h1
    subst h1
    split at h
    · rename_i hf
      obtain rfl := (Prod.mk.inj h).1
      unfold wordsBy
      rw [if_pos rfl]
      rcases parse_cases tl with ⟨a, f, e, hne⟩ | ⟨x, e, hr, hlen, hk⟩
      · rw [e] at hf
        exact absurd hf hne
      · rw [e]
        have : wordsG x = (tl, 0) := by
          unfold wordsG
          rw [if_neg (fun e => e hr), if_neg (by omega), hk]
        show loadC :: (wordsG x).1 = _
        rw [this]
    · rename_i hf
      exact absurd (Prod.mk.inj h).2 hf
  · rename_i h1
    split at h
    · rename_i h2
      subst h2
      match tl, h with
      | [], h =>
        obtain rfl := (Prod.mk.inj h).1
        unfold wordsBy
        rw [if_neg h1, if_neg (by simp [cmd0])]
        have : isSW buildC = false := by decide
        simp [cmd0, this]
      | [x], h =>
        simp only at h
        split at h
        · rename_i hf
          obtain rfl := (Prod.mk.inj h).1
          have hx := (wordB_signs (hw x (by simp))).1
          have h0 : x.size ≠ 0 := by
            intro e
            apply hx
            exact List.eq_nil_of_length_eq_zero (by simpa using e)
          obtain ⟨e1, e2⟩ := rank_back (s := x) (l := (rankP x).1) (Prod.ext rfl hf) h0
          unfold wordsBy
          rw [if_neg h1, if_pos ⟨rfl, e2⟩]
          show [buildC, textL (rankP x).1] = _
          rw [e1]
        · rename_i hf
          exact absurd (Prod.mk.inj h).2 hf
      | x :: y :: t, h => cases h
    · rename_i h2
      split at h
      · rename_i hk
        obtain ⟨⟨I, R, W, hks, hI, hR, hW⟩, hlen⟩ := kinds_shape hn hk
        rw [hks] at h hlen
        obtain ⟨hsp, hlw⟩ := split_three hlen
        simp only [List.length_append] at hlen
        obtain ⟨ns, e1, h3⟩ := fold_ints I _ tl _ c hI (by omega) h
        obtain ⟨qs, e2, h4⟩ := fold_rats R _ (tl.drop I.length) _ c hR (by simp; omega) h3
        rcases hW with ⟨rfl, hsw⟩ | ⟨k, rfl, hk2, hsw⟩
        · rw [foldC_stop] at h4
          have hc := (Prod.mk.inj h4).1
          have h5 : (tl.drop I.length).drop R.length = [] := List.eq_nil_of_length_eq_zero hlw
          rw [h5, List.append_nil, ← e1, ← e2] at hsp
          rw [← hc]
          show wordsBy itoaT ⟨nm, [] ++ ns, 0, [] ++ qs, 0, [], []⟩ = _
          rw [List.nil_append, List.nil_append, wordsBy_mk _ _ _ h1 h2, hsw, if_neg (by decide), List.append_nil, ← hsp]
        · obtain ⟨x, hx⟩ : ∃ x, (tl.drop I.length).drop R.length = [x] := by
            rcases hq : (tl.drop I.length).drop R.length with _ | ⟨x, _ | ⟨y, t⟩⟩
            · rw [hq] at hlw; simp at hlw
            · exact ⟨x, rfl⟩
            · rw [hq] at hlw; simp at hlw
          rw [hx] at h4 hsp
          obtain ⟨hc, e3⟩ := fold_w hk2 h4
          rw [← e1, ← e2] at hsp
          rw [hc]
          show wordsBy itoaT ⟨nm, [] ++ ns, (parseI x).1, [] ++ qs, 0, [], []⟩ = _
          rw [List.nil_append, List.nil_append, wordsBy_mk _ _ _ h1 h2, hsw, if_pos rfl, e3, ← hsp]
      · cases h

theorem costW_mem {l : List ByteArray} {x : ByteArray} (h : x ∈ l) : x.size + 1 ≤ costW l := by
  induction l with
  | nil => simp at h
  | cons y r ih =>
    have e : costW (y :: r) = (y.size + 1) + costW r := by simp [costW]
    rcases List.mem_cons.1 h with rfl | h
    · omega
    · have := ih h
      omega
/-- a line that is a command is printed such that it is read as the same one -/
theorem cmd_back {line : ByteArray} {c : CmD} (h : parseC line = (c, 0)) : ∃ s, printBy itoaT c = (s, 0) ∧ parseC s = (c, 0) ∧ s.size ≤ 65536 ∧ ∀ x ∈ wordsBy itoaT c, x.size ≤ 131072 := by
  unfold parseC at h
  split at h
  · rename_i hf
    exact absurd (Prod.mk.inj h).2 hf
  · rename_i hf
    have hf0 : (wordsF line).2 = 0 := Decidable.not_not.1 hf
    obtain ⟨hw, hc, hn, hs⟩ := wordsF_found (s := line) (o := (wordsF line).1) (Prod.ext rfl hf0)
    generalize (wordsF line).1 = ws at *
    match ws, h with
    | [], h => cases h
    | a :: tl, h =>
      simp only at h
      split at h
      · rename_i hnm
        have hb := words_rest hnm (by simp at hn; omega) (fun x hx => hw x (by simp [hx])) h
        have hcost : costW (upS a :: tl) = costW (a :: tl) := by simp [costW, upS_size]
        obtain ⟨j1, j2⟩ := join_words (l := upS a :: tl) (by simp) (by
          intro x hx
          rcases List.mem_cons.1 hx with rfl | hx
          · exact upS_word (hw a (by simp))
          · exact hw x (by simp [hx])) (by simpa using hn) (by omega)
        have hp : parseC (joinF (upS a :: tl)).1 = (c, 0) := by
          unfold parseC
          rw [j2]
          rw [if_neg (fun e => e rfl)]
          show (if isNm (upS (upS a)) then restC (upS (upS a)) tl else (cmd0, 10)) = _
          rw [upS_name hnm, if_pos hnm, h]
        refine ⟨(joinF (upS a :: tl)).1, ?_, hp, joinF_size _, fun x hx => by rw [hb] at hx; have := costW_mem hx; omega⟩
        unfold printBy
        rw [hb, if_neg (fun e => e j1), if_pos hp]
      · cases h

end Go.Proofs.YtelcmkccfjdmjaaGreatDoor

namespace Go.Proofs.YtelcmkccfjdmjaaGreatDoor
open Go.Proofs Go.RowKit Go.Shelf

/-! what was read is within its types -/
structure BdC (k : Nat) (c : CmD) : Prop where
  li : c.ints.length ≤ k
  lq : c.rats.length ≤ k
  bi : ∀ n ∈ c.ints, -9223372036854775808 ≤ n ∧ n ≤ 9223372036854775807
  bq : ∀ q ∈ c.rats, 0 ≤ q.1
  bw : 0 ≤ c.w ∧ c.w < 18446744073709551616
theorem BdC.zero (k : Nat) : BdC k cmd0 := ⟨by simp [cmd0], by simp [cmd0], by simp [cmd0], by simp [cmd0], by decide⟩
theorem intI_bd (s : ByteArray) {m : Int} (hm : m ≤ 9223372036854775807) : -9223372036854775808 ≤ (intI s m).1 ∧ (intI s m).1 ≤ 9223372036854775807 := by
  have := parseI_le s
  unfold intI
  split
  · simp
  · split
    · simp
    · simp only
      omega
theorem parseR_bd (s : ByteArray) : 0 ≤ (parseR s).1.1 := by
  unfold parseR
  split
  · simp
  · unfold parseP
    split
    · simp
    · split
      · exact (parseI_le _).1
      · simp
theorem mostC_le (k : UInt8) : mostC k ≤ 9223372036854775807 := by
  unfold mostC
  split
  · decide
  · split
    · decide
    · split <;> decide
theorem BdC.tk {k : Nat} {c : CmD} (h : BdC k c) (j : UInt8) (x : ByteArray) : BdC (k + 1) (tkC j x c) := by
  obtain ⟨h1, h2, h3, h4, h5⟩ := h
  unfold tkC
  split
  · refine ⟨Nat.le_succ_of_le h1, by simp; omega, h3, ?_, h5⟩
    intro q hq
    rcases List.mem_append.1 hq with hq | hq
    · exact h4 q hq
    · rw [List.mem_singleton] at hq
      subst hq
      exact parseR_bd x
  · split
    · exact ⟨Nat.le_succ_of_le h1, Nat.le_succ_of_le h2, h3, h4, parseI_le x⟩
    · refine ⟨by simp; omega, Nat.le_succ_of_le h2, ?_, h4, h5⟩
      intro n hn
      rcases List.mem_append.1 hn with hn | hn
      · exact h3 n hn
      · rw [List.mem_singleton] at hn
        subst hn
        exact intI_bd x (mostC_le j)
theorem BdC.fold : ∀ (ks : List UInt8) (xs : List ByteArray) (k : Nat) (c : CmD), BdC k c → BdC (k + xs.length) (foldC c ks xs).1
  | [], xs, k, c, h => by
    rw [foldC_stop]
    exact ⟨Nat.le_trans h.li (by omega), Nat.le_trans h.lq (by omega), h.bi, h.bq, h.bw⟩
  | j :: ks, [], k, c, h => by
    rw [show foldC c (j :: ks) [] = (c, 0) by rw [foldC]; intro k ks x xs h h2; cases h2]
    exact h
  | j :: ks, x :: xs, k, c, h => by
    rw [foldC_cons]
    split
    · have := BdC.fold ks xs (k + 1) _ (h.tk j x)
      rw [List.length_cons]
      rw [show k + (xs.length + 1) = k + 1 + xs.length by omega]
      exact this
    · exact BdC.zero _
theorem restC_bd {nm : ByteArray} {tl : List ByteArray} (hl : tl.length ≤ 16384) : BdC 16384 (restC nm tl).1 := by
  have hz : ∀ g e r, BdC 16384 { cmd0 with name := nm, gn := g, ge := e, rank := r } := fun g e r => ⟨by simp [cmd0], by simp [cmd0], by simp [cmd0], by simp [cmd0], by simp [cmd0]⟩
  unfold restC
  split
  · split
    · exact hz _ _ _
    · exact BdC.zero _
  · split
    · match tl with
      | [] => exact hz _ _ _
      | [x] =>
        simp only
        split
        · exact hz _ _ _
        · exact BdC.zero _
      | x :: y :: t => exact BdC.zero _
    · split
      · have := BdC.fold (kindsC nm tl.length).1.data.toList tl 0 { cmd0 with name := nm } ⟨by simp [cmd0], by simp [cmd0], by simp [cmd0], by simp [cmd0], by simp [cmd0]⟩
        exact ⟨Nat.le_trans this.li (by omega), Nat.le_trans this.lq (by omega), this.bi, this.bq, this.bw⟩
      · exact BdC.zero _
theorem parseC_bd (s : ByteArray) : BdC 16384 (parseC s).1 := by
  have h := wordsF_len s
  unfold parseC
  split
  · exact BdC.zero _
  · split
    · exact BdC.zero _
    · rename_i a tl e
      rw [e] at h
      simp at h
      split
      · exact restC_bd (by omega)
      · exact BdC.zero _
theorem restC_rank {nm : ByteArray} {tl : List ByteArray} (hs : ∀ x ∈ tl, x.size ≤ 65536) : (restC nm tl).1.rank.length ≤ 65537 := by
  unfold restC
  split
  · split <;> simp [cmd0]
  · split
    · match tl, hs with
      | [], _ => simp [cmd0]
      | [x], hs =>
        simp only
        split
        · exact Nat.le_trans (rankP_small x) (by have := hs x (by simp); omega)
        · simp [cmd0]
      | x :: y :: t, _ => simp [cmd0]
    · split
      · have : ∀ (ks : List UInt8) (c : CmD) (xs : List ByteArray), c.rank = [] → (foldC c ks xs).1.rank = [] := by
          intro ks
          induction ks with
          | nil => intro c xs h; rw [foldC_stop]; exact h
          | cons k ks ih =>
            intro c xs h
            cases xs with
            | nil => rw [show foldC c (k :: ks) [] = (c, 0) by rw [foldC]; intro k ks x xs h h2; cases h2]; exact h
            | cons x xs =>
              rw [foldC_cons]
              split
              · refine ih _ _ ?_
                unfold tkC
                split
                · exact h
                · split <;> exact h
              · rfl
        rw [this _ _ _ rfl]
        simp
      · simp [cmd0]
theorem parseC_okC {s : ByteArray} (hs : s.size ≤ 65536) : OkC (parseC s).1 := by
  have h := parseC_bd s
  have h2 := parseC_small hs
  refine ⟨Nat.le_trans h.li (by omega), Nat.le_trans h.lq (by omega), h2.2.2.1, ?_, h.bi, h.bq, h.bw⟩
  obtain ⟨h1, -⟩ := wordsF_sz s
  unfold parseC
  split
  · simp [cmd0]
  · split
    · simp [cmd0]
    · rename_i a tl e
      rw [e] at h1
      split
      · exact Nat.le_trans (restC_rank (fun x hx => Nat.le_trans (h1 x (by simp [hx])) hs)) (by omega)
      · simp [cmd0]

end Go.Proofs.YtelcmkccfjdmjaaGreatDoor
