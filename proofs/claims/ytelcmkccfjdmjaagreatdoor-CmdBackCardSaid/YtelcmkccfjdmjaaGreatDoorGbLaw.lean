/-
  Graphs as words and as text, in plain Lean: what is printed is read as it was, and what is read has just its words.
-/
import Derived.Test.YtelcmkccfjdmjaaGreatDoorNumSpec
import Derived.Test.YtelcmkccfjdmjaaGreatDoorGtC
import Derived.Test.YtelcmkccfjdmjaaGreatDoorGpSpec
import Derived.Test.YtelcmkccfjdmjaaGreatDoorLinesSpec
namespace Go.Proofs.YtelcmkccfjdmjaaGreatDoor
open Go.Proofs Go.RowKit Go.Shelf

/-- a right graph's edges -/
theorem right_edge {g : GD} (h : rightG g = 0) : 1 ≤ g.n ∧ g.n ≤ 4096 ∧ g.es.length ≤ 16384 ∧ ∀ e ∈ g.es, 0 ≤ e.f ∧ e.f < g.n ∧ 0 ≤ e.t ∧ e.t < g.n ∧ e.f ≠ e.t ∧ 1 ≤ e.w ∧ e.w ≤ 4294967296 := by
  obtain ⟨h1, h2, h3, h4⟩ := gright_of h
  refine ⟨h1, h2, h3, fun e he => ?_⟩
  obtain ⟨a, b, c, d, x, y⟩ := h4 e he
  refine ⟨a, b, c, d, fun heq => ?_, x, y⟩
  have hl : g.es.any (looseB g.n) = true := List.any_eq_true.2 ⟨e, he, by unfold looseB; simp [heq]⟩
  rw [rightG_3 (by omega) (by omega) (by omega) hl] at h
  cases h
theorem right_of {g : GD} (h1 : 1 ≤ g.n) (h2 : g.n ≤ 4096) (h3 : g.es.length ≤ 16384) (h4 : ∀ e ∈ g.es, 0 ≤ e.f ∧ e.f < g.n ∧ 0 ≤ e.t ∧ e.t < g.n ∧ e.f ≠ e.t ∧ 1 ≤ e.w ∧ e.w ≤ 4294967296) : rightG g = 0 := by
  refine rightG_5 (by omega) (by omega) (by omega) ?_ ?_
  · rw [List.any_eq_false]
    intro e he
    obtain ⟨a, b, c, d, x, -, -⟩ := h4 e he
    unfold looseB nodeB
    simp [a, b, c, d, x]
  · rw [List.any_eq_false]
    intro e he
    obtain ⟨-, -, -, -, -, x, y⟩ := h4 e he
    unfold weightB
    simp [x, y]

theorem getD_pr {l : List ByteArray} {k : Nat} {s : ByteArray} (h : l[k]? = some s) : l.getD k ByteArray.empty = s := by rw [List.getD_eq_getElem?_getD, h]; rfl
theorem valK_pr {l : List ByteArray} {k : Nat} {v : Int} (h : l[k]? = some (printI v)) (h0 : 0 ≤ v) (h1 : v < 18446744073709551616) : valK l k = v := by
  unfold valK
  rw [getD_pr h, parse_print h0 h1]
theorem nextS_pr {l : List ByteArray} {k : Nat} {v : Int} {may : Int → Int} (h : l[k]? = some (printI v)) (h0 : 0 ≤ v) (h1 : v < 18446744073709551616) (hm : may v = 0) : nextS l k 0 may = (v, k + 1, 0) := by
  have hk := (List.getElem?_eq_some_iff.1 h).1
  unfold nextS
  rw [if_neg (by simp), if_neg (by omega), getD_pr h, parse_print h0 h1, valK_pr h h0 h1, hm]
  simp
theorem withinF_ok {a b f n : Int} (h0 : a ≤ n) (h1 : n ≤ b) : withinF a b f n = 0 := by unfold withinF; rw [if_neg (by omega)]
theorem firstS_pr {n m : Int} (hn : 1 ≤ n ∧ n ≤ 4096) (hm : 0 ≤ m ∧ m ≤ 16384) : firstS [printI n, printI m] = (n, m, 2, 0) := by
  have e0 : nextS [printI n, printI m] 0 0 (withinF 1 4096 2) = (n, 1, 0) := nextS_pr rfl (by omega) (by omega) (withinF_ok hn.1 hn.2)
  have e1 : nextS [printI n, printI m] 1 0 (withinF 0 16384 5) = (m, 2, 0) := nextS_pr rfl (by omega) (by omega) (withinF_ok hm.1 hm.2)
  unfold firstS
  simp only [e0, e1]
theorem edgeS_pr {n : Int} {e : EdgeD} (h : 0 ≤ e.f ∧ e.f < n ∧ 0 ≤ e.t ∧ e.t < n ∧ e.f ≠ e.t ∧ 1 ≤ e.w ∧ e.w ≤ 4294967296) (hn : n ≤ 4096) : edgeS (ofE e) n 0 0 = (e, 3, 0) := by
  obtain ⟨h1, h2, h3, h4, h5, h6, h7⟩ := h
  unfold ofE
  have e0 : nextS [printI e.f, printI e.t, printI e.w] 0 0 (withinF 0 (n - 1) 7) = (e.f, 1, 0) := nextS_pr rfl h1 (by omega) (withinF_ok h1 (by omega))
  have e1 : nextS [printI e.f, printI e.t, printI e.w] 1 0 (fun x => if x = e.f then 7 else withinF 0 (n - 1) 7 x) = (e.t, 2, 0) := nextS_pr rfl h3 (by omega) (by
    show (if e.t = e.f then (7 : Int) else _) = 0
    rw [if_neg (Ne.symm h5)]
    exact withinF_ok h3 (by omega))
  have e2 : nextS [printI e.f, printI e.t, printI e.w] 2 0 (withinF 1 4294967296 2) = (e.w, 3, 0) := nextS_pr rfl (by omega) (by omega) (withinF_ok h6 h7)
  unfold edgeS
  simp only [e0, e1, e2]

/-! words -/
theorem flat_words : ∀ (es : List EdgeD) (i r : Nat) (hi : i < es.length), r < 3 → (es.flatMap ofE)[3 * i + r]? = (ofE es[i])[r]?
  | [], i, r, hi, _ => by simp at hi
  | e :: es, 0, r, _, hr => by
    rw [List.flatMap_cons, List.getElem?_append_left (by simp [ofE]; omega)]
    simp
  | e :: es, i + 1, r, hi, hr => by
    rw [List.flatMap_cons, List.getElem?_append_right (by simp [ofE]; omega)]
    have := flat_words es i r (by simpa using hi) hr
    rw [show (ofE e).length = 3 from rfl, show 3 * (i + 1) + r - 3 = 3 * i + r by omega, this]
    rfl
theorem words_at (g : GD) : (wordsK g g.es.length)[0]? = some (printI g.n) ∧ (wordsK g g.es.length)[1]? = some (printI (g.es.length : Int)) ∧
    ∀ i (hi : i < g.es.length), (wordsK g g.es.length)[2 + 3 * i]? = some (printI g.es[i].f) ∧ (wordsK g g.es.length)[3 + 3 * i]? = some (printI g.es[i].t) ∧ (wordsK g g.es.length)[4 + 3 * i]? = some (printI g.es[i].w) := by
  unfold wordsK
  rw [List.take_length]
  refine ⟨rfl, rfl, fun i hi => ?_⟩
  have key : ∀ r, r < 3 → ([printI g.n, printI (g.es.length : Int)] ++ g.es.flatMap ofE)[2 + 3 * i + r]? = (ofE g.es[i])[r]? := fun r hr => by
    rw [List.getElem?_append_right (by simp; omega)]
    rw [show 2 + 3 * i + r - [printI g.n, printI (g.es.length : Int)].length = 3 * i + r by simp; omega]
    exact flat_words g.es i r hi hr
  exact ⟨key 0 (by decide), by rw [show 3 + 3 * i = 2 + 3 * i + 1 by omega]; exact key 1 (by decide), by rw [show 4 + 3 * i = 2 + 3 * i + 2 by omega]; exact key 2 (by decide)⟩
theorem faultK_pr {l : List ByteArray} {k : Nat} {v : Int} (h : l[k]? = some (printI v)) (h0 : 0 ≤ v) (h1 : v < 18446744073709551616) (hm : mayK (valK l 0) k (valK l (k - 1)) v = 0) : faultK l k = 0 := by
  have hk := (List.getElem?_eq_some_iff.1 h).1
  unfold faultK
  rw [if_pos hk, getD_pr h, parse_print h0 h1, valK_pr h h0 h1]
  simpa using hm
/-- the words of a graph are read as it was -/
theorem parse_words {g : GD} (h : rightG g = 0) : parseG (wordsK g g.es.length) = (g, 0, 0) := by
  obtain ⟨h1, h2, h3, h4⟩ := right_edge h
  obtain ⟨w0, w1, w2⟩ := words_at g
  have hlen := wordsK_length g g.es.length (Nat.le_refl _)
  have hv0 := valK_pr w0 (by omega) (by omega)
  have hv1 := valK_pr w1 (by omega) (by omega)
  have hup : Upto (wordsK g g.es.length) (2 + 3 * g.es.length) := by
    intro j hj
    by_cases j0 : j = 0
    · subst j0
      exact faultK_pr w0 (by omega) (by omega) (by unfold mayK; rw [if_pos rfl]; exact withinF_ok h1 h2)
    by_cases j1 : j = 1
    · subst j1
      exact faultK_pr w1 (by omega) (by omega) (by unfold mayK; rw [if_neg (by decide), if_pos rfl]; exact withinF_ok (by omega) (by omega))
    obtain ⟨i, hi⟩ : ∃ i, j = 2 + 3 * i ∨ j = 3 + 3 * i ∨ j = 4 + 3 * i := ⟨(j - 2) / 3, by omega⟩
    have him : i < g.es.length := by omega
    obtain ⟨a, b, c, d, x, y, z⟩ := h4 _ (List.getElem_mem him)
    obtain ⟨p, q, r⟩ := w2 i him
    rcases hi with rfl | rfl | rfl
    · exact faultK_pr p a (by omega) (by rw [mayK_f (by omega) (by omega), hv0, if_neg (by omega)])
    · exact faultK_pr q c (by omega) (by
        rw [mayK_t (by omega) (by omega), hv0, show 3 + 3 * i - 1 = 2 + 3 * i by omega, valK_pr p a (by omega), if_neg (by omega)])
    · exact faultK_pr r (by omega) (by omega) (by rw [mayK_w (by omega) (by omega)]; exact withinF_ok y z)
  have hneed : needP (wordsK g g.es.length) = 2 + 3 * g.es.length := by
    rw [needP_of (hup.le (by omega)), hv1]
    omega
  rw [parseG_ok (by rw [hneed]; exact hup) (by rw [hneed, hlen]; omega), hv0, hv1]
  congr 1
  obtain ⟨gn, es⟩ := g
  congr 1
  unfold fullEs
  apply List.ext_getElem?
  intro i
  simp only [Int.toNat_natCast]
  by_cases hi : i < es.length
  · obtain ⟨a, b, c, d, x, y, z⟩ := h4 _ (List.getElem_mem hi)
    obtain ⟨p, q, r⟩ := w2 i hi
    dsimp only at p q r
    rw [List.getElem?_map, List.getElem?_range hi, List.getElem?_eq_getElem hi]
    simp only [Option.map_some, edgeK]
    rw [valK_pr p a (by omega), valK_pr q c (by omega), valK_pr r (by omega) (by omega)]
  · rw [List.getElem?_eq_none (by simp; omega), List.getElem?_eq_none (by omega)]

/-- what is read is none, or may be, and has just those words -/
theorem parse_cases (l : List ByteArray) : (∃ at' f, parseG l = (⟨0, []⟩, at', f) ∧ f ≠ 0) ∨ ∃ x, parseG l = (x, 0, 0) ∧ rightG x = 0 ∧ x.es.length * 3 + 2 = l.length ∧ wordsK x x.es.length = l := by
  unfold parseG
  cases hb : firstBad l (needP l) with
  | some k =>
    refine .inl ⟨_, _, rfl, ?_⟩
    unfold firstBad at hb
    have := List.find?_some hb
    simpa using this
  | none =>
    simp only
    have hu : Upto l (needP l) := fun j hj => by
      unfold firstBad at hb
      rw [List.find?_eq_none] at hb
      have := hb j (List.mem_range.2 hj)
      simpa using this
    by_cases hl : needP l < l.length
    · rw [if_pos hl]
      exact .inl ⟨_, _, rfl, by decide⟩
    · rw [if_neg hl]
      refine .inr ⟨_, rfl, ?_⟩
      have h2 : Upto l 2 := hu.le (needP_two l)
      have hneed := needP_of h2
      have hnn := h2.n (by decide)
      have hmm := h2.m (Nat.le_refl _)
      obtain ⟨m, hm⟩ := Int.eq_ofNat_of_zero_le hmm.1
      rw [hm, Int.toNat_natCast] at hneed ⊢
      have hlen : l.length = 2 + 3 * m := by
        have := faultK_lt (hu (needP l - 1) (by omega))
        omega
      have hel : (fullEs l m).length = m := fullEs_length l m
      have hpr : ∀ j, j < 2 + 3 * m → l[j]? = some (printI (valK l j)) := fun j hj => by
        have h1 := (faultK_parse (hu j (by omega))).1
        have hj' : j < l.length := by omega
        rw [List.getElem?_eq_getElem hj']
        congr 1
        have e : l.getD j ByteArray.empty = l[j] := by simp [List.getD, hj']
        rw [e] at h1
        have : parseI l[j] = (valK l j, 0) := by
          unfold valK
          rw [e, ← h1]
        exact (print_parse this).symm
      refine ⟨right_of hnn.1 hnn.2 (by rw [hel]; omega) ?_, by rw [hel]; omega, ?_⟩
      · intro e he
        unfold fullEs at he
        obtain ⟨i, hi, rfl⟩ := List.mem_map.1 he
        have hi' := List.mem_range.1 hi
        have f0 := (faultK_parse (hu (2 + 3 * i) (by omega))).2
        have f1 := (faultK_parse (hu (3 + 3 * i) (by omega))).2
        have f2 := (faultK_parse (hu (4 + 3 * i) (by omega))).2
        rw [mayK_f (by omega) (by omega)] at f0
        rw [mayK_t (by omega) (by omega), show 3 + 3 * i - 1 = 2 + 3 * i by omega] at f1
        rw [mayK_w (by omega) (by omega)] at f2
        unfold withinF at f2
        have g0 := valK_le l (2 + 3 * i)
        have g1 := valK_le l (3 + 3 * i)
        split at f0
        · cases f0
        · split at f1
          · cases f1
          · split at f2
            · cases f2
            · exact ⟨g0.1, by simp only [edgeK]; omega, g1.1, by simp only [edgeK]; omega, by simp only [edgeK]; omega, by simp only [edgeK]; omega, by simp only [edgeK]; omega⟩
      · obtain ⟨w0, w1, w2⟩ := words_at (⟨valK l 0, fullEs l m⟩ : GD)
        have hwl := wordsK_length (⟨valK l 0, fullEs l m⟩ : GD) (fullEs l m).length (Nat.le_refl _)
        simp only at w0 w1 w2
        simp only [hel] at w0 w1 w2 hwl
        apply List.ext_getElem?
        intro j
        simp only [hel]
        by_cases hj : j < 2 + 3 * m
        · rw [hpr j hj]
          by_cases j0 : j = 0
          · subst j0; exact w0
          by_cases j1 : j = 1
          · subst j1; rw [w1, hm]
          obtain ⟨i, hi⟩ : ∃ i, j = 2 + 3 * i ∨ j = 3 + 3 * i ∨ j = 4 + 3 * i := ⟨(j - 2) / 3, by omega⟩
          have him : i < m := by omega
          have hee : (fullEs l m)[i]'(by omega) = edgeK l i := by
            have : (fullEs l m)[i]? = some (edgeK l i) := by unfold fullEs; rw [List.getElem?_map, List.getElem?_range him]; rfl
            exact (List.getElem?_eq_some_iff.1 this).2
          obtain ⟨p, q, r⟩ := w2 i him
          rw [hee] at p q r
          rcases hi with rfl | rfl | rfl
          · exact p
          · exact q
          · exact r
        · rw [List.getElem?_eq_none (by omega), List.getElem?_eq_none (by omega)]

/-! text -/
def bodyT (key : ByteArray) (l : List ByteArray) : ByteArray := ⟨(Lib.join (tlD (key :: l)) [32]).toArray⟩
theorem body_data (key : ByteArray) (l : List ByteArray) : (bodyT key l).data.toList = Lib.join (tlD (key :: l)) [32] := by unfold bodyT; simp
theorem lineT_body (key x : ByteArray) (l : List ByteArray) : (lineT key (x :: l)).data.toList = (bodyT key (x :: l)).data.toList ++ [10] := by
  rw [body_data]
  unfold lineT
  simp only [List.map_cons, Lib.join_cons, Lib.joinTail]
  simp
def linesG (g : GD) (k : Nat) : List ByteArray := bodyT keyG [printI g.n, printI (g.es.length : Int)] :: (g.es.take k).map fun e => bodyT keyE (ofE e)
theorem text_cat (g : GD) : ∀ k, k ≤ g.es.length → (textK g k).data.toList = catN (linesG g k)
  | 0, _ => by
    unfold textK linesG catN
    rw [lineT_body]
    simp
  | k + 1, h => by
    have hk : k < g.es.length := by omega
    rw [textK_step g k hk, ByteArray.data_append, Array.toList_append, text_cat g k (by omega)]
    have e : linesG g (k + 1) = linesG g k ++ [bodyT keyE (ofE g.es[k])] := by
      unfold linesG
      rw [List.take_succ_eq_append_getElem hk, List.map_append]
      rfl
    rw [e, catN_append]
    unfold ofE
    rw [lineT_body]
theorem join_mem {c : UInt8} : ∀ {xs : List (List UInt8)}, c ∈ Lib.join xs [32] → c = 32 ∨ ∃ x ∈ xs, c ∈ x
  | [], h => by simp [Lib.join_nil] at h
  | [x], h => by rw [Lib.join_one] at h; exact .inr ⟨x, by simp, h⟩
  | x :: y :: r, h => by
    rw [show Lib.join (x :: y :: r) [32] = x ++ [32] ++ Lib.join (y :: r) [32] by rw [Lib.join_cons, Lib.join_cons]; simp [Lib.joinTail]] at h
    rw [List.mem_append, List.mem_append] at h
    rcases h with (h | h) | h
    · exact .inr ⟨x, by simp, h⟩
    · exact .inl (by simpa using h)
    · rcases join_mem h with h | ⟨z, hz, h⟩
      · exact .inl h
      · exact .inr ⟨z, by simp only [List.mem_cons] at hz ⊢; exact .inr hz, h⟩
theorem print_sign (n : Int) : ∀ c ∈ (printI n).data.toList, signB c = true := by
  intro c hc
  rw [printI_data] at hc
  have := isDig_of (decDigits_dig _ c hc)
  unfold signB
  simp
  omega
theorem print_word (n : Int) : wordB (printI n) = true := wordB_of (by rw [printI_data]; exact decDigits_ne _) (print_sign n)
theorem keyG_word : wordB keyG = true := wordB_of (by decide) (by decide)
theorem keyE_word : wordB keyE = true := wordB_of (by decide) (by decide)
theorem body_clean {key : ByteArray} {l : List ByteArray} (h : ∀ x ∈ key :: l, wordB x = true) : ∀ c ∈ (bodyT key l).data.toList, c ≠ 10 ∧ c ≠ 13 := by
  intro c hc
  rw [body_data] at hc
  rcases join_mem hc with rfl | ⟨x, hx, hcx⟩
  · decide
  · obtain ⟨s, hs, rfl⟩ := List.mem_map.1 hx
    have := (wordB_signs (h s hs)).2 c hcx
    unfold signB at this
    simp at this
    refine ⟨?_, ?_⟩ <;> (rintro rfl; revert this; decide)
theorem body_words {key : ByteArray} {l : List ByteArray} (h : ∀ x ∈ key :: l, wordB x = true) (hs : (bodyT key l).size ≤ 65536) (hl : l.length ≤ 16000) : wordsF (bodyT key l) = (key :: l, 0) := by
  refine wordsF_ok (by omega) ?_ (by simp; omega)
  rw [body_data]
  exact wordsGo_join h
theorem cut_clean {t : ByteArray} {b r : List UInt8} (h : t.data.toList = b ++ [10] ++ r) (hb : ∀ c ∈ b, c ≠ 10 ∧ c ≠ 13) : cutF t = some (⟨b.toArray⟩, ⟨r.toArray⟩) := by
  have hsz : t.size = b.length + 1 + r.length := by
    have := congrArg List.length h
    simp at this
    omega
  have hn : nlI t = (b.length : Int) := by
    refine nlI_hit (by omega) ?_ ?_
    · have := at_get t b.length (by omega)
      rw [h] at this
      simp at this
      exact this.symm
    · intro j hj hjb e
      have h1 := at_get t j hj
      rw [h, List.append_assoc, List.getElem?_append_left hjb, List.getElem?_eq_getElem hjb] at h1
      have h2 := Option.some.inj h1
      exact (hb _ (List.getElem_mem hjb)).1 (h2.trans e)
  rw [cutF_some hn]
  unfold cutAt
  congr 2
  · rw [extract_list]
    have : (t.data.toList.take b.length).drop 0 = b := by rw [h, List.append_assoc, List.take_left' rfl]; rfl
    rw [this]
    apply Go.WideShapes.bytes_inj
    simp
    exact trim_no fun c hc => (hb c hc).2
  · rw [extract_list]
    congr 1
    congr 1
    rw [List.take_of_length_le (by simp), h]
    rw [List.drop_append_of_le_length (by simp), List.drop_of_length_le (by simp)]
    simp
theorem lines_cat (s : ByteArray) : ∀ (B O : List ByteArray) (t : ByteArray), LS s O t → t.data.toList = catN B → (∀ b ∈ B, ∀ c ∈ b.data.toList, c ≠ 10 ∧ c ≠ 13) → linesF s = (O ++ B, ByteArray.empty)
  | [], O, t, h, ht, _ => by
    have h0 : t.size = 0 := by
      have := congrArg List.length ht
      simpa [catN] using this
    have e := size_zero h0
    subst e
    rw [ls_end h rfl]
    simp
  | b :: B, O, t, h, ht, hc => by
    have e : t.data.toList = b.data.toList ++ [10] ++ catN B := by
      rw [ht]
      simp [catN]
    have h2 := ls_step h (cut_clean e (hc b (by simp)))
    rw [show (⟨b.data.toList.toArray⟩ : ByteArray) = b by simp] at h2
    have := lines_cat s B (O ++ [b]) _ h2 (by simp) (fun x hx => hc x (by simp [hx]))
    rw [this]
    simp
theorem words_three (e : EdgeD) : ∀ x ∈ keyE :: ofE e, wordB x = true := by
  intro x hx
  simp only [ofE, List.mem_cons, List.not_mem_nil, or_false] at hx
  rcases hx with rfl | rfl | rfl | rfl
  · exact keyE_word
  all_goals exact print_word _
theorem words_two (n m : Int) : ∀ x ∈ keyG :: [printI n, printI m], wordB x = true := by
  intro x hx
  simp only [List.mem_cons, List.not_mem_nil, or_false] at hx
  rcases hx with rfl | rfl | rfl
  · exact keyG_word
  all_goals exact print_word _
theorem lines_text (g : GD) : linesF (textK g g.es.length) = (linesG g g.es.length, ByteArray.empty) := by
  refine lines_cat _ _ [] _ (ls_start _) (text_cat g _ (Nat.le_refl _)) ?_
  intro b hb
  unfold linesG at hb
  rcases List.mem_cons.1 hb with rfl | hb
  · exact body_clean (words_two _ _)
  · obtain ⟨e, _, rfl⟩ := List.mem_map.1 hb
    exact body_clean (words_three e)
theorem body_size (key x : ByteArray) (l : List ByteArray) : (bodyT key (x :: l)).size + 1 = (lineT key (x :: l)).size := by
  have := congrArg List.length (lineT_body key x l)
  simp at this
  omega
/-- the lines, their words, and that they say something -/
theorem line_head (g : GD) (h : rightG g = 0) : (linesG g g.es.length)[0]? = some (bodyT keyG [printI g.n, printI (g.es.length : Int)]) ∧ wordsF (bodyT keyG [printI g.n, printI (g.es.length : Int)]) = ([keyG, printI g.n, printI (g.es.length : Int)], 0) ∧
    (bodyT keyG [printI g.n, printI (g.es.length : Int)]).data.toList.head? = some 103 ∧ (bodyT keyG [printI g.n, printI (g.es.length : Int)]).size ≤ 1000 := by
  obtain ⟨h1, h2, h3, h4⟩ := right_edge h
  have hs : (bodyT keyG [printI g.n, printI (g.es.length : Int)]).size ≤ 1000 := by
    have a := body_size keyG (printI g.n) [printI (g.es.length : Int)]
    rw [lineT_two_size] at a
    have b := printI_size_le (n := g.n) (by omega) (by omega)
    have c := printI_size_le (n := (g.es.length : Int)) (by omega) (by omega)
    omega
  refine ⟨rfl, body_words (words_two _ _) (by omega) (by simp), ?_, hs⟩
  rw [body_data]
  rfl
theorem line_edge (g : GD) (h : rightG g = 0) {i : Nat} (hi : i < g.es.length) : (linesG g g.es.length)[i + 1]? = some (bodyT keyE (ofE g.es[i])) ∧ wordsF (bodyT keyE (ofE g.es[i])) = (keyE :: ofE g.es[i], 0) ∧
    (bodyT keyE (ofE g.es[i])).data.toList.head? = some 101 ∧ (bodyT keyE (ofE g.es[i])).size ≤ 1000 := by
  obtain ⟨h1, h2, h3, h4⟩ := right_edge h
  obtain ⟨a, b, c, d, x, y, z⟩ := h4 _ (List.getElem_mem hi)
  have hs : (bodyT keyE (ofE g.es[i])).size ≤ 1000 := by
    unfold ofE
    have k := body_size keyE (printI g.es[i].f) [printI g.es[i].t, printI g.es[i].w]
    rw [lineT_three_size] at k
    have p := printI_size_le (n := g.es[i].f) (by omega) (by omega)
    have q := printI_size_le (n := g.es[i].t) (by omega) (by omega)
    have r := printI_size_le (n := g.es[i].w) (by omega) (by omega)
    omega
  refine ⟨?_, body_words (words_three _) (by omega) (by simp [ofE]), ?_, hs⟩
  · unfold linesG
    rw [List.take_length, List.getElem?_cons_succ, List.getElem?_map, List.getElem?_eq_getElem hi]
    rfl
  · rw [body_data]
    rfl
theorem linesG_length (g : GD) : (linesG g g.es.length).length = g.es.length + 1 := by unfold linesG; rw [List.take_length]; simp

end Go.Proofs.YtelcmkccfjdmjaaGreatDoor
