/-
  Replies as lines, in plain Lean: what is printed is read as it was, what is read is printed as it was, and the document's reading is the same.
-/
import Derived.Test.YtelcmkccfjdmjaaGreatDoorRpSpec
namespace Go.Proofs.YtelcmkccfjdmjaaGreatDoor
open Go.Proofs Go.RowKit Go.Shelf

/-- the document's reading: what a line would be -/
def readS (r : RepD) (s : ByteArray) : RepD :=
  if s.data.toList.head? = some 61 then { r with words := r.words ++ [s.extract 1 s.size] }
  else if (parseI s).2 = 0 then { r with nums := r.nums ++ [(parseI s).1] }
  else if (parseRt s).2 = true then { r with rts := r.rts ++ [(parseRt s).1] } else r
def readR : List ByteArray → RepD
  | a :: b :: l => if a = errW then { rep0 with f := (ofW b).1 } else l.foldl readS { rep0 with name := b }
  | _ => rep0
def parseRef (s : ByteArray) : RepD × Int := if printR (readR (partsS 32 s)) ≠ s ∨ s.size = 0 then (rep0, 3) else (readR (partsS 32 s), 0)

def okR (r : RepD) : Prop := (∀ n ∈ r.nums, 0 ≤ n ∧ n < 18446744073709551616) ∧ ∀ x ∈ r.rts, okRt x
theorem okR_0 : okR rep0 := ⟨by simp [rep0], by simp [rep0]⟩

theorem ba_zero {s : ByteArray} (h : s.size = 0) : s = ByteArray.empty := by
  apply Go.WideShapes.bytes_inj
  exact List.eq_nil_of_length_eq_zero (by simpa using h)
/-! parts -/
theorem parseI_odd {s : ByteArray} {c : UInt8} (hc : c ∈ s.data.toList) (h : ¬ (48 ≤ c.toNat ∧ c.toNat ≤ 57)) : parseI s = (0, 3) := by
  refine parseI_let (List.any_eq_true.2 ⟨c, hc, ?_⟩)
  unfold isDig
  simp
  omega
theorem eqW_data (s : ByteArray) : (eqW s).data.toList = 61 :: s.data.toList := by unfold eqW; simp
theorem eqW_head (s : ByteArray) : (eqW s).data.toList.head? = some 61 := by rw [eqW_data]; rfl
theorem eqW_tail (s : ByteArray) : (eqW s).extract 1 (eqW s).size = s := by
  apply Go.WideShapes.bytes_inj
  rw [extract_suf, eqW_data]
  rfl
theorem tail_eqW {s : ByteArray} (h : s.data.toList.head? = some 61) : eqW (s.extract 1 s.size) = s := by
  apply Go.WideShapes.bytes_inj
  rw [eqW_data, extract_suf]
  cases e : s.data.toList with
  | nil => rw [e] at h; cases h
  | cons a r => rw [e] at h; cases h; rfl
theorem eq_num (s : ByteArray) (h : s.data.toList.head? = some 61) : parseI s = (0, 3) := by
  cases e : s.data.toList with
  | nil => rw [e] at h; cases h
  | cons a r => rw [e] at h; cases h; exact parseI_odd (c := 61) (by rw [e]; simp) (by decide)
theorem eq_route {s : ByteArray} (h : s.data.toList.head? = some 61) : (parseRt s).2 = false := by
  unfold parseRt
  have hge := Lib.indexByte_ge s.data.toList 58
  split
  · rfl
  · rename_i hi
    obtain ⟨i, hi2⟩ : ∃ i : Nat, Lib.indexByte s.data.toList 58 = (i : Int) := ⟨(Lib.indexByte s.data.toList 58).toNat, by omega⟩
    rw [hi2, Int.toNat_natCast]
    have hat := (Lib.indexByte_some hi2).1
    have hh : (s.extract 0 i).data.toList.head? = some 61 := by
      rw [extract_pre]
      cases i with
      | zero => rw [List.head?_eq_getElem?] at h; rw [h] at hat; cases hat
      | succ j => rw [List.head?_take, if_neg (by omega)]; exact h
    unfold cutRt
    rw [eq_num _ hh, if_pos (by decide)]
theorem route_num {x : RtD} (h : okRt x) : (parseI (routeT x)).2 ≠ 0 := by
  rw [parseI_odd (c := 58) (by rw [routeT_data (negR_ok h)]; simp) (by decide)]
  decide
theorem print_head (n : Int) : (printI n).data.toList.head? ≠ some 61 := by
  intro h
  cases e : (printI n).data.toList with
  | nil => exact print_ne n e
  | cons a r =>
    rw [e] at h
    cases h
    have := print_byte n 61 (by rw [e]; simp)
    revert this
    decide
theorem route_head {x : RtD} (h : okRt x) : (routeT x).data.toList.head? ≠ some 61 := by
  rw [routeT_data (negR_ok h)]
  intro e
  cases e2 : (printI x.w).data.toList with
  | nil => exact print_ne _ e2
  | cons a r =>
    rw [e2] at e
    cases e
    have := print_byte x.w 61 (by rw [e2]; simp)
    revert this
    decide
theorem part_num {r : RepD} {n : Int} (h0 : 0 ≤ n) (h1 : n < 18446744073709551616) : partR 0 r (printI n) = (0, { r with nums := r.nums ++ [n] }, true) := by
  unfold partR
  rw [parse_print h0 h1]
  simp
theorem part_route {a : Nat} {r : RepD} {x : RtD} (ha : a ≤ 1) (h : okRt x) : partR a r (routeT x) = (1, { r with rts := r.rts ++ [x] }, true) := by
  unfold partR
  rw [if_neg (fun hh => route_num h hh.2), parseRt_route h, if_pos ⟨ha, rfl⟩]
theorem part_word {a : Nat} {r : RepD} {s : ByteArray} : partR a r (eqW s) = (2, { r with words := r.words ++ [s] }, wordB s) := by
  unfold partR
  rw [eq_num _ (eqW_head s), eq_route (eqW_head s), if_neg (by simp), if_neg (by simp), if_pos (eqW_head s), eqW_tail]

theorem fold_words : ∀ (ws : List ByteArray) (a : Nat) (r : RepD), (∀ x ∈ ws, wordB x = true) → foldR a r (ws.map eqW) = some { r with words := r.words ++ ws }
  | [], a, r, _ => by simp [foldR]
  | x :: ws, a, r, h => by
    rw [List.map_cons, foldR, part_word]
    simp only [h x (by simp), if_true]
    rw [fold_words ws 2 _ (fun y hy => h y (by simp [hy]))]
    simp
theorem fold_rts (tl : List ByteArray) : ∀ (xs : List RtD) (a : Nat) (r r' : RepD), a ≤ 1 → (∀ x ∈ xs, okRt x) → (∀ b, b ≤ 1 → foldR b { r with rts := r.rts ++ xs } tl = some r') → foldR a r (xs.map routeT ++ tl) = some r'
  | [], a, r, r', ha, _, h => by have := h a ha; simpa using this
  | x :: xs, a, r, r', ha, hx, h => by
    rw [List.map_cons, List.cons_append, foldR, part_route ha (hx x (by simp))]
    simp only [if_true]
    refine fold_rts tl xs 1 _ r' (Nat.le_refl _) (fun y hy => hx y (by simp [hy])) (fun b hb => ?_)
    have := h b hb
    simpa using this
theorem fold_nums (tl : List ByteArray) : ∀ (ns : List Int) (r r' : RepD), (∀ n ∈ ns, 0 ≤ n ∧ n < 18446744073709551616) → foldR 0 { r with nums := r.nums ++ ns } tl = some r' → foldR 0 r (ns.map printI ++ tl) = some r'
  | [], r, r', _, h => by simpa using h
  | n :: ns, r, r', hn, h => by
    rw [List.map_cons, List.cons_append, foldR, part_num (hn n (by simp)).1 (hn n (by simp)).2]
    simp only [if_true]
    refine fold_nums tl ns _ r' (fun y hy => hn y (by simp [hy])) ?_
    simpa using h

theorem fold_inv : ∀ (l : List ByteArray) (a : Nat) (r r' : RepD), foldR a r l = some r' → ∃ ns xs ws, l = ns.map printI ++ xs.map routeT ++ ws.map eqW ∧ r' = { r with nums := r.nums ++ ns, rts := r.rts ++ xs, words := r.words ++ ws } ∧
    (1 ≤ a → ns = []) ∧ (2 ≤ a → xs = []) ∧ (∀ n ∈ ns, 0 ≤ n ∧ n < 18446744073709551616) ∧ (∀ x ∈ xs, okRt x) ∧ ∀ w ∈ ws, wordB w = true
  | [], a, r, r', h => by
    rw [foldR] at h
    cases h
    exact ⟨[], [], [], by simp, by simp, fun _ => rfl, fun _ => rfl, by simp, by simp, by simp⟩
  | s :: l, a, r, r', h => by
    rw [foldR] at h
    split at h
    · rename_i hok
      unfold partR at h hok
      split at h
      · rename_i hc
        obtain ⟨ns, xs, ws, h1, h2, h3, h4, h5, h6, h7⟩ := fold_inv l _ _ _ h
        have hp : parseI s = ((parseI s).1, 0) := by rw [← hc.2]
        have hb := parseI_bd s
        refine ⟨(parseI s).1 :: ns, xs, ws, ?_, ?_, fun ha => by omega, fun ha => by omega, ?_, h6, h7⟩
        · rw [h1, List.map_cons, print_parse hp]; rfl
        · rw [h2]; simp
        · intro n hn
          rcases List.mem_cons.1 hn with rfl | hn
          · exact hb
          · exact h5 n hn
      · rename_i hc1
        rw [if_neg hc1] at hok
        split at h
        · rename_i hc
          obtain ⟨ns, xs, ws, h1, h2, h3, h4, h5, h6, h7⟩ := fold_inv l _ _ _ h
          have e := h3 (Nat.le_refl _)
          subst e
          have hp : parseRt s = ((parseRt s).1, true) := by rw [← hc.2]
          obtain ⟨hr1, hr2⟩ := route_parseRt hp
          refine ⟨[], (parseRt s).1 :: xs, ws, ?_, ?_, fun _ => rfl, fun ha => by omega, by simp, ?_, h7⟩
          · rw [h1, List.map_cons, hr1]; rfl
          · rw [h2]; simp
          · intro n hn
            rcases List.mem_cons.1 hn with rfl | hn
            · exact hr2
            · exact h6 n hn
        · rename_i hc2
          rw [if_neg hc2] at hok
          split at h
          · rename_i hc
            rw [if_pos hc] at hok
            obtain ⟨ns, xs, ws, h1, h2, h3, h4, h5, h6, h7⟩ := fold_inv l _ _ _ h
            have e := h3 (show 1 ≤ 2 by decide)
            have e2 := h4 (Nat.le_refl _)
            subst e e2
            refine ⟨[], [], s.extract 1 s.size :: ws, ?_, ?_, fun _ => rfl, fun _ => rfl, by simp, by simp, ?_⟩
            · rw [h1, List.map_cons, tail_eqW hc]; rfl
            · rw [h2]; simp
            · intro n hn
              rcases List.mem_cons.1 hn with rfl | hn
              · exact hok
              · exact h7 n hn
          · rename_i hc
            rw [if_neg hc] at hok
            cases hok
    · cases h

/-! faults' words -/
theorem idxI_at {α : Type} (p : α → Bool) : ∀ (l : List α), 0 ≤ idxI p l → ∃ x, l[(idxI p l).toNat]? = some x ∧ p x = true
  | [], h => by simp [idxI] at h
  | a :: r, h => by
    unfold idxI at h ⊢
    split
    · rename_i hp; exact ⟨a, rfl, hp⟩
    · rename_i hp
      rw [if_neg hp] at h
      split at h
      · omega
      · rename_i hr
        obtain ⟨x, hx, hpx⟩ := idxI_at p r (by omega)
        rw [if_neg hr]
        refine ⟨x, ?_, hpx⟩
        rw [show (idxI p r + 1).toNat = (idxI p r).toNat + 1 by omega, List.getElem?_cons_succ]
        exact hx
theorem ofW_bd (s : ByteArray) : isF (ofW s).1 = true := by
  unfold ofW
  split
  · rfl
  · rename_i h
    obtain ⟨x, hx, _⟩ := idxI_at (fun x => decide (x = s)) faultL (by omega)
    have := (List.getElem?_eq_some_iff.1 hx).1
    have hl : faultL.length = 15 := rfl
    unfold isF
    simp
    omega
theorem ofW_word {s : ByteArray} (h : (ofW s).2 = true) : wordOf (ofW s).1 = s := by
  have hb := ofW_bd s
  unfold wordOf
  rw [if_pos hb]
  unfold ofW at *
  split at h
  · cases h
  · rename_i hh
    rw [if_neg hh]
    obtain ⟨x, hx, hp⟩ := idxI_at (fun x => decide (x = s)) faultL (by omega)
    rw [List.getD_eq_getElem?_getD, hx]
    simpa using hp
theorem word_ofW_all : ∀ k, k < 15 → ofW (faultL.getD k ByteArray.empty) = ((k : Int), true) := by decide +kernel
theorem word_ofW {f : Int} (h : isF f = true) : ofW (wordOf f) = (f, true) := by
  unfold wordOf
  rw [if_pos h]
  unfold isF at h
  simp at h
  have := word_ofW_all f.toNat (by omega)
  rw [this, Int.toNat_of_nonneg h.1]
theorem words_nospace : ∀ x ∈ errW :: okW :: faultL, ∀ c ∈ x.data.toList, c ≠ 32 := by decide
theorem wordOf_nospace (f : Int) : ∀ c ∈ (wordOf f).data.toList, c ≠ 32 := by
  unfold wordOf
  split
  · rename_i h
    unfold isF at h
    simp at h
    have hl : f.toNat < faultL.length := by have : faultL.length = 15 := rfl; omega
    rw [show faultL.getD f.toNat ByteArray.empty = faultL[f.toNat] by simp [List.getD, hl]]
    exact words_nospace _ (by simp)
  · intro c hc; cases hc
theorem word_nospace {s : ByteArray} (h : wordB s = true) : ∀ c ∈ s.data.toList, c ≠ 32 := by
  intro c hc e
  have := (wordB_signs h).2 c hc
  subst e
  revert this
  decide

/-! replies -/
theorem right_fault {r : RepD} (h : rightR r = true) (hf : r.f ≠ 0) : r = { rep0 with f := r.f } ∧ isF r.f = true := by
  unfold rightR at h
  rw [if_pos hf] at h
  simp only [Bool.and_eq_true, decide_eq_true_eq] at h
  obtain ⟨⟨h1, h2⟩, h3⟩ := h
  obtain ⟨f, name, nums, rts, words⟩ := r
  simp only at *
  have a : nums = [] := List.eq_nil_of_length_eq_zero (by omega)
  have b : rts = [] := List.eq_nil_of_length_eq_zero (by omega)
  have c : words = [] := List.eq_nil_of_length_eq_zero (by omega)
  have d : name = ByteArray.empty := ba_zero h2
  subst a b c d
  exact ⟨rfl, h1⟩
theorem right_fine {r : RepD} (h : rightR r = true) (hf : r.f = 0) : wordB r.name = true ∧ (∀ x ∈ r.words, wordB x = true) ∧ ∀ x ∈ r.rts, negR x = false := by
  unfold rightR at h
  rw [if_neg (by simpa using hf)] at h
  simp only [Bool.and_eq_true, List.all_eq_true] at h
  exact ⟨h.1.1, h.1.2, fun x hx => by have := h.2 x hx; simpa using this⟩
theorem printR_fault {r : RepD} (h : rightR r = true) (hf : r.f ≠ 0) : printR r = joinB 32 [errW, wordOf r.f] := by
  unfold printR
  rw [if_neg (by rw [h]; decide), if_pos hf]
theorem printR_fine {r : RepD} (h : rightR r = true) (hf : r.f = 0) : printR r = joinB 32 (toksR r) := by
  unfold printR
  rw [if_neg (by rw [h]; decide), if_neg (by simpa using hf)]
theorem toks_nospace {r : RepD} (h : rightR r = true) (hf : r.f = 0) (hk : okR r) : ∀ s ∈ toksR r, ∀ c ∈ s.data.toList, c ≠ 32 := by
  obtain ⟨h1, h2, h3⟩ := right_fine h hf
  intro s hs
  unfold toksR at hs
  simp only [List.mem_cons, List.mem_append, List.mem_map] at hs
  rcases hs with rfl | rfl | (⟨n, _, rfl⟩ | ⟨x, hx, rfl⟩) | ⟨w, hw, rfl⟩
  · exact words_nospace _ (by simp)
  · exact word_nospace h1
  · exact no_of_print (by decide) n
  · intro c hc e
    rw [routeT_data (h3 x hx)] at hc
    subst e
    rcases List.mem_append.1 hc with hc | hc
    · exact no_of_print (by decide) _ _ hc rfl
    · rcases List.mem_cons.1 hc with hc | hc
      · revert hc; decide
      · rw [joinB_data] at hc
        rcases join_memB hc with hc | ⟨l, hl, hc⟩
        · revert hc; decide
        · obtain ⟨y, hy, rfl⟩ := List.mem_map.1 hl
          obtain ⟨n, _, rfl⟩ := List.mem_map.1 hy
          exact no_of_print (by decide) n _ hc rfl
  · intro c hc e
    rw [eqW_data] at hc
    subst e
    rcases List.mem_cons.1 hc with hc | hc
    · revert hc; decide
    · exact word_nospace (h2 w hw) _ hc rfl
theorem parts_fine {r : RepD} (h : rightR r = true) (hf : r.f = 0) (hk : okR r) : partsS 32 (printR r) = toksR r := by
  rw [printR_fine h hf]
  exact parts_join (by unfold toksR; simp) (toks_nospace h hf hk)
theorem parts_fault {r : RepD} (h : rightR r = true) (hf : r.f ≠ 0) : partsS 32 (printR r) = [errW, wordOf r.f] := by
  rw [printR_fault h hf]
  refine parts_join (by simp) ?_
  intro s hs
  simp only [List.mem_cons, List.not_mem_nil, or_false] at hs
  rcases hs with rfl | rfl
  · exact words_nospace _ (by simp)
  · exact wordOf_nospace _
theorem okW_errW : okW ≠ errW := by decide

/-- a reply that may be is read as it was -/
theorem parse_printR {r : RepD} (h : rightR r = true) (hk : okR r) : parseR (printR r) = (r, 0) := by
  by_cases hf : r.f = 0
  · obtain ⟨h1, h2, h3⟩ := right_fine h hf
    have hfold : foldR 0 { rep0 with name := r.name } (r.nums.map printI ++ r.rts.map routeT ++ r.words.map eqW) = some r := by
      rw [List.append_assoc]
      refine fold_nums _ _ _ _ hk.1 ?_
      refine fold_rts _ _ _ _ _ (by decide) hk.2 (fun b hb => ?_)
      rw [fold_words _ _ _ h2]
      obtain ⟨f, name, nums, rts, words⟩ := r
      simp only at hf
      subst hf
      simp [rep0]
    unfold parseR
    rw [parts_fine h hf hk]
    unfold toksR
    generalize r.nums.map printI ++ r.rts.map routeT ++ r.words.map eqW = tl at *
    cases tl with
    | nil =>
      show (if okW = errW then _ else if okW = okW ∧ wordB r.name = true then (({ rep0 with name := r.name } : RepD), (0 : Int)) else (rep0, 3)) = _
      rw [if_neg okW_errW, if_pos ⟨rfl, h1⟩]
      rw [foldR] at hfold
      rw [Option.some.inj hfold]
    | cons s tl =>
      show (if okW = okW ∧ wordB r.name = true then (match foldR 0 { rep0 with name := r.name } (s :: tl) with | some r => (r, (0 : Int)) | none => (rep0, 3)) else (rep0, 3)) = _
      rw [if_pos ⟨rfl, h1⟩, hfold]
  · obtain ⟨e, hi⟩ := right_fault h hf
    unfold parseR
    rw [parts_fault h hf]
    show (if errW = errW then (if (ofW (wordOf r.f)).2 && decide ((ofW (wordOf r.f)).1 ≠ 0) then (({ rep0 with f := (ofW (wordOf r.f)).1 } : RepD), (0 : Int)) else (rep0, 3)) else _) = _
    rw [if_pos rfl, word_ofW hi, if_pos (by simp [hf])]
    exact congrArg (fun x => (x, (0 : Int))) e.symm

theorem parseR_cases (s : ByteArray) : (parseR s = (rep0, 3)) ∨ ∃ r, parseR s = (r, 0) ∧ rightR r = true ∧ okR r ∧ printR r = s := by
  have hj := join_parts 32 s
  unfold parseR
  split
  · rename_i a b hp
    rw [hp] at hj
    split
    · rename_i ha
      split
      · rename_i hc
        simp only [Bool.and_eq_true, decide_eq_true_eq] at hc
        have hr : rightR { rep0 with f := (ofW b).1 } = true := by
          unfold rightR
          rw [if_pos hc.2, ofW_bd]
          rfl
        refine .inr ⟨_, rfl, hr, okR_0, ?_⟩
        rw [printR_fault hr hc.2, ofW_word hc.1, ← ha]
        exact hj
      · exact .inl rfl
    · split
      · rename_i hc
        have hr : rightR { rep0 with name := b } = true := by
          unfold rightR
          rw [if_neg (by simp [rep0])]
          simp [rep0, hc.2]
        refine .inr ⟨_, rfl, hr, okR_0, ?_⟩
        rw [printR_fine hr rfl, ← hj, hc.1]
        simp [toksR, rep0]
      · exact .inl rfl
  · rename_i a b l hn hp
    rw [hp] at hj
    split
    · rename_i hc
      cases hfd : foldR 0 { rep0 with name := b } l with
      | none => exact .inl rfl
      | some r =>
        obtain ⟨ns, xs, ws, h1, h2, h3, h4, h5, h6, h7⟩ := fold_inv _ _ _ _ hfd
        simp only [rep0, List.nil_append] at h2
        have hr : rightR r = true := by
          subst h2
          unfold rightR
          rw [if_neg (by simp)]
          simp only [Bool.and_eq_true, List.all_eq_true]
          exact ⟨⟨hc.2, h7⟩, fun x hx => by rw [negR_ok (h6 x hx)]; rfl⟩
        refine .inr ⟨r, rfl, hr, by subst h2; exact ⟨h5, h6⟩, ?_⟩
        rw [printR_fine hr (by subst h2; rfl), ← hj, hc.1, h1]
        subst h2
        simp [toksR]
    · exact .inl rfl
  · exact .inl rfl

/-- what a line is read as by the document -/
theorem readS_num {r : RepD} {n : Int} (h0 : 0 ≤ n) (h1 : n < 18446744073709551616) : readS r (printI n) = { r with nums := r.nums ++ [n] } := by
  unfold readS
  rw [if_neg (print_head n), parse_print h0 h1]
  simp
theorem readS_route {r : RepD} {x : RtD} (h : okRt x) : readS r (routeT x) = { r with rts := r.rts ++ [x] } := by
  unfold readS
  rw [if_neg (route_head h), if_neg (route_num h), parseRt_route h]
  simp
theorem readS_word {r : RepD} {s : ByteArray} : readS r (eqW s) = { r with words := r.words ++ [s] } := by
  unfold readS
  rw [if_pos (eqW_head s), eqW_tail]
theorem read_nums (tl : List ByteArray) : ∀ (ns : List Int) (r : RepD), (∀ n ∈ ns, 0 ≤ n ∧ n < 18446744073709551616) → (ns.map printI ++ tl).foldl readS r = tl.foldl readS { r with nums := r.nums ++ ns }
  | [], r, _ => by simp
  | n :: ns, r, h => by
    rw [List.map_cons, List.cons_append, List.foldl_cons, readS_num (h n (by simp)).1 (h n (by simp)).2, read_nums tl ns _ (fun y hy => h y (by simp [hy]))]
    simp
theorem read_rts (tl : List ByteArray) : ∀ (xs : List RtD) (r : RepD), (∀ n ∈ xs, okRt n) → (xs.map routeT ++ tl).foldl readS r = tl.foldl readS { r with rts := r.rts ++ xs }
  | [], r, _ => by simp
  | n :: ns, r, h => by
    rw [List.map_cons, List.cons_append, List.foldl_cons, readS_route (h n (by simp)), read_rts tl ns _ (fun y hy => h y (by simp [hy]))]
    simp
theorem read_words : ∀ (ws : List ByteArray) (r : RepD), (ws.map eqW).foldl readS r = { r with words := r.words ++ ws }
  | [], r => by simp
  | n :: ns, r => by
    rw [List.map_cons, List.foldl_cons, readS_word, read_words ns]
    simp
theorem read_printR {r : RepD} (h : rightR r = true) (hk : okR r) : readR (partsS 32 (printR r)) = r := by
  by_cases hf : r.f = 0
  · rw [parts_fine h hf hk]
    unfold toksR readR
    show (if okW = errW then _ else List.foldl readS { rep0 with name := r.name } (List.map printI r.nums ++ List.map routeT r.rts ++ List.map eqW r.words)) = _
    rw [if_neg okW_errW, List.append_assoc, read_nums _ _ _ hk.1, read_rts _ _ _ hk.2, read_words]
    obtain ⟨f, name, nums, rts, words⟩ := r
    simp only at hf
    subst hf
    simp [rep0]
  · obtain ⟨e, hi⟩ := right_fault h hf
    rw [parts_fault h hf]
    unfold readR
    show (if errW = errW then ({ rep0 with f := (ofW (wordOf r.f)).1 } : RepD) else _) = _
    rw [if_pos rfl, word_ofW hi]
    exact e.symm
theorem readS_ok {r : RepD} {s : ByteArray} (h : okR r) : okR (readS r s) := by
  unfold readS
  split
  · exact h
  · split
    · refine ⟨fun n hn => ?_, h.2⟩
      rcases List.mem_append.1 hn with hn | hn
      · exact h.1 n hn
      · rw [List.mem_singleton.1 hn]; exact parseI_bd s
    · split
      · rename_i hp
        refine ⟨h.1, fun n hn => ?_⟩
        rcases List.mem_append.1 hn with hn | hn
        · exact h.2 n hn
        · rw [List.mem_singleton.1 hn]
          exact (route_parseRt (s := s) (r := (parseRt s).1) (by rw [← hp])).2
      · exact h
theorem fold_ok : ∀ (l : List ByteArray) (r : RepD), okR r → okR (l.foldl readS r)
  | [], _, h => h
  | s :: l, r, h => fold_ok l _ (readS_ok h)
theorem readR_ok (l : List ByteArray) : okR (readR l) := by
  unfold readR
  split
  · split
    · exact okR_0
    · exact fold_ok _ _ okR_0
  · exact okR_0
/-- the two readings are the same -/
theorem parseRef_eq (s : ByteArray) : parseRef s = parseR s := by
  rcases parseR_cases s with h | ⟨r, h, h1, h2, h3⟩
  · rw [h]
    unfold parseRef
    by_cases hc : printR (readR (partsS 32 s)) ≠ s ∨ s.size = 0
    · rw [if_pos hc]
    · exfalso
      have hc1 : printR (readR (partsS 32 s)) = s := by
        by_cases e : printR (readR (partsS 32 s)) = s
        · exact e
        · exact absurd (.inl e) hc
      have hr : rightR (readR (partsS 32 s)) = true := by
        cases e : rightR (readR (partsS 32 s)) with
        | true => rfl
        | false =>
          refine absurd (.inr ?_) hc
          rw [← hc1]
          unfold printR
          rw [if_pos e]
          rfl
      have := parse_printR hr (readR_ok _)
      rw [hc1, h] at this
      have := (Prod.mk.inj this).2
      cases this
  · rw [h]
    unfold parseRef
    have hread : readR (partsS 32 s) = r := by
      have := read_printR h1 h2
      rwa [h3] at this
    rw [hread, if_neg]
    rintro (hc | hc)
    · exact hc h3
    · have hp : partsS 32 (printR r) = [ByteArray.empty] := by
        rw [h3, ba_zero hc]
        rfl
      by_cases hf : r.f = 0
      · rw [parts_fine h1 hf h2] at hp
        unfold toksR at hp
        have := congrArg List.length hp
        simp at this
      · rw [parts_fault h1 hf] at hp
        have := congrArg List.length hp
        simp at this

end Go.Proofs.YtelcmkccfjdmjaaGreatDoor
