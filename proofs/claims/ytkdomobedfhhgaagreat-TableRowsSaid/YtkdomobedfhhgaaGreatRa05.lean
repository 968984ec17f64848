/-
  Plain: what lies in table's buckets, what a row tells as it is pulled down, and what it tells at the end.
-/
import Derived.Test.YtkdomobedfhhgaaGreatRa04
import Derived.Test.YtkdomobedfhhgaaGreatQb35
set_option linter.unusedVariables false
set_option linter.unusedSimpArgs false
set_option linter.unnecessarySimpa false
namespace Go.Proofs.YtkdomobedfhhgaaGreat
open Go Go.Proofs Go.RowKit Go.Shelf Go.Proofs.YtkdomobedfhhgaaGreat.Hp Go.Proofs.YtkdomobedfhhgaaGreat.Ch

/-- the buckets hold just the labels of these spaces -/
def BuS (ls : List (List LB)) (B : Int → List (Nat × Int)) : Prop := ∀ u e, e ∈ B u ↔ ∃ l, ls[e.1]? = some l ∧ ∃ b ∈ l, b.v = u ∧ b.d = e.2
theorem BuS.nil : BuS [] (fun _ => []) := fun u e => by simp
theorem BuS.open {ls : List (List LB)} {B : Int → List (Nat × Int)} (h : BuS ls B) : BuS (ls ++ [[]]) B := by
  intro u e
  rw [h u e]
  constructor
  · rintro ⟨l, h1, h2⟩
    have := (List.getElem?_eq_some_iff.1 h1).1
    exact ⟨l, by rw [List.getElem?_append_left this]; exact h1, h2⟩
  · rintro ⟨l, h1, b, h2, h3⟩
    rcases Nat.lt_or_ge e.1 ls.length with k | k
    · rw [List.getElem?_append_left k] at h1
      exact ⟨l, h1, b, h2, h3⟩
    · rw [List.getElem?_append_right k] at h1
      have : e.1 - ls.length = 0 := by
        have := (List.getElem?_eq_some_iff.1 h1).1
        simp at this
        omega
      rw [this] at h1
      cases h1
      cases h2
theorem BuS.add {ls : List (List LB)} {l : List LB} {x : LB} {B : Int → List (Nat × Int)} (h : BuS (ls ++ [l]) B) : BuS (ls ++ [l ++ [x]]) (fun y => if y = x.v then B x.v ++ [(ls.length, x.d)] else B y) := by
  intro u e
  have hk : (e.1 < ls.length ∧ (ls ++ [l])[e.1]? = ls[e.1]? ∧ (ls ++ [l ++ [x]])[e.1]? = ls[e.1]?) ∨ (e.1 = ls.length ∧ (ls ++ [l])[e.1]? = some l ∧ (ls ++ [l ++ [x]])[e.1]? = some (l ++ [x])) ∨ (ls.length < e.1 ∧ (ls ++ [l])[e.1]? = none ∧ (ls ++ [l ++ [x]])[e.1]? = none) := by
    rcases Nat.lt_trichotomy e.1 ls.length with k | k | k
    · exact .inl ⟨k, List.getElem?_append_left k, List.getElem?_append_left k⟩
    · refine .inr (.inl ⟨k, ?_, ?_⟩) <;> rw [k, List.getElem?_append_right (Nat.le_refl _)] <;> simp
    · refine .inr (.inr ⟨k, ?_, ?_⟩) <;> rw [List.getElem?_eq_none] <;> simp <;> omega
  have h1 := h u e
  have key : (e ∈ (if u = x.v then B x.v ++ [(ls.length, x.d)] else B u)) ↔ (e ∈ B u ∨ (u = x.v ∧ e = (ls.length, x.d))) := by
    by_cases hu : u = x.v
    · subst hu
      simp
    · simp [hu]
  rw [key, h1]
  rcases hk with ⟨k, e1, e2⟩ | ⟨k, e1, e2⟩ | ⟨k, e1, e2⟩
  · rw [e1, e2]
    constructor
    · rintro (h | ⟨_, rfl⟩)
      · exact h
      · exact absurd k (by simp)
    · exact .inl
  · rw [e1, e2]
    constructor
    · rintro (⟨l', h2, b, h3, h4⟩ | ⟨rfl, rfl⟩)
      · cases h2
        exact ⟨_, rfl, b, List.mem_append_left _ h3, h4⟩
      · exact ⟨_, rfl, x, by simp, rfl, rfl⟩
    · rintro ⟨l', h2, b, h3, h4, h5⟩
      cases h2
      rcases List.mem_append.1 h3 with h3 | h3
      · exact .inl ⟨_, rfl, b, h3, h4, h5⟩
      · obtain rfl := List.mem_singleton.1 h3
        exact .inr ⟨h4.symm, by rw [← k, h5]⟩
  · rw [e1, e2]
    constructor
    · rintro (⟨_, h, _⟩ | ⟨_, rfl⟩)
      · cases h
      · exact absurd k (by simp)
    · rintro ⟨_, h, _⟩
      cases h
theorem BuS.in {ls : List (List LB)} {B : Int → List (Nat × Int)} (h : BuS ls B) {C : LB → Prop} (hl : ∀ l ∈ ls, ∀ b ∈ l, C b) {u : Int} {e : Nat × Int} (he : e ∈ B u) : e.1 < ls.length ∧ ∃ b, C b ∧ b.v = u ∧ b.d = e.2 := by
  obtain ⟨l, h1, b, h2, h3, h4⟩ := (h u e).1 he
  exact ⟨(List.getElem?_eq_some_iff.1 h1).1, b, hl l (List.mem_of_getElem? h1) b h2, h3, h4⟩

/-- a row of least sums: T: which sums have been seen at each place -/
structure MinR (m : Nat) (row : List Int) (T : Nat → Int → Prop) : Prop where
  len : row.length = m
  low : ∀ k, k < m → ∀ x, T k x → gD row k ≤ x
  hit : ∀ k, k < m → gD row k = 4611686018427387904 ∨ T k (gD row k)
  le : ∀ k, k < m → gD row k ≤ 4611686018427387904
theorem gD_set {row : List Int} {i j : Nat} {x : Int} (hi : i < row.length) : gD (row.set i x) (j : Int) = if j = i then x else gD row (j : Int) := by
  unfold gD
  simp only [Int.toNat_natCast]
  by_cases e : j = i
  · subst e
    simp [List.getD, hi]
  · rw [if_neg e]
    simp [List.getD, List.getElem?_set, Ne.symm e]
theorem MinR.start (m : Nat) : MinR m (List.replicate m 4611686018427387904) (fun _ _ => False) := by
  have hk : ∀ k, k < m → gD (List.replicate m 4611686018427387904) (k : Int) = 4611686018427387904 := by
    intro k hk
    unfold gD
    simp [List.getD, hk]
  exact ⟨by simp, fun _ _ _ h => h.elim, fun k h => .inl (hk k h), fun k h => by rw [hk k h]; exact Int.le_refl _⟩
theorem MinR.put {m k : Nat} {row : List Int} {T : Nat → Int → Prop} (h : MinR m row T) (hk : k < m) (x : Int) : MinR m (row.set k (min (gD row k) x)) (fun j y => T j y ∨ (j = k ∧ y = x)) := by
  have hl := h.len
  have hg : ∀ j : Nat, gD (row.set k (min (gD row k) x)) (j : Int) = if j = k then min (gD row k) x else gD row j := by
    intro j
    exact gD_set (by rw [hl]; exact hk)
  have a1 := h.low k hk
  have a2 := h.hit k hk
  have a3 := h.le k hk
  refine ⟨by simp [hl], fun j hj y hy => ?_, fun j hj => ?_, fun j hj => ?_⟩ <;> rw [hg j] <;> by_cases e : j = k
  · subst e
    rw [if_pos rfl]
    rcases hy with hy | ⟨_, rfl⟩
    · have := a1 y hy; omega
    · omega
  · rw [if_neg e]
    rcases hy with hy | ⟨e2, _⟩
    · exact h.low j hj y hy
    · exact absurd e2 e
  · subst e
    rw [if_pos rfl]
    rcases Int.le_total x (gD row j) with k1 | k1
    · rw [Int.min_eq_right k1]
      exact .inr (.inr ⟨rfl, rfl⟩)
    · rw [Int.min_eq_left k1]
      exact a2.imp_right .inl
  · rw [if_neg e]
    exact (h.hit j hj).imp_right .inl
  · subst e
    rw [if_pos rfl]
    omega
  · rw [if_neg e]
    exact h.le j hj
theorem MinR.cong {m : Nat} {row : List Int} {T T' : Nat → Int → Prop} (h : MinR m row T) (he : ∀ k x, T k x ↔ T' k x) : MinR m row T' :=
  ⟨h.len, fun k hk x hx => h.low k hk x ((he k x).2 hx), fun k hk => (h.hit k hk).imp_right (he _ _).1, h.le⟩
/-- the sums that come by the first i labels, and the first j entries of the next one's bucket -/
def SumT (la : List LB) (B : Int → List (Nat × Int)) (i j : Nat) (k : Nat) (x : Int) : Prop :=
  (∃ a ∈ la.take i, ∃ e ∈ B a.v, e.1 = k ∧ x = a.d + e.2) ∨ ∃ (h : i < la.length), ∃ e ∈ (B la[i].v).take j, e.1 = k ∧ x = la[i].d + e.2
theorem SumT.none {la : List LB} {B : Int → List (Nat × Int)} {k : Nat} {x : Int} : SumT la B 0 0 k x ↔ False := by
  unfold SumT
  simp
theorem SumT.one {la : List LB} {B : Int → List (Nat × Int)} {i j k : Nat} {x : Int} (hi : i < la.length) (hj : j < (B la[i].v).length) : (SumT la B i j k x ∨ (k = (B la[i].v)[j].1 ∧ x = la[i].d + (B la[i].v)[j].2)) ↔ SumT la B i (j + 1) k x := by
  unfold SumT
  have hT := List.take_succ_eq_append_getElem hj
  constructor
  · rintro ((h | ⟨h, e, h1, h2⟩) | ⟨rfl, rfl⟩)
    · exact .inl h
    · exact .inr ⟨h, e, by rw [hT]; exact List.mem_append_left _ h1, h2⟩
    · exact .inr ⟨hi, _, by rw [hT]; exact List.mem_append_right _ (List.mem_singleton.2 rfl), rfl, rfl⟩
  · rintro (h | ⟨h, e, h1, h2, h3⟩)
    · exact .inl (.inl h)
    · rw [hT] at h1
      rcases List.mem_append.1 h1 with h1 | h1
      · exact .inl (.inr ⟨h, e, h1, h2, h3⟩)
      · obtain rfl := List.mem_singleton.1 h1
        exact .inr ⟨h2.symm, h3⟩
theorem SumT.next {la : List LB} {B : Int → List (Nat × Int)} {i k : Nat} {x : Int} (hi : i < la.length) : SumT la B i (B la[i].v).length k x ↔ SumT la B (i + 1) 0 k x := by
  unfold SumT
  rw [List.take_succ_eq_append_getElem hi]
  constructor
  · rintro (⟨a, h1, h2⟩ | ⟨h, e, h1, h2⟩)
    · exact .inl ⟨a, List.mem_append_left _ h1, h2⟩
    · rw [List.take_length] at h1
      exact .inl ⟨_, List.mem_append_right _ (List.mem_singleton.2 rfl), e, h1, h2⟩
  · rintro (⟨a, h1, h2⟩ | ⟨h, e, h1, h2⟩)
    · rcases List.mem_append.1 h1 with h1 | h1
      · exact .inl ⟨a, h1, h2⟩
      · obtain rfl := List.mem_singleton.1 h1
        obtain ⟨e, h3, h4⟩ := h2
        exact .inr ⟨hi, e, by rw [List.take_length]; exact h3, h4⟩
    · simp at h1
theorem SumT.all {la : List LB} {B : Int → List (Nat × Int)} {k : Nat} {x : Int} : SumT la B la.length 0 k x ↔ ∃ a ∈ la, ∃ e ∈ B a.v, e.1 = k ∧ x = a.d + e.2 := by
  unfold SumT
  rw [List.take_length]
  constructor
  · rintro (h | ⟨h, _⟩)
    · exact h
    · exact absurd h (Nat.lt_irrefl _)
  · exact .inl

/-- a row of the table -/
def TabRow (es : List EdgeD) (s : Int) (tl row : List Int) : Prop := row.length = tl.length ∧ ∀ k (hk : k < tl.length), FarV (arcG es) s tl[k] (gD row (k : Int)) ∧ (gD row (k : Int) = 4611686018427387904 ∨ gD row (k : Int) ≤ 422212465065984)
/-- the spaces of the first ends -/
def SpsOK (es : List EdgeD) (S : List SC) (ro : List Int) (n : Nat) (tl : List Int) (ls : List (List LB)) : Prop :=
  ∀ (j : Nat) (l : List LB), ls[j]? = some l → ∃ t : Nat, tl[j]? = some (t : Int) ∧ t < n ∧ Space (relB true (arcG es)) (XN S true) (rk ro) (t : Int) (l.map labOf)
theorem SpsOK.add {es : List EdgeD} {S : List SC} {ro : List Int} {n : Nat} {tl : List Int} {ls : List (List LB)} {l : List LB} {k t : Nat} (h : SpsOK es S ro n tl ls) (hl : ls.length = k) (ht : tl[k]? = some (t : Int)) (htn : t < n) (hs : Space (relB true (arcG es)) (XN S true) (rk ro) (t : Int) (l.map labOf)) : SpsOK es S ro n tl (ls ++ [l]) := by
  intro j l' hj
  rcases Nat.lt_trichotomy j ls.length with e | e | e
  · rw [List.getElem?_append_left e] at hj
    exact h j l' hj
  · rw [e, List.getElem?_append_right (Nat.le_refl _), Nat.sub_self] at hj
    cases hj
    exact ⟨t, by rw [e, hl]; exact ht, htn, hs⟩
  · rw [List.getElem?_eq_none (by simp; omega)] at hj
    cases hj
theorem tab_row {es : List EdgeD} {n : Nat} {R : List Int} {S : List SC} {ro : List Int} {s : Nat} {tl row : List Int} {la : List LB} {ls : List (List LB)} {B : Int → List (Nat × Int)} (hok : HierOK es n R S ro) (hn : n ≤ 12) (hs : s < n)
    (ha : Space (relB false (arcG es)) (XN S false) (rk ro) (s : Int) (la.map labOf)) (hl : ls.length = tl.length) (hsp : SpsOK es S ro n tl ls) (hb : BuS ls B) (hm : MinR tl.length row (SumT la B la.length 0)) : TabRow es s tl row := by
  refine ⟨hm.len, fun k hk => ?_⟩
  obtain ⟨t, ht, htn, hS⟩ := hsp k ls[k] (List.getElem?_eq_getElem (by omega))
  rw [List.getElem?_eq_getElem hk] at ht
  rw [Option.some.inj ht]
  have hla := labsOK hok ha hs hn
  have hlb := labsOK hok hS htn hn
  obtain ⟨b1, b2⟩ := Space.both (A := arcG es) (X := XN S false) (Y := XN S true) (hok.hierB false) ha hS
  have hT : ∀ x, SumT la B la.length 0 k x ↔ ∃ a ∈ la, ∃ b ∈ ls[k], a.v = b.v ∧ x = a.d + b.d := by
    intro x
    rw [SumT.all]
    constructor
    · rintro ⟨a, h1, e, h2, rfl, rfl⟩
      obtain ⟨l, h3, b, h4, h5, h6⟩ := (hb _ _).1 h2
      have : ls[e.1] = l := by rw [List.getElem?_eq_getElem (by omega)] at h3; exact Option.some.inj h3
      subst this
      exact ⟨a, h1, b, h4, h5.symm, by rw [h6]⟩
    · rintro ⟨a, h1, b, h2, h3, rfl⟩
      exact ⟨a, h1, (k, b.d), (hb _ _).2 ⟨_, List.getElem?_eq_getElem (by omega), b, h2, h3.symm, rfl⟩, rfl, rfl⟩
  have hW : ∀ x, SumT la B la.length 0 k x → Way0 (arcG es) Any s t x ∧ 0 ≤ x ∧ x ≤ 422212465065984 := by
    intro x hx
    obtain ⟨a, h1, b, h2, h3, rfl⟩ := (hT x).1 hx
    have h4 := hla a h1
    have h5 := hlb b h2
    exact ⟨b1 (labOf a) (List.mem_map.2 ⟨a, h1, rfl⟩) (labOf b) (List.mem_map.2 ⟨b, h2, rfl⟩) h3, by omega, by omega⟩
  have hD : ∀ d, Dist (arcG es) s t d → SumT la B la.length 0 k d := by
    intro d hd
    obtain ⟨a, h1, b, h2, h3, h4⟩ := b2 d hd
    obtain ⟨a', h5, rfl⟩ := List.mem_map.1 h1
    obtain ⟨b', h6, rfl⟩ := List.mem_map.1 h2
    exact (hT d).2 ⟨a', h5, b', h6, h3, h4.symm⟩
  have hA1 : ∀ u v w, arcG es u v w → 1 ≤ w := (hok.hierB false).pos
  rcases hm.hit k hk with h1 | h1
  · refine ⟨.inr ⟨h1, fun e he => ?_⟩, .inl h1⟩
    obtain ⟨d, hd⟩ := dist_some hA1 he
    have h2 := hD d hd
    have h3 := hm.low k hk d h2
    have h4 := hW d h2
    omega
  · obtain ⟨h2, h3, h4⟩ := hW _ h1
    obtain ⟨d, hd⟩ := dist_some hA1 h2
    have h5 := hm.low k hk d (hD d hd)
    have h6 := hd.2 _ h2
    have : d = gD row (k : Int) := by omega
    subst this
    exact ⟨.inl ⟨hd, h3, by omega⟩, .inr h4⟩

/-- how far it is: the one number that may be told -/
noncomputable def distV (es : List EdgeD) (s t : Int) : Int := @dite _ (∃ x, FarV (arcG es) s t x) (Classical.propDecidable _) (fun h => Classical.choose h) (fun _ => 0)
theorem FarV.eqD {es : List EdgeD} {s t x : Int} (h : FarV (arcG es) s t x) : x = distV es s t := by
  have h2 : ∃ x, FarV (arcG es) s t x := ⟨x, h⟩
  unfold distV
  rw [dif_pos h2]
  exact h.uniq (Classical.choose_spec h2)
theorem TabRow.eq {es : List EdgeD} {s : Int} {tl row : List Int} (h : TabRow es s tl row) : row = tl.map (distV es s) := by
  refine List.ext_getElem (by simp [h.1]) (fun i h1 h2 => ?_)
  have h3 := (h.2 i (by rw [← h.1]; exact h1)).1.eqD
  rw [List.getElem_map, ← h3]
  unfold gD
  simp [List.getD, h1]
/-- what is known of a distance that was told -/
def DistT (es : List EdgeD) (s t : Int) : Prop := FarV (arcG es) s t (distV es s t) ∧ (distV es s t = 4611686018427387904 ∨ distV es s t ≤ 422212465065984)
theorem TabRow.at {es : List EdgeD} {s : Int} {tl row : List Int} (h : TabRow es s tl row) {k : Nat} (hk : k < tl.length) : DistT es s tl[k] ∧ gD row (k : Int) = distV es s tl[k] := by
  obtain ⟨h1, h2⟩ := h.2 k hk
  have h3 := h1.eqD
  rw [h3] at h1 h2
  exact ⟨⟨h1, h2⟩, h3⟩
theorem DistT.in {es : List EdgeD} {s t : Int} (h : DistT es s t) : 0 ≤ distV es s t ∧ distV es s t ≤ 4611686018427387904 := h.1.in
theorem DistT.lt {es : List EdgeD} {s t : Int} (h : DistT es s t) (hx : distV es s t < 4611686018427387904) : Dist (arcG es) s t (distV es s t) ∧ distV es s t ≤ 422212465065984 := by
  obtain ⟨h1, h2⟩ := h
  exact ⟨(h1.lt hx).1, by omega⟩

end Go.Proofs.YtkdomobedfhhgaaGreat
