/-
  A row that is sorted by insertion, in plain Lean; which places are nearest, in plain Lean.
  Walks of the library's stable sort, at rows of at most 20 numbers: the sort by insertion.
  The library's contracts that the proof uses, laid at this program by the kit's own command; no condition.
-/
import Derived.Test.YtkdomobedfhhgaaGreatQb01
import Derived.Test.YtkdomobedfhhgaaGreatProg
import Derived.Test.YtkdomobedfhhgaaGreatQb07
import Derived.Deep.Cut
import Derived.Deep.RegionLaw
import Derived.Deep.CutRange
import Derived.Shelf.Small.Bits
import Derived.Shelf.Small.Wraps
import Derived.Shelf.Strconv.Itoa0
import Derived.Shelf.Bits.Mul64
import Derived.Shelf.Slices.Reverse
import Derived.Ground.Names2Prog
import Derived.Shelf.Slices.Clone
import Derived.Shelf.Slices.SearchI
import Derived.Shelf.Slices.Cells
import Derived.Ground.SlgnProg
import Derived.Shelf.SlicesE.Clone
import Derived.Ground.SlsfProg
import Derived.Shelf.SlSortCmp.Insertion
set_option linter.unusedVariables false
set_option linter.unusedSimpArgs false
set_option linter.unnecessarySimpa false
section
namespace Go.Proofs.YtkdomobedfhhgaaGreat.Ns

/-- l2 is l1, but for what stands from a to b, which has been put in some order -/
structure Seg (a b : Nat) (l1 l2 : List Int) : Prop where
  len : l2.length = l1.length
  out : ∀ k, k < a ∨ b ≤ k → l2[k]? = l1[k]?
  perm : l2.Perm l1
  pres : ∀ P : Int → Prop, (∀ k x, a ≤ k → k < b → l1[k]? = some x → P x) → ∀ k x, a ≤ k → k < b → l2[k]? = some x → P x
theorem Seg.refl (a b : Nat) (l : List Int) : Seg a b l l := ⟨rfl, fun _ _ => rfl, List.Perm.refl _, fun _ h => h⟩
theorem Seg.trans {a b : Nat} {l1 l2 l3 : List Int} (h : Seg a b l1 l2) (k : Seg a b l2 l3) : Seg a b l1 l3 :=
  ⟨k.len.trans h.len, fun i hi => (k.out i hi).trans (h.out i hi), k.perm.trans h.perm, fun P hp => k.pres P (h.pres P hp)⟩
theorem Seg.mono {a b a' b' : Nat} {l1 l2 : List Int} (h : Seg a b l1 l2) (h1 : a' ≤ a) (h2 : b ≤ b') : Seg a' b' l1 l2 :=
  ⟨h.len, fun k hk => h.out k (by omega), h.perm, fun P hp k x hk1 hk2 hx => by
    by_cases hin : a ≤ k ∧ k < b
    · exact h.pres P (fun i y hi1 hi2 hy => hp i y (by omega) (by omega) hy) k x hin.1 hin.2 hx
    · rw [h.out k (by omega)] at hx
      exact hp k x hk1 hk2 hx⟩

/-- two places change what they hold -/
def swapL (l : List Int) (i j : Nat) : List Int := (l.set i (l.getD j 0)).set j (l.getD i 0)
theorem getD_of {l : List Int} {i : Nat} {x : Int} (h : l[i]? = some x) : l.getD i 0 = x := by rw [List.getD_eq_getElem?_getD, h]; rfl
theorem swapL_get {l : List Int} {i j : Nat} {x y : Int} (hx : l[i]? = some x) (hy : l[j]? = some y) (k : Nat) :
    (swapL l i j)[k]? = if k = j then some x else if k = i then some y else l[k]? := by
  have hi := (List.getElem?_eq_some_iff.1 hx).1
  have hj := (List.getElem?_eq_some_iff.1 hy).1
  unfold swapL
  rw [getD_of hx, getD_of hy, List.getElem?_set, List.getElem?_set, List.length_set]
  by_cases e1 : k = j
  · subst e1; simp [hj]
  · have e1' : ¬ j = k := fun e => e1 e.symm
    rw [if_neg e1', if_neg e1]
    by_cases e2 : k = i
    · subst e2; simp [hi]
    · have e2' : ¬ i = k := fun e => e2 e.symm
      rw [if_neg e2', if_neg e2]
theorem swapL_length (l : List Int) (i j : Nat) : (swapL l i j).length = l.length := by simp [swapL]
theorem swapL_perm {l : List Int} {i j : Nat} (hi : i < l.length) (hj : j < l.length) : (swapL l i j).Perm l := by
  unfold swapL
  rw [show l.getD j 0 = l[j] by simp [List.getD, hj], show l.getD i 0 = l[i] by simp [List.getD, hi]]
  exact List.set_set_perm hi hj
theorem Seg.swap {a b : Nat} {l : List Int} {i j : Nat} (hi : a ≤ i ∧ i < b) (hj : a ≤ j ∧ j < b) (hb : b ≤ l.length) : Seg a b l (swapL l i j) := by
  have hx : l[i]? = some l[i] := List.getElem?_eq_getElem (by omega)
  have hy : l[j]? = some l[j] := List.getElem?_eq_getElem (by omega)
  refine ⟨swapL_length _ _ _, fun k hk => ?_, swapL_perm (by omega) (by omega), fun P hp k x hk1 hk2 hx2 => ?_⟩
  · rw [swapL_get hx hy, if_neg (by omega), if_neg (by omega)]
  · rw [swapL_get hx hy] at hx2
    split at hx2
    · cases hx2; exact hp i _ hi.1 hi.2 hx
    · split at hx2
      · cases hx2; exact hp j _ hj.1 hj.2 hy
      · exact hp k x hk1 hk2 hx2

/-- the order: by key, then by number -/
def Rk (key : Int → Int) (x y : Int) : Prop := key x < key y ∨ (key x = key y ∧ x < y)
theorem Rk.trans {key : Int → Int} {x y z : Int} (h : Rk key x y) (k : Rk key y z) : Rk key x z := by unfold Rk at *; omega
theorem Rk.asymm {key : Int → Int} {x y : Int} (h : Rk key x y) : ¬ Rk key y x := by unfold Rk at *; omega
/-- from a to b in order -/
def Srt (key : Int → Int) (a b : Nat) (l : List Int) : Prop := ∀ i j x y, a ≤ i → i < j → j < b → l[i]? = some x → l[j]? = some y → Rk key x y
/-- from a to b the numbers rise -/
def Asc (a b : Nat) (l : List Int) : Prop := ∀ i j x y, a ≤ i → i < j → j < b → l[i]? = some x → l[j]? = some y → x < y

/-- the sort by insertion: place j is on its way down, of places a to i -/
def InsP (key : Int → Int) (a i j : Nat) (v : Int) (l1 l2 : List Int) : Prop :=
  a ≤ j ∧ j ≤ i ∧ Seg a (i + 1) l1 l2 ∧ l2[j]? = some v ∧ (∀ p q x y, a ≤ p → p < q → q ≤ i → p ≠ j → q ≠ j → l2[p]? = some x → l2[q]? = some y → Rk key x y) ∧
    (∀ q y, j < q → q ≤ i → l2[q]? = some y → Rk key v y) ∧ (∀ p x, a ≤ p → p ≤ i → p ≠ j → l2[p]? = some x → x < v)
theorem InsP.start {key : Int → Int} {a i : Nat} {v : Int} {l : List Int} (hai : a ≤ i) (hs : Srt key a i l) (hv : l[i]? = some v) (hlt : ∀ p x, a ≤ p → p < i → l[p]? = some x → x < v) : InsP key a i i v l l :=
  ⟨hai, Nat.le_refl _, Seg.refl _ _ _, hv, fun p q x y h1 h2 h3 h4 h5 hx hy => hs p q x y h1 h2 (by omega) hx hy, fun q y h1 h2 _ => by omega, fun p x h1 h2 h3 hx => hlt p x h1 (by omega) hx⟩
theorem InsP.step {key : Int → Int} {a i j : Nat} {v u : Int} {l1 l2 : List Int} (h : InsP key a i (j + 1) v l1 l2) (haj : a ≤ j) (hi : i < l2.length) (hu : l2[j]? = some u) (hlt : key v < key u) :
    InsP key a i j v l1 (swapL l2 (j + 1) j) := by
  obtain ⟨h1, h2, h3, h4, h5, h6, h7⟩ := h
  have g := swapL_get h4 hu
  refine ⟨haj, by omega, h3.trans (Seg.swap ⟨by omega, by omega⟩ ⟨by omega, by omega⟩ (by omega)), by rw [g, if_pos rfl], ?_, ?_, ?_⟩
  · intro p q x y p1 p2 p3 p4 p5 hx hy
    rw [g, if_neg p4] at hx
    rw [g, if_neg p5] at hy
    by_cases e1 : p = j + 1
    · rw [if_pos e1] at hx
      rw [if_neg (by omega)] at hy
      cases hx
      exact h5 j q u y haj (by omega) p3 (by omega) (by omega) hu hy
    · rw [if_neg e1] at hx
      by_cases e2 : q = j + 1
      · rw [if_pos e2] at hy
        cases hy
        exact h5 p j x u p1 (by omega) (by omega) (by omega) (by omega) hx hu
      · rw [if_neg e2] at hy
        exact h5 p q x y p1 p2 p3 (by omega) (by omega) hx hy
  · intro q y q1 q2 hy
    rw [g, if_neg (by omega)] at hy
    by_cases e : q = j + 1
    · rw [if_pos e] at hy
      cases hy
      exact .inl hlt
    · rw [if_neg e] at hy
      exact h6 q y (by omega) q2 hy
  · intro p x p1 p2 p3 hx
    rw [g, if_neg p3] at hx
    by_cases e : p = j + 1
    · rw [if_pos e] at hx
      cases hx
      exact h7 j u haj (by omega) (by omega) hu
    · rw [if_neg e] at hx
      exact h7 p x p1 p2 (by omega) hx
theorem InsP.stop {key : Int → Int} {a i j : Nat} {v : Int} {l1 l2 : List Int} (h : InsP key a i j v l1 l2) (hs : j = a ∨ ∃ u, a < j ∧ l2[j - 1]? = some u ∧ ¬ key v < key u) : Srt key a (i + 1) l2 := by
  obtain ⟨h1, h2, h3, h4, h5, h6, h7⟩ := h
  intro p q x y p1 p2 p3 hx hy
  by_cases e1 : p = j
  · subst e1
    rw [h4] at hx
    cases hx
    exact h6 q y p2 (by omega) hy
  · by_cases e2 : q = j
    · subst e2
      rw [h4] at hy
      cases hy
      rcases hs with hs | ⟨u, u1, u2, u3⟩
      · omega
      · have huv : Rk key u v := by
          have := h7 (q - 1) u (by omega) (by omega) (by omega) u2
          unfold Rk
          omega
        by_cases e3 : p = q - 1
        · subst e3
          rw [u2] at hx
          cases hx
          exact huv
        · exact (h5 p (q - 1) x u p1 (by omega) (by omega) e1 (by omega) hx u2).trans huv
    · exact h5 p q x y p1 p2 (by omega) e1 e2 hx hy

/-- the first i are in order, the rest as it was -/
def InsO (key : Int → Int) (a i : Nat) (l1 l2 : List Int) : Prop := Seg a i l1 l2 ∧ Srt key a i l2
theorem InsO.start (key : Int → Int) (a : Nat) (l : List Int) : InsO key a (a + 1) l l := ⟨Seg.refl _ _ _, fun i j x y h1 h2 h3 => by omega⟩
theorem InsO.next {key : Int → Int} {a i b j : Nat} {v : Int} {l1 l2 l3 : List Int} (h : InsO key a i l1 l2) (hj : InsP key a i j v l2 l3) (hs : j = a ∨ ∃ u, a < j ∧ l3[j - 1]? = some u ∧ ¬ key v < key u) :
    InsO key a (i + 1) l1 l3 := ⟨(h.1.mono (Nat.le_refl _) (Nat.le_succ _)).trans hj.2.2.1, hj.stop hs⟩
theorem InsO.in {key : Int → Int} {a i b : Nat} {v : Int} {l1 l2 : List Int} (h : InsO key a i l1 l2) (hai : a ≤ i) (hib : i < b) (ha : Asc a b l1) (hv : l2[i]? = some v) : InsP key a i i v l2 l2 :=
  .start hai h.2 hv fun p x p1 p2 hx => h.1.pres (· < v) (fun k y k1 k2 hy => by
    have e := h.1.out i (.inr (Nat.le_refl _))
    rw [hv] at e
    exact ha k i y v k1 k2 hib hy e.symm) p x p1 p2 hx

/-- the places of the first k that are near at all -/
def plc (F : Int) (ds : List Int) : Nat → List Int
  | 0 => []
  | k + 1 => if ds.getD k 0 < F then plc F ds k ++ [(k : Int)] else plc F ds k
def keyD (ds : List Int) (x : Int) : Int := ds.getD x.toNat 0
theorem mem_plc {F : Int} {ds : List Int} {x : Int} : ∀ {k : Nat}, x ∈ plc F ds k ↔ 0 ≤ x ∧ x < (k : Int) ∧ keyD ds x < F
  | 0 => by simp [plc]; omega
  | k + 1 => by
    unfold plc
    have ih := @mem_plc F ds x k
    have hk : keyD ds (k : Int) = ds.getD k 0 := by unfold keyD; rw [Int.toNat_natCast]
    split
    · rename_i h
      rw [List.mem_append, List.mem_singleton, ih]
      constructor
      · rintro (⟨h1, h2, h3⟩ | rfl)
        · exact ⟨h1, by omega, h3⟩
        · exact ⟨by omega, by omega, by rw [hk]; exact h⟩
      · rintro ⟨h1, h2, h3⟩
        by_cases e : x = (k : Int)
        · exact .inr e
        · exact .inl ⟨h1, by omega, h3⟩
    · rename_i h
      rw [ih]
      constructor
      · rintro ⟨h1, h2, h3⟩
        exact ⟨h1, by omega, h3⟩
      · rintro ⟨h1, h2, h3⟩
        refine ⟨h1, ?_, h3⟩
        by_cases e : x = (k : Int)
        · subst e
          rw [hk] at h3
          exact absurd h3 h
        · omega
theorem plc_len (F : Int) (ds : List Int) : ∀ k : Nat, (plc F ds k).length ≤ k
  | 0 => Nat.le_refl _
  | k + 1 => by
    have := plc_len F ds k
    unfold plc
    split
    · simp; omega
    · omega
theorem plc_asc (F : Int) (ds : List Int) : ∀ (k : Nat) (i j : Nat) (x y : Int), i < j → (plc F ds k)[i]? = some x → (plc F ds k)[j]? = some y → x < y
  | 0 => by simp [plc]
  | k + 1 => by
    intro i j x y hij hx hy
    have ih := plc_asc F ds k
    unfold plc at hx hy
    split at hx
    · rename_i h
      rw [if_pos h] at hy
      rcases Nat.lt_or_ge j (plc F ds k).length with hj | hj
      · rw [List.getElem?_append_left (by omega)] at hx
        rw [List.getElem?_append_left hj] at hy
        exact ih i j x y hij hx hy
      · rw [List.getElem?_append_right hj] at hy
        have hj0 : j = (plc F ds k).length := by
          have := (List.getElem?_eq_some_iff.1 hy).1
          simp at this
          omega
        subst hj0
        rw [Nat.sub_self] at hy
        cases hy
        rw [List.getElem?_append_left hij] at hx
        exact (mem_plc.1 (List.mem_of_getElem? hx)).2.1
    · rename_i h
      rw [if_neg h] at hy
      exact ih i j x y hij hx hy

/-- the nearest place of those that are not had -/
def bestF (F : Int) (ds out : List Int) : Nat → Int
  | 0 => -1
  | i + 1 => if (i : Int) ∉ out ∧ ds.getD i 0 < F ∧ (bestF F ds out i < 0 ∨ ds.getD i 0 < ds.getD (bestF F ds out i).toNat 0) then (i : Int) else bestF F ds out i
def Cand (F : Int) (ds out : List Int) (i : Nat) (x : Int) : Prop := x ∉ out ∧ 0 ≤ x ∧ x < (i : Int) ∧ keyD ds x < F
theorem Cand.succ {F : Int} {ds out : List Int} {i : Nat} {x : Int} (h : Cand F ds out (i + 1) x) : Cand F ds out i x ∨ (x = (i : Int) ∧ (i : Int) ∉ out ∧ ds.getD i 0 < F) := by
  obtain ⟨h1, h2, h3, h4⟩ := h
  by_cases e : x = (i : Int)
  · subst e
    refine .inr ⟨rfl, h1, ?_⟩
    unfold keyD at h4
    rw [Int.toNat_natCast] at h4
    exact h4
  · exact .inl ⟨h1, h2, by omega, h4⟩
theorem bestF_spec (F : Int) (ds out : List Int) : ∀ i : Nat, (bestF F ds out i = -1 ∧ ∀ x, ¬ Cand F ds out i x) ∨ (Cand F ds out i (bestF F ds out i) ∧ ∀ x, Cand F ds out i x → x = bestF F ds out i ∨ Rk (keyD ds) (bestF F ds out i) x)
  | 0 => .inl ⟨rfl, fun x h => by have := h.2.1; have := h.2.2.1; omega⟩
  | i + 1 => by
    have hk : keyD ds (i : Int) = ds.getD i 0 := by unfold keyD; rw [Int.toNat_natCast]
    have ih := bestF_spec F ds out i
    unfold bestF
    generalize bestF F ds out i = b at *
    by_cases hc : (i : Int) ∉ out ∧ ds.getD i 0 < F
    · have hci : Cand F ds out (i + 1) (i : Int) := ⟨hc.1, by omega, by omega, by rw [hk]; exact hc.2⟩
      rcases ih with ⟨rfl, ih⟩ | ⟨⟨b1, b2, b3, b4⟩, ih⟩
      · rw [if_pos ⟨hc.1, hc.2, .inl (by omega)⟩]
        refine .inr ⟨hci, fun x hx => ?_⟩
        rcases hx.succ with h | ⟨rfl, _, _⟩
        · exact absurd h (ih x)
        · exact .inl rfl
      · by_cases hlt : ds.getD i 0 < ds.getD b.toNat 0
        · rw [if_pos ⟨hc.1, hc.2, .inr hlt⟩]
          refine .inr ⟨hci, fun x hx => ?_⟩
          rcases hx.succ with h | ⟨rfl, _, _⟩
          · right
            have hb : Rk (keyD ds) (i : Int) b := .inl (by rw [hk]; exact hlt)
            rcases ih x h with rfl | h2
            · exact hb
            · exact hb.trans h2
          · exact .inl rfl
        · rw [if_neg (by rintro ⟨_, _, h | h⟩ <;> omega)]
          refine .inr ⟨⟨b1, b2, by omega, b4⟩, fun x hx => ?_⟩
          rcases hx.succ with h | ⟨rfl, _, _⟩
          · exact ih x h
          · right
            unfold Rk
            rw [hk]
            have e : keyD ds b = ds.getD b.toNat 0 := rfl
            rw [e]
            omega
    · rw [if_neg (fun h => hc ⟨h.1, h.2.1⟩)]
      rcases ih with ⟨rfl, ih⟩ | ⟨⟨b1, b2, b3, b4⟩, ih⟩
      · refine .inl ⟨rfl, fun x hx => ?_⟩
        rcases hx.succ with h | ⟨_, h1, h2⟩
        · exact ih x h
        · exact hc ⟨h1, h2⟩
      · refine .inr ⟨⟨b1, b2, by omega, b4⟩, fun x hx => ?_⟩
        rcases hx.succ with h | ⟨_, h1, h2⟩
        · exact ih x h
        · exact absurd ⟨h1, h2⟩ hc
/-- the next one of the sorted row is the nearest that is left -/
theorem bestF_sorted {F : Int} {ds l : List Int} {m : Nat} (hp : l.Perm (plc F ds m)) (hs : Srt (keyD ds) 0 l.length l) {k : Nat} (hk : k < l.length) : bestF F ds (l.take k) m = l[k] := by
  have hmem : ∀ x, x ∈ l ↔ 0 ≤ x ∧ x < (m : Int) ∧ keyD ds x < F := fun x => by rw [hp.mem_iff, mem_plc]
  have hcand : Cand F ds (l.take k) m l[k] := by
    obtain ⟨h1, h2, h3⟩ := (hmem _).1 (List.getElem_mem hk)
    refine ⟨fun h => ?_, h1, h2, h3⟩
    obtain ⟨q, hq, e⟩ := List.mem_take_iff_getElem.1 h
    have hqk : q < k := by omega
    have := hs q k l[k] l[k] (Nat.zero_le _) hqk hk (by rw [List.getElem?_eq_getElem (by omega), e]) (List.getElem?_eq_getElem hk)
    exact this.asymm this
  rcases bestF_spec F ds (l.take k) m with ⟨_, h⟩ | ⟨⟨c1, c2, c3, c4⟩, h⟩
  · exact absurd hcand (h _)
  · obtain ⟨j, hj, e⟩ := List.getElem_of_mem ((hmem _).2 ⟨c2, c3, c4⟩)
    have hjk : k ≤ j := by
      rcases Nat.lt_or_ge j k with h2 | h2
      · exact absurd (List.mem_take_iff_getElem.2 ⟨j, by omega, e⟩) c1
      · exact h2
    rcases Nat.lt_or_ge k j with h2 | h2
    · have hr := hs k j _ _ (Nat.zero_le _) h2 hj (List.getElem?_eq_getElem hk) (List.getElem?_eq_getElem hj)
      rw [e] at hr
      rcases h _ hcand with h3 | h3
      · exact h3.symm
      · exact absurd h3 hr.asymm
    · have : j = k := by omega
      subst this
      exact e.symm
theorem bestF_end {F : Int} {ds l : List Int} {m : Nat} (hp : l.Perm (plc F ds m)) : bestF F ds (l.take l.length) m = -1 := by
  rw [List.take_length]
  rcases bestF_spec F ds l m with ⟨h, _⟩ | ⟨⟨c1, c2, c3, c4⟩, _⟩
  · exact h
  · exact absurd (hp.mem_iff.2 (mem_plc.2 ⟨c2, c3, c4⟩)) c1
theorem bestF_in (F : Int) (ds out : List Int) (i : Nat) : bestF F ds out i = -1 ∨ (0 ≤ bestF F ds out i ∧ bestF F ds out i < (i : Int)) := by
  rcases bestF_spec F ds out i with ⟨h, _⟩ | ⟨⟨_, h1, h2, _⟩, _⟩
  · exact .inl h
  · exact .inr ⟨h1, h2⟩

end Go.Proofs.YtkdomobedfhhgaaGreat.Ns
end

section
namespace Go.Proofs.YtkdomobedfhhgaaGreat.Ns
open Go Go.Proofs Go.RowKit Go.Shelf Go.Proofs.YtkdomobedfhhgaaGreat Go.Proofs.YtkdomobedfhhgaaGreat.Hp

def cmpI (a b : Int) : Int := if a < b then -1 else if b < a then 1 else 0

theorem isNaN_any (x : Int) (w : World) : Calls Tryz.prog 140 #[.int .u64 x] w fun e w' => e = .returned (.bool false) ∧ w' = w := by
  go_enter Tryz.func140, Tryz.ntmps140
  go_wp2
  go_ret
  exact ⟨by simp, rfl⟩
theorem Compare_any (x y : Int) (w : World) : Calls Tryz.prog 103 #[.int .u64 x, .int .u64 y] w fun e w' => e = .returned (.int .i64 (cmpI x y)) ∧ w' = w := by
  have HN := Lib.hid isNaN_any
  unfold cmpI
  by_cases h1 : x < y
  · rw [if_pos h1]
    go_enter Tryz.func103, Tryz.ntmps103
    go_wp2_with (go_at_call 140; refine (HN.out _ _).mono ?_; rintro e w1 ⟨rfl, rfl⟩)
    go_ret
    exact ⟨rfl, rfl⟩
  · rw [if_neg h1]
    by_cases h2 : y < x
    · rw [if_pos h2]
      go_enter Tryz.func103, Tryz.ntmps103
      go_wp2_with (go_at_call 140; refine (HN.out _ _).mono ?_; rintro e w1 ⟨rfl, rfl⟩)
      go_ret
      exact ⟨rfl, rfl⟩
    · rw [if_neg h2]
      go_enter Tryz.func103, Tryz.ntmps103
      go_wp2_with (go_at_call 140; refine (HN.out _ _).mono ?_; rintro e w1 ⟨rfl, rfl⟩)
      go_ret
      exact ⟨rfl, rfl⟩

/-- a row of numbers of one's own -/
abbrev RowI (w : World) (base g N cp : Nat) (l : List Int) : Prop := w.ownsRow base 3 1 (.slice (some ⟨g, 0, none⟩) N cp) N (l.map encI)
theorem RowI.len {w : World} {base g N cp : Nat} {l : List Int} (h : RowI w base g N cp l) : l.length = N := by have := h.1; simpa using this
theorem RowI.cell {w : World} {base g N cp : Nat} {l : List Int} (h : RowI w base g N cp l) {i : Nat} {x : Int} (hx : l[i]? = some x) : w.cell? ⟨g, i, none⟩ = some (.int .i64 x) := by
  have hi := (List.getElem?_eq_some_iff.1 hx).1
  rw [h.cellAt i (by have := h.len; omega), List.getElem?_map, hx]
  rfl
theorem RowI.put {w : World} {base g N cp : Nat} {l : List Int} (h : RowI w base g N cp l) (i : Nat) (x : Int) : RowI (w.setCell ⟨g, i, none⟩ (.int .i64 x)) base g N cp (l.set i x) := by
  have := (h.stored i (.int .i64 x)).1
  rw [← List.map_set (f := encI)] at this
  exact this
theorem RowI.base {w : World} {base g N cp : Nat} {l : List Int} (h : RowI w base g N cp l) : base ≤ g ∧ g < w.heap.size := h.lt g rfl

/-- how a closure compares -/
def CmpOn (F : Nat) (cb : Array Value) (key : Int → Int) (M base : Nat) (w0 : World) : Prop :=
  ∀ W x y, Below base w0 W → 0 ≤ x → x < (M : Int) → 0 ≤ y → y < (M : Int) → Calls Tryz.prog F (#[.int .i64 x, .int .i64 y] ++ cb) W fun e w' => e = .returned (.int .i64 (cmpI (key x) (key y))) ∧ Below W.heap.size W w'

/-- what a part of the sort leaves -/
def SortPost (key : Int → Int) (base g N cp a b : Nat) (l : List Int) (w0 : World) (e : Ending) (w' : World) : Prop :=
  (∃ v, e = .returned v) ∧ ∃ l', Aside (Seg a b l l') ∧ Aside (Srt key a b l') ∧ Aside (RowI w' base g N cp l') ∧ Aside (Below base w0 w')

theorem below_mid {base : Nat} {w0 W W' : World} (h : Below base w0 W) (hb : base ≤ W.heap.size) (k : Below W.heap.size W W') : Below base w0 W' := h.trans (k.mono hb)

set_option maxHeartbeats 4000000 in
theorem insSort_any (key : Int → Int) (M F : Nat) (cb : Array Value) (base g N cp a b : Nat) (l : List Int) (w0 w : World) (hen : Enters Tryz.prog F) (hcmp : CmpOn F cb key M base w0) (hbw : Below base w0 w) (hrow : RowI w base g N cp l)
    (hM : ∀ x ∈ l, 0 ≤ x ∧ x < (M : Int)) (hab : a < b) (hbN : b ≤ N) (hN : N ≤ 1000000) (hasc : Asc a b l) :
    Calls Tryz.prog 172 #[.slice (some ⟨g, 0, none⟩) N cp, .int .i64 a, .int .i64 b, .func (.func F) #[] cb] w (SortPost key base g N cp a b l w0) := by
  have HC := Lib.hid hcmp
  have HM := Lib.hid hM
  have HA := Lib.hid hasc
  have HB0 := Lib.hid hbw
  have HR0 := Lib.hid hrow
  have HS0 := Lib.hid (InsO.start key a l)
  unfold Enters at hen
  clear hcmp hM hasc hbw hrow
  go_enter Tryz.func172, Tryz.ntmps172
  go_wp2
  go_loopg [8] (N + 1) (fun gg v8 wr => ∃ (i : Nat) (l2 : List Int), a < i ∧ i ≤ b ∧ N + 1 - i ≤ gg ∧ v8 = .int .i64 i ∧ Aside (InsO key a i l l2) ∧ Aside (RowI wr base g N cp l2) ∧ Aside (Below base w0 wr))
  case atStart => exact ⟨a + 1, l, by omega, by omega, by omega, by go_num, HS0.out, HR0.out, HB0.out⟩
  case round =>
    clear HB0 HR0 HS0
    obtain ⟨i, l2, hai, hib, hg, rfl, HS, HR, HB⟩ := hrel
    by_cases hlt : i < b
    · have hlt2 : (i : Int) < (b : Int) := by omega
      have hl2 := HR.out.len
      obtain ⟨v, hv⟩ : ∃ v, l2[i]? = some v := ⟨l2[i], List.getElem?_eq_getElem (by omega)⟩
      have HI0 := Lib.hid (HS.out.in (by omega) hlt HA.out hv)
      have HMV := Lib.hid (HM.out v (HS.out.1.perm.subset (List.mem_of_getElem? hv)))
      clear hv hl2
      go_wp2
      go_loopg [9] (N + 1) (fun gg2 v9 wr2 => ∃ (j : Nat) (l3 : List Int), a ≤ j ∧ j ≤ i ∧ j ≤ gg2 ∧ v9 = .int .i64 j ∧ Aside (InsP key a i j v l2 l3) ∧ Aside (RowI wr2 base g N cp l3) ∧ Aside (Below base w0 wr2))
      case atStart => exact ⟨i, l2, by omega, Nat.le_refl _, by omega, rfl, HI0.out, HR.out, HB.out⟩
      case round =>
        clear HR HB HI0
        obtain ⟨j, l3, haj, hji, hg2, rfl, HP, HR3, HB3⟩ := hrel
        by_cases hja : a < j
        · obtain ⟨j, rfl⟩ : ∃ j', j = j' + 1 := ⟨j - 1, by omega⟩
          have hl3 := HR3.out.len
          obtain ⟨u, hu⟩ : ∃ u, l3[j]? = some u := ⟨l3[j], List.getElem?_eq_getElem (by omega)⟩
          have c1 := HR3.out.cell HP.out.2.2.2.1
          have c2 := HR3.out.cell hu
          have hmu := HM.out u (HS.out.1.perm.subset (HP.out.2.2.1.perm.subset (List.mem_of_getElem? hu)))
          have HCC := Lib.hid (fun W h => HC.out W v u h HMV.out.1 HMV.out.2 hmu.1 hmu.2)
          have hjN : (j : Int) + 1 < (N : Int) := by omega
          have hja2 : (a : Int) < (j : Int) + 1 := by omega
          have hsz3 : base ≤ wr.heap.size := by have := HR3.out.base; omega
          have K1 := fun p => cell_ext p c1
          have K2 := fun p => cell_ext p c2
          have hj0 : (0 : Int) ≤ (j : Int) + 1 := by omega
          have hj00 : (0 : Int) ≤ (j : Int) := by omega
          have hjN2 : (j : Int) < (N : Int) := by omega
          by_cases hk : key v < key u
          · have HP2 := Lib.hid (HP.out.step (by omega) (by omega) hu hk)
            have hcz : cmpI (key v) (key u) = -1 := if_pos hk
            rw [hcz] at HCC
            clear hcz
            go_wp2
            refine wp_region_ext (by kernel_rfl) (by kernel_rfl) ?_
            repeat (go_big_quiet_step ((exact Calls.ext_of (HCC.out _ (below_mid HB3.out hsz3 (below_ext wr _))))))
            refine wpQuiet_nil ?_
            rintro _ ⟨p4, rfl⟩
            have HB4 := Lib.hid (below_ext wr p4)
            generalize ext wr p4 = w4 at HB4 ⊢
            have HR4 := Lib.hid (show RowI w4 base g N cp l3 from hp_owns_go HR3.out HB4.out)
            have HB5 := Lib.hid (below_mid HB3.out hsz3 HB4.out)
            have c3 := HR4.out.cell HP.out.2.2.2.1
            have c4 := HR4.out.cell hu
            have z3 := HR4.out.frozenAt (j + 1)
            have z4 := HR4.out.frozenAt j
            have HU := Lib.hid hu
            clear K1 K2 c1 c2 hu
            go_wp2
            have HSW := Lib.hid (show swapL l3 (j + 1) j = (l3.set (j + 1) u).set j v by unfold swapL; rw [getD_of HU.out, getD_of HP.out.2.2.2.1])
            have hgb : base ≤ g := HR4.out.base.1
            go_region
            all_goals
              go_wp2
              go_roundg j
              case measure => omega
              case rel =>
                refine ⟨j, swapL l3 (j + 1) j, by omega, by omega, Nat.le_refl _, by go_num, HP2.out, ?_, ?_⟩
                · rw [HSW.out]
                  first
                    | exact (HR4.out.put (j + 1) u).put j v
                    | (rw [List.set_comm _ _ (by omega)]; exact (HR4.out.put j v).put (j + 1) u)
                · first
                    | exact (HB5.out.setCell (p := ⟨g, j + 1, none⟩) hgb (.int .i64 u)).setCell (p := ⟨g, j, none⟩) hgb (.int .i64 v)
                    | exact (HB5.out.setCell (p := ⟨g, j, none⟩) hgb (.int .i64 v)).setCell (p := ⟨g, j + 1, none⟩) hgb (.int .i64 u)
                    | exact ((HB5.out.setCell (p := ⟨g, j + 1, none⟩) hgb (.int .i64 u)).setCell (p := ⟨g, j, none⟩) hgb (.int .i64 v)).drew
                    | exact ((HB5.out.setCell (p := ⟨g, j, none⟩) hgb (.int .i64 v)).setCell (p := ⟨g, j + 1, none⟩) hgb (.int .i64 u)).drew
          · have hcz : ¬ cmpI (key v) (key u) < 0 := by unfold cmpI; rw [if_neg hk]; split <;> omega
            generalize cmpI (key v) (key u) = cz at *
            have HI2 := Lib.hid (HS.out.next (b := b) HP.out (.inr ⟨u, by omega, hu, hk⟩))
            clear hk hu
            go_wp2
            refine wp_region_ext (by kernel_rfl) (by kernel_rfl) ?_
            repeat (go_big_quiet_step ((exact Calls.ext_of (HCC.out _ (below_mid HB3.out hsz3 (below_ext wr _))))))
            refine wpQuiet_nil ?_
            rintro _ ⟨p4, rfl⟩
            have HB4 := Lib.hid (below_ext wr p4)
            generalize ext wr p4 = w4 at HB4 ⊢
            have HR4 := Lib.hid (show RowI w4 base g N cp l3 from hp_owns_go HR3.out HB4.out)
            have HB5 := Lib.hid (below_mid HB3.out hsz3 HB4.out)
            clear K1 K2 c1 c2
            go_wp2
            go_roundg (N + 1 - (i + 1))
            case measure => omega
            case rel => exact ⟨i + 1, l3, by omega, by omega, by omega, by go_num, HI2.out, HR4.out, HB5.out⟩
        · have hja2 : ¬ (a : Int) < (j : Int) := by omega
          have HI2 := Lib.hid (HS.out.next (b := b) HP.out (.inl (by omega)))
          go_wp2
          go_quiet (fail)
          go_wp2
          go_roundg (N + 1 - (i + 1))
          case measure => omega
          case rel => exact ⟨i + 1, l3, by omega, by omega, by omega, by go_num, HI2.out, HR3.out, below_drewN HB3.out _⟩
    · obtain rfl : i = b := by omega
      go_wp2
      go_end0
      exact ⟨⟨_, rfl⟩, l2, HS.out.1, HS.out.2, HR.out, HB.out⟩
theorem insSort_none (fv : Value) (s : Value) (a : Nat) (w : World) (hN : a ≤ 1000000) :
    Calls Tryz.prog 172 #[s, .int .i64 a, .int .i64 a, fv] w (fun e w' => (∃ v, e = .returned v) ∧ w' = w) := by
  have h1 : ¬ (a : Int) + 1 < (a : Int) := by omega
  go_enter Tryz.func172, Tryz.ntmps172
  go_wp2
  refine wp_loop_rounds 1 ?_
  rw [rounds_succ]
  go_wp2
  go_end0
  exact ⟨⟨_, rfl⟩, rfl⟩


set_option maxRecDepth 100000 in
set_option maxHeartbeats 4000000 in
theorem stable_any (key : Int → Int) (M F : Nat) (cb : Array Value) (base g N cp : Nat) (l : List Int) (w0 w : World) (hen : Enters Tryz.prog F) (hcmp : CmpOn F cb key M base w0) (hbw : Below base w0 w) (hrow : RowI w base g N cp l)
    (hM : ∀ x ∈ l, 0 ≤ x ∧ x < (M : Int)) (hN : N ≤ 20) (hasc : Asc 0 N l) :
    Calls Tryz.prog 139 #[.slice (some ⟨g, 0, none⟩) N cp, .int .i64 N, .func (.func F) #[] cb] w (SortPost key base g N cp 0 N l w0) := by
  have HI : RowKit.Hid (Calls Tryz.prog 172 #[.slice (some ⟨g, 0, none⟩) N cp, .int .i64 (0 : Nat), .int .i64 N, .func (.func F) #[] cb] w (SortPost key base g N cp 0 N l w0)) := by
    refine Lib.hid ?_
    by_cases h0 : 0 < N
    · exact insSort_any key M F cb base g N cp 0 N l w0 w hen hcmp hbw hrow hM h0 (Nat.le_refl _) (by omega) hasc
    · obtain rfl : N = 0 := by omega
      refine (insSort_none _ _ 0 w (by omega)).mono ?_
      rintro e w1 ⟨hv, rfl⟩
      exact ⟨hv, l, Seg.refl _ _ _, (fun i j x y p q r hx hy => by omega), hrow, hbw⟩
  have HNO := Lib.hid (fun W => insSort_none (.func (.func F) #[] cb) (.slice (some ⟨g, 0, none⟩) N cp) N W (by omega))
  clear hcmp hbw hrow hM hasc
  by_cases h20 : N = 20
  · subst h20
    go_enter Tryz.func139, Tryz.ntmps139
    go_wp2
    refine wp_loop_rounds 2 ?_
    rw [rounds_succ]
    go_wp2_with (first
      | (go_at_call 172; refine HI.out.mono ?_; rintro e w1 ⟨⟨v, rfl⟩, c1, HS, HT, HR1, HB1⟩))
    rw [rounds_succ]
    go_wp2_with (first
      | (go_at_call 172; refine (HNO.out _).mono ?_; rintro e w2 ⟨⟨v2, rfl⟩, rfl⟩))
    refine wp_loop_rounds 1 ?_
    rw [rounds_succ]
    go_wp2
    go_end0
    exact ⟨⟨_, rfl⟩, c1, HS.out, HT.out, HR1.out, HB1.out⟩
  · have hlt : (N : Int) < 20 := by omega
    go_enter Tryz.func139, Tryz.ntmps139
    go_wp2
    refine wp_loop_rounds 1 ?_
    rw [rounds_succ]
    go_wp2_with (first
      | (go_at_call 172; refine HI.out.mono ?_; rintro e w1 ⟨⟨v, rfl⟩, c1, HS, HT, HR1, HB1⟩))
    refine wp_loop_rounds 1 ?_
    rw [rounds_succ]
    go_wp2
    go_end0
    exact ⟨⟨_, rfl⟩, c1, HS.out, HT.out, HR1.out, HB1.out⟩

theorem SortStable_any (key : Int → Int) (M F : Nat) (cb : Array Value) (base g N cp : Nat) (l : List Int) (w0 w : World) (hen : Enters Tryz.prog F) (hcmp : CmpOn F cb key M base w0) (hbw : Below base w0 w) (hrow : RowI w base g N cp l)
    (hM : ∀ x ∈ l, 0 ≤ x ∧ x < (M : Int)) (hN : N ≤ 20) (hasc : Asc 0 N l) :
    Calls Tryz.prog 101 #[.slice (some ⟨g, 0, none⟩) N cp, .func (.func F) #[] cb] w (SortPost key base g N cp 0 N l w0) := by
  have HI := Lib.hid (stable_any key M F cb base g N cp l w0 w hen hcmp hbw hrow hM hN hasc)
  clear hcmp hbw hrow hM hasc
  go_enter Tryz.func101, Tryz.ntmps101
  go_wp2_with (go_at_call 139; refine HI.out.mono ?_; rintro e w1 ⟨⟨v, rfl⟩, l', HS, HT, HR, HB⟩)
  go_end0
  exact ⟨⟨_, rfl⟩, l', HS, HT, HR, HB⟩

theorem stable_nil (fv : Value) (cp : Nat) (w : World) : Calls Tryz.prog 139 #[.slice none 0 cp, .int .i64 0, fv] w (fun e w' => (∃ v, e = .returned v) ∧ w' = w) := by
  have HNO := Lib.hid (fun W => insSort_none fv (.slice none 0 cp) 0 W (by omega))
  go_enter Tryz.func139, Tryz.ntmps139
  go_wp2
  refine wp_loop_rounds 1 ?_
  rw [rounds_succ]
  go_wp2_with (first
    | (go_at_call 172; refine (HNO.out _).mono ?_; rintro e w1 ⟨⟨v, rfl⟩, rfl⟩))
  refine wp_loop_rounds 1 ?_
  rw [rounds_succ]
  go_wp2
  go_end0
  exact ⟨⟨_, rfl⟩, rfl⟩
theorem SortStable_nil (fv : Value) (cp : Nat) (w : World) : Calls Tryz.prog 101 #[.slice none 0 cp, fv] w (fun e w' => (∃ v, e = .returned v) ∧ w' = w) := by
  have HI := Lib.hid (stable_nil fv cp w)
  go_enter Tryz.func101, Tryz.ntmps101
  go_wp2_with (go_at_call 139; refine HI.out.mono ?_; rintro e w1 ⟨⟨v, rfl⟩, rfl⟩)
  go_end0
  exact ⟨⟨_, rfl⟩, rfl⟩

end Go.Proofs.YtkdomobedfhhgaaGreat.Ns
end

section
namespace Go.Proofs
open Go.Shelf
def Tryz.lays264_ren : Go.Shelf.Ren := ⟨fun | 264 => 169 | n => n, fun | 53 => 34 | 46 => 216 | n => n, fun | n => n⟩
theorem Tryz.lays264 : Go.Proofs.Lays.n264 Tryz.prog Tryz.lays264_ren := {
  mixed := by kernel_rfl
  f264 := Tryz.func169.trans (congrArg some (by kernel_rfl))
  t46 := Tryz.underlying216
  a46 := Tryz.isAgg216
  z46 := Tryz.sizeOf216
  v46 := Tryz.zeroValue216
  t53 := Tryz.underlying34
  a53 := Tryz.isAgg34
  z53 := Tryz.sizeOf34
  v53 := Tryz.zeroValue34 }
open Go.RowKit Go.Lib in
theorem Tryz.bits_Mul64 (x y : Nat) (hx : x < 18446744073709551616) (hy : y < 18446744073709551616) (w : World) :
    Calls Tryz.prog 169 #[.int .u64 x, .int .u64 y] w fun e w' => e = .returned (.tuple #[.int .u64 ((x * y / 18446744073709551616 : Nat) : Int), .int .u64 ((x * y % 18446744073709551616 : Nat) : Int)]) ∧ w' = w := Any.bits_Mul64 Tryz.lays264 x y hx hy w

end Go.Proofs
end
