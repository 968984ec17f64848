/-
  A row that is sorted in parts, in plain Lean: what stays, which parts are sorted, and the step of the sort by insertion.
-/
import Derived.Test.YtfjplphdkfiljaaDoorBase
namespace Go.Proofs.YtfjplphdkfiljaaDoor

/-- l2 is l1, but for what stands from a to b, which has been put in some order -/
structure Seg (a b : Nat) (l1 l2 : List Int) : Prop where
  len : l2.length = l1.length
  out : ∀ k, k < a ∨ b ≤ k → l2[k]? = l1[k]?
  perm : l2.Perm l1
  pres : ∀ P : Int → Prop, (∀ k x, a ≤ k → k < b → l1[k]? = some x → P x) → ∀ k x, a ≤ k → k < b → l2[k]? = some x → P x
theorem Seg.refl (a b : Nat) (l : List Int) : Seg a b l l := ⟨rfl, fun _ _ => rfl, List.Perm.refl _, fun _ h => h⟩
theorem Seg.trans {a b : Nat} {l1 l2 l3 : List Int} (h : Seg a b l1 l2) (k : Seg a b l2 l3) : Seg a b l1 l3 :=
  ⟨k.len.trans h.len, fun i hi => (k.out i hi).trans (h.out i hi), k.perm.trans h.perm, fun P hp => k.pres P (h.pres P hp)⟩
theorem Seg.mono {a b a' b' : Nat} {l1 l2 : List Int} (h : Seg a b l1 l2) (h1 : a' ≤ a) (h2 : b ≤ b') : Seg a' b' l1 l2 :=
  ⟨h.len, fun k hk => h.out k (by omega), h.perm, fun P hp k x hk1 hk2 hx => by
    by_cases hin : a ≤ k ∧ k < b
    · exact h.pres P (fun i y hi1 hi2 hy => hp i y (by omega) (by omega) hy) k x hin.1 hin.2 hx
    · rw [h.out k (by omega)] at hx
      exact hp k x hk1 hk2 hx⟩

/-- two places change what they hold -/
def swapL (l : List Int) (i j : Nat) : List Int := (l.set i (l.getD j 0)).set j (l.getD i 0)
theorem getD_of {l : List Int} {i : Nat} {x : Int} (h : l[i]? = some x) : l.getD i 0 = x := by rw [List.getD_eq_getElem?_getD, h]; rfl
theorem swapL_get {l : List Int} {i j : Nat} {x y : Int} (hx : l[i]? = some x) (hy : l[j]? = some y) (k : Nat) :
    (swapL l i j)[k]? = if k = j then some x else if k = i then some y else l[k]? := by
  have hi := (List.getElem?_eq_some_iff.1 hx).1
  have hj := (List.getElem?_eq_some_iff.1 hy).1
  unfold swapL
  rw [getD_of hx, getD_of hy, List.getElem?_set, List.getElem?_set, List.length_set]
  by_cases e1 : k = j
  · subst e1; simp [hj]
  · have e1' : ¬ j = k := fun e => e1 e.symm
    rw [if_neg e1', if_neg e1]
    by_cases e2 : k = i
    · subst e2; simp [hi]
    · have e2' : ¬ i = k := fun e => e2 e.symm
      rw [if_neg e2', if_neg e2]
theorem swapL_length (l : List Int) (i j : Nat) : (swapL l i j).length = l.length := by simp [swapL]
theorem swapL_perm {l : List Int} {i j : Nat} (hi : i < l.length) (hj : j < l.length) : (swapL l i j).Perm l := by
  unfold swapL
  rw [show l.getD j 0 = l[j] by simp [List.getD, hj], show l.getD i 0 = l[i] by simp [List.getD, hi]]
  exact List.set_set_perm hi hj
theorem Seg.swap {a b : Nat} {l : List Int} {i j : Nat} (hi : a ≤ i ∧ i < b) (hj : a ≤ j ∧ j < b) (hb : b ≤ l.length) : Seg a b l (swapL l i j) := by
  have hx : l[i]? = some l[i] := List.getElem?_eq_getElem (by omega)
  have hy : l[j]? = some l[j] := List.getElem?_eq_getElem (by omega)
  refine ⟨swapL_length _ _ _, fun k hk => ?_, swapL_perm (by omega) (by omega), fun P hp k x hk1 hk2 hx2 => ?_⟩
  · rw [swapL_get hx hy, if_neg (by omega), if_neg (by omega)]
  · rw [swapL_get hx hy] at hx2
    split at hx2
    · cases hx2; exact hp i _ hi.1 hi.2 hx
    · split at hx2
      · cases hx2; exact hp j _ hj.1 hj.2 hy
      · exact hp k x hk1 hk2 hx2

/-- the order: by key, then by number -/
def Rk (key : Int → Int) (x y : Int) : Prop := key x < key y ∨ (key x = key y ∧ x < y)
theorem Rk.trans {key : Int → Int} {x y z : Int} (h : Rk key x y) (k : Rk key y z) : Rk key x z := by unfold Rk at *; omega
theorem Rk.total {key : Int → Int} {x y : Int} (h : x ≠ y) : Rk key x y ∨ Rk key y x := by unfold Rk; omega
theorem Rk.asymm {key : Int → Int} {x y : Int} (h : Rk key x y) : ¬ Rk key y x := by unfold Rk at *; omega
/-- from a to b in order -/
def Srt (key : Int → Int) (a b : Nat) (l : List Int) : Prop := ∀ i j x y, a ≤ i → i < j → j < b → l[i]? = some x → l[j]? = some y → Rk key x y
/-- from a to b the numbers rise -/
def Asc (a b : Nat) (l : List Int) : Prop := ∀ i j x y, a ≤ i → i < j → j < b → l[i]? = some x → l[j]? = some y → x < y

/-- the sort by insertion: place j is on its way down, of places a to i -/
def InsP (key : Int → Int) (a i j : Nat) (v : Int) (l1 l2 : List Int) : Prop :=
  a ≤ j ∧ j ≤ i ∧ Seg a (i + 1) l1 l2 ∧ l2[j]? = some v ∧ (∀ p q x y, a ≤ p → p < q → q ≤ i → p ≠ j → q ≠ j → l2[p]? = some x → l2[q]? = some y → Rk key x y) ∧
    (∀ q y, j < q → q ≤ i → l2[q]? = some y → Rk key v y) ∧ (∀ p x, a ≤ p → p ≤ i → p ≠ j → l2[p]? = some x → x < v)
theorem InsP.start {key : Int → Int} {a i : Nat} {v : Int} {l : List Int} (hai : a ≤ i) (hs : Srt key a i l) (hv : l[i]? = some v) (hlt : ∀ p x, a ≤ p → p < i → l[p]? = some x → x < v) : InsP key a i i v l l :=
  ⟨hai, Nat.le_refl _, Seg.refl _ _ _, hv, fun p q x y h1 h2 h3 h4 h5 hx hy => hs p q x y h1 h2 (by omega) hx hy, fun q y h1 h2 _ => by omega, fun p x h1 h2 h3 hx => hlt p x h1 (by omega) hx⟩
theorem InsP.step {key : Int → Int} {a i j : Nat} {v u : Int} {l1 l2 : List Int} (h : InsP key a i (j + 1) v l1 l2) (haj : a ≤ j) (hi : i < l2.length) (hu : l2[j]? = some u) (hlt : key v < key u) :
    InsP key a i j v l1 (swapL l2 (j + 1) j) := by
  obtain ⟨h1, h2, h3, h4, h5, h6, h7⟩ := h
  have g := swapL_get h4 hu
  refine ⟨haj, by omega, h3.trans (Seg.swap ⟨by omega, by omega⟩ ⟨by omega, by omega⟩ (by omega)), by rw [g, if_pos rfl], ?_, ?_, ?_⟩
  · intro p q x y p1 p2 p3 p4 p5 hx hy
    rw [g, if_neg p4] at hx
    rw [g, if_neg p5] at hy
    by_cases e1 : p = j + 1
    · rw [if_pos e1] at hx
      rw [if_neg (by omega)] at hy
      cases hx
      exact h5 j q u y haj (by omega) p3 (by omega) (by omega) hu hy
    · rw [if_neg e1] at hx
      by_cases e2 : q = j + 1
      · rw [if_pos e2] at hy
        cases hy
        exact h5 p j x u p1 (by omega) (by omega) (by omega) (by omega) hx hu
      · rw [if_neg e2] at hy
        exact h5 p q x y p1 p2 p3 (by omega) (by omega) hx hy
  · intro q y q1 q2 hy
    rw [g, if_neg (by omega)] at hy
    by_cases e : q = j + 1
    · rw [if_pos e] at hy
      cases hy
      exact .inl hlt
    · rw [if_neg e] at hy
      exact h6 q y (by omega) q2 hy
  · intro p x p1 p2 p3 hx
    rw [g, if_neg p3] at hx
    by_cases e : p = j + 1
    · rw [if_pos e] at hx
      cases hx
      exact h7 j u haj (by omega) (by omega) hu
    · rw [if_neg e] at hx
      exact h7 p x p1 p2 (by omega) hx
theorem InsP.stop {key : Int → Int} {a i j : Nat} {v : Int} {l1 l2 : List Int} (h : InsP key a i j v l1 l2) (hs : j = a ∨ ∃ u, a < j ∧ l2[j - 1]? = some u ∧ ¬ key v < key u) : Srt key a (i + 1) l2 := by
  obtain ⟨h1, h2, h3, h4, h5, h6, h7⟩ := h
  intro p q x y p1 p2 p3 hx hy
  by_cases e1 : p = j
  · subst e1
    rw [h4] at hx
    cases hx
    exact h6 q y p2 (by omega) hy
  · by_cases e2 : q = j
    · subst e2
      rw [h4] at hy
      cases hy
      rcases hs with hs | ⟨u, u1, u2, u3⟩
      · omega
      · have huv : Rk key u v := by
          have := h7 (q - 1) u (by omega) (by omega) (by omega) u2
          unfold Rk
          omega
        by_cases e3 : p = q - 1
        · subst e3
          rw [u2] at hx
          cases hx
          exact huv
        · exact (h5 p (q - 1) x u p1 (by omega) (by omega) e1 (by omega) hx u2).trans huv
    · exact h5 p q x y p1 p2 (by omega) e1 e2 hx hy

/-- the first i are in order, the rest as it was -/
def InsO (key : Int → Int) (a i : Nat) (l1 l2 : List Int) : Prop := Seg a i l1 l2 ∧ Srt key a i l2
theorem InsO.start (key : Int → Int) (a : Nat) (l : List Int) : InsO key a (a + 1) l l := ⟨Seg.refl _ _ _, fun i j x y h1 h2 h3 => by omega⟩
theorem InsO.next {key : Int → Int} {a i b j : Nat} {v : Int} {l1 l2 l3 : List Int} (h : InsO key a i l1 l2) (hj : InsP key a i j v l2 l3) (hs : j = a ∨ ∃ u, a < j ∧ l3[j - 1]? = some u ∧ ¬ key v < key u) :
    InsO key a (i + 1) l1 l3 := ⟨(h.1.mono (Nat.le_refl _) (Nat.le_succ _)).trans hj.2.2.1, hj.stop hs⟩
theorem InsO.in {key : Int → Int} {a i b : Nat} {v : Int} {l1 l2 : List Int} (h : InsO key a i l1 l2) (hai : a ≤ i) (hib : i < b) (ha : Asc a b l1) (hv : l2[i]? = some v) : InsP key a i i v l2 l2 :=
  .start hai h.2 hv fun p x p1 p2 hx => h.1.pres (· < v) (fun k y k1 k2 hy => by
    have e := h.1.out i (.inr (Nat.le_refl _))
    rw [hv] at e
    exact ha k i y v k1 k2 hib hy e.symm) p x p1 p2 hx

end Go.Proofs.YtfjplphdkfiljaaDoor
