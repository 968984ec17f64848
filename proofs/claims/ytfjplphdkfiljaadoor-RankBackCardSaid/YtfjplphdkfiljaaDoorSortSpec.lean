/-
  A row that is sorted in parts, in plain Lean: what stays, which parts are sorted, and the step of the sort by insertion.
  The rank of some keys, in plain Lean: how many come ahead of each.
-/
import Derived.Test.YtfjplphdkfiljaaDoorBase
import Derived.Test.YtfjplphdkfiljaaDoorRkSpec
namespace Go.Proofs.YtfjplphdkfiljaaDoor

/-- l2 is l1, but for what stands from a to b, which has been put in some order -/
structure Seg (a b : Nat) (l1 l2 : List Int) : Prop where
  len : l2.length = l1.length
  out : ∀ k, k < a ∨ b ≤ k → l2[k]? = l1[k]?
  perm : l2.Perm l1
  pres : ∀ P : Int → Prop, (∀ k x, a ≤ k → k < b → l1[k]? = some x → P x) → ∀ k x, a ≤ k → k < b → l2[k]? = some x → P x
theorem Seg.refl (a b : Nat) (l : List Int) : Seg a b l l := ⟨rfl, fun _ _ => rfl, List.Perm.refl _, fun _ h => h⟩
theorem Seg.trans {a b : Nat} {l1 l2 l3 : List Int} (h : Seg a b l1 l2) (k : Seg a b l2 l3) : Seg a b l1 l3 :=
  ⟨k.len.trans h.len, fun i hi => (k.out i hi).trans (h.out i hi), k.perm.trans h.perm, fun P hp => k.pres P (h.pres P hp)⟩
theorem Seg.mono {a b a' b' : Nat} {l1 l2 : List Int} (h : Seg a b l1 l2) (h1 : a' ≤ a) (h2 : b ≤ b') : Seg a' b' l1 l2 :=
  ⟨h.len, fun k hk => h.out k (by omega), h.perm, fun P hp k x hk1 hk2 hx => by
    by_cases hin : a ≤ k ∧ k < b
    · exact h.pres P (fun i y hi1 hi2 hy => hp i y (by omega) (by omega) hy) k x hin.1 hin.2 hx
    · rw [h.out k (by omega)] at hx
      exact hp k x hk1 hk2 hx⟩

/-- two places change what they hold -/
def swapL (l : List Int) (i j : Nat) : List Int := (l.set i (l.getD j 0)).set j (l.getD i 0)
theorem getD_of {l : List Int} {i : Nat} {x : Int} (h : l[i]? = some x) : l.getD i 0 = x := by rw [List.getD_eq_getElem?_getD, h]; rfl
theorem swapL_get {l : List Int} {i j : Nat} {x y : Int} (hx : l[i]? = some x) (hy : l[j]? = some y) (k : Nat) :
    (swapL l i j)[k]? = if k = j then some x else if k = i then some y else l[k]? := by
  have hi := (List.getElem?_eq_some_iff.1 hx).1
  have hj := (List.getElem?_eq_some_iff.1 hy).1
  unfold swapL
  rw [getD_of hx, getD_of hy, List.getElem?_set, List.getElem?_set, List.length_set]
  by_cases e1 : k = j
  · subst e1; simp [hj]
  · have e1' : ¬ j = k := fun e => e1 e.symm
    rw [if_neg e1', if_neg e1]
    by_cases e2 : k = i
    · subst e2; simp [hi]
    · have e2' : ¬ i = k := fun e => e2 e.symm
      rw [if_neg e2', if_neg e2]
theorem swapL_length (l : List Int) (i j : Nat) : (swapL l i j).length = l.length := by simp [swapL]
theorem swapL_perm {l : List Int} {i j : Nat} (hi : i < l.length) (hj : j < l.length) : (swapL l i j).Perm l := by
  unfold swapL
  rw [show l.getD j 0 = l[j] by simp [List.getD, hj], show l.getD i 0 = l[i] by simp [List.getD, hi]]
  exact List.set_set_perm hi hj
theorem Seg.swap {a b : Nat} {l : List Int} {i j : Nat} (hi : a ≤ i ∧ i < b) (hj : a ≤ j ∧ j < b) (hb : b ≤ l.length) : Seg a b l (swapL l i j) := by
  have hx : l[i]? = some l[i] := List.getElem?_eq_getElem (by omega)
  have hy : l[j]? = some l[j] := List.getElem?_eq_getElem (by omega)
  refine ⟨swapL_length _ _ _, fun k hk => ?_, swapL_perm (by omega) (by omega), fun P hp k x hk1 hk2 hx2 => ?_⟩
  · rw [swapL_get hx hy, if_neg (by omega), if_neg (by omega)]
  · rw [swapL_get hx hy] at hx2
    split at hx2
    · cases hx2; exact hp i _ hi.1 hi.2 hx
    · split at hx2
      · cases hx2; exact hp j _ hj.1 hj.2 hy
      · exact hp k x hk1 hk2 hx2

/-- the order: by key, then by number -/
def Rk (key : Int → Int) (x y : Int) : Prop := key x < key y ∨ (key x = key y ∧ x < y)
theorem Rk.trans {key : Int → Int} {x y z : Int} (h : Rk key x y) (k : Rk key y z) : Rk key x z := by unfold Rk at *; omega
theorem Rk.total {key : Int → Int} {x y : Int} (h : x ≠ y) : Rk key x y ∨ Rk key y x := by unfold Rk; omega
theorem Rk.asymm {key : Int → Int} {x y : Int} (h : Rk key x y) : ¬ Rk key y x := by unfold Rk at *; omega
/-- from a to b in order -/
def Srt (key : Int → Int) (a b : Nat) (l : List Int) : Prop := ∀ i j x y, a ≤ i → i < j → j < b → l[i]? = some x → l[j]? = some y → Rk key x y
/-- from a to b the numbers rise -/
def Asc (a b : Nat) (l : List Int) : Prop := ∀ i j x y, a ≤ i → i < j → j < b → l[i]? = some x → l[j]? = some y → x < y

/-- the sort by insertion: place j is on its way down, of places a to i -/
def InsP (key : Int → Int) (a i j : Nat) (v : Int) (l1 l2 : List Int) : Prop :=
  a ≤ j ∧ j ≤ i ∧ Seg a (i + 1) l1 l2 ∧ l2[j]? = some v ∧ (∀ p q x y, a ≤ p → p < q → q ≤ i → p ≠ j → q ≠ j → l2[p]? = some x → l2[q]? = some y → Rk key x y) ∧
    (∀ q y, j < q → q ≤ i → l2[q]? = some y → Rk key v y) ∧ (∀ p x, a ≤ p → p ≤ i → p ≠ j → l2[p]? = some x → x < v)
theorem InsP.start {key : Int → Int} {a i : Nat} {v : Int} {l : List Int} (hai : a ≤ i) (hs : Srt key a i l) (hv : l[i]? = some v) (hlt : ∀ p x, a ≤ p → p < i → l[p]? = some x → x < v) : InsP key a i i v l l :=
  ⟨hai, Nat.le_refl _, Seg.refl _ _ _, hv, fun p q x y h1 h2 h3 h4 h5 hx hy => hs p q x y h1 h2 (by omega) hx hy, fun q y h1 h2 _ => by omega, fun p x h1 h2 h3 hx => hlt p x h1 (by omega) hx⟩
theorem InsP.step {key : Int → Int} {a i j : Nat} {v u : Int} {l1 l2 : List Int} (h : InsP key a i (j + 1) v l1 l2) (haj : a ≤ j) (hi : i < l2.length) (hu : l2[j]? = some u) (hlt : key v < key u) :
    InsP key a i j v l1 (swapL l2 (j + 1) j) := by
  obtain ⟨h1, h2, h3, h4, h5, h6, h7⟩ := h
  have g := swapL_get h4 hu
  refine ⟨haj, by omega, h3.trans (Seg.swap ⟨by omega, by omega⟩ ⟨by omega, by omega⟩ (by omega)), by rw [g, if_pos rfl], ?_, ?_, ?_⟩
  · intro p q x y p1 p2 p3 p4 p5 hx hy
    rw [g, if_neg p4] at hx
    rw [g, if_neg p5] at hy
    by_cases e1 : p = j + 1
    · rw [if_pos e1] at hx
      rw [if_neg (by omega)] at hy
      cases hx
      exact h5 j q u y haj (by omega) p3 (by omega) (by omega) hu hy
    · rw [if_neg e1] at hx
      by_cases e2 : q = j + 1
      · rw [if_pos e2] at hy
        cases hy
        exact h5 p j x u p1 (by omega) (by omega) (by omega) (by omega) hx hu
      · rw [if_neg e2] at hy
        exact h5 p q x y p1 p2 p3 (by omega) (by omega) hx hy
  · intro q y q1 q2 hy
    rw [g, if_neg (by omega)] at hy
    by_cases e : q = j + 1
    · rw [if_pos e] at hy
      cases hy
      exact .inl hlt
    · rw [if_neg e] at hy
      exact h6 q y (by omega) q2 hy
  · intro p x p1 p2 p3 hx
    rw [g, if_neg p3] at hx
    by_cases e : p = j + 1
    · rw [if_pos e] at hx
      cases hx
      exact h7 j u haj (by omega) (by omega) hu
    · rw [if_neg e] at hx
      exact h7 p x p1 p2 (by omega) hx
theorem InsP.stop {key : Int → Int} {a i j : Nat} {v : Int} {l1 l2 : List Int} (h : InsP key a i j v l1 l2) (hs : j = a ∨ ∃ u, a < j ∧ l2[j - 1]? = some u ∧ ¬ key v < key u) : Srt key a (i + 1) l2 := by
  obtain ⟨h1, h2, h3, h4, h5, h6, h7⟩ := h
  intro p q x y p1 p2 p3 hx hy
  by_cases e1 : p = j
  · subst e1
    rw [h4] at hx
    cases hx
    exact h6 q y p2 (by omega) hy
  · by_cases e2 : q = j
    · subst e2
      rw [h4] at hy
      cases hy
      rcases hs with hs | ⟨u, u1, u2, u3⟩
      · omega
      · have huv : Rk key u v := by
          have := h7 (q - 1) u (by omega) (by omega) (by omega) u2
          unfold Rk
          omega
        by_cases e3 : p = q - 1
        · subst e3
          rw [u2] at hx
          cases hx
          exact huv
        · exact (h5 p (q - 1) x u p1 (by omega) (by omega) e1 (by omega) hx u2).trans huv
    · exact h5 p q x y p1 p2 (by omega) e1 e2 hx hy

/-- the first i are in order, the rest as it was -/
def InsO (key : Int → Int) (a i : Nat) (l1 l2 : List Int) : Prop := Seg a i l1 l2 ∧ Srt key a i l2
theorem InsO.start (key : Int → Int) (a : Nat) (l : List Int) : InsO key a (a + 1) l l := ⟨Seg.refl _ _ _, fun i j x y h1 h2 h3 => by omega⟩
theorem InsO.next {key : Int → Int} {a i b j : Nat} {v : Int} {l1 l2 l3 : List Int} (h : InsO key a i l1 l2) (hj : InsP key a i j v l2 l3) (hs : j = a ∨ ∃ u, a < j ∧ l3[j - 1]? = some u ∧ ¬ key v < key u) :
    InsO key a (i + 1) l1 l3 := ⟨(h.1.mono (Nat.le_refl _) (Nat.le_succ _)).trans hj.2.2.1, hj.stop hs⟩
theorem InsO.in {key : Int → Int} {a i b : Nat} {v : Int} {l1 l2 : List Int} (h : InsO key a i l1 l2) (hai : a ≤ i) (hib : i < b) (ha : Asc a b l1) (hv : l2[i]? = some v) : InsP key a i i v l2 l2 :=
  .start hai h.2 hv fun p x p1 p2 hx => h.1.pres (· < v) (fun k y k1 k2 hy => by
    have e := h.1.out i (.inr (Nat.le_refl _))
    rw [hv] at e
    exact ha k i y v k1 k2 hib hy e.symm) p x p1 p2 hx

end Go.Proofs.YtfjplphdkfiljaaDoor

namespace Go.Proofs.YtfjplphdkfiljaaDoor
open Go.Proofs Go.RowKit Go.Shelf

/-- the order of keys, then of places -/
def keyF (keys : List Int) (x : Int) : Int := keys.getD x.toNat 0
def aheadB (keys : List Int) (k i : Nat) : Bool := decide (keys.getD k 0 < keys.getD i 0) || (decide (keys.getD k 0 = keys.getD i 0) && decide (k < i))
def byL (keys : List Int) : List Int := (List.range keys.length).map fun i => (((List.range keys.length).countP fun k => aheadB keys k i : Nat) : Int)
theorem byL_length (keys : List Int) : (byL keys).length = keys.length := by simp [byL]

theorem invK_get {l : List Int} (hn : okPre l l.length) : ∀ (k p : Nat) (_hk : k ≤ l.length) (hp : p < k), (invK l k)[(l.getD p 0).toNat]? = some (p : Int)
  | k + 1, p, hk, hp => by
    have hlt : ∀ i, i < l.length → l.getD i 0 = l[i]! := fun i hi => by simp [List.getD, hi]
    have hin := fun i (hi : i < l.length) => hn i hi hi
    have hkl : k < l.length := by omega
    have hpl : p < l.length := by omega
    have ek : l.getD k 0 = l[k] := by simp [List.getD, hkl]
    have ep : l.getD p 0 = l[p] := by simp [List.getD, hpl]
    show ((invK l k).set (l.getD k 0).toNat k)[(l.getD p 0).toNat]? = _
    rw [List.getElem?_set]
    by_cases e : p = k
    · subst e
      rw [if_pos rfl, invK_length, if_pos (by rw [ep]; have := hin p hpl; omega)]
    · rw [if_neg (by
        rw [ek, ep]
        intro h
        have h1 := hin k hkl
        have h2 := hin p hpl
        exact h1.2.2 p (by omega) (by omega))]
      exact invK_get hn k p (by omega) (by omega)

/-- a sorted row of all numbers has each at the place that tells how many are ahead -/
theorem sorted_place {keys l : List Int} (hp : l.Perm (rngI keys.length)) (hs : Srt (keyF keys) 0 keys.length l) {p i : Nat} (hi : l[p]? = some (i : Int)) :
    (List.range keys.length).countP (fun k => aheadB keys k i) = p := by
  have hlen : l.length = keys.length := by rw [hp.length_eq, rngI_length]
  have hpl : p < l.length := (List.getElem?_eq_some_iff.1 hi).1
  have hmem : ∀ x ∈ l, 0 ≤ x ∧ x < keys.length := fun x hx => mem_rngI.1 (hp.subset hx)
  have ih : i < keys.length := by have := hmem _ (List.mem_of_getElem? hi); omega
  have e1 : (List.range keys.length).countP (fun k => aheadB keys k i) = (rngI keys.length).countP (fun x => aheadB keys x.toNat i) := by
    unfold rngI
    rw [List.countP_map]
    rfl
  rw [e1, ← hp.countP_eq]
  have hsplit : l = l.take p ++ (i : Int) :: l.drop (p + 1) := by
    have := List.getElem_of_getElem? hi
    obtain ⟨h, e⟩ := this
    rw [← e, ← List.drop_eq_getElem_cons h, List.take_append_drop]
  have rk : ∀ x : Int, 0 ≤ x → (Rk (keyF keys) x i ↔ aheadB keys x.toNat i = true) := by
    intro x hx
    unfold Rk keyF aheadB
    simp only [Bool.or_eq_true, Bool.and_eq_true, decide_eq_true_eq, Int.toNat_natCast]
    omega
  have a1 : (l.take p).countP (fun x => aheadB keys x.toNat i) = p := by
    have hl : (l.take p).length = p := by rw [List.length_take]; omega
    rw [← hl]
    conv => lhs; rw [hl]
    rw [List.countP_eq_length]
    intro x hx
    obtain ⟨q, hq, e⟩ := List.mem_take_iff_getElem.1 hx
    have hq' : q < p := by omega
    have hxl : l[q]? = some x := by rw [List.getElem?_eq_getElem (by omega), e]
    exact (rk x (hmem x (List.mem_of_getElem? hxl)).1).1 (hs q p x i (Nat.zero_le _) hq' (by omega) hxl hi)
  have a2 : ((i : Int) :: l.drop (p + 1)).countP (fun x => aheadB keys x.toNat i) = 0 := by
    rw [List.countP_eq_zero]
    intro x hx hc
    rcases List.mem_cons.1 hx with rfl | hx
    · unfold aheadB at hc
      simp at hc
    · obtain ⟨q, hq⟩ := List.mem_iff_getElem?.1 hx
      rw [List.getElem?_drop] at hq
      have h1 := hs p (p + 1 + q) i x (Nat.zero_le _) (by omega) (by have := (List.getElem?_eq_some_iff.1 hq).1; omega) hi hq
      exact h1.asymm ((rk x (hmem x (List.mem_of_getElem? hq)).1).2 hc)
  rw [hsplit, List.countP_append, a1, a2]
  omega
theorem perm_okPre {l : List Int} {n : Nat} (hp : l.Perm (rngI n)) : okPre l l.length := by
  have hlen : l.length = n := by rw [hp.length_eq, rngI_length]
  have hnd : l.Nodup := hp.nodup_iff.2 (nodup_rngI n)
  intro i hi _
  have h1 := mem_rngI.1 (hp.subset (List.getElem_mem hi))
  refine ⟨h1.1, by omega, fun j hj e => ?_⟩
  unfold List.Nodup at hnd
  rw [List.pairwise_iff_getElem] at hnd
  exact hnd j i (by omega) hi hj e
/-- the inverse of the sorted row is the rank of the keys -/
theorem inv_sorted {keys l : List Int} (hp : l.Perm (rngI keys.length)) (hs : Srt (keyF keys) 0 keys.length l) : invL l = byL keys := by
  have hlen : l.length = keys.length := by rw [hp.length_eq, rngI_length]
  have hok := perm_okPre hp
  unfold invL
  rw [rankB_ok hok]
  simp only [if_true]
  apply List.ext_getElem?
  intro i
  by_cases hi : i < keys.length
  · obtain ⟨p, hpi⟩ := List.mem_iff_getElem?.1 (hp.symm.subset (mem_rngI.2 ⟨Int.natCast_nonneg i, by omega⟩) : (i : Int) ∈ l)
    have hpl : p < l.length := (List.getElem?_eq_some_iff.1 hpi).1
    have g := invK_get hok l.length p (Nat.le_refl _) hpl
    rw [show l.getD p 0 = (i : Int) by rw [List.getD_eq_getElem?_getD, hpi]; rfl] at g
    rw [Int.toNat_natCast] at g
    rw [g]
    unfold byL
    rw [List.getElem?_map, List.getElem?_range hi, Option.map_some, sorted_place hp hs hpi]
  · rw [List.getElem?_eq_none (by rw [invK_length]; omega), List.getElem?_eq_none (by rw [byL_length]; omega)]
theorem asc_rngI (n : Nat) : Asc 0 n (rngI n) := by
  intro i j x y _ hij hjn hx hy
  unfold rngI at hx hy
  rw [List.getElem?_map, List.getElem?_range (by omega)] at hx hy
  cases hx
  cases hy
  show (i : Int) < (j : Int)
  omega

end Go.Proofs.YtfjplphdkfiljaaDoor
