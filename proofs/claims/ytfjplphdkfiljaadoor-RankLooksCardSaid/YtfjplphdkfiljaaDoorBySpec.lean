/-
  The rank of some keys, in plain Lean: how many come ahead of each.
-/
import Derived.Test.YtfjplphdkfiljaaDoorRkSpec
import Derived.Test.YtfjplphdkfiljaaDoorSortSpec
namespace Go.Proofs.YtfjplphdkfiljaaDoor
open Go.Proofs Go.RowKit Go.Shelf

/-- the order of keys, then of places -/
def keyF (keys : List Int) (x : Int) : Int := keys.getD x.toNat 0
def aheadB (keys : List Int) (k i : Nat) : Bool := decide (keys.getD k 0 < keys.getD i 0) || (decide (keys.getD k 0 = keys.getD i 0) && decide (k < i))
def byL (keys : List Int) : List Int := (List.range keys.length).map fun i => (((List.range keys.length).countP fun k => aheadB keys k i : Nat) : Int)
theorem byL_length (keys : List Int) : (byL keys).length = keys.length := by simp [byL]

theorem invK_get {l : List Int} (hn : okPre l l.length) : ∀ (k p : Nat) (_hk : k ≤ l.length) (hp : p < k), (invK l k)[(l.getD p 0).toNat]? = some (p : Int)
  | k + 1, p, hk, hp => by
    have hlt : ∀ i, i < l.length → l.getD i 0 = l[i]! := fun i hi => by simp [List.getD, hi]
    have hin := fun i (hi : i < l.length) => hn i hi hi
    have hkl : k < l.length := by omega
    have hpl : p < l.length := by omega
    have ek : l.getD k 0 = l[k] := by simp [List.getD, hkl]
    have ep : l.getD p 0 = l[p] := by simp [List.getD, hpl]
    show ((invK l k).set (l.getD k 0).toNat k)[(l.getD p 0).toNat]? = _
    rw [List.getElem?_set]
    by_cases e : p = k
    · subst e
      rw [if_pos rfl, invK_length, if_pos (by rw [ep]; have := hin p hpl; omega)]
    · rw [if_neg (by
        rw [ek, ep]
        intro h
        have h1 := hin k hkl
        have h2 := hin p hpl
        exact h1.2.2 p (by omega) (by omega))]
      exact invK_get hn k p (by omega) (by omega)

/-- a sorted row of all numbers has each at the place that tells how many are ahead -/
theorem sorted_place {keys l : List Int} (hp : l.Perm (rngI keys.length)) (hs : Srt (keyF keys) 0 keys.length l) {p i : Nat} (hi : l[p]? = some (i : Int)) :
    (List.range keys.length).countP (fun k => aheadB keys k i) = p := by
  have hlen : l.length = keys.length := by rw [hp.length_eq, rngI_length]
  have hpl : p < l.length := (List.getElem?_eq_some_iff.1 hi).1
  have hmem : ∀ x ∈ l, 0 ≤ x ∧ x < keys.length := fun x hx => mem_rngI.1 (hp.subset hx)
  have ih : i < keys.length := by have := hmem _ (List.mem_of_getElem? hi); omega
  have e1 : (List.range keys.length).countP (fun k => aheadB keys k i) = (rngI keys.length).countP (fun x => aheadB keys x.toNat i) := by
    unfold rngI
    rw [List.countP_map]
    rfl
  rw [e1, ← hp.countP_eq]
  have hsplit : l = l.take p ++ (i : Int) :: l.drop (p + 1) := by
    have := List.getElem_of_getElem? hi
    obtain ⟨h, e⟩ := this
    rw [← e, ← List.drop_eq_getElem_cons h, List.take_append_drop]
  have rk : ∀ x : Int, 0 ≤ x → (Rk (keyF keys) x i ↔ aheadB keys x.toNat i = true) := by
    intro x hx
    unfold Rk keyF aheadB
    simp only [Bool.or_eq_true, Bool.and_eq_true, decide_eq_true_eq, Int.toNat_natCast]
    omega
  have a1 : (l.take p).countP (fun x => aheadB keys x.toNat i) = p := by
    have hl : (l.take p).length = p := by rw [List.length_take]; omega
    rw [← hl]
    conv => lhs; rw [hl]
    rw [List.countP_eq_length]
    intro x hx
    obtain ⟨q, hq, e⟩ := List.mem_take_iff_getElem.1 hx
    have hq' : q < p := by omega
    have hxl : l[q]? = some x := by rw [List.getElem?_eq_getElem (by omega), e]
    exact (rk x (hmem x (List.mem_of_getElem? hxl)).1).1 (hs q p x i (Nat.zero_le _) hq' (by omega) hxl hi)
  have a2 : ((i : Int) :: l.drop (p + 1)).countP (fun x => aheadB keys x.toNat i) = 0 := by
    rw [List.countP_eq_zero]
    intro x hx hc
    rcases List.mem_cons.1 hx with rfl | hx
    · unfold aheadB at hc
      simp at hc
    · obtain ⟨q, hq⟩ := List.mem_iff_getElem?.1 hx
      rw [List.getElem?_drop] at hq
      have h1 := hs p (p + 1 + q) i x (Nat.zero_le _) (by omega) (by have := (List.getElem?_eq_some_iff.1 hq).1; omega) hi hq
      exact h1.asymm ((rk x (hmem x (List.mem_of_getElem? hq)).1).2 hc)
  rw [hsplit, List.countP_append, a1, a2]
  omega
theorem perm_okPre {l : List Int} {n : Nat} (hp : l.Perm (rngI n)) : okPre l l.length := by
  have hlen : l.length = n := by rw [hp.length_eq, rngI_length]
  have hnd : l.Nodup := hp.nodup_iff.2 (nodup_rngI n)
  intro i hi _
  have h1 := mem_rngI.1 (hp.subset (List.getElem_mem hi))
  refine ⟨h1.1, by omega, fun j hj e => ?_⟩
  unfold List.Nodup at hnd
  rw [List.pairwise_iff_getElem] at hnd
  exact hnd j i (by omega) hi hj e
/-- the inverse of the sorted row is the rank of the keys -/
theorem inv_sorted {keys l : List Int} (hp : l.Perm (rngI keys.length)) (hs : Srt (keyF keys) 0 keys.length l) : invL l = byL keys := by
  have hlen : l.length = keys.length := by rw [hp.length_eq, rngI_length]
  have hok := perm_okPre hp
  unfold invL
  rw [rankB_ok hok]
  simp only [if_true]
  apply List.ext_getElem?
  intro i
  by_cases hi : i < keys.length
  · obtain ⟨p, hpi⟩ := List.mem_iff_getElem?.1 (hp.symm.subset (mem_rngI.2 ⟨Int.natCast_nonneg i, by omega⟩) : (i : Int) ∈ l)
    have hpl : p < l.length := (List.getElem?_eq_some_iff.1 hpi).1
    have g := invK_get hok l.length p (Nat.le_refl _) hpl
    rw [show l.getD p 0 = (i : Int) by rw [List.getD_eq_getElem?_getD, hpi]; rfl] at g
    rw [Int.toNat_natCast] at g
    rw [g]
    unfold byL
    rw [List.getElem?_map, List.getElem?_range hi, Option.map_some, sorted_place hp hs hpi]
  · rw [List.getElem?_eq_none (by rw [invK_length]; omega), List.getElem?_eq_none (by rw [byL_length]; omega)]
theorem asc_rngI (n : Nat) : Asc 0 n (rngI n) := by
  intro i j x y _ hij hjn hx hy
  unfold rngI at hx hy
  rw [List.getElem?_map, List.getElem?_range (by omega)] at hx hy
  cases hx
  cases hy
  show (i : Int) < (j : Int)
  omega

end Go.Proofs.YtfjplphdkfiljaaDoor
