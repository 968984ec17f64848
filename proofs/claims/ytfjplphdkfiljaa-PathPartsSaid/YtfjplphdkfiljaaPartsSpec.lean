/-
  The plain law of PathParts: a way, cut anywhere, is two ways; a simple way has fewer edges than there are nodes; what a part shares.
-/
import Derived.Test.YtfjplphdkfiljaaProg
import Derived.Test.YtfjplphdkfiljaaShared
namespace Go.Proofs.Ytfjplphdkfiljaa
open Go.Proofs Go.RowKit Go.Shelf

theorem edgesB_of {g : GD} {l m : List Int} (h : edgesB g l = true) (hm : ∀ x ∈ m, x ∈ l) : edgesB g m = true := by
  unfold edgesB at h ⊢
  simp only [Bool.and_eq_true, Bool.not_eq_true', List.any_eq_false] at h ⊢
  exact ⟨h.1, fun x hx => h.2 x (hm x hx)⟩
theorem edgesB_take {g : GD} {l : List Int} (h : edgesB g l = true) (k : Nat) : edgesB g (l.take k) = true := edgesB_of h fun _ hx => List.mem_of_mem_take hx
theorem edgesB_drop {g : GD} {l : List Int} (h : edgesB g l = true) (k : Nat) : edgesB g (l.drop k) = true := edgesB_of h fun _ hx => List.mem_of_mem_drop hx

/-- the nodes from s on, without what came ahead -/
def tailGo (es : List EdgeD) : Int → List Int → Option (List Int)
  | _, [] => some []
  | s, e :: r => if (es.getD e.toNat edD).f = s then (tailGo es (es.getD e.toNat edD).t r).map ((es.getD e.toNat edD).t :: ·) else none
theorem walkGo_tail (es : List EdgeD) : ∀ (l : List Int) (s : Int) (out : List Int), walkGo es s out l = (tailGo es s l).map (out ++ ·)
  | [], s, out => by simp [walkGo, tailGo]
  | e :: r, s, out => by
    unfold walkGo tailGo
    by_cases h : (es.getD e.toNat edD).f = s
    · rw [if_pos h, if_pos h, walkGo_tail es r]
      cases tailGo es (es.getD e.toNat edD).t r <;> simp
    · rw [if_neg h, if_neg h]; rfl
theorem tailGo_cut (es : List EdgeD) : ∀ (l : List Int) (s : Int) (T : List Int) (k : Nat), tailGo es s l = some T → k ≤ l.length →
    tailGo es s (l.take k) = some (T.take k) ∧ tailGo es ((s :: T)[k]?.getD 0) (l.drop k) = some (T.drop k)
  | l, s, T, 0, h, _ => by simp [tailGo, h]
  | [], s, T, k + 1, h, hk => by simp at hk
  | e :: r, s, T, k + 1, h, hk => by
    unfold tailGo at h
    by_cases c : (es.getD e.toNat edD).f = s
    · rw [if_pos c] at h
      cases ht : tailGo es (es.getD e.toNat edD).t r with
      | none => rw [ht] at h; cases h
      | some T' =>
        rw [ht] at h
        cases h
        obtain ⟨h1, h2⟩ := tailGo_cut es r _ T' k ht (by simpa using hk)
        refine ⟨?_, ?_⟩
        · rw [List.take_succ_cons, tailGo, if_pos c, h1]; rfl
        · rw [List.drop_succ_cons, List.drop_succ_cons, List.getElem?_cons_succ]; exact h2
    · rw [if_neg c] at h; cases h

theorem nodes_cut {g : GD} {s : Int} {l O : List Int} (h : nodesG g s l = some O) (k : Nat) (hk : k ≤ l.length) :
    nodesG g s (l.take k) = some (O.take (k + 1)) ∧ nodesG g (O[k]?.getD 0) (l.drop k) = some (O.drop k) := by
  have hn := nodesG_node h
  have hlen := nodesG_length h
  unfold nodesG at h
  split at h
  · rename_i hc
    simp only [Bool.and_eq_true] at hc
    rw [walkGo_tail] at h
    cases ht : tailGo g.es s l with
    | none => rw [ht] at h; cases h
    | some T =>
      rw [ht] at h
      simp at h
      subst h
      obtain ⟨h1, h2⟩ := tailGo_cut g.es l s T k ht hk
      refine ⟨?_, ?_⟩
      · unfold nodesG
        rw [edgesB_take hc.1, hc.2, Bool.true_and, if_pos rfl, walkGo_tail, h1]; simp
      · unfold nodesG
        have hk2 : k < (s :: T).length := by omega
        have hv : nodeB g.n ((s :: T)[k]?.getD 0) = true := by
          rw [List.getElem?_eq_getElem hk2, Option.getD_some]
          have := hn _ (List.getElem_mem hk2)
          unfold nodeB
          simp; omega
        rw [edgesB_drop hc.1, hv, Bool.true_and, if_pos rfl, walkGo_tail, h2]
        simp only [Option.map_some, Option.some.injEq]
        rw [List.getElem?_eq_getElem hk2, Option.getD_some]
        exact (List.drop_eq_getElem_cons hk2).symm
  · cases h

theorem is_cut {g : GD} {s t : Int} {l O : List Int} (h : nodesG g s l = some O) (ht : isB g s t l = true) (k : Nat) (hk : k ≤ l.length) :
    isB g s (O[k]?.getD 0) (l.take k) = true ∧ isB g (O[k]?.getD 0) t (l.drop k) = true := by
  have hlen := nodesG_length h
  obtain ⟨h1, h2⟩ := nodes_cut h k hk
  unfold isB at ht ⊢
  rw [h] at ht
  rw [h1, h2]
  simp only [beq_iff_eq] at ht ⊢
  refine ⟨?_, ?_⟩
  · rw [List.length_take, Nat.min_eq_left (by omega), show k + 1 - 1 = k by omega, List.getElem?_take_of_lt (by omega)]
  · rw [List.length_drop, List.getElem?_drop, show k + (O.length - k - 1) = O.length - 1 by omega]
    exact ht

/-- what the edges of a row weigh together -/
def wsum (es : List EdgeD) : List Int → Int
  | [] => 0
  | e :: r => wt es e + wsum es r
theorem wsum_append (es : List EdgeD) : ∀ a b : List Int, wsum es (a ++ b) = wsum es a + wsum es b
  | [], b => by simp [wsum]
  | e :: r, b => by rw [List.cons_append, wsum, wsum, wsum_append es r b]; omega
theorem wsum_cut (es : List EdgeD) (l : List Int) (k : Nat) : wsum es (l.take k) + wsum es (l.drop k) = wsum es l := by rw [← wsum_append, List.take_append_drop]
theorem offF_last (es : List EdgeD) : ∀ (l : List Int) (a : Int), (offF es a l)[l.length]? = some (a + wsum es l)
  | [], a => by simp [offF, wsum]
  | e :: r, a => by
    rw [offF, List.length_cons, List.getElem?_cons_succ, offF_last es r, wsum]
    congr 1
    omega
theorem weight_sum {g : GD} {l : List Int} (h : edgesB g l = true) : weightG g l = some (wsum g.es l) := by
  unfold weightG
  rw [offG_yes h, Option.map_some, offF_last]
  simp
theorem wsum_bd {g : GD} {l : List Int} (h : edgesB g l = true) : 0 ≤ wsum g.es l ∧ wsum g.es l ≤ l.length * 4294967296 := by
  induction l with
  | nil => simp [wsum]
  | cons e r ih =>
    have := ih (edgesB_of h fun x hx => by simp [hx])
    have h2 := wt_bd h (e := e) (by simp)
    rw [wsum, List.length_cons]
    have e3 : ((r.length + 1 : Nat) : Int) * 4294967296 = r.length * 4294967296 + 4294967296 := by omega
    omega
theorem shF_le {g : GD} (M : List Int) : ∀ (n : Nat) (P : List Int), P.length = n → edgesB g P = true → shF g.es P M ≤ wsum g.es P
  | 0, P, hn, _ => by
    have : P = [] := List.length_eq_zero_iff.1 hn
    subst this
    rw [shF_nil]; simp [wsum]
  | n + 1, P, hn, h => by
    have hne : P ≠ [] := by intro e; subst e; simp at hn
    obtain ⟨x, hx⟩ : ∃ x, P = P.dropLast ++ [x] := ⟨P.getLast hne, (List.dropLast_concat_getLast hne).symm⟩
    have hQ : P.dropLast.length = n := by simp; omega
    generalize P.dropLast = Q at *
    subst hx
    have hm := edgesB_mem h (e := x) (by simp)
    have hw := wt_bd h (e := x) (by simp)
    have ih := shF_le M n Q hQ (edgesB_of h fun y hy => by simp [hy])
    rw [shF_step hm.1 hm.2, wsum_append]
    simp only [wsum]
    split
    · omega
    · split <;> omega

theorem nodup_le : ∀ (n : Nat) (O : List Int), O.Nodup → (∀ x ∈ O, 0 ≤ x ∧ x < (n : Int)) → O.length ≤ n
  | 0, O, _, h => by
    cases O with
    | nil => simp
    | cons x r => have := h x (by simp); omega
  | n + 1, O, hn, h => by
    have h1 : (O.erase (n : Int)).Nodup := hn.erase _
    have h2 := nodup_le n (O.erase (n : Int)) h1 (fun x hx => by
      have hx' := (hn.mem_erase_iff).1 hx
      have := h x hx'.2
      have := hx'.1
      omega)
    have h3 := List.length_erase (a := (n : Int)) (l := O)
    split at h3 <;> omega
theorem simple_few {g : GD} {s : Int} {l : List Int} (h : simpleB g s l = true) : (l.length : Int) < g.n := by
  unfold simpleB at h
  cases ho : nodesG g s l with
  | none => rw [ho] at h; cases h
  | some O =>
    rw [ho] at h
    have hn := nodesG_node ho
    have hl := nodesG_length ho
    have hg : 0 ≤ g.n := by
      have : 0 < O.length := by omega
      have := hn _ (List.getElem_mem this)
      omega
    have := nodup_le g.n.toNat O (by simpa using h) (fun x hx => by have := hn x hx; omega)
    omega
end Go.Proofs.Ytfjplphdkfiljaa
