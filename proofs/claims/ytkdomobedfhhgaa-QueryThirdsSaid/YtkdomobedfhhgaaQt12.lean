/-
  Spaces of both ends, and how far nodes are, in plain Lean.
-/
import Derived.Test.YtkdomobedfhhgaaQt11
set_option linter.unusedVariables false
set_option linter.unusedSimpArgs false
set_option linter.unnecessarySimpa false
namespace Go.Proofs.Ytkdomobedfhhgaa.Ch
variable {A : Int → Int → Int → Prop} {X : Nums} {r : Int → Int} {N : Int → Prop} {s t : Int} {out la lb : List Lab}

/-- the way of a label goes by nodes that are no greater -/
theorem Space.up (hH : Hier A X.rel r N) (h : Space A X r s out) (hr0 : ∀ v, 0 ≤ r v) : ∀ a ∈ out, r s ≤ r a.v ∧ Way0 A (fun m => r m ≤ r a.v) s a.v a.d := by
  have key : ∀ n, ∀ a ∈ out, (r a.v).toNat = n → r s ≤ r a.v ∧ Way0 A (fun m => r m ≤ r a.v) s a.v a.d := by
    intro n
    induction n using Nat.strongRecOn with
    | _ n ih =>
      intro a ha hn
      rcases h.way a ha with ⟨e1, e2, _⟩ | ⟨x, w, hx, hr, b, hb, rfl, e⟩
      · rw [e1, e2]
        exact ⟨Int.le_refl _, .inl ⟨rfl, rfl⟩⟩
      · obtain ⟨i1, i2⟩ := ih (r b.v).toNat (by have := hr0 b.v; have := hr0 a.v; omega) b hb rfl
        refine ⟨by omega, ?_⟩
        rw [← e]
        exact (i2.imp fun m hm => by omega).trans (by omega) (.inr ((hH.sound _ _ _ ⟨_, hx⟩).2.imp fun m hm => by omega))
  exact fun a ha => key _ a ha rfl
/-- a label that is as far as can be is a peak's -/
theorem Space.peak (hH : Hier A X.rel r N) (h : Space A X r s out) (hr0 : ∀ v, 0 ≤ r v) {a : Lab} (ha : a ∈ out) (hd : Dist A s a.v a.d) : Peak A r s a.v a.d := by
  obtain ⟨h1, h2⟩ := h.up hH hr0 a ha
  exact ⟨h1, hd, h2⟩
theorem once_fn : ∀ {out : List Lab}, out.Pairwise (fun a b => a.v ≠ b.v) → ∀ {a b : Lab}, a ∈ out → b ∈ out → a.v = b.v → a = b
  | [], _, a, b, ha, _, _ => by simp at ha
  | x :: l, h, a, b, ha, hb, e => by
    obtain ⟨h2, h3⟩ := List.pairwise_cons.1 h
    rcases List.mem_cons.1 ha with h4 | h4
    · rcases List.mem_cons.1 hb with h5 | h5
      · rw [h4, h5]
      · rw [h4] at e
        exact absurd e (h2 b h5)
    · rcases List.mem_cons.1 hb with h5 | h5
      · rw [h5] at e
        exact absurd e.symm (h2 a h4)
      · exact once_fn h3 h4 h5 e
theorem Space.fn (h : Space A X r s out) {a b : Lab} (ha : a ∈ out) (hb : b ∈ out) (e : a.v = b.v) : a = b := once_fn h.once ha hb e

/-- both spaces: what any two labels of one node come to is a way's weight; and the least of all is how far it is -/
theorem Space.both (hH : Hier A X.rel r N) {Y : Nums} (ha : Space A X r s la) (hb : Space (Turn A) Y r t lb) :
    (∀ a ∈ la, ∀ b ∈ lb, a.v = b.v → Way0 A Any s t (a.d + b.d)) ∧ (∀ d, Dist A s t d → ∃ a ∈ la, ∃ b ∈ lb, a.v = b.v ∧ a.d + b.d = d) := by
  refine ⟨?_, ?_⟩
  · intro a h1 b h2 e
    have h3 := ha.sound a h1
    have h4 := (hb.sound b h2).turn
    rw [e] at h3
    exact h3.trans trivial h4
  · intro d hd
    obtain ⟨x, p, q, rfl, h1, h2⟩ := meet_peak hH hd
    obtain ⟨a, a1, a2, a3⟩ := ha.peaks _ _ h1
    obtain ⟨b, b1, b2, b3⟩ := hb.peaks _ _ h2
    exact ⟨a, a1, b, b1, by rw [a2, b2], by rw [a3, b3]⟩
/-- .. and where they come to it the node is a peak of both, and just there -/
theorem Space.peaks_both (hH : Hier A X.rel r N) {Y : Nums} (hY : ∀ u v w, Y.rel u v w ↔ Turn X.rel u v w) (hr0 : ∀ v, 0 ≤ r v) (ha : Space A X r s la) (hb : Space (Turn A) Y r t lb) {d : Int} (hd : Dist A s t d) (v : Int) :
    (∃ a ∈ la, ∃ b ∈ lb, a.v = v ∧ b.v = v ∧ a.d + b.d = d) ↔ ∃ p q, p + q = d ∧ Peak A r s v p ∧ Peak (Turn A) r t v q := by
  have hHt : Hier (Turn A) Y.rel r N := by
    have := hH.turn
    have e : Y.rel = Turn X.rel := funext fun u => funext fun v => funext fun w => propext (hY u v w)
    rw [e]
    exact this
  constructor
  · rintro ⟨a, a1, b, b1, rfl, e, rfl⟩
    have h3 := ha.sound a a1
    have h4 := (hb.sound b b1).turn
    rw [e] at h4
    obtain ⟨d1, d2⟩ := hd.parts h3 h4
    refine ⟨a.d, b.d, rfl, ha.peak hH hr0 a1 d1, ?_⟩
    have h5 := hb.peak hHt hr0 b1 (by rw [e]; exact d2.turn)
    rw [e] at h5
    exact h5
  · rintro ⟨p, q, rfl, h1, h2⟩
    obtain ⟨a, a1, a2, a3⟩ := ha.peaks _ _ h1
    obtain ⟨b, b1, b2, b3⟩ := hb.peaks _ _ h2
    exact ⟨a, a1, b, b1, a2, b2, by rw [a3, b3]⟩

/-- shortcuts that rise, one behind the other -/
inductive Chain (S : Int → Int → Int → Prop) (r : Int → Int) : Int → Int → Int → Prop
  | none (u : Int) : Chain S r u u 0
  | cons {u m v w d : Int} : S u m w → r u < r m → Chain S r m v d → Chain S r u v (w + d)
theorem Chain.snoc {S : Int → Int → Int → Prop} {u m v w d : Int} (h : Chain S r u m d) (h1 : S m v w) (h2 : r m < r v) : Chain S r u v (d + w) := by
  induction h with
  | none u => rw [Int.zero_add, ← Int.add_zero w]; exact .cons h1 h2 (.none _)
  | cons a b _ ih => rw [Int.add_assoc]; exact .cons a b (ih h1 h2)
theorem Peak.chain (hH : Hier A X.rel r N) (hr0 : ∀ v, 0 ≤ r v) : ∀ {v d : Int}, Peak A r s v d → Chain X.rel r s v d := by
  have key : ∀ n v d, (r v).toNat = n → Peak A r s v d → Chain X.rel r s v d := by
    intro n
    induction n using Nat.strongRecOn with
    | _ n ih =>
      intro v d hn hp
      by_cases e : s = v
      · subst e
        obtain rfl := hp.2.1.uniq (.self hH.pos s)
        exact .none _
      · obtain ⟨x, a, b, rfl, h1, h2, h3, _, _⟩ := hp.step hH e
        exact (ih (r x).toNat (by have := hr0 x; have := hr0 v; omega) x a rfl h1).snoc h2 h3
  exact @fun v d hp => key _ v d rfl hp
theorem Chain.way (hH : Hier A X.rel r N) {u v d : Int} (h : Chain X.rel r u v d) : Way0 A Any u v d := by
  induction h with
  | none u => exact .inl ⟨rfl, rfl⟩
  | cons a _ _ ih => exact Way0.trans (.inr ((hH.sound _ _ _ a).2.imp fun _ _ => trivial)) trivial ih
/-- downwards: a node is a peak, or is come to from a greater one as near as can be -/
theorem Dist.down (hH : Hier A X.rel r N) (hr0 : ∀ v, 0 ≤ r v) {v d : Int} (hd : Dist A s v d) : Peak A r s v d ∨ ∃ y w, X.rel y v w ∧ r v < r y ∧ Dist A s y (d - w) := by
  obtain ⟨x, a, b, rfl, h1, h2⟩ := meet_peak hH hd
  have hc : Chain (Turn X.rel) r v x b := Peak.chain (X := fun i u v w => X i v u w) hH.turn hr0 h2
  have hHt : Hier (Turn A) (Nums.rel fun i u v w => X i v u w) r N := hH.turn
  cases hc with
  | none => exact .inl (by rw [Int.add_zero]; exact h1)
  | @cons _ y _ w e k1 k2 k3 =>
    refine .inr ⟨y, w, k1, k2, ?_⟩
    have h3 : Way0 A Any x y e := (Chain.way (X := fun i u v w => X i v u w) hHt k3).turn
    have h4 : Way0 A Any y v w := .inr ((hH.sound _ _ _ k1).2.imp fun _ _ => trivial)
    have h5 : Way0 A Any s y (a + e) := h1.2.1.1.trans trivial h3
    rw [show a + (w + e) = (a + e) + w by omega] at hd
    rw [show a + (w + e) - w = a + e by omega]
    exact (hd.parts h5 h4).1

/-- how far there is a way there is a least one -/
theorem dist_some (hA : ∀ u v w, A u v w → 1 ≤ w) {u v d : Int} (h : Way0 A Any u v d) : ∃ e, Dist A u v e := by
  have key : ∀ n d, d.toNat = n → Way0 A Any u v d → ∃ e, Dist A u v e := by
    intro n
    induction n using Nat.strongRecOn with
    | _ n ih =>
      intro d hn h
      by_cases hl : ∃ e, Way0 A Any u v e ∧ e < d
      · obtain ⟨e, h1, h2⟩ := hl
        exact ih e.toNat (by have := h1.nonneg hA; omega) e rfl h1
      · exact ⟨d, h, fun e k => by
          have : ¬ e < d := fun h2 => hl ⟨e, k, h2⟩
          omega⟩
  exact key _ d rfl h
/-- the last arc of a least way -/
theorem Way.lastArc {p : Int → Prop} {u v d : Int} (h : Way A p u v d) : ∃ m w, A m v w ∧ ((m = u ∧ d = w) ∨ (p m ∧ Way A p u m (d - w))) := by
  induction h with
  | one h => exact ⟨_, _, h, .inl ⟨rfl, rfl⟩⟩
  | @cons u m v w d h1 h2 h3 ih =>
    obtain ⟨x, y, a, b⟩ := ih
    refine ⟨x, y, a, .inr ?_⟩
    rcases b with ⟨rfl, rfl⟩ | ⟨b1, b2⟩
    · exact ⟨h2, by rw [show w + d - d = w by omega]; exact .one h1⟩
    · exact ⟨b1, by rw [show w + d - y = w + (d - y) by omega]; exact .cons h1 h2 b2⟩
theorem Dist.pred {u v d : Int} (hd : Dist A u v d) (hne : u ≠ v) : ∃ m w, A m v w ∧ Dist A u m (d - w) := by
  rcases hd.1 with ⟨e, _⟩ | h
  · exact absurd e hne
  obtain ⟨m, w, h1, h2⟩ := h.lastArc
  refine ⟨m, w, h1, ?_⟩
  have h3 : Way0 A Any u m (d - w) := by
    rcases h2 with ⟨rfl, rfl⟩ | ⟨_, h2⟩
    · exact .inl ⟨rfl, by omega⟩
    · exact .inr h2
  have hd2 : Dist A u v (d - w + w) := by rw [show d - w + w = d by omega]; exact hd
  exact (hd2.parts h3 (.inr (.one h1))).1
end Go.Proofs.Ytkdomobedfhhgaa.Ch
