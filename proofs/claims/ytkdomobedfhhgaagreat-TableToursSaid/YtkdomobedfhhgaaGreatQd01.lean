/-
  The sweep down a hierarchy, and which labels are exact, in plain Lean.
-/
import Derived.Test.YtkdomobedfhhgaaGreatQc01
import Derived.Test.YtkdomobedfhhgaaGreatQb35
set_option linter.unusedVariables false
set_option linter.unusedSimpArgs false
set_option linter.unnecessarySimpa false
namespace Go.Proofs.YtkdomobedfhhgaaGreat
open Go Go.Proofs Go.RowKit Go.Shelf Go.Proofs.YtkdomobedfhhgaaGreat.Hp Go.Proofs.YtkdomobedfhhgaaGreat.Ch

theorem gD_setN {d : List Int} {v : Nat} {u x : Int} (hl : v < d.length) (hu : 0 ≤ u) : gD (d.set v x) u = if u = (v : Int) then x else gD d u := by
  have := gD_set (d := d) (v := (v : Int)) (u := u) (x := x) (by omega) (by rw [Int.toNat_natCast]; exact hl) hu
  rwa [Int.toNat_natCast] at this
/-- one step of a node -/
def lowF (v : Nat) (f : List Int) (x : Step3) : List Int := f.set v (min (gD f (v : Int)) (gD f x.2.1 + x.2.2))
def lowsF (v : Nat) (f : List Int) (l : List Step3) : List Int := l.foldl (lowF v) f
theorem lowsF_snoc (v : Nat) (f : List Int) (l : List Step3) (x : Step3) : lowsF v f (l ++ [x]) = lowF v (lowsF v f l) x := by unfold lowsF; rw [List.foldl_append]; rfl
theorem lowF_len (v : Nat) (f : List Int) (x : Step3) : (lowF v f x).length = f.length := by unfold lowF; rw [List.length_set]
theorem lowsF_len (v : Nat) : ∀ (l : List Step3) (f : List Int), (lowsF v f l).length = f.length
  | [], _ => rfl
  | x :: l, f => by show (lowsF v (lowF v f x) l).length = _; rw [lowsF_len v l, lowF_len]
theorem lowF_at {v : Nat} {f : List Int} (hv : v < f.length) (x : Step3) {u : Int} (hu : 0 ≤ u) : gD (lowF v f x) u = if u = (v : Int) then min (gD f (v : Int)) (gD f x.2.1 + x.2.2) else gD f u := gD_setN hv hu
/-- all steps of a node -/
theorem lowsF_spec {v : Nat} : ∀ (l : List Step3) (f : List Int), v < f.length → (∀ x ∈ l, 0 ≤ x.2.1 ∧ x.2.1 ≠ (v : Int)) →
    (∀ u, 0 ≤ u → u ≠ (v : Int) → gD (lowsF v f l) u = gD f u) ∧ gD (lowsF v f l) (v : Int) ≤ gD f (v : Int) ∧ (∀ x ∈ l, gD (lowsF v f l) (v : Int) ≤ gD f x.2.1 + x.2.2) ∧ (gD (lowsF v f l) (v : Int) = gD f (v : Int) ∨ ∃ x ∈ l, gD (lowsF v f l) (v : Int) = gD f x.2.1 + x.2.2)
  | [], f, _, _ => ⟨fun _ _ _ => rfl, Int.le_refl _, fun _ h => (by simp at h), .inl rfl⟩
  | x :: l, f, hv, hl => by
    obtain ⟨i1, i2, i3, i4⟩ := lowsF_spec l (lowF v f x) (by rw [lowF_len]; exact hv) (fun y hy => hl y (List.mem_cons_of_mem _ hy))
    have e : lowsF v f (x :: l) = lowsF v (lowF v f x) l := rfl
    have hx := hl x (List.mem_cons_self ..)
    have h0 : gD (lowF v f x) (v : Int) = min (gD f (v : Int)) (gD f x.2.1 + x.2.2) := by rw [lowF_at hv x (by omega), if_pos rfl]
    have h1 : gD (lowF v f x) (v : Int) ≤ gD f (v : Int) := by rw [h0]; exact Int.min_le_left _ _
    have h2 : gD (lowF v f x) (v : Int) ≤ gD f x.2.1 + x.2.2 := by rw [h0]; exact Int.min_le_right _ _
    have hne : ∀ u, 0 ≤ u → u ≠ (v : Int) → gD (lowF v f x) u = gD f u := fun u hu hn => by rw [lowF_at hv x hu, if_neg hn]
    rw [e]
    refine ⟨fun u hu hn => (i1 u hu hn).trans (hne u hu hn), by omega, ?_, ?_⟩
    · intro y hy
      rcases List.mem_cons.1 hy with rfl | hy
      · omega
      · have := i3 y hy
        rw [hne _ (hl y (List.mem_cons_of_mem _ hy)).1 (hl y (List.mem_cons_of_mem _ hy)).2] at this
        exact this
    · rcases i4 with h | ⟨y, hy, h⟩
      · rw [h, h0]
        rcases Int.le_total (gD f (v : Int)) (gD f x.2.1 + x.2.2) with k | k
        · exact .inl (Int.min_eq_left k)
        · exact .inr ⟨x, List.mem_cons_self .., Int.min_eq_right k⟩
      · rw [hne _ (hl y (List.mem_cons_of_mem _ hy)).1 (hl y (List.mem_cons_of_mem _ hy)).2] at h
        exact .inr ⟨y, List.mem_cons_of_mem _ hy, h⟩
/-- labels are laid -/
def layF (f : List Int) (l : List LB) : List Int := l.foldl (fun f a => f.set a.v.toNat a.d) f
theorem layF_snoc (f : List Int) (l : List LB) (x : LB) : layF f (l ++ [x]) = (layF f l).set x.v.toNat x.d := by unfold layF; rw [List.foldl_append]; rfl
theorem layF_len : ∀ (l : List LB) (f : List Int), (layF f l).length = f.length
  | [], _ => rfl
  | x :: l, f => by show (layF (f.set x.v.toNat x.d) l).length = _; rw [layF_len l, List.length_set]
theorem layF_spec : ∀ (l : List LB) (f : List Int), (∀ a ∈ l, nodeN f.length a.v) → l.Pairwise (fun a b => a.v ≠ b.v) → (∀ a ∈ l, gD (layF f l) a.v = a.d) ∧ ∀ u, 0 ≤ u → (∀ a ∈ l, a.v ≠ u) → gD (layF f l) u = gD f u
  | [], f, _, _ => ⟨fun _ h => (by simp at h), fun _ _ _ => rfl⟩
  | x :: l, f, hn, hp => by
    obtain ⟨h1, h2⟩ := List.pairwise_cons.1 hp
    have hx := hn x (List.mem_cons_self ..)
    have hxl : x.v.toNat < f.length := by have := hx.1; have := hx.2; omega
    have e : layF f (x :: l) = layF (f.set x.v.toNat x.d) l := rfl
    obtain ⟨i1, i2⟩ := layF_spec l (f.set x.v.toNat x.d) (fun a ha => by rw [List.length_set]; exact hn a (List.mem_cons_of_mem _ ha)) h2
    rw [e]
    refine ⟨fun a ha => ?_, fun u hu ha => ?_⟩
    · rcases List.mem_cons.1 ha with rfl | ha
      · rw [i2 a.v hx.1 (fun b hb k => h1 b hb k.symm), gD_set hx.1 hxl hx.1, if_pos rfl]
      · exact i1 a ha
    · rw [i2 u hu (fun b hb => ha b (List.mem_cons_of_mem _ hb)), gD_set hx.1 hxl hu, if_neg (fun k => ha x (List.mem_cons_self ..) k.symm)]
theorem gD_rep {n : Nat} {v : Int} (_hv : nodeN n v) : gD (List.replicate n FAR) v = FAR := by
  unfold gD
  rw [List.getD_eq_getElem?_getD, List.getElem?_replicate]
  split <;> rfl
/-- nodes of ranks from k on have been gone by -/
structure Swp (A : Int → Int → Int → Prop) (r : Int → Int) (s : Int) (n : Nat) (k : Nat) (f : List Int) : Prop where
  kn : k ≤ n
  len : f.length = n
  val : ∀ v, nodeN n v → gD f v = FAR ∨ (Way0 A Any s v (gD f v) ∧ gD f v ≤ 211106232532992 + ((n : Int) - k) * 17592186044416)
  pk : ∀ v d, Peak A r s v d → gD f v ≤ d ∧ d ≤ 211106232532992
  dn : ∀ v, nodeN n v → (k : Int) ≤ r v → ∀ d, Dist A s v d → gD f v = d ∧ d ≤ 211106232532992 + ((n : Int) - k) * 17592186044416
theorem farC : FAR = 4611686018427387904 := rfl
theorem Swp.bd {A : Int → Int → Int → Prop} {r : Int → Int} {s : Int} {n k : Nat} {f : List Int} (hA : ∀ u v w, A u v w → 1 ≤ w) (hn : n ≤ 12) (h : Swp A r s n k f) {v : Int} (hv : nodeN n v) : 0 ≤ gD f v ∧ gD f v ≤ 4611686018427387904 := by
  have h1 := h.kn
  have h2 : ((n : Int) - k) * 17592186044416 ≤ 12 * 17592186044416 := Int.mul_le_mul_of_nonneg_right (by omega) (by decide)
  rcases h.val v hv with e | ⟨e1, e2⟩
  · rw [e, farC]; omega
  · have := e1.nonneg hA
    omega
section
variable {es : List EdgeD} {n : Nat} {R : List Int} {S : List SC} {ro : List Int}
theorem down_step (h : HierOK es n R S ro) (back : Bool) {u : Nat} (hu : u < n) {i y w : Int} (hx : XN S back i y (u : Int) w) (hr : rk ro (u : Int) < rk ro y) : ∃ j, (j, y, w) ∈ stepsB R S n u (back != true) := by
  obtain ⟨x, h0, hx, rfl, he⟩ := hx
  obtain ⟨hi, e⟩ := List.getElem?_eq_some_iff.1 hx
  refine ⟨(i.toNat : Int), (steps_mem h _ hu _).2 ⟨i.toNat, hi, ?_, ?_⟩⟩
  · rw [e]
    cases back with
    | true => simp only [if_true, bne_self_eq_false, Bool.false_eq_true, if_false] at he ⊢; rw [he.1]
    | false => simp only [Bool.false_eq_true, if_false, Bool.false_bne, if_true] at he ⊢; rw [he.1]
  · rw [e]
    cases back with
    | true => simp only [if_true, bne_self_eq_false, Bool.false_eq_true, if_false] at he ⊢; exact ⟨he.2, by rw [he.1, he.2]; exact hr⟩
    | false => simp only [Bool.false_eq_true, if_false, Bool.false_bne, if_true] at he ⊢; exact ⟨he.2, by rw [he.1, he.2]; exact hr⟩
/-- what the steps back are -/
theorem steps_dn (h : HierOK es n R S ro) (hn : n ≤ 12) (back : Bool) {u : Nat} (hu : u < n) : ∀ x ∈ stepsB R S n u (back != true), Ch.Way (relB back (arcG es)) Any x.2.1 (u : Int) x.2.2 ∧ x.2.1 ≠ (u : Int) ∧ nodeN n x.2.1 ∧ 1 ≤ x.2.2 ∧ x.2.2 ≤ 17592186044416 := by
  intro x hx
  obtain ⟨h1, h2, h3, h4⟩ := step_down h back hu hx
  have hH := h.hierB back
  obtain ⟨k1, k2⟩ := hH.sound _ _ _ (XN_rel.2 h1)
  have := big12 hn
  exact ⟨k2.imp (fun _ _ => trivial), k1, h2, h3, by omega⟩
theorem Swp.start {l : List LB} {s : Nat} {back : Bool} (hok : HierOK es n R S ro) (hn : n ≤ 12) (hs : s < n) (h : Space (relB back (arcG es)) (XN S back) (rk ro) (s : Int) (l.map labOf)) : Swp (relB back (arcG es)) (rk ro) (s : Int) n n (layF (List.replicate n FAR) l) := by
  have hL := labsOK hok h hs hn
  have hpw : l.Pairwise (fun a b => a.v ≠ b.v) := by
    have h9 := h.once
    rw [List.pairwise_map] at h9
    exact h9
  obtain ⟨l1, l2⟩ := layF_spec l (List.replicate n FAR) (fun a ha => by rw [List.length_replicate]; exact (hL a ha).1) hpw
  refine ⟨Nat.le_refl _, by rw [layF_len, List.length_replicate], fun v hv => ?_, fun v d hp => ?_, fun v hv hk => ?_⟩
  · by_cases e : ∃ a ∈ l, a.v = v
    · obtain ⟨a, ha, rfl⟩ := e
      rw [l1 a ha]
      exact .inr ⟨h.sound (labOf a) (List.mem_map.2 ⟨a, ha, rfl⟩), by have := (hL a ha).2.2; omega⟩
    · rw [l2 v hv.1 (fun a ha k => e ⟨a, ha, k⟩), gD_rep hv]
      exact .inl rfl
  · obtain ⟨a, ha, e1, e2⟩ := h.peaks v d hp
    obtain ⟨x, hx, rfl⟩ := List.mem_map.1 ha
    have e3 := l1 x hx
    have e4 : x.v = v := e1
    have e5 : x.d = d := e2
    rw [← e4, e3, e5]
    have := (hL x hx).2.2
    omega
  · have h2 := hok.at1 v hv
    have h3 := rankB_in hok.rank (rk ro v) (List.mem_of_getElem? h2)
    have := hok.len
    omega
theorem Swp.step {s v k : Nat} {back : Bool} {f : List Int} (hok : HierOK es n R S ro) (hn : n ≤ 12) (hv : v < n) (hr : rk ro (v : Int) = (k : Int)) (h : Swp (relB back (arcG es)) (rk ro) (s : Int) n (k + 1) f) : Swp (relB back (arcG es)) (rk ro) (s : Int) n k (lowsF v f (stepsB R S n v (back != true))) := by
  have hH := hok.hierB back
  have hto := steps_dn hok hn back hv
  have hkn := h.kn
  obtain ⟨i1, i2, i3, i4⟩ := lowsF_spec (v := v) (stepsB R S n v (back != true)) f (by rw [h.len]; exact hv) (fun x hx => ⟨(hto x hx).2.2.1.1, (hto x hx).2.1⟩)
  have hnv : nodeN n (v : Int) := ⟨by omega, by omega⟩
  have hE : ((n : Int) - (k : Nat)) * 17592186044416 = ((n : Int) - ((k + 1 : Nat) : Int)) * 17592186044416 + 17592186044416 := by
    have : ((n : Int) - (k : Nat)) = ((n : Int) - ((k + 1 : Nat) : Int)) + 1 := by omega
    rw [this, Int.add_mul]
    omega
  have hF := farC
  have hE2 : ((n : Int) - ((k + 1 : Nat) : Int)) * 17592186044416 ≤ 12 * 17592186044416 := Int.mul_le_mul_of_nonneg_right (by omega) (by decide)
  have hval : ∀ u, nodeN n u → gD (lowsF v f (stepsB R S n v (back != true))) u = FAR ∨ (Way0 (relB back (arcG es)) Any (s : Int) u (gD (lowsF v f (stepsB R S n v (back != true))) u) ∧ gD (lowsF v f (stepsB R S n v (back != true))) u ≤ 211106232532992 + ((n : Int) - k) * 17592186044416) := by
    intro u hu
    by_cases e : u = (v : Int)
    · subst e
      rcases i4 with h4 | ⟨x, hx, h4⟩
      · rw [h4]
        rcases h.val _ hnv with h5 | ⟨h5, h6⟩
        · exact .inl h5
        · exact .inr ⟨h5, by omega⟩
      · obtain ⟨t1, t2, t3, t4, t5⟩ := hto x hx
        rcases h.val _ t3 with h5 | ⟨h5, h6⟩
        · exfalso
          rw [h5] at h4
          rcases h.val _ hnv with h7 | ⟨_, h7⟩ <;> omega
        · refine .inr ⟨?_, by omega⟩
          rw [h4]
          exact h5.trans trivial (.inr t1)
    · rw [i1 u hu.1 e]
      rcases h.val _ hu with h5 | ⟨h5, h6⟩
      · exact .inl h5
      · exact .inr ⟨h5, by omega⟩
  have hle : ∀ u, nodeN n u → gD (lowsF v f (stepsB R S n v (back != true))) u ≤ gD f u := by
    intro u hu
    by_cases e : u = (v : Int)
    · subst e; exact i2
    · rw [i1 u hu.1 e]; exact Int.le_refl _
  refine ⟨by omega, by rw [lowsF_len]; exact h.len, hval, fun u d hp => ?_, fun u hu hk d hd => ?_⟩
  · have h5 := h.pk u d hp
    have hu : 0 ≤ u := by
      rcases hp.2.1.1 with ⟨e, _⟩ | hw
      · omega
      · exact (hw.nodes hH.node).2.1
    by_cases e : u = (v : Int)
    · subst e; omega
    · rw [i1 u hu e]; exact h5
  · have fin : gD (lowsF v f (stepsB R S n v (back != true))) u ≤ d → d ≤ 211106232532992 + ((n : Int) - k) * 17592186044416 → gD (lowsF v f (stepsB R S n v (back != true))) u = d ∧ d ≤ 211106232532992 + ((n : Int) - k) * 17592186044416 := by
      intro h5 h6
      refine ⟨?_, h6⟩
      rcases hval u hu with h7 | ⟨h7, _⟩
      · omega
      · have := hd.2 _ h7
        omega
    by_cases e : u = (v : Int)
    · subst e
      rcases hd.down hH (fun v => by unfold rk; omega) with hp | ⟨y, w, ⟨i, hx⟩, hry, hdy⟩
      · have h5 := h.pk _ _ hp
        exact fin (by omega) (by omega)
      · obtain ⟨j, hj⟩ := down_step hok back hv hx hry
        have h3 := i3 _ hj
        obtain ⟨t1, t2, t3, t4, t5⟩ := hto _ hj
        simp only at h3 t1 t2 t3 t4 t5
        have h5 := h.dn y t3 (by omega) _ hdy
        exact fin (by omega) (by omega)
    · have hne : rk ro u ≠ (k : Int) := fun k' => e (hH.inj _ _ hu hnv (by omega))
      have h5 := h.dn u hu (by omega) d hd
      exact fin (by rw [i1 u hu.1 e]; omega) (by omega)
end
theorem Swp.far {A : Int → Int → Int → Prop} {r : Int → Int} {s : Int} {n : Nat} {f : List Int} (hA : ∀ u v w, A u v w → 1 ≤ w) (hn : n ≤ 12) (hr0 : ∀ v, 0 ≤ r v) (h : Swp A r s n 0 f) {v : Int} (hv : nodeN n v) : FarV A s v (gD f v) := by
  have h2 : ((n : Int) - ((0 : Nat) : Int)) * 17592186044416 ≤ 12 * 17592186044416 := Int.mul_le_mul_of_nonneg_right (by omega) (by decide)
  by_cases hd : ∃ e, Dist A s v e
  · obtain ⟨e, he⟩ := hd
    have h3 := h.dn v hv (by have := hr0 v; omega) e he
    refine .inl ⟨by rw [h3.1]; exact he, by rw [h3.1]; exact he.1.nonneg hA, by omega⟩
  · rcases h.val v hv with e | ⟨e, _⟩
    · exact .inr ⟨e, fun e he => hd (dist_some hA he)⟩
    · exact absurd (dist_some hA e) hd
/-- the labels that are as far as can be -/
def exactL (f : List Int) (l : List LB) : List LB := l.filter fun a => !decide (gD f a.v < a.d)
/-- just the peaks, in order -/
def ExIs (A : Int → Int → Int → Prop) (r : Int → Int) (s : Int) (l : List LB) : Prop := l.Pairwise (fun a b => a.v < b.v) ∧ ∀ v d, (∃ x ∈ l, x.v = v ∧ x.d = d) ↔ Peak A r s v d
theorem exactL_is {A : Int → Int → Int → Prop} {X : Nums} {r : Int → Int} {s : Int} {n : Nat} {f : List Int} {l : List LB} (hH : Hier A X.rel r (nodeN n)) (hr0 : ∀ v, 0 ≤ r v) (h : Space A X r s (l.map labOf)) (ho : l.Pairwise (fun a b => a.v ≤ b.v)) (hl : ∀ x ∈ l, nodeN n x.v ∧ x.d < FAR) (hf : ∀ v, nodeN n v → FarV A s v (gD f v)) : ExIs A r s (exactL f l) := by
  have hpw : l.Pairwise (fun a b => a.v ≠ b.v) := by
    have h9 := h.once
    rw [List.pairwise_map] at h9
    exact h9
  refine ⟨?_, fun v d => ⟨?_, fun hp => ?_⟩⟩
  · exact ((ho.and hpw).imp (fun {a b} h => by have := h.1; have := h.2; omega)).filter _
  · rintro ⟨x, hx, rfl, rfl⟩
    obtain ⟨h1, h2⟩ := List.mem_filter.1 hx
    have hm : labOf x ∈ l.map labOf := List.mem_map.2 ⟨x, h1, rfl⟩
    have hw : Way0 A Any s x.v x.d := h.sound _ hm
    obtain ⟨hn, hF⟩ := hl x h1
    have h3 : ¬ gD f x.v < x.d := by simpa using h2
    rcases hf x.v hn with ⟨k, _⟩ | ⟨_, k⟩
    · have h4 := k.2 _ hw
      have h5 : gD f x.v = x.d := by omega
      rw [h5] at k
      exact h.peak hH hr0 hm k
    · exact absurd hw (k _)
  · obtain ⟨a, ha, e1, e2⟩ := h.peaks v d hp
    obtain ⟨x, hx, rfl⟩ := List.mem_map.1 ha
    refine ⟨x, List.mem_filter.2 ⟨hx, ?_⟩, e1, e2⟩
    have e3 : x.v = v := e1
    have e4 : x.d = d := e2
    rcases hf x.v (hl x hx).1 with ⟨k, _⟩ | ⟨k, _⟩
    · rw [e3] at k
      have := k.uniq hp.2.1
      simp only [Bool.not_eq_true', decide_eq_false_iff_not]
      rw [e3]
      omega
    · have := (hl x hx).2
      simp only [Bool.not_eq_true', decide_eq_false_iff_not]
      omega
/-- is a label come to by a shortcut? -/
def hitS (R : List Int) (f : Int → Option Int) (back : Bool) (v d : Int) (x : SC) : Bool :=
  decide ((if back then x.f else x.t) = v) && decide (rAt R (if back then x.t else x.f) < rAt R (if back then x.f else x.t)) && (match f (if back then x.t else x.f) with | some e => decide (e + x.w = d) | none => false)
/-- the first such shortcut -/
def firstS (R : List Int) (S : List SC) (f : Int → Option Int) (back : Bool) (v d : Int) : Int := match S.findIdx? (hitS R f back v d) with
  | some i => (i : Int)
  | none => -1
theorem firstS_at {R : List Int} {S : List SC} {f : Int → Option Int} {back : Bool} {v d : Int} {i : Nat} (hi : i < S.length) (hp : hitS R f back v d S[i] = true) (hb : ∀ k (h : k < i), hitS R f back v d (S[k]'(by omega)) = false) : firstS R S f back v d = (i : Int) := by
  unfold firstS
  have : S.findIdx? (hitS R f back v d) = some i := by
    rw [List.findIdx?_eq_some_iff_getElem]
    exact ⟨hi, hp, fun k hk => by rw [hb k hk]; simp⟩
  rw [this]
theorem firstS_no {R : List Int} {S : List SC} {f : Int → Option Int} {back : Bool} {v d : Int} (hb : ∀ k (h : k < S.length), hitS R f back v d S[k] = false) : firstS R S f back v d = -1 := by
  unfold firstS
  have : S.findIdx? (hitS R f back v d) = none := by
    rw [List.findIdx?_eq_none_iff]
    intro a ha
    obtain ⟨k, hk, rfl⟩ := List.mem_iff_getElem.1 ha
    exact hb k hk
  rw [this]
/-- the label of a node -/
def labAt (l : List LB) (v : Int) : LB := (l.find? fun a => decide (a.v = v)).getD ⟨0, 0, 0⟩
def labIs (l : List LB) (v : Int) : Bool := l.any fun a => decide (a.v = v)
def labF (l : List LB) (u : Int) : Option Int := (l.find? fun a => decide (a.v = u)).map (·.d)
theorem labIs_none {l : List LB} {u : Int} (h : labIs l u = false) : labF l u = none := by
  unfold labF
  have : l.find? (fun a => decide (a.v = u)) = none := by
    rw [List.find?_eq_none]
    intro x hx k
    unfold labIs at h
    rw [List.any_eq_false] at h
    exact h x hx k
  rw [this]
  rfl
theorem labIs_some {l : List LB} {u : Int} (h : labIs l u = true) : labF l u = some (labAt l u).d ∧ labAt l u ∈ l ∧ (labAt l u).v = u := by
  unfold labF labAt
  unfold labIs at h
  obtain ⟨x, hx, hk⟩ := List.any_eq_true.1 h
  cases hf : l.find? (fun a => decide (a.v = u)) with
  | none => rw [List.find?_eq_none] at hf; exact absurd hk (hf x hx)
  | some y =>
    have h1 := List.find?_some hf
    have h2 := List.mem_of_find?_eq_some hf
    exact ⟨rfl, h2, of_decide_eq_true h1⟩
theorem labF_spec {l : List LB} (hp : l.Pairwise (fun a b => a.v ≠ b.v)) (u d : Int) : labF l u = some d ↔ ∃ x ∈ l, x.v = u ∧ x.d = d := by
  have key : ∀ x ∈ l, x.v = u → labF l u = some x.d := by
    intro x hx e
    have h1 : labIs l u = true := List.any_eq_true.2 ⟨x, hx, decide_eq_true e⟩
    obtain ⟨k1, k2, k3⟩ := labIs_some h1
    have h2 : labAt l u = x := by
      obtain ⟨i, hi, e1⟩ := List.mem_iff_getElem.1 k2
      obtain ⟨j, hj, e2⟩ := List.mem_iff_getElem.1 hx
      have h3 := List.pairwise_iff_getElem.1 hp
      rcases Nat.lt_trichotomy i j with h | h | h
      · exact absurd (by rw [e1, e2, k3, e]) (h3 i j hi hj h)
      · subst h; rw [← e1, ← e2]
      · exact absurd (by rw [e1, e2, k3, e]) (h3 j i hj hi h)
    rw [k1, h2]
  constructor
  · intro h
    cases hi : labIs l u with
    | false => rw [labIs_none hi] at h; cases h
    | true =>
      obtain ⟨k1, k2, k3⟩ := labIs_some hi
      rw [k1] at h
      cases h
      exact ⟨_, k2, k3, rfl⟩
  · rintro ⟨x, hx, h1, h2⟩
    rw [key x hx h1, h2]
theorem labF_cong : ∀ {l l' : List LB}, l.map (fun a => (a.v, a.d)) = l'.map (fun a => (a.v, a.d)) → labF l = labF l'
  | [], [], _ => rfl
  | [], _ :: _, h => by simp at h
  | _ :: _, [], h => by simp at h
  | x :: l, y :: l', h => by
    simp only [List.map_cons, List.cons.injEq, Prod.mk.injEq] at h
    have ih := labF_cong (l := l) (l' := l') h.2
    funext u
    have ihu := congrFun ih u
    unfold labF at ihu ⊢
    rw [List.find?_cons, List.find?_cons, h.1.1]
    split
    · simp [h.1.2]
    · exact ihu
/-- labels with their shortcuts -/
def withB (R : List Int) (S : List SC) (back : Bool) (l : List LB) : List LB := l.map fun a => ⟨a.v, a.d, firstS R S (labF l) back a.v a.d⟩
/-- .. the first k of them -/
def mixB (R : List Int) (S : List SC) (back : Bool) (l : List LB) (k : Nat) : List LB := (withB R S back l).take k ++ l.drop k
theorem withB_len (R : List Int) (S : List SC) (back : Bool) (l : List LB) : (withB R S back l).length = l.length := by simp [withB]
theorem mixB_len {R : List Int} {S : List SC} {back : Bool} {l : List LB} {k : Nat} : (mixB R S back l k).length = l.length := by simp [mixB, withB]; omega
theorem mixB_zero (R : List Int) (S : List SC) (back : Bool) (l : List LB) : mixB R S back l 0 = l := by simp [mixB]
theorem mixB_all (R : List Int) (S : List SC) (back : Bool) (l : List LB) : mixB R S back l l.length = withB R S back l := by
  unfold mixB
  rw [List.take_of_length_le (by rw [withB_len]; exact Nat.le_refl _), List.drop_of_length_le (Nat.le_refl _), List.append_nil]
theorem mixB_get {R : List Int} {S : List SC} {back : Bool} {l : List LB} {k : Nat} (hk : k < l.length) : (mixB R S back l k)[k]? = some l[k] := by
  unfold mixB
  rw [List.getElem?_append_right (by simp [withB]; omega), List.length_take, withB_len, Nat.min_eq_left (by omega), Nat.sub_self, List.getElem?_drop, Nat.add_zero, List.getElem?_eq_getElem hk]
theorem mixB_set {R : List Int} {S : List SC} {back : Bool} {l : List LB} {k : Nat} (hk : k < l.length) : (mixB R S back l k).set k ⟨l[k].v, l[k].d, firstS R S (labF l) back l[k].v l[k].d⟩ = mixB R S back l (k + 1) := by
  apply List.ext_getElem?
  intro i
  have hw : ∀ i (h : i < l.length), (withB R S back l)[i]? = some ⟨l[i].v, l[i].d, firstS R S (labF l) back l[i].v l[i].d⟩ := fun i h => by
    unfold withB
    rw [List.getElem?_map, List.getElem?_eq_getElem h]
    rfl
  by_cases e : i = k
  · subst e
    rw [List.getElem?_set_self (by rw [mixB_len]; exact hk)]
    unfold mixB
    rw [List.getElem?_append_left (by simp [withB]; omega), List.getElem?_take_of_lt (by omega), hw i hk]
  · rw [List.getElem?_set_ne (fun h => e h.symm)]
    unfold mixB
    by_cases h : i < k
    · rw [List.getElem?_append_left (by simp [withB]; omega), List.getElem?_append_left (by simp [withB]; omega), List.getElem?_take_of_lt h, List.getElem?_take_of_lt (by omega)]
    · rw [List.getElem?_append_right (by simp [withB]; omega), List.getElem?_append_right (by simp [withB]; omega), List.length_take, List.length_take, withB_len, Nat.min_eq_left (by omega), Nat.min_eq_left (by omega), List.getElem?_drop, List.getElem?_drop]
      congr 1
      omega
theorem mixB_vd (R : List Int) (S : List SC) (back : Bool) (l : List LB) (k : Nat) : (mixB R S back l k).map (fun a => (a.v, a.d)) = l.map (fun a => (a.v, a.d)) := by
  have h : (withB R S back l).map (fun a => (a.v, a.d)) = l.map (fun a => (a.v, a.d)) := by simp [withB, Function.comp_def]
  unfold mixB
  rw [List.map_append, List.map_take, h, List.map_drop, List.take_append_drop]
theorem ExIs.withB {A : Int → Int → Int → Prop} {r : Int → Int} {s : Int} {l : List LB} (h : ExIs A r s l) (R : List Int) (S : List SC) (back : Bool) : ExIs A r s (withB R S back l) := by
  refine ⟨?_, fun v d => ?_⟩
  · unfold Go.Proofs.YtkdomobedfhhgaaGreat.withB
    rw [List.pairwise_map]
    exact h.1
  · rw [← h.2 v d]
    unfold Go.Proofs.YtkdomobedfhhgaaGreat.withB
    constructor
    · rintro ⟨x, hx, h1, h2⟩
      obtain ⟨y, hy, rfl⟩ := List.mem_map.1 hx
      exact ⟨y, hy, h1, h2⟩
    · rintro ⟨x, hx, h1, h2⟩
      exact ⟨_, List.mem_map.2 ⟨x, hx, rfl⟩, h1, h2⟩
end Go.Proofs.YtkdomobedfhhgaaGreat
