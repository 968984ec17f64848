/-
  The shortcuts by which a peak is come to are a way, in plain Lean.
-/
import Derived.Test.YtkdomobedfhhgaaGreatQi01
import Derived.Test.YtkdomobedfhhgaaGreatQe01
set_option linter.unusedVariables false
set_option linter.unusedSimpArgs false
set_option linter.unnecessarySimpa false
namespace Go.Proofs.YtkdomobedfhhgaaGreat
open Go Go.Proofs Go.RowKit Go.Shelf Go.Proofs.YtkdomobedfhhgaaGreat.Hp Go.Proofs.YtkdomobedfhhgaaGreat.Ch

/-- shortcuts, one behind the other -/
inductive PathL (S : List SC) : Int → Int → Int → List Int → Prop
  | nil (u : Int) : PathL S u u 0 []
  | cons {j : Nat} {v d : Int} {p : List Int} (hj : j < S.length) : PathL S S[j].t v d p → PathL S S[j].f v (S[j].w + d) ((j : Int) :: p)
variable {S : List SC}
theorem PathL.snoc {u m d : Int} {p : List Int} (h : PathL S u m d p) {j : Nat} (hj : j < S.length) (e : S[j].f = m) : PathL S u S[j].t (d + S[j].w) (p ++ [(j : Int)]) := by
  induction h with
  | nil u => rw [← e, Int.zero_add, ← Int.add_zero S[j].w]; exact .cons hj (.nil _)
  | cons hi _ ih => rw [Int.add_assoc]; exact .cons hi (ih e)
theorem PathL.trans {u m v d d' : Int} {p p' : List Int} (h : PathL S u m d p) (h' : PathL S m v d' p') : PathL S u v (d + d') (p ++ p') := by
  induction h with
  | nil u => rw [Int.zero_add]; exact h'
  | cons hi _ ih => rw [Int.add_assoc]; exact .cons hi (ih h')
theorem PathL.ge {u v d : Int} {p : List Int} (hS : ∀ x ∈ S, 0 ≤ x.w) (h : PathL S u v d p) : 0 ≤ d := by
  induction h with
  | nil u => exact Int.le_refl _
  | cons hi _ ih => have := hS _ (List.getElem_mem hi); omega
theorem PathL.uncons {u v d a : Int} {p : List Int} (h : PathL S u v d (a :: p)) : ∃ (j : Nat) (hj : j < S.length) (d' : Int), a = (j : Int) ∧ u = S[j].f ∧ d = S[j].w + d' ∧ PathL S S[j].t v d' p := by
  cases h with
  | cons hj h => exact ⟨_, hj, _, rfl, rfl, rfl, h⟩
theorem PathL.end_ {u v d : Int} (h : PathL S u v d []) : u = v ∧ d = 0 := by
  cases h
  exact ⟨rfl, rfl⟩
theorem PathL.num {u v d : Int} {p : List Int} (h : PathL S u v d p) : ∀ i ∈ p, 0 ≤ i := by
  induction h with
  | nil u => intro i hi; cases hi
  | cons hj _ ih =>
    intro i hi
    rcases List.mem_cons.1 hi with rfl | hi
    · omega
    · exact ih i hi
/-- what the shortcut of a label is -/
theorem firstS_hit {R : List Int} {f : Int → Option Int} {back : Bool} {v d : Int} (h : firstS R S f back v d ≠ -1) : ∃ j : Nat, ∃ hj : j < S.length, firstS R S f back v d = (j : Int) ∧ hitS R f back v d S[j] = true := by
  unfold firstS at h ⊢
  cases hf : S.findIdx? (hitS R f back v d) with
  | none => rw [hf] at h; exact absurd rfl h
  | some i =>
    rw [List.findIdx?_eq_some_iff_getElem] at hf
    obtain ⟨h1, h2, _⟩ := hf
    exact ⟨i, h1, rfl, h2⟩
theorem hitS_iff {R : List Int} {f : Int → Option Int} {back : Bool} {v d : Int} {x : SC} (h : hitS R f back v d x = true) : toS back x = v ∧ rAt R (frS back x) < rAt R (toS back x) ∧ ∃ e, f (frS back x) = some e ∧ e + x.w = d := by
  unfold hitS at h
  simp only [Bool.and_eq_true, decide_eq_true_eq] at h
  obtain ⟨⟨h1, h2⟩, h3⟩ := h
  refine ⟨h1, h2, ?_⟩
  cases hf : f (if back then x.t else x.f) with
  | none => rw [hf] at h3; cases h3
  | some e => rw [hf] at h3; exact ⟨e, rfl, of_decide_eq_true h3⟩
/-- labels of lesser ranks -/
def cntR (r : Int → Int) (l : List LB) (v : Int) : Nat := l.countP fun a => decide (r a.v ≤ r v)
theorem cntR_lt {r : Int → Int} {l : List LB} {u v : Int} (h : r u < r v) {x : LB} (hx : x ∈ l) (e : x.v = v) : cntR r l u < cntR r l v := by
  refine countP_lt (fun a _ ha => ?_) hx ?_ ?_
  · have := of_decide_eq_true ha
    exact decide_eq_true (by omega)
  · exact decide_eq_true (by rw [e]; exact Int.le_refl _)
  · exact decide_eq_false (by rw [e]; omega)
theorem cntR_le (r : Int → Int) (l : List LB) (v : Int) : cntR r l v ≤ l.length := List.countP_le_length
section
variable {es : List EdgeD} {n : Nat} {R : List Int} {ro : List Int} {s : Nat} {back : Bool} {l : List LB}
/-- a label without a shortcut is the node itself -/
theorem label_root (hok : HierOK es n R S ro) (hex : ExIs (relB back (arcG es)) (rk ro) (s : Int) l) (hb : ∀ a ∈ l, a.b = firstS R S (labF l) back a.v a.d) (hnode : ∀ a ∈ l, nodeN n a.v) {a : LB} (ha : a ∈ l) (h1 : a.b = -1) : a.v = (s : Int) ∧ a.d = 0 := by
  have hH := hok.hierB back
  have hp := (hex.2 a.v a.d).1 ⟨a, ha, rfl, rfl⟩
  by_cases e : (s : Int) = a.v
  · refine ⟨e.symm, ?_⟩
    rw [← e] at hp
    exact hp.2.1.uniq (.self hH.pos _)
  · exfalso
    obtain ⟨x, p, q, hd, h2, ⟨i, y, h0, hy, hw, he⟩, hr, hx, _⟩ := hp.step hH e
    obtain ⟨hi, e1⟩ := List.getElem?_eq_some_iff.1 hy
    have hl := (labF_spec hex.once x p).2 ((hex.2 x p).2 h2)
    have hft : frS back y = x ∧ toS back y = a.v := by
      unfold frS toS
      cases back with
      | true => exact ⟨he.1, he.2⟩
      | false => exact ⟨he.1, he.2⟩
    have hhit : hitS R (labF l) back a.v a.d y = true := by
      unfold hitS
      have h3 : (if back then y.t else y.f) = x := hft.1
      have h4 : (if back then y.f else y.t) = a.v := hft.2
      rw [h3, h4, hl, rAt_rk hok hx, rAt_rk hok (hnode a ha)]
      simp only [Bool.and_eq_true, decide_eq_true_eq]
      exact ⟨⟨trivial, hr⟩, by omega⟩
    have h5 := hb a ha
    rw [h1] at h5
    unfold firstS at h5
    cases hf : S.findIdx? (hitS R (labF l) back a.v a.d) with
    | none =>
      rw [List.findIdx?_eq_none_iff] at hf
      have := hf y (by rw [← e1]; exact List.getElem_mem hi)
      rw [hhit] at this
      cases this
    | some k => rw [hf] at h5; simp at h5
/-- the way of a label -/
theorem way_ok (hok : HierOK es n R S ro) (hex : ExIs (relB back (arcG es)) (rk ro) (s : Int) l) (hb : ∀ a ∈ l, a.b = firstS R S (labF l) back a.v a.d) (hnode : ∀ a ∈ l, nodeN n a.v) : ∀ (left : Nat) (v : Int) (out : List Int), labIs l v = true → cntR (rk ro) l v ≤ left →
    ∃ p, wayF S l back left v out = some (if back then out ++ p else p ++ out.reverse) ∧ (if back then PathL S v (s : Int) (labAt l v).d p else PathL S (s : Int) v (labAt l v).d p) := by
  intro left
  induction left with
  | zero =>
    intro v out hv hc
    obtain ⟨_, k2, k3⟩ := labIs_some hv
    have : 0 < cntR (rk ro) l v := List.countP_pos_iff.2 ⟨_, k2, decide_eq_true (by rw [k3]; exact Int.le_refl _)⟩
    omega
  | succ left ih =>
    intro v out hv hc
    obtain ⟨_, k2, k3⟩ := labIs_some hv
    conv => enter [1, p, 1]; unfold wayF
    rw [hv]
    simp only [if_true]
    by_cases h1 : (labAt l v).b = -1
    · obtain ⟨e1, e2⟩ := label_root hok hex hb hnode k2 h1
      rw [k3] at e1
      refine ⟨[], ?_, ?_⟩
      · rw [if_pos h1]
        cases back <;> simp
      · rw [e1]
        have e3 : (labAt l (s : Int)).d = 0 := by rw [← e1]; exact e2
        rw [e3]
        cases back
        · exact .nil _
        · exact .nil _
    · rw [if_neg h1]
      have hbb := hb _ k2
      obtain ⟨j, hj, e1, hhit⟩ := firstS_hit (by rw [← hbb]; exact h1)
      obtain ⟨t1, t2, e, t3, t4⟩ := hitS_iff hhit
      rw [k3] at t1
      have hbj : (labAt l v).b = (j : Int) := by rw [hbb, e1]
      have hsc : S.getD (labAt l v).b.toNat scZ = S[j] := by rw [hbj, Int.toNat_natCast, sc_at hj]
      rw [hsc, if_pos ⟨by rw [hbj]; omega, by rw [hbj]; omega, t1⟩]
      have hfi : labIs l (frS back S[j]) = true := by
        cases hi : labIs l (frS back S[j]) with
        | true => rfl
        | false => rw [labIs_none hi] at t3; cases t3
      obtain ⟨k4, k5, k6⟩ := labIs_some hfi
      rw [k4] at t3
      have he := Option.some.inj t3
      have hends := hok.ends _ (List.getElem_mem hj)
      have hnn : nodeN n (frS back S[j]) ∧ nodeN n (toS back S[j]) := by
        unfold frS toS
        cases back with
        | true => exact ⟨hends.2.1, hends.1⟩
        | false => exact ⟨hends.1, hends.2.1⟩
      rw [rAt_rk hok hnn.1, rAt_rk hok hnn.2, t1] at t2
      have hlt := cntR_lt (l := l) t2 k2 k3
      obtain ⟨p, hp1, hp2⟩ := ih (frS back S[j]) (out ++ [(labAt l v).b]) hfi (by omega)
      cases back with
      | true =>
        simp only [if_true] at hp1 hp2 t1 ⊢
        refine ⟨(j : Int) :: p, ?_, ?_⟩
        · rw [hp1, hbj]; simp
        · rw [← t4, ← he, Int.add_comm]
          have h9 := PathL.cons hj hp2
          have t1' : S[j].f = v := t1
          rw [t1'] at h9
          exact h9
      | false =>
        simp only [Bool.false_eq_true, if_false] at hp1 hp2 t1 ⊢
        refine ⟨p ++ [(j : Int)], ?_, ?_⟩
        · rw [hp1, hbj]; simp
        · rw [← t4, ← he]
          have h9 := hp2.snoc hj rfl
          have t1' : S[j].t = v := t1
          rw [t1'] at h9
          exact h9
end
end Go.Proofs.YtkdomobedfhhgaaGreat
