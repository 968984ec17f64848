/-
  Walk of package query where nothing was built: Dist, Peaks, Meet of none.
  The peaks at which both ends meet, told in two ways, in plain Lean.
-/
import Derived.Test.YtkdomobedfhhgaaGreatProg
import Derived.Test.YtkdomobedfhhgaaGreatQb36
import Derived.Test.YtkdomobedfhhgaaGreatQc01
set_option linter.unusedVariables false
set_option linter.unusedSimpArgs false
set_option linter.unnecessarySimpa false
section
namespace Go.Proofs.YtkdomobedfhhgaaGreat
open Go Go.Proofs Go.RowKit Go.Shelf Go.Proofs.YtkdomobedfhhgaaGreat.Hp Go.Proofs.YtkdomobedfhhgaaGreat.Ch

theorem both_nil (s t : Int) (w : World) : Calls Tryz.prog 71 #[.pointer none, .int .i64 s, .int .i64 t] w fun e w' => e = .returned (.tuple #[.slice none 0 0, .slice none 0 0, .int .i64 1]) ∧ Below w.heap.size w w' := by
  have HA := Lib.hid (space_nil s false w)
  go_enter Tryz.func71, Tryz.ntmps71
  go_wp2_with (go_at_call 29; refine HA.out.mono ?_; rintro e w1 ⟨rfl, h2⟩; (have H1 := Lib.hid h2); clear h2)
  refine bodyPost_ret (v := .tuple #[.slice none 0 0, .slice none 0 0, .int .i64 1]) (by simp [results, Tryz.results71, go_sem]; try rfl) rfl ?_
  exact ⟨rfl, H1.out⟩
theorem dist_nil (s t : Int) (w : World) : Calls Tryz.prog 17 #[.pointer none, .int .i64 s, .int .i64 t] w fun e w' => e = .returned (.tuple #[.int .u64 0, .int .i64 1]) ∧ Below w.heap.size w w' := by
  have HA := Lib.hid (both_nil s t w)
  go_enter Tryz.func17, Tryz.ntmps17
  go_wp2_with (go_at_call 71; refine HA.out.mono ?_; rintro e w1 ⟨rfl, h2⟩; (have H1 := Lib.hid h2); clear h2)
  refine bodyPost_ret (v := .tuple #[.int .u64 0, .int .i64 1]) (by simp [results, Tryz.results17, go_sem]; try rfl) rfl ?_
  exact ⟨rfl, H1.out⟩
theorem peaks_nil (s t : Int) (w : World) : Calls Tryz.prog 18 #[.pointer none, .int .i64 s, .int .i64 t] w fun e w' => e = .returned (.tuple #[.slice none 0 0, .int .i64 1]) ∧ Below w.heap.size w w' := by
  have HA := Lib.hid (both_nil s t w)
  go_enter Tryz.func18, Tryz.ntmps18
  go_wp2_with (go_at_call 71; refine HA.out.mono ?_; rintro e w1 ⟨rfl, h2⟩; (have H1 := Lib.hid h2); clear h2)
  refine bodyPost_ret (v := .tuple #[.slice none 0 0, .int .i64 1]) (by simp [results, Tryz.results18, go_sem]; try rfl) rfl ?_
  exact ⟨rfl, H1.out⟩
theorem meet_nil (s t : Int) (w : World) : Calls Tryz.prog 19 #[.pointer none, .int .i64 s, .int .i64 t] w fun e w' => e = .returned (.tuple #[.int .i64 (-1), .int .u64 0, .int .i64 1]) ∧ Below w.heap.size w w' := by
  have HA := Lib.hid (peaks_nil s t w)
  go_enter Tryz.func19, Tryz.ntmps19
  go_wp2_with (go_at_call 18; refine HA.out.mono ?_; rintro e w1 ⟨rfl, h2⟩; (have H1 := Lib.hid h2); clear h2)
  refine bodyPost_ret (v := .tuple #[.int .i64 (-1), .int .u64 0, .int .i64 1]) (by simp [results, Tryz.results19, go_sem]; try rfl) rfl ?_
  exact ⟨rfl, H1.out⟩
end Go.Proofs.YtkdomobedfhhgaaGreat
end

section
namespace Go.Proofs.YtkdomobedfhhgaaGreat
open Go.Proofs.YtkdomobedfhhgaaGreat.Ch
theorem sorted_eq : ∀ {a b : List Int}, a.Pairwise (· < ·) → b.Pairwise (· < ·) → (∀ x, x ∈ a ↔ x ∈ b) → a = b
  | [], [], _, _, _ => rfl
  | [], y :: b, _, _, h => absurd ((h y).2 (by simp)) (by simp)
  | x :: a, [], _, _, h => absurd ((h x).1 (by simp)) (by simp)
  | x :: a, y :: b, ha, hb, h => by
    rw [List.pairwise_cons] at ha hb
    have e : x = y := by
      rcases List.mem_cons.1 ((h x).1 (by simp)) with e | h1
      · exact e
      · rcases List.mem_cons.1 ((h y).2 (by simp)) with e | h2
        · exact e.symm
        · have := hb.1 x h1
          have := ha.1 y h2
          omega
    subst e
    rw [sorted_eq ha.2 hb.2 fun z => ?_]
    have hz := h z
    rw [List.mem_cons, List.mem_cons] at hz
    constructor
    · intro k
      rcases hz.1 (.inr k) with e | k2
      · subst e; exact absurd (ha.1 z k) (by omega)
      · exact k2
    · intro k
      rcases hz.2 (.inr k) with e | k2
      · subst e; exact absurd (hb.1 z k) (by omega)
      · exact k2
/-- a node where both ends meet -/
def MeetAt (A : Int → Int → Int → Prop) (r : Int → Int) (s t d v : Int) : Prop := ∃ p q, p + q = d ∧ Peak A r s v p ∧ Peak (Turn A) r t v q
theorem peaksL_meet {es : List EdgeD} {n : Nat} {R : List Int} {S : List SC} {ro : List Int} {s t : Nat} {d : Int} {la lb : List LB} (hok : HierOK es n R S ro) (ha : Space (relB false (arcG es)) (XN S false) (rk ro) (s : Int) (la.map labOf)) (hb : Space (relB true (arcG es)) (XN S true) (rk ro) (t : Int) (lb.map labOf)) (hp : la.Pairwise (fun a b => a.v ≤ b.v)) (hd : Dist (arcG es) s t d) :
    (peaksL (byF lb) d la).Pairwise (· < ·) ∧ ∀ v, v ∈ peaksL (byF lb) d la ↔ MeetAt (arcG es) (rk ro) s t d v := by
  have hpw : lb.Pairwise (fun a b => a.v ≠ b.v) := by
    have h9 := hb.once
    rw [List.pairwise_map] at h9
    exact h9
  have hpa : la.Pairwise (fun a b => a.v ≠ b.v) := by
    have h9 := ha.once
    rw [List.pairwise_map] at h9
    exact h9
  have hH := hok.hierB false
  have hr0 : ∀ v, 0 ≤ rk ro v := fun v => by unfold rk; omega
  refine ⟨?_, fun v => ?_⟩
  · unfold peaksL
    rw [List.pairwise_map]
    exact ((hp.and hpa).imp fun h => by omega).filter _
  · have h1 := Space.peaks_both (A := arcG es) (X := XN S false) (Y := XN S true) hH (fun u v w => (XN_rel (back := true)).trans (show srel S v u w ↔ (XN S false).rel v u w from (XN_rel (back := false)).symm)) hr0 ha hb hd v
    unfold MeetAt
    rw [← h1]
    unfold peaksL
    constructor
    · intro h
      obtain ⟨x, hx, rfl⟩ := List.mem_map.1 h
      obtain ⟨hx1, hx2⟩ := List.mem_filter.1 hx
      unfold peakB at hx2
      cases hf : byF lb x.v with
      | none => rw [hf] at hx2; cases hx2
      | some y =>
        rw [hf] at hx2
        obtain ⟨z, hz, e, rfl⟩ := (byF_spec lb hpw _ _).1 hf
        exact ⟨labOf x, List.mem_map.2 ⟨x, hx1, rfl⟩, labOf z, List.mem_map.2 ⟨z, hz, rfl⟩, rfl, e, of_decide_eq_true hx2⟩
    · rintro ⟨a, ha1, b, hb1, rfl, e, e2⟩
      obtain ⟨x, hx, rfl⟩ := List.mem_map.1 ha1
      obtain ⟨z, hz, rfl⟩ := List.mem_map.1 hb1
      refine List.mem_map.2 ⟨x, List.mem_filter.2 ⟨hx, ?_⟩, rfl⟩
      unfold peakB
      rw [(byF_spec lb hpw x.v z.d).2 ⟨z, hz, e, rfl⟩]
      exact decide_eq_true e2
end Go.Proofs.YtkdomobedfhhgaaGreat
end
