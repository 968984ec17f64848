/-
  How the arguments of a statement are opened: rows of labels.
  Proved here: for every input, the law UpwardWays answers true, and the arguments read afterwards as they read before (no condition).
-/
import Derived.Test.YtkdomobedfhhgaaGreatQc04
import Derived.Test.YtkdomobedfhhgaaGreatQd02
import Derived.Test.YtkdomobedfhhgaaGreatRows
import Derived.Test.YtkdomobedfhhgaaGreatQj01
set_option linter.unusedVariables false
set_option linter.unusedSimpArgs false
set_option linter.unnecessarySimpa false
section
namespace Go.Proofs.YtkdomobedfhhgaaGreat
open Go.ChangeShapes Go.WideShapes Go.ChangeAt Go.RowKit Go.Deep

instance : Inhabited LB := ⟨⟨0, 0, 0⟩⟩

section
variable {H : Type} {enc : TypeId × Value → H} {P : Program} {w : World}

theorem rd_labs {t e : TypeId} {f0 f1 f2 : Field} {fuel : Nat} {v : Value} {x : DataW H × List MemPlace} (ht : P.underlying t = some (.slice e)) (he : P.underlying e = some (.struct #[f0, f1, f2]))
    (hi : P.underlying f0.type = some (.int .i64)) (hu : P.underlying f1.type = some (.int .u64)) (ce : P.cellsOf e = 3) (ho : (f0.offset, f1.offset, f2.offset, f2.type) = (0, 1, 2, f0.type)) (hcs : (P.cellsOf f0.type, P.cellsOf f1.type) = (1, 1))
    (h : DataW.trod enc P w 0 (fun _ => true) true fuel t [v] = some x) :
    ∃ (ao : Option Addr) (cap : Nat) (es : List LB), v = .slice ao es.length cap ∧ Cel w ao (flatB es) ∧ es.length ≤ 9223372036854775807 ∧ ∀ y ∈ es, (Lit.int .i64 y.v).wf = true ∧ (Lit.int .u64 y.d).wf = true ∧ (Lit.int .i64 y.b).wf = true := by
  simp only [Prod.mk.injEq] at ho hcs
  obtain ⟨o0, o1, o2, t1⟩ := ho
  obtain ⟨c0, c2⟩ := hcs
  rcases open_slice ht h with ⟨hcs, _⟩ | ⟨a, len, cap, m, n, D, Pl, hcs, _, hl, hm, hmm, _, hx⟩
  · simp at hcs
    subst hcs
    exact ⟨none, 0, [], rfl, Cel.nil _ _, by simp, by simp⟩
  · simp at hcs
    subst hcs
    have hmc : m = cap := by rw [hmm]; rfl
    have each : ∀ i, i < len → ∃ y : LB, w.cell? (a.add (i * 3)) = some (.int .i64 y.v) ∧ w.cell? (a.add (i * 3 + 1)) = some (.int .u64 y.d) ∧ w.cell? (a.add (i * 3 + 2)) = some (.int .i64 y.b) ∧
        (Lit.int .i64 y.v).wf = true ∧ (Lit.int .u64 y.d).wf = true ∧ (Lit.int .i64 y.b).wf = true := by
      intro i hil
      obtain ⟨cs', h1, h2⟩ := hx i (by omega)
      rw [ce] at h1
      obtain ⟨_, hlen, hcell⟩ := World.cells?_some h1
      obtain ⟨xs, k, hk, hxy, _, hxl, hf⟩ := DataW.trod_struct he h2
      match xs, hxl, cs', hlen, hf, hcell with
      | [y0, y1, y2], _, [v0, v1, v2], _, hf, hcell =>
        have g0 := hf 0 f0 rfl
        have g1 := hf 1 f1 rfl
        have g2 := hf 2 f2 rfl
        simp [o0, o1, o2, c0, c2, t1] at g0 g1 g2
        have e0 := hcell 0 (by omega)
        have e1 := hcell 1 (by omega)
        have e2 := hcell 2 (by omega)
        rw [add_add] at e0 e1 e2
        simp at e0 e1 e2
        obtain ⟨a0, q0, _, w0⟩ := DataW.trod_int hi g0
        obtain ⟨a1, q1, _, w1⟩ := DataW.trod_int hu g1
        obtain ⟨a2, q2, _, w2⟩ := DataW.trod_int hi g2
        simp at q0 q1 q2
        subst q0 q1 q2
        exact ⟨⟨a0, a1, a2⟩, e0, e1, e2, w0, w1, w2⟩
    obtain ⟨q, hq⟩ := choose_lt each
    have hes : ((List.range len).map q).length = len := by simp
    refine ⟨some a, cap, (List.range len).map q, by rw [hes], ?_, by rw [hes]; unfold maxLen at hm; omega, ?_⟩
    · intro i u hu
      have hlt : i < len * 3 := by
        have := (List.getElem?_eq_some_iff.1 hu).1
        rw [flatB_len, hes] at this
        exact this
      have hd : i / 3 < len := by omega
      obtain ⟨r0, r1, r2, _, _, _⟩ := hq (i / 3) hd
      obtain ⟨s0, s1, s2⟩ := flatB_get ((List.range len).map q) (i / 3) (by simpa using hd)
      simp only [List.getElem_map, List.getElem_range] at s0 s1 s2
      have hcl : w.cell? (a.add i) = some u := by
        have hm3 : i = i / 3 * 3 ∨ i = i / 3 * 3 + 1 ∨ i = i / 3 * 3 + 2 := by omega
        rcases hm3 with e | e | e
        · rw [e] at hu ⊢
          rw [s0] at hu
          cases hu
          exact r0
        · rw [e] at hu ⊢
          rw [s1] at hu
          cases hu
          exact r1
        · rw [e] at hu ⊢
          rw [s2] at hu
          cases hu
          exact r2
      have h0 := (hq 0 (by omega)).1
      obtain ⟨b, o, s⟩ := a
      cases s with
      | none => exact ⟨b, o, rfl, by rw [Addr.add_lit] at hcl; exact hcl⟩
      | some sp =>
        have : w.cell? ((⟨b, o, some sp⟩ : Addr).add (0 * 3)) = none := by
          unfold World.cell? Addr.add
          rw [if_pos rfl]
          split <;> simp
        rw [this] at h0
        cases h0
    · intro y hy
      obtain ⟨i, hi, rfl⟩ := List.mem_map.1 hy
      exact (hq i (by simpa using hi)).2.2.2
end
end Go.Proofs.YtkdomobedfhhgaaGreat
end

section
namespace Go.Proofs.YtkdomobedfhhgaaGreat.upwardWays
open Go.ChangeShapes Go.WideShapes Go.ChangeAt Go.RowKit Go.Joins
open Go.ChangeMaps (open_string shut_string)
set_option linter.unusedVariables false

theorem own : ownKnob Tryz.prog.godebug = none := by kernel_rfl
theorem laidOut : laidOutB Tryz.prog = true := by kernel_rfl

set_option maxRecDepth 100000 in
theorem lifted (os : Os) (started : os.Started) (H : Type) (enc : TypeId × Value → H) :
    ReturnsInHanded {} Tryz.checked os 8 .any (Rows.upwardWaysSpec.pre6 enc Tryz.prog Tryz.f8 Rows.upwardWaysRow.domain false) (Rows.upwardWaysSpec.post enc Tryz.prog Tryz.f8 false true false false) := by
  refine returnsInHanded_of_change_sized (C := Tryz.checked) own started (by kernel_rfl) Tryz.func8
    (ChangeSpec.witness6 (enc := enc) (C := Tryz.checked) false ⟨#[], #[.agg #[.int .i64 0, .slice none 0 0], .agg #[.int .i64 0, .int .i64 0, .slice none 0 0], .int .i64 0, .int .i64 0, .bool false, .slice none 0 0], []⟩ 8 (by kernel_rfl) (by kernel_rfl) (by kernel_rfl) (by kernel_rfl)) ?_
  intro W base args ds gs before hval0 hW _ hsz0 _
  have hsz : (DataW.weightsEach Tryz.prog (Tryz.f8.params.toList ++ Rows.upwardWaysSpec.plain.varTypes Tryz.prog) (ds ++ gs)).all (· ≤ reachBytes) = true := hsz0
  clear hsz0
  have hval : ∀ (j : Nat) t v, Tryz.f8.params[j]? = some t → args[j]? = some v → Value.okWide Tryz.prog W .any base t v := hval0
  have hW' := hW
  obtain ⟨p, q, hA0, hV, rfl, hfz, hnd⟩ := hW
  have hA : DataW.TrodAll enc Tryz.prog W 0 (fun _ => true) true Tryz.f8.params.toList args.toList ds p := hA0
  rw [Tryz.params8] at hA hval hsz
  obtain ⟨v0, vs0, d0, ds0, p0, q0, hargs, rfl, rfl, h0, r0⟩ := trodAll_cons hA
  obtain ⟨v1, vs1, d1, ds1, p1, q1, rfl, rfl, rfl, h1, r1⟩ := trodAll_cons r0
  obtain ⟨v2, vs2, d2, ds2, p2, q2, rfl, rfl, rfl, h2, r2⟩ := trodAll_cons r1
  obtain ⟨v3, vs3, d3, ds3, p3, q3, rfl, rfl, rfl, h3, r3⟩ := trodAll_cons r2
  obtain ⟨v4, vs4, d4, ds4, p4, q4, rfl, rfl, rfl, h4, r4⟩ := trodAll_cons r3
  obtain ⟨v5, vs5, d5, ds5, p5, q5, rfl, rfl, rfl, h5, r5⟩ := trodAll_cons r4
  obtain ⟨rfl, rfl, rfl⟩ := trodAll_nil r5
  obtain rfl : args = #[v0, v1, v2, v3, v4, v5] := by cases args; simp_all
  obtain ⟨rfl, rfl⟩ := trodVars_none hV
  have k0 := h0
  have lt0 : ∀ x ∈ p0, x.block < W.heap.size := by obtain ⟨m, hm⟩ := k0; exact DataW.trod_lt m _ _ _ hm
  have k1 := h1
  have lt1 : ∀ x ∈ p1, x.block < W.heap.size := by obtain ⟨m, hm⟩ := k1; exact DataW.trod_lt m _ _ _ hm
  have k2 := h2
  have lt2 : ∀ x ∈ p2, x.block < W.heap.size := by obtain ⟨m, hm⟩ := k2; exact DataW.trod_lt m _ _ _ hm
  have k3 := h3
  have lt3 : ∀ x ∈ p3, x.block < W.heap.size := by obtain ⟨m, hm⟩ := k3; exact DataW.trod_lt m _ _ _ hm
  have k4 := h4
  have lt4 : ∀ x ∈ p4, x.block < W.heap.size := by obtain ⟨m, hm⟩ := k4; exact DataW.trod_lt m _ _ _ hm
  have k5 := h5
  have lt5 : ∀ x ∈ p5, x.block < W.heap.size := by obtain ⟨m, hm⟩ := k5; exact DataW.trod_lt m _ _ _ hm
  obtain ⟨x0, y0, rx0, ry0, fu0, rfl, rfl, rfl, hx0, hy0⟩ := open_agg2 Tryz.underlying24 (by kernel_rfl) (by kernel_rfl) (hval 0 24 v0 rfl rfl) h0
  obtain ⟨ng, he0, _, gg⟩ := DataW.trod_int Tryz.underlying3 hx0
  simp only [List.cons.injEq, and_true] at he0
  subst he0
  have bg := wf_i64 gg
  obtain ⟨aog, capg, g, rfl, cg, lg, fg⟩ := rd_edges Tryz.underlying22 Tryz.underlying119 Tryz.underlying3 Tryz.underlying34 (by kernel_rfl) (by kernel_rfl) (by kernel_rfl) hy0
  obtain ⟨x1, y1, z1, rx1, ry1, rz1, fu1, rfl, rfl, rfl, hx1, hy1, hz1⟩ := open_agg3 Tryz.underlying27 (by kernel_rfl) (by kernel_rfl) (hval 1 27 v1 rfl rfl) h1
  obtain ⟨ha, hex1, _, gha⟩ := DataW.trod_int Tryz.underlying3 hx1
  simp only [List.cons.injEq, and_true] at hex1
  subst hex1
  have bha := wf_i64 gha
  obtain ⟨sa, hey1, _, gsa⟩ := DataW.trod_int Tryz.underlying3 hy1
  simp only [List.cons.injEq, and_true] at hey1
  subst hey1
  have bsa := wf_i64 gsa
  obtain ⟨aoa, capa, a, rfl, ca, na, fa⟩ := rd_ints Tryz.underlying25 Tryz.underlying3 (by kernel_rfl) hz1
  obtain ⟨s, rfl, rfl, rfl, y2⟩ := open_int Tryz.underlying3 (hval 2 3 v2 rfl rfl) h2
  have bs := wf_i64 y2
  obtain ⟨v, rfl, rfl, rfl, y3⟩ := open_int Tryz.underlying3 (hval 3 3 v3 rfl rfl) h3
  have bv := wf_i64 y3
  obtain ⟨b, rfl, rfl, rfl⟩ := open_bool Tryz.underlying4 (hval 4 4 v4 rfl rfl) h4
  obtain ⟨aodd, lodd, modd, hv5⟩ := okWide_slice Tryz.underlying59 (hval 5 59 v5 rfl rfl)
  subst hv5
  obtain ⟨fu5, hf5⟩ := h5
  obtain ⟨aoodd, capodd, odd, hv5, codd, nodd, fodd⟩ := rd_labs Tryz.underlying59 Tryz.underlying64 Tryz.underlying3 Tryz.underlying34 (by kernel_rfl) (by kernel_rfl) (by kernel_rfl) (show DataW.trod enc Tryz.prog W 0 (fun _ => true) true fu5 59 [_] = _ from hf5)
  cases hv5
  clear hA0 hval0
  refine (UpwardWays_any ⟨ng, g⟩ aog capg ha sa aoa a capa s v b aodd odd modd W cg ca codd).mono fun e W' ⟨he, bel⟩ => ?_
  subst he
  exact ⟨_, rfl, _, _, _, [], _, [], hW', trodAll_mk1 (shut_bool Tryz.underlying4 _), (trodAll_cons_mk (Below.trod laidOut (by kernel_rfl) (of_decide_eq_true (by kernel_rfl)) k0 bel lt0) (trodAll_cons_mk (Below.trod laidOut (by kernel_rfl) (of_decide_eq_true (by kernel_rfl)) k1 bel lt1) (trodAll_cons_mk (Below.trod laidOut (by kernel_rfl) (of_decide_eq_true (by kernel_rfl)) k2 bel lt2) (trodAll_cons_mk (Below.trod laidOut (by kernel_rfl) (of_decide_eq_true (by kernel_rfl)) k3 bel lt3) (trodAll_cons_mk (Below.trod laidOut (by kernel_rfl) (of_decide_eq_true (by kernel_rfl)) k4 bel lt4) (trodAll_cons_mk (Below.trod laidOut (by kernel_rfl) (of_decide_eq_true (by kernel_rfl)) k5 bel lt5) trodAll_mk0)))))), rfl, bel.frame _, fun h => by cases h⟩

theorem over : Rows.upwardWaysRow.holds Tryz.pinned (OpenSpec.ofChange Rows.upwardWaysSpec) :=
  OpenClaim.holds_of_wide 8 Tryz.f8 rfl rfl rfl rfl rfl rfl rfl ⟨rfl, rfl, rfl, rfl, rfl⟩ rfl rfl rfl rfl rfl (by kernel_rfl) Tryz.func8 (by kernel_rfl)
    (of_decide_eq_true (by kernel_rfl)) (by unfold Func.isWrapper; first | (rw [if_pos (by decide +kernel)]; kernel_rfl) | (rw [if_neg (by decide +kernel)]; exact ⟨rfl, rfl⟩))
    (fun os started H enc _ => lifted os started H enc)

end Go.Proofs.YtkdomobedfhhgaaGreat.upwardWays
namespace Go.Proofs.YtkdomobedfhhgaaGreat
/-- The statement. -/
theorem upwardWays_holds : Rows.UpwardWaysSaid := upwardWays.over
#print axioms upwardWays_holds
end Go.Proofs.YtkdomobedfhhgaaGreat
end
