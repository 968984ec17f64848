/-
  Proved here: for every input, the law PathOrder answers true, and the arguments read afterwards as they read before (no condition).
-/
import Derived.Test.YtfjplphdkfiljaaRows
import Derived.Test.YtfjplphdkfiljaaPathOrderB
import Derived.Test.YtfjplphdkfiljaaOpen
import Derived.Test.YtfjplphdkfiljaaOpenG
namespace Go.Proofs.Ytfjplphdkfiljaa.pathOrder
open Go.ChangeShapes Go.WideShapes Go.ChangeAt Go.RowKit Go.Joins
open Go.ChangeMaps (open_string shut_string)
set_option linter.unusedVariables false

theorem own : ownKnob Try.prog.godebug = none := by kernel_rfl
theorem laidOut : laidOutB Try.prog = true := by kernel_rfl

set_option maxRecDepth 100000 in
theorem lifted (os : Os) (started : os.Started) (H : Type) (enc : TypeId × Value → H) :
    ReturnsInHanded {} Try.checked os 7 .any (Rows.pathOrderSpec.pre6 enc Try.prog Try.f7 Rows.pathOrderRow.domain false) (Rows.pathOrderSpec.post enc Try.prog Try.f7 false true false false) := by
  refine returnsInHanded_of_change_sized (C := Try.checked) own started (by kernel_rfl) Try.func7
    (ChangeSpec.witness6 (enc := enc) (C := Try.checked) false ⟨#[], #[.agg #[.int .i64 0, .slice none 0 0], .agg #[.slice none 0 0, .int .u64 0], .agg #[.slice none 0 0, .int .u64 0]], []⟩ 8 (by kernel_rfl) (by kernel_rfl) (by kernel_rfl) (by kernel_rfl)) ?_
  intro W base args ds gs before hval0 hW _ hsz0 _
  have hsz : (DataW.weightsEach Try.prog (Try.f7.params.toList ++ Rows.pathOrderSpec.plain.varTypes Try.prog) (ds ++ gs)).all (· ≤ reachBytes) = true := hsz0
  clear hsz0
  have hval : ∀ (j : Nat) t v, Try.f7.params[j]? = some t → args[j]? = some v → Value.okWide Try.prog W .any base t v := hval0
  have hW' := hW
  obtain ⟨p, q, hA0, hV, rfl, hfz, hnd⟩ := hW
  have hA : DataW.TrodAll enc Try.prog W 0 (fun _ => true) true Try.f7.params.toList args.toList ds p := hA0
  rw [Try.params7] at hA hval hsz
  obtain ⟨v0, vs0, d0, ds0, p0, q0, hargs, rfl, rfl, h0, r0⟩ := trodAll_cons hA
  obtain ⟨v1, vs1, d1, ds1, p1, q1, rfl, rfl, rfl, h1, r1⟩ := trodAll_cons r0
  obtain ⟨v2, vs2, d2, ds2, p2, q2, rfl, rfl, rfl, h2, r2⟩ := trodAll_cons r1
  obtain ⟨rfl, rfl, rfl⟩ := trodAll_nil r2
  obtain rfl : args = #[v0, v1, v2] := by cases args; simp_all
  obtain ⟨rfl, rfl⟩ := trodVars_none hV
  have k0 := h0
  have lt0 : ∀ x ∈ p0, x.block < W.heap.size := by obtain ⟨m, hm⟩ := k0; exact DataW.trod_lt m _ _ _ hm
  have k1 := h1
  have lt1 : ∀ x ∈ p1, x.block < W.heap.size := by obtain ⟨m, hm⟩ := k1; exact DataW.trod_lt m _ _ _ hm
  have k2 := h2
  have lt2 : ∀ x ∈ p2, x.block < W.heap.size := by obtain ⟨m, hm⟩ := k2; exact DataW.trod_lt m _ _ _ hm
  obtain ⟨x0, y0, rx0, ry0, fu0, rfl, rfl, rfl, hx0, hy0⟩ := open_agg2 Try.underlying38 (by kernel_rfl) (by kernel_rfl) (hval 0 38 v0 rfl rfl) h0
  obtain ⟨ng, he0, _, gg⟩ := DataW.trod_int Try.underlying3 hx0
  simp only [List.cons.injEq, and_true] at he0
  subst he0
  have bg := wf_i64 gg
  obtain ⟨aog, capg, g, rfl, cg, lg, fg⟩ := rd_edges Try.underlying36 Try.underlying76 Try.underlying3 Try.underlying31 (by kernel_rfl) (by kernel_rfl) (by kernel_rfl) hy0
  obtain ⟨x1, y1, rx1, ry1, fu1, rfl, rfl, rfl, hx1, hy1⟩ := open_agg2 Try.underlying33 (by kernel_rfl) (by kernel_rfl) (hval 1 33 v1 rfl rfl) h1
  obtain ⟨aoa, capa, a, rfl, ca, na, fa⟩ := rd_ints Try.underlying30 Try.underlying3 (by kernel_rfl) hx1
  have ua := cap_ints Try.underlying30 hx1
  obtain ⟨wa, he1, _, ga⟩ := DataW.trod_int Try.underlying31 hy1
  simp only [List.cons.injEq, and_true] at he1
  subst he1
  have ba := wf_u64 ga
  obtain ⟨x2, y2, rx2, ry2, fu2, rfl, rfl, rfl, hx2, hy2⟩ := open_agg2 Try.underlying33 (by kernel_rfl) (by kernel_rfl) (hval 2 33 v2 rfl rfl) h2
  obtain ⟨aob, capb, b, rfl, cb, nb, fb⟩ := rd_ints Try.underlying30 Try.underlying3 (by kernel_rfl) hx2
  have ub := cap_ints Try.underlying30 hx2
  obtain ⟨wb, he2, _, gb⟩ := DataW.trod_int Try.underlying31 hy2
  simp only [List.cons.injEq, and_true] at he2
  subst he2
  have bb := wf_u64 gb
  clear hA0 hval0
  refine (PathOrder_any ⟨ng, g⟩ aog aoa aob capg capa capb a b wa wb W lg na nb ua cg ca cb).mono fun e W' ⟨he, bel⟩ => ?_
  subst he
  exact ⟨_, rfl, _, _, _, [], _, [], hW', trodAll_mk1 (shut_bool Try.underlying4 _), (trodAll_cons_mk (Below.trod laidOut (by kernel_rfl) (of_decide_eq_true (by kernel_rfl)) k0 bel lt0) (trodAll_cons_mk (Below.trod laidOut (by kernel_rfl) (of_decide_eq_true (by kernel_rfl)) k1 bel lt1) (trodAll_cons_mk (Below.trod laidOut (by kernel_rfl) (of_decide_eq_true (by kernel_rfl)) k2 bel lt2) trodAll_mk0))), rfl, bel.frame _, fun h => by cases h⟩

theorem over : Rows.pathOrderRow.holds Try.pinned (OpenSpec.ofChange Rows.pathOrderSpec) :=
  OpenClaim.holds_of_wide 7 Try.f7 rfl rfl rfl rfl rfl rfl rfl ⟨rfl, rfl, rfl, rfl, rfl⟩ rfl rfl rfl rfl rfl (by kernel_rfl) Try.func7 (by kernel_rfl)
    (of_decide_eq_true (by kernel_rfl)) (by unfold Func.isWrapper; first | (rw [if_pos (by decide +kernel)]; kernel_rfl) | (rw [if_neg (by decide +kernel)]; exact ⟨rfl, rfl⟩))
    (fun os started H enc _ => lifted os started H enc)

end Go.Proofs.Ytfjplphdkfiljaa.pathOrder
namespace Go.Proofs.Ytfjplphdkfiljaa
/-- The statement. -/
theorem pathOrder_holds : Rows.PathOrderSaid := pathOrder.over
#print axioms pathOrder_holds
end Go.Proofs.Ytfjplphdkfiljaa
