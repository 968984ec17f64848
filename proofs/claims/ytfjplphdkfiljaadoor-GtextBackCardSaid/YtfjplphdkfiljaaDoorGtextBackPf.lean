/-
  Proved here: for every input, the law GtextBack answers true, and the arguments read afterwards as they read before (no condition).
-/
import Derived.Test.YtfjplphdkfiljaaDoorRows
import Derived.Test.YtfjplphdkfiljaaDoorGbW
import Derived.Test.YtfjplphdkfiljaaDoorOpen
import Derived.Test.YtfjplphdkfiljaaDoorDoor
import Derived.Test.YtfjplphdkfiljaaDoorTie
import Derived.Test.YtfjplphdkfiljaaDoorCards
import Derived.Test.YtfjplphdkfiljaaDoorOpenGD
import Derived.SevenTiedAt
namespace Go.Proofs.YtfjplphdkfiljaaDoor.gtextBack
open Go.ChangeShapes Go.WideShapes Go.ChangeAt Go.RowKit Go.Joins
open Go.ChangeMaps (open_string shut_string)
set_option linter.unusedVariables false

theorem own : ownKnob Tryd.prog.godebug = none := by kernel_rfl
theorem laidOut : laidOutB Tryd.prog = true := by kernel_rfl

set_option maxRecDepth 100000 in
theorem lifted (os : Os) (started : os.Started) (H : Type) (enc : TypeId × Value → H) :
    ReturnsInHanded {} Tryd.checked os 14 .any (fun w args => (Rows.gtextBackSpec.pre enc Tryd.prog Tryd.f14 [] false w args ∧ laidMetH Tryd.prog Rows.numBackRow.laid w) ∧ sizedMet enc Tryd.prog Tryd.f14 (OpenSpec.ofChange Rows.gtextBackSpec) false w args) (Rows.gtextBackSpec.post enc Tryd.prog Tryd.f14 false true false false) := by
  refine returnsInHanded_of_change_and (C := Tryd.checked) (X := fun w _ => laidMetH Tryd.prog Rows.numBackRow.laid w) (fun _ _ _ hh h => h.of_heap hh) own started (by kernel_rfl) Tryd.func14
    (ChangeSpec.witness_shaped (enc := enc) (C := Tryd.checked) (os := os) (X := fun w _ => laidMetH Tryd.prog Rows.numBackRow.laid w) false (World.doorLaid Tryd.prog 400 os) #[.agg #[.int .i64 0, .slice none 0 0], .slice none 0 0] 8 rfl (World.shaped_of_RefB (by kernel_rfl) (by kernel_rfl)) (by kernel_rfl) (by kernel_rfl) (by kernel_rfl) (door_met os _)) ?_
  intro W base args ds gs before hval0 hW _ hsz0 hL _
  have ht : Pow10 W := pow10_of hL
  have hsz : (DataW.weightsEach Tryd.prog (Tryd.f14.params.toList ++ Rows.gtextBackSpec.plain.varTypes Tryd.prog) (ds ++ gs)).all (· ≤ reachBytes) = true := hsz0
  clear hsz0
  have hval : ∀ (j : Nat) t v, Tryd.f14.params[j]? = some t → args[j]? = some v → Value.okWide Tryd.prog W .any base t v := hval0
  have hW' := hW
  obtain ⟨p, q, hA0, hV, rfl, hfz, hnd⟩ := hW
  have hA : DataW.TrodAll enc Tryd.prog W 0 (fun _ => true) true Tryd.f14.params.toList args.toList ds p := hA0
  rw [Tryd.params14] at hA hval hsz
  obtain ⟨v0, vs0, d0, ds0, p0, q0, hargs, rfl, rfl, h0, r0⟩ := trodAll_cons hA
  obtain ⟨v1, vs1, d1, ds1, p1, q1, rfl, rfl, rfl, h1, r1⟩ := trodAll_cons r0
  obtain ⟨rfl, rfl, rfl⟩ := trodAll_nil r1
  obtain rfl : args = #[v0, v1] := by cases args; simp_all
  obtain ⟨rfl, rfl⟩ := trodVars_none hV
  have k0 := h0
  have lt0 : ∀ x ∈ p0, x.block < W.heap.size := by obtain ⟨m, hm⟩ := k0; exact DataW.trod_lt m _ _ _ hm
  have k1 := h1
  have lt1 : ∀ x ∈ p1, x.block < W.heap.size := by obtain ⟨m, hm⟩ := k1; exact DataW.trod_lt m _ _ _ hm
  obtain ⟨x0, y0, rx0, ry0, fu0, rfl, rfl, rfl, hx0, hy0⟩ := open_agg2 Tryd.underlying52 (by kernel_rfl) (by kernel_rfl) (hval 0 52 v0 rfl rfl) h0
  obtain ⟨ng, he0, _, gg⟩ := DataW.trod_int Tryd.underlying3 hx0
  simp only [List.cons.injEq, and_true] at he0
  subst he0
  have bg := wf_i64 gg
  obtain ⟨aog, capg, g, rfl, cg, lg, fg⟩ := rd_edges Tryd.underlying50 Tryd.underlying99 Tryd.underlying3 Tryd.underlying22 (by kernel_rfl) (by kernel_rfl) (by kernel_rfl) hy0
  obtain ⟨al, ll, ml, hv1⟩ := okWide_slice Tryd.underlying54 (hval 1 54 v1 rfl rfl)
  subst hv1
  obtain ⟨fu1, hf1⟩ := h1
  obtain ⟨aol, capl, l, hv1, cl, nl, fl, _⟩ := rd_strings Tryd.underlying54 Tryd.underlying9 (by kernel_rfl) (show DataW.trod enc Tryd.prog W 0 (fun _ => true) true fu1 54 [_] = _ from hf1)
  cases hv1
  clear hA0 hval0
  refine (GtextBack_any ⟨ng, g⟩ l aog al capg ml W lg nl cg cl ht).mono fun e W' ⟨he, bel⟩ => ?_
  subst he
  exact ⟨_, rfl, _, _, _, [], _, [], hW', trodAll_mk1 (shut_bool Tryd.underlying4 _), (trodAll_cons_mk (Below.trod laidOut (by kernel_rfl) (of_decide_eq_true (by kernel_rfl)) k0 bel lt0) (trodAll_cons_mk (Below.trod laidOut (by kernel_rfl) (of_decide_eq_true (by kernel_rfl)) k1 bel lt1) trodAll_mk0)), rfl, bel.frame _, fun h => by cases h⟩

theorem over : Rows.gtextBackRow.holds Tryd.pinned (OpenSpec.ofChange Rows.gtextBackSpec) :=
  OpenClaim.holds_of_wide 14 Tryd.f14 rfl rfl rfl rfl rfl rfl rfl ⟨rfl, rfl, rfl, rfl, rfl⟩ rfl rfl rfl rfl rfl (by kernel_rfl) Tryd.func14 (by kernel_rfl)
    (of_decide_eq_true (by kernel_rfl)) (by unfold Func.isWrapper; first | (rw [if_pos (by decide +kernel)]; kernel_rfl) | (rw [if_neg (by decide +kernel)]; exact ⟨rfl, rfl⟩))
    (fun os started H enc _ => lifted os started H enc)

end Go.Proofs.YtfjplphdkfiljaaDoor.gtextBack
namespace Go.Proofs.YtfjplphdkfiljaaDoor
/-- The statement: the tied card. -/
theorem gtextBack_card : Rows.GtextBackCardSaid :=
  Claim7.holds_tied_plain_at .later [] [.data, .data, .data] true (true, "a457892684f76a80842d5935ad8dc772a71379e12575cbf058b4ade8d5e0979a") false
    gtextBack.over (fun _ h => by cases h) (by kernel_rfl) (fun _ h => by cases h) gtextBack_row_tie rfl ⟨rfl, rfl⟩ (by kernel_rfl) rfl
    (fun f fn hf hfn => by
      obtain rfl : f = 14 := Option.some.inj ((show Tryd.prog.funcNamed Rows.gtextBackRow.func = some 14 by kernel_rfl).symm.trans hf) |>.symm
      obtain rfl : fn = Tryd.f14 := (Option.some.inj (Tryd.func14.symm.trans hfn)).symm
      exact ⟨by kernel_rfl, fun j t ht => by
        rw [Tryd.params14] at ht
        have hm : t ∈ [52, 54] := by simpa using Array.mem_of_getElem? ht
        have hall : ([52, 54].all fun u => !Tryd.prog.wantsStandIn u) = true := by kernel_rfl
        exact (show Tryd.prog.wantsStandIn t = false by simpa using List.all_eq_true.1 hall t hm)⟩)
    (by kernel_rfl)
#print axioms gtextBack_card
end Go.Proofs.YtfjplphdkfiljaaDoor
