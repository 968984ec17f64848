/-
  Proved here: for every input, the law RatioMore answers true, and the arguments read afterwards as they read before (no condition).
-/
import Derived.Test.YtfjplphdkfiljaaDoorRows
import Derived.Test.YtfjplphdkfiljaaDoorRatioMore
import Derived.Test.YtfjplphdkfiljaaDoorOpen
import Derived.Test.YtfjplphdkfiljaaDoorDoor
import Derived.Test.YtfjplphdkfiljaaDoorTie
import Derived.Test.YtfjplphdkfiljaaDoorCards
import Derived.SevenTiedAt
namespace Go.Proofs.YtfjplphdkfiljaaDoor.ratioMore
open Go.ChangeShapes Go.WideShapes Go.ChangeAt Go.RowKit Go.Joins
open Go.ChangeMaps (open_string shut_string)
set_option linter.unusedVariables false

theorem own : ownKnob Tryd.prog.godebug = none := by kernel_rfl
theorem laidOut : laidOutB Tryd.prog = true := by kernel_rfl

set_option maxRecDepth 100000 in
theorem lifted (os : Os) (started : os.Started) (H : Type) (enc : TypeId × Value → H) :
    ReturnsInHanded {} Tryd.checked os 9 .any (fun w args => (Rows.ratioMoreSpec.pre enc Tryd.prog Tryd.f9 [] false w args ∧ laidMetH Tryd.prog Rows.numBackRow.laid w) ∧ sizedMet enc Tryd.prog Tryd.f9 (OpenSpec.ofChange Rows.ratioMoreSpec) false w args) (Rows.ratioMoreSpec.post enc Tryd.prog Tryd.f9 false true false false) := by
  refine returnsInHanded_of_change_and (C := Tryd.checked) (X := fun w _ => laidMetH Tryd.prog Rows.numBackRow.laid w) (fun _ _ _ hh h => h.of_heap hh) own started (by kernel_rfl) Tryd.func9
    (ChangeSpec.witness_shaped (enc := enc) (C := Tryd.checked) (os := os) (X := fun w _ => laidMetH Tryd.prog Rows.numBackRow.laid w) false (World.doorLaid Tryd.prog 400 os) #[.int .u64 0, .agg #[.int .u64 0, .int .u64 0], .agg #[.int .u64 0, .int .u64 0], .int .u64 0] 8 rfl (World.shaped_of_RefB (by kernel_rfl) (by kernel_rfl)) (by kernel_rfl) (by kernel_rfl) (by kernel_rfl) (door_met os _)) ?_
  intro W base args ds gs before hval0 hW _ hsz0 hL _
  have ht : Pow10 W := pow10_of hL
  have hsz : (DataW.weightsEach Tryd.prog (Tryd.f9.params.toList ++ Rows.ratioMoreSpec.plain.varTypes Tryd.prog) (ds ++ gs)).all (· ≤ reachBytes) = true := hsz0
  clear hsz0
  have hval : ∀ (j : Nat) t v, Tryd.f9.params[j]? = some t → args[j]? = some v → Value.okWide Tryd.prog W .any base t v := hval0
  have hW' := hW
  obtain ⟨p, q, hA0, hV, rfl, hfz, hnd⟩ := hW
  have hA : DataW.TrodAll enc Tryd.prog W 0 (fun _ => true) true Tryd.f9.params.toList args.toList ds p := hA0
  rw [Tryd.params9] at hA hval hsz
  obtain ⟨v0, vs0, d0, ds0, p0, q0, hargs, rfl, rfl, h0, r0⟩ := trodAll_cons hA
  obtain ⟨v1, vs1, d1, ds1, p1, q1, rfl, rfl, rfl, h1, r1⟩ := trodAll_cons r0
  obtain ⟨v2, vs2, d2, ds2, p2, q2, rfl, rfl, rfl, h2, r2⟩ := trodAll_cons r1
  obtain ⟨v3, vs3, d3, ds3, p3, q3, rfl, rfl, rfl, h3, r3⟩ := trodAll_cons r2
  obtain ⟨rfl, rfl, rfl⟩ := trodAll_nil r3
  obtain rfl : args = #[v0, v1, v2, v3] := by cases args; simp_all
  obtain ⟨rfl, rfl⟩ := trodVars_none hV
  have k0 := h0
  have lt0 : ∀ x ∈ p0, x.block < W.heap.size := by obtain ⟨m, hm⟩ := k0; exact DataW.trod_lt m _ _ _ hm
  have k1 := h1
  have lt1 : ∀ x ∈ p1, x.block < W.heap.size := by obtain ⟨m, hm⟩ := k1; exact DataW.trod_lt m _ _ _ hm
  have k2 := h2
  have lt2 : ∀ x ∈ p2, x.block < W.heap.size := by obtain ⟨m, hm⟩ := k2; exact DataW.trod_lt m _ _ _ hm
  have k3 := h3
  have lt3 : ∀ x ∈ p3, x.block < W.heap.size := by obtain ⟨m, hm⟩ := k3; exact DataW.trod_lt m _ _ _ hm
  obtain ⟨v, rfl, rfl, rfl, y0⟩ := open_int Tryd.underlying22 (hval 0 22 v0 rfl rfl) h0
  have bv := wf_u64 y0
  obtain ⟨x1, y1, rx1, ry1, fu1, rfl, rfl, rfl, hx1, hy1⟩ := open_agg2 Tryd.underlying41 (by kernel_rfl) (by kernel_rfl) (hval 1 41 v1 rfl rfl) h1
  obtain ⟨an, hex1, _, gan⟩ := DataW.trod_int Tryd.underlying22 hx1
  simp only [List.cons.injEq, and_true] at hex1
  subst hex1
  have ban := wf_u64 gan
  obtain ⟨ad, hey1, _, gad⟩ := DataW.trod_int Tryd.underlying22 hy1
  simp only [List.cons.injEq, and_true] at hey1
  subst hey1
  have bad := wf_u64 gad
  obtain ⟨x2, y2, rx2, ry2, fu2, rfl, rfl, rfl, hx2, hy2⟩ := open_agg2 Tryd.underlying41 (by kernel_rfl) (by kernel_rfl) (hval 2 41 v2 rfl rfl) h2
  obtain ⟨bn, hex2, _, gbn⟩ := DataW.trod_int Tryd.underlying22 hx2
  simp only [List.cons.injEq, and_true] at hex2
  subst hex2
  have bbn := wf_u64 gbn
  obtain ⟨bd, hey2, _, gbd⟩ := DataW.trod_int Tryd.underlying22 hy2
  simp only [List.cons.injEq, and_true] at hey2
  subst hey2
  have bbd := wf_u64 gbd
  obtain ⟨base, rfl, rfl, rfl, y3⟩ := open_int Tryd.underlying22 (hval 3 22 v3 rfl rfl) h3
  have bbase := wf_u64 y3
  clear hA0 hval0
  refine (RatioMore_any v an ad bn bd base W ⟨bv.1, by omega⟩ ban.1 bbn.1 ⟨bbase.1, by omega⟩ ht).mono fun e W' ⟨he, bel⟩ => ?_
  subst he
  exact ⟨_, rfl, _, _, _, [], _, [], hW', trodAll_mk1 (shut_bool Tryd.underlying4 _), (trodAll_cons_mk (Below.trod laidOut (by kernel_rfl) (of_decide_eq_true (by kernel_rfl)) k0 bel lt0) (trodAll_cons_mk (Below.trod laidOut (by kernel_rfl) (of_decide_eq_true (by kernel_rfl)) k1 bel lt1) (trodAll_cons_mk (Below.trod laidOut (by kernel_rfl) (of_decide_eq_true (by kernel_rfl)) k2 bel lt2) (trodAll_cons_mk (Below.trod laidOut (by kernel_rfl) (of_decide_eq_true (by kernel_rfl)) k3 bel lt3) trodAll_mk0)))), rfl, bel.frame _, fun h => by cases h⟩

theorem over : Rows.ratioMoreRow.holds Tryd.pinned (OpenSpec.ofChange Rows.ratioMoreSpec) :=
  OpenClaim.holds_of_wide 9 Tryd.f9 rfl rfl rfl rfl rfl rfl rfl ⟨rfl, rfl, rfl, rfl, rfl⟩ rfl rfl rfl rfl rfl (by kernel_rfl) Tryd.func9 (by kernel_rfl)
    (of_decide_eq_true (by kernel_rfl)) (by unfold Func.isWrapper; first | (rw [if_pos (by decide +kernel)]; kernel_rfl) | (rw [if_neg (by decide +kernel)]; exact ⟨rfl, rfl⟩))
    (fun os started H enc _ => lifted os started H enc)

end Go.Proofs.YtfjplphdkfiljaaDoor.ratioMore
namespace Go.Proofs.YtfjplphdkfiljaaDoor
/-- The statement: the tied card. -/
theorem ratioMore_card : Rows.RatioMoreCardSaid :=
  Claim7.holds_tied_plain_at .later [] [.data, .data, .data] true (true, "a457892684f76a80842d5935ad8dc772a71379e12575cbf058b4ade8d5e0979a") false
    ratioMore.over (fun _ h => by cases h) (by kernel_rfl) (fun _ h => by cases h) ratioMore_row_tie rfl ⟨rfl, rfl⟩ (by kernel_rfl) rfl
    (fun f fn hf hfn => by
      obtain rfl : f = 9 := Option.some.inj ((show Tryd.prog.funcNamed Rows.ratioMoreRow.func = some 9 by kernel_rfl).symm.trans hf) |>.symm
      obtain rfl : fn = Tryd.f9 := (Option.some.inj (Tryd.func9.symm.trans hfn)).symm
      exact ⟨by kernel_rfl, fun j t ht => by
        rw [Tryd.params9] at ht
        have hm : t ∈ [22, 41, 41, 22] := by simpa using Array.mem_of_getElem? ht
        have hall : ([22, 41, 41, 22].all fun u => !Tryd.prog.wantsStandIn u) = true := by kernel_rfl
        exact (show Tryd.prog.wantsStandIn t = false by simpa using List.all_eq_true.1 hall t hm)⟩)
    (by kernel_rfl)
#print axioms ratioMore_card
end Go.Proofs.YtfjplphdkfiljaaDoor
