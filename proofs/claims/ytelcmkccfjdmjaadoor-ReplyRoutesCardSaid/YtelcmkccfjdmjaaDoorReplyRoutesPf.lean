/-
  Proved here: for every input, the law ReplyRoutes answers true, and the arguments read afterwards as they read before (no condition).
-/
import Derived.Test.YtelcmkccfjdmjaaDoorRows
import Derived.Test.YtelcmkccfjdmjaaDoorRpN
import Derived.Test.YtelcmkccfjdmjaaDoorOpen
import Derived.Test.YtelcmkccfjdmjaaDoorDoorR
import Derived.Test.YtelcmkccfjdmjaaDoorTie
import Derived.Test.YtelcmkccfjdmjaaDoorCards
import Derived.SevenTiedAt
namespace Go.Proofs.YtelcmkccfjdmjaaDoor.replyRoutes
open Go.ChangeShapes Go.WideShapes Go.ChangeAt Go.RowKit Go.Joins
open Go.ChangeMaps (open_string shut_string)
set_option linter.unusedVariables false

theorem own : ownKnob Tryd.prog.godebug = none := by kernel_rfl
theorem laidOut : laidOutB Tryd.prog = true := by kernel_rfl

set_option maxRecDepth 100000 in
theorem lifted (os : Os) (started : os.Started) (H : Type) (enc : TypeId × Value → H) :
    ReturnsInHanded {} Tryd.checked os 4 .any (fun w args => (Rows.replyRoutesSpec.pre enc Tryd.prog Tryd.f4 [] false w args ∧ laidMetH Tryd.prog Rows.replyRoutesRow.laid w) ∧ sizedMet enc Tryd.prog Tryd.f4 (OpenSpec.ofChange Rows.replyRoutesSpec) false w args) (Rows.replyRoutesSpec.post enc Tryd.prog Tryd.f4 false true false false) := by
  refine returnsInHanded_of_change_and (C := Tryd.checked) (X := fun w _ => laidMetH Tryd.prog Rows.replyRoutesRow.laid w) (fun _ _ _ hh h => h.of_heap hh) own started (by kernel_rfl) Tryd.func4
    (ChangeSpec.witness_shaped (enc := enc) (C := Tryd.checked) (os := os) (X := fun w _ => laidMetH Tryd.prog Rows.replyRoutesRow.laid w) false (World.laidAll Tryd.prog os Rows.replyRoutesRow.laid) #[.agg #[.slice none 0 0, .int .u64 0], .string ByteArray.empty] 8 (World.laidAll_os _ _ _) (World.shaped_of_ZipB (by kernel_rfl) (by kernel_rfl)) (by kernel_rfl) (by kernel_rfl) (by kernel_rfl) (door_met5 os _)) ?_
  intro W base args ds gs before hval0 hW _ hsz0 hL _
  have ht : Pow10 W := pow10_of5 hL
  have hsz : (DataW.weightsEach Tryd.prog (Tryd.f4.params.toList ++ Rows.replyRoutesSpec.plain.varTypes Tryd.prog) (ds ++ gs)).all (· ≤ reachBytes) = true := hsz0
  clear hsz0
  have hval : ∀ (j : Nat) t v, Tryd.f4.params[j]? = some t → args[j]? = some v → Value.okWide Tryd.prog W .any base t v := hval0
  have hW' := hW
  obtain ⟨p, q, hA0, hV, rfl, hfz, hnd⟩ := hW
  have hA : DataW.TrodAll enc Tryd.prog W 0 (fun _ => true) true Tryd.f4.params.toList args.toList ds p := hA0
  rw [Tryd.params4] at hA hval hsz
  obtain ⟨v0, vs0, d0, ds0, p0, q0, hargs, rfl, rfl, h0, r0⟩ := trodAll_cons hA
  obtain ⟨v1, vs1, d1, ds1, p1, q1, rfl, rfl, rfl, h1, r1⟩ := trodAll_cons r0
  obtain ⟨rfl, rfl, rfl⟩ := trodAll_nil r1
  obtain rfl : args = #[v0, v1] := by cases args; simp_all
  obtain ⟨rfl, rfl⟩ := trodVars_none hV
  have k0 := h0
  have lt0 : ∀ x ∈ p0, x.block < W.heap.size := by obtain ⟨m, hm⟩ := k0; exact DataW.trod_lt m _ _ _ hm
  have k1 := h1
  have lt1 : ∀ x ∈ p1, x.block < W.heap.size := by obtain ⟨m, hm⟩ := k1; exact DataW.trod_lt m _ _ _ hm
  obtain ⟨x0, y0, rx0, ry0, fu0, rfl, rfl, rfl, hx0, hy0⟩ := open_agg2 Tryd.underlying44 (by kernel_rfl) (by kernel_rfl) (hval 0 44 v0 rfl rfl) h0
  obtain ⟨aor, capr, r, rfl, cr, nr, fr⟩ := rd_ints Tryd.underlying23 Tryd.underlying3 (by kernel_rfl) hx0
  obtain ⟨wr, he0, _, gr⟩ := DataW.trod_int Tryd.underlying24 hy0
  simp only [List.cons.injEq, and_true] at he0
  subst he0
  have br := wf_u64 gr
  obtain ⟨s, rfl, rfl, rfl, y1⟩ := open_string Tryd.underlying9 (hval 1 9 v1 rfl rfl) h1
  have zs : s.size ≤ 140737488351232 := by have := sized_string hsz (j := 1) (t := 9) rfl rfl; simp [reachBytes] at this; omega
  clear hA0 hval0
  refine (ReplyRoutes_any ⟨r, wr⟩ s aor capr W ⟨br.1, by show wr < 18446744073709551616; omega⟩ (fun e he => wf_i64 (fr e he)) nr (by omega) cr ht).mono fun e W' ⟨he, bel⟩ => ?_
  subst he
  exact ⟨_, rfl, _, _, _, [], _, [], hW', trodAll_mk1 (shut_bool Tryd.underlying4 _), (trodAll_cons_mk (Below.trod laidOut (by kernel_rfl) (of_decide_eq_true (by kernel_rfl)) k0 bel lt0) (trodAll_cons_mk (Below.trod laidOut (by kernel_rfl) (of_decide_eq_true (by kernel_rfl)) k1 bel lt1) trodAll_mk0)), rfl, bel.frame _, fun h => by cases h⟩

theorem over : Rows.replyRoutesRow.holds Tryd.pinned (OpenSpec.ofChange Rows.replyRoutesSpec) :=
  OpenClaim.holds_of_wide 4 Tryd.f4 rfl rfl rfl rfl rfl rfl rfl ⟨rfl, rfl, rfl, rfl, rfl⟩ rfl rfl rfl rfl rfl (by kernel_rfl) Tryd.func4 (by kernel_rfl)
    (of_decide_eq_true (by kernel_rfl)) (by unfold Func.isWrapper; first | (rw [if_pos (by decide +kernel)]; kernel_rfl) | (rw [if_neg (by decide +kernel)]; exact ⟨rfl, rfl⟩))
    (fun os started H enc _ => lifted os started H enc)

end Go.Proofs.YtelcmkccfjdmjaaDoor.replyRoutes
namespace Go.Proofs.YtelcmkccfjdmjaaDoor
/-- The statement: the tied card. -/
theorem replyRoutes_card : Rows.ReplyRoutesCardSaid :=
  Claim7.holds_tied_plain_at .later [] [.data, .data, .data, .data, .pinned] true (true, "b488f5f054dc65496cecba2dabbfaf046d53f2b9645a57a85431bed954c088f8") false
    replyRoutes.over (fun _ h => by cases h) (by kernel_rfl) (fun _ h => by cases h) replyRoutes_row_tie rfl ⟨rfl, rfl⟩ (by kernel_rfl) rfl
    (fun f fn hf hfn => by
      obtain rfl : f = 4 := Option.some.inj ((show Tryd.prog.funcNamed Rows.replyRoutesRow.func = some 4 by kernel_rfl).symm.trans hf) |>.symm
      obtain rfl : fn = Tryd.f4 := (Option.some.inj (Tryd.func4.symm.trans hfn)).symm
      exact ⟨by kernel_rfl, fun j t ht => by
        rw [Tryd.params4] at ht
        have hm : t ∈ [44, 9] := by simpa using Array.mem_of_getElem? ht
        have hall : ([44, 9].all fun u => !Tryd.prog.wantsStandIn u) = true := by kernel_rfl
        exact (show Tryd.prog.wantsStandIn t = false by simpa using List.all_eq_true.1 hall t hm)⟩)
    (by kernel_rfl)
#print axioms replyRoutes_card
end Go.Proofs.YtelcmkccfjdmjaaDoor
