/-
  Proved here: for every input, the law CmdBack answers true, and the arguments read afterwards as they read before (no condition).
-/
import Derived.Test.YtelcmkccfjdmjaaGreatDoorRows
import Derived.Test.YtelcmkccfjdmjaaGreatDoorCbW
import Derived.Test.YtelcmkccfjdmjaaGreatDoorOpen
import Derived.Test.YtelcmkccfjdmjaaGreatDoorDoorZ
import Derived.Test.YtelcmkccfjdmjaaGreatDoorTie
import Derived.Test.YtelcmkccfjdmjaaGreatDoorCards
import Derived.Test.YtelcmkccfjdmjaaGreatDoorOpenC
import Derived.SevenTiedAt
namespace Go.Proofs.YtelcmkccfjdmjaaGreatDoor.cmdBack
open Go.ChangeShapes Go.WideShapes Go.ChangeAt Go.RowKit Go.Joins
open Go.ChangeMaps (open_string shut_string)
set_option linter.unusedVariables false

theorem own : ownKnob Tryz.prog.godebug = none := by kernel_rfl
theorem laidOut : laidOutB Tryz.prog = true := by kernel_rfl

set_option maxRecDepth 100000 in
theorem lifted (os : Os) (started : os.Started) (H : Type) (enc : TypeId × Value → H) :
    ReturnsInHanded {} Tryz.checked os 7 .any (fun w args => (Rows.cmdBackSpec.pre enc Tryz.prog Tryz.f7 [] false w args ∧ laidMetH Tryz.prog Rows.replyParsesRow.laid w) ∧ sizedMet enc Tryz.prog Tryz.f7 (OpenSpec.ofChange Rows.cmdBackSpec) false w args) (Rows.cmdBackSpec.post enc Tryz.prog Tryz.f7 false true false false) := by
  refine returnsInHanded_of_change_and (C := Tryz.checked) (X := fun w _ => laidMetH Tryz.prog Rows.replyParsesRow.laid w) (fun _ _ _ hh h => h.of_heap hh) own started (by kernel_rfl) Tryz.func7
    (ChangeSpec.witness_shaped (enc := enc) (C := Tryz.checked) (os := os) (X := fun w _ => laidMetH Tryz.prog Rows.replyParsesRow.laid w) false (World.laidAll Tryz.prog os Rows.replyParsesRow.laid) #[.string ByteArray.empty, .agg #[.string ByteArray.empty, .slice none 0 0, .int .u64 0, .slice none 0 0, .int .i64 0, .slice none 0 0, .slice none 0 0]] 8 (World.laidAll_os _ _ _) (World.shaped_of_ZipB (by kernel_rfl) (by kernel_rfl)) (by kernel_rfl) (by kernel_rfl) (by kernel_rfl) (door_met5 os _)) ?_
  intro W base args ds gs before hval0 hW _ hsz0 hL _
  have ht : Pow10 W := pow10_of5 hL
  have hsz : (DataW.weightsEach Tryz.prog (Tryz.f7.params.toList ++ Rows.cmdBackSpec.plain.varTypes Tryz.prog) (ds ++ gs)).all (· ≤ reachBytes) = true := hsz0
  clear hsz0
  have hval : ∀ (j : Nat) t v, Tryz.f7.params[j]? = some t → args[j]? = some v → Value.okWide Tryz.prog W .any base t v := hval0
  have hW' := hW
  obtain ⟨p, q, hA0, hV, rfl, hfz, hnd⟩ := hW
  have hA : DataW.TrodAll enc Tryz.prog W 0 (fun _ => true) true Tryz.f7.params.toList args.toList ds p := hA0
  rw [Tryz.params7] at hA hval hsz
  obtain ⟨v0, vs0, d0, ds0, p0, q0, hargs, rfl, rfl, h0, r0⟩ := trodAll_cons hA
  obtain ⟨v1, vs1, d1, ds1, p1, q1, rfl, rfl, rfl, h1, r1⟩ := trodAll_cons r0
  obtain ⟨rfl, rfl, rfl⟩ := trodAll_nil r1
  obtain rfl : args = #[v0, v1] := by cases args; simp_all
  obtain ⟨rfl, rfl⟩ := trodVars_none hV
  have k0 := h0
  have lt0 : ∀ x ∈ p0, x.block < W.heap.size := by obtain ⟨m, hm⟩ := k0; exact DataW.trod_lt m _ _ _ hm
  have k1 := h1
  have lt1 : ∀ x ∈ p1, x.block < W.heap.size := by obtain ⟨m, hm⟩ := k1; exact DataW.trod_lt m _ _ _ hm
  obtain ⟨line, rfl, rfl, rfl, y0⟩ := open_string Tryz.underlying9 (hval 0 9 v0 rfl rfl) h0
  have zline : line.size ≤ 140737488351232 := by have := sized_string hsz (j := 0) (t := 9) rfl rfl; simp [reachBytes] at this; omega
  obtain ⟨c, csc, rfl, qc, tc⟩ := rd_cmd Tryz.underlying55 (by kernel_rfl) (by kernel_rfl) (by kernel_rfl) Tryz.underlying9 Tryz.underlying45 Tryz.underlying46 Tryz.underlying50 Tryz.underlying53 Tryz.underlying45 Tryz.underlying3 (by kernel_rfl) Tryz.underlying98 Tryz.underlying46 (by kernel_rfl) (by kernel_rfl) (by kernel_rfl) Tryz.underlying3 Tryz.underlying51 (by kernel_rfl) Tryz.underlying149 Tryz.underlying3 Tryz.underlying46 (by kernel_rfl) (by kernel_rfl) (by kernel_rfl) (hval 1 55 v1 rfl rfl) h1
  clear hA0 hval0
  refine (CmdBack_any line c csc W qc tc ht).mono fun e W' ⟨he, bel⟩ => ?_
  subst he
  exact ⟨_, rfl, _, _, _, [], _, [], hW', trodAll_mk1 (shut_bool Tryz.underlying4 _), (trodAll_cons_mk (Below.trod laidOut (by kernel_rfl) (of_decide_eq_true (by kernel_rfl)) k0 bel lt0) (trodAll_cons_mk (Below.trod laidOut (by kernel_rfl) (of_decide_eq_true (by kernel_rfl)) k1 bel lt1) trodAll_mk0)), rfl, bel.frame _, fun h => by cases h⟩

theorem over : Rows.cmdBackRow.holds Tryz.pinned (OpenSpec.ofChange Rows.cmdBackSpec) :=
  OpenClaim.holds_of_wide 7 Tryz.f7 rfl rfl rfl rfl rfl rfl rfl ⟨rfl, rfl, rfl, rfl, rfl⟩ rfl rfl rfl rfl rfl (by kernel_rfl) Tryz.func7 (by kernel_rfl)
    (of_decide_eq_true (by kernel_rfl)) (by unfold Func.isWrapper; first | (rw [if_pos (by decide +kernel)]; kernel_rfl) | (rw [if_neg (by decide +kernel)]; exact ⟨rfl, rfl⟩))
    (fun os started H enc _ => lifted os started H enc)

end Go.Proofs.YtelcmkccfjdmjaaGreatDoor.cmdBack
namespace Go.Proofs.YtelcmkccfjdmjaaGreatDoor
/-- The statement: the tied card. -/
theorem cmdBack_card : Rows.CmdBackCardSaid :=
  Claim7.holds_tied_plain_at .later [] [.data, .data, .data, .data, .pinned] true (true, "8b034d39450ecb7cf048d31eacf0e81133598fbb8543e0f9cfdc0ceca6fc5816") false
    cmdBack.over (fun _ h => by cases h) (by kernel_rfl) (fun _ h => by cases h) cmdBack_row_tie rfl ⟨rfl, rfl⟩ (by kernel_rfl) rfl
    (fun f fn hf hfn => by
      obtain rfl : f = 7 := Option.some.inj ((show Tryz.prog.funcNamed Rows.cmdBackRow.func = some 7 by kernel_rfl).symm.trans hf) |>.symm
      obtain rfl : fn = Tryz.f7 := (Option.some.inj (Tryz.func7.symm.trans hfn)).symm
      exact ⟨by kernel_rfl, fun j t ht => by
        rw [Tryz.params7] at ht
        have hm : t ∈ [9, 55] := by simpa using Array.mem_of_getElem? ht
        have hall : ([9, 55].all fun u => !Tryz.prog.wantsStandIn u) = true := by kernel_rfl
        exact (show Tryz.prog.wantsStandIn t = false by simpa using List.all_eq_true.1 hall t hm)⟩)
    (by kernel_rfl)
#print axioms cmdBack_card
end Go.Proofs.YtelcmkccfjdmjaaGreatDoor
