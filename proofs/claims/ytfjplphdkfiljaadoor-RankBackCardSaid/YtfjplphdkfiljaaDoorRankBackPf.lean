/-
  Proved here: for every input, the law RankBack answers true, and the arguments read afterwards as they read before (no condition).
-/
import Derived.Test.YtfjplphdkfiljaaDoorRows
import Derived.Test.YtfjplphdkfiljaaDoorRkN
import Derived.Test.YtfjplphdkfiljaaDoorOpen
import Derived.Test.YtfjplphdkfiljaaDoorDoor5
import Derived.Test.YtfjplphdkfiljaaDoorTie
import Derived.Test.YtfjplphdkfiljaaDoorCards
import Derived.SevenTiedAt
namespace Go.Proofs.YtfjplphdkfiljaaDoor.rankBack
open Go.ChangeShapes Go.WideShapes Go.ChangeAt Go.RowKit Go.Joins
open Go.ChangeMaps (open_string shut_string)
set_option linter.unusedVariables false

theorem own : ownKnob Tryd.prog.godebug = none := by kernel_rfl
theorem laidOut : laidOutB Tryd.prog = true := by kernel_rfl

set_option maxRecDepth 100000 in
theorem lifted (os : Os) (started : os.Started) (H : Type) (enc : TypeId × Value → H) :
    ReturnsInHanded {} Tryd.checked os 16 .any (fun w args => (Rows.rankBackSpec.pre enc Tryd.prog Tryd.f16 [] false w args ∧ laidMetH Tryd.prog Rows.rankLooksRow.laid w) ∧ sizedMet enc Tryd.prog Tryd.f16 (OpenSpec.ofChange Rows.rankBackSpec) false w args) (Rows.rankBackSpec.post enc Tryd.prog Tryd.f16 false true false false) := by
  refine returnsInHanded_of_change_and (C := Tryd.checked) (X := fun w _ => laidMetH Tryd.prog Rows.rankLooksRow.laid w) (fun _ _ _ hh h => h.of_heap hh) own started (by kernel_rfl) Tryd.func16
    (ChangeSpec.witness_shaped (enc := enc) (C := Tryd.checked) (os := os) (X := fun w _ => laidMetH Tryd.prog Rows.rankLooksRow.laid w) false (World.laidAll Tryd.prog os Rows.rankLooksRow.laid) #[.slice none 0 0, .slice none 0 0, .int .i64 0, .int .u64 0] 8 (World.laidAll_os _ _ _) (World.shaped_of_ZipB (by kernel_rfl) (by kernel_rfl)) (by kernel_rfl) (by kernel_rfl) (by kernel_rfl) (door_met5 os _)) ?_
  intro W base args ds gs before hval0 hW _ hsz0 hL _
  have ht : Pow10 W := pow10_of5 hL
  have hsz : (DataW.weightsEach Tryd.prog (Tryd.f16.params.toList ++ Rows.rankBackSpec.plain.varTypes Tryd.prog) (ds ++ gs)).all (· ≤ reachBytes) = true := hsz0
  clear hsz0
  have hval : ∀ (j : Nat) t v, Tryd.f16.params[j]? = some t → args[j]? = some v → Value.okWide Tryd.prog W .any base t v := hval0
  have hW' := hW
  obtain ⟨p, q, hA0, hV, rfl, hfz, hnd⟩ := hW
  have hA : DataW.TrodAll enc Tryd.prog W 0 (fun _ => true) true Tryd.f16.params.toList args.toList ds p := hA0
  rw [Tryd.params16] at hA hval hsz
  obtain ⟨v0, vs0, d0, ds0, p0, q0, hargs, rfl, rfl, h0, r0⟩ := trodAll_cons hA
  obtain ⟨v1, vs1, d1, ds1, p1, q1, rfl, rfl, rfl, h1, r1⟩ := trodAll_cons r0
  obtain ⟨v2, vs2, d2, ds2, p2, q2, rfl, rfl, rfl, h2, r2⟩ := trodAll_cons r1
  obtain ⟨v3, vs3, d3, ds3, p3, q3, rfl, rfl, rfl, h3, r3⟩ := trodAll_cons r2
  obtain ⟨rfl, rfl, rfl⟩ := trodAll_nil r3
  obtain rfl : args = #[v0, v1, v2, v3] := by cases args; simp_all
  obtain ⟨rfl, rfl⟩ := trodVars_none hV
  have k0 := h0
  have lt0 : ∀ x ∈ p0, x.block < W.heap.size := by obtain ⟨m, hm⟩ := k0; exact DataW.trod_lt m _ _ _ hm
  have k1 := h1
  have lt1 : ∀ x ∈ p1, x.block < W.heap.size := by obtain ⟨m, hm⟩ := k1; exact DataW.trod_lt m _ _ _ hm
  have k2 := h2
  have lt2 : ∀ x ∈ p2, x.block < W.heap.size := by obtain ⟨m, hm⟩ := k2; exact DataW.trod_lt m _ _ _ hm
  have k3 := h3
  have lt3 : ∀ x ∈ p3, x.block < W.heap.size := by obtain ⟨m, hm⟩ := k3; exact DataW.trod_lt m _ _ _ hm
  obtain ⟨al, ll, ml, hv0⟩ := okWide_slice Tryd.underlying69 (hval 0 69 v0 rfl rfl)
  subst hv0
  obtain ⟨fu0, hf0⟩ := h0
  obtain ⟨aol, capl, l, hv0, cl, nl, fl⟩ := rd_ints Tryd.underlying69 Tryd.underlying3 (by kernel_rfl) (show DataW.trod enc Tryd.prog W 0 (fun _ => true) true fu0 69 [_] = _ from hf0)
  cases hv0
  obtain ⟨ak, lk, mk, hv1⟩ := okWide_slice Tryd.underlying30 (hval 1 30 v1 rfl rfl)
  subst hv1
  obtain ⟨fu1, hf1⟩ := h1
  obtain ⟨aok, capk, k, hv1, ck, nk, fk⟩ := rd_ints Tryd.underlying30 Tryd.underlying22 (by kernel_rfl) (show DataW.trod enc Tryd.prog W 0 (fun _ => true) true fu1 30 [_] = _ from hf1)
  cases hv1
  obtain ⟨n, rfl, rfl, rfl, y2⟩ := open_int Tryd.underlying3 (hval 2 3 v2 rfl rfl) h2
  have bn := wf_i64 y2
  obtain ⟨s, rfl, rfl, rfl, y3⟩ := open_int Tryd.underlying22 (hval 3 22 v3 rfl rfl) h3
  have bs := wf_u64 y3
  clear hA0 hval0
  refine (RankBack_any l k al ak ml mk n s W nl nk (by omega) cl ck ht).mono fun e W' ⟨he, bel⟩ => ?_
  subst he
  exact ⟨_, rfl, _, _, _, [], _, [], hW', trodAll_mk1 (shut_bool Tryd.underlying4 _), (trodAll_cons_mk (Below.trod laidOut (by kernel_rfl) (of_decide_eq_true (by kernel_rfl)) k0 bel lt0) (trodAll_cons_mk (Below.trod laidOut (by kernel_rfl) (of_decide_eq_true (by kernel_rfl)) k1 bel lt1) (trodAll_cons_mk (Below.trod laidOut (by kernel_rfl) (of_decide_eq_true (by kernel_rfl)) k2 bel lt2) (trodAll_cons_mk (Below.trod laidOut (by kernel_rfl) (of_decide_eq_true (by kernel_rfl)) k3 bel lt3) trodAll_mk0)))), rfl, bel.frame _, fun h => by cases h⟩

theorem over : Rows.rankBackRow.holds Tryd.pinned (OpenSpec.ofChange Rows.rankBackSpec) :=
  OpenClaim.holds_of_wide 16 Tryd.f16 rfl rfl rfl rfl rfl rfl rfl ⟨rfl, rfl, rfl, rfl, rfl⟩ rfl rfl rfl rfl rfl (by kernel_rfl) Tryd.func16 (by kernel_rfl)
    (of_decide_eq_true (by kernel_rfl)) (by unfold Func.isWrapper; first | (rw [if_pos (by decide +kernel)]; kernel_rfl) | (rw [if_neg (by decide +kernel)]; exact ⟨rfl, rfl⟩))
    (fun os started H enc _ => lifted os started H enc)

end Go.Proofs.YtfjplphdkfiljaaDoor.rankBack
namespace Go.Proofs.YtfjplphdkfiljaaDoor
/-- The statement: the tied card. -/
theorem rankBack_card : Rows.RankBackCardSaid :=
  Claim7.holds_tied_plain_at .later [] [.data, .data, .data, .data, .pinned] true (true, "a457892684f76a80842d5935ad8dc772a71379e12575cbf058b4ade8d5e0979a") false
    rankBack.over (fun _ h => by cases h) (by kernel_rfl) (fun _ h => by cases h) rankBack_row_tie rfl ⟨rfl, rfl⟩ (by kernel_rfl) rfl
    (fun f fn hf hfn => by
      obtain rfl : f = 16 := Option.some.inj ((show Tryd.prog.funcNamed Rows.rankBackRow.func = some 16 by kernel_rfl).symm.trans hf) |>.symm
      obtain rfl : fn = Tryd.f16 := (Option.some.inj (Tryd.func16.symm.trans hfn)).symm
      exact ⟨by kernel_rfl, fun j t ht => by
        rw [Tryd.params16] at ht
        have hm : t ∈ [69, 30, 3, 22] := by simpa using Array.mem_of_getElem? ht
        have hall : ([69, 30, 3, 22].all fun u => !Tryd.prog.wantsStandIn u) = true := by kernel_rfl
        exact (show Tryd.prog.wantsStandIn t = false by simpa using List.all_eq_true.1 hall t hm)⟩)
    (by kernel_rfl)
#print axioms rankBack_card
end Go.Proofs.YtfjplphdkfiljaaDoor
