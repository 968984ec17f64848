/-
  Walks of package codes: faults as words.
-/
import Derived.Test.YtelcmkccfjdmjaaGreatDoorProg
import Derived.Test.YtelcmkccfjdmjaaGreatDoorRpLaw
import Derived.Test.YtelcmkccfjdmjaaGreatDoorTokJoin
namespace Go.Proofs.YtelcmkccfjdmjaaGreatDoor
open Go.Proofs Go.RowKit Go.Shelf Go.Sort

def faultA : Array Value := #[.string (bs [111, 107]), .string (bs [98, 97, 100, 97, 114, 103]), .string (bs [114, 97, 110, 103, 101]), .string (bs [115, 121, 110, 116, 97, 120]), .string (bs [102, 111, 114, 109]), .string (bs [116, 111, 111, 98, 105, 103]), .string (bs [111, 118, 101, 114, 102, 108, 111, 119]), .string (bs [110, 111, 110, 111, 100, 101]),
  .string (bs [110, 111, 101, 100, 103, 101]), .string (bs [110, 111, 112, 97, 116, 104]), .string (bs [117, 110, 107, 110, 111, 119, 110]), .string (bs [110, 111, 103, 114, 97, 112, 104]), .string (bs [110, 111, 98, 117, 105, 108, 100]), .string (bs [115, 116, 97, 108, 101]), .string (bs [99, 108, 111, 115, 101, 100])]
theorem faultA_list : faultA.toList = faultL.map encS := rfl

set_option maxHeartbeats 1000000 in
theorem codesWords_any (w : World) : Calls Tryz.prog 75 #[] w fun e w' => e = .returned (.agg faultA) ∧ Below w.heap.size w w' := by
  go_enter Tryz.func75, Tryz.ntmps75
  go_wp2
  refine bodyPost_ret (v := .agg faultA) (by simp [results, Tryz.results75, go_sem]; try rfl) rfl ?_
  exact ⟨rfl, Below.of_al _ _⟩

theorem codesIs_any (f : Int) (w : World) : Calls Tryz.prog 48 #[.int .i64 f] w fun e w' => e = .returned (.bool (isF f)) ∧ Below w.heap.size w w' := by
  have HW := Lib.hid (fun W => codesWords_any W)
  unfold isF
  by_cases h0 : 0 ≤ f
  · by_cases h1 : f < 15
    · go_enter Tryz.func48, Tryz.ntmps48
      go_wp2_with (go_at_call 75; refine (HW.out _).mono ?_; rintro e w1 ⟨rfl, hb1⟩)
      go_ret
      exact ⟨by simp [h0, h1], hb1⟩
    · go_enter Tryz.func48, Tryz.ntmps48
      go_wp2_with (go_at_call 75; refine (HW.out _).mono ?_; rintro e w1 ⟨rfl, hb1⟩)
      go_ret
      exact ⟨by simp [h0, h1], hb1⟩
  · go_enter Tryz.func48, Tryz.ntmps48
    go_wp2
    go_ret
    exact ⟨by rw [decide_eq_false (show ¬ 0 ≤ f by omega)]; rfl, Below.refl _ _⟩

end Go.Proofs.YtelcmkccfjdmjaaGreatDoor
