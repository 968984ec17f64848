/-
  The walks of the statements NumReckons, NumSums, NumTexts, NumBack: whatever the numbers, the laws answer true.
-/
import Derived.Test.YtelcmkccfjdmjaaGreatDoorProg
import Derived.Test.YtelcmkccfjdmjaaGreatDoorNumPrint
namespace Go.Proofs.YtelcmkccfjdmjaaGreatDoor
open Go.Proofs Go.RowKit Go.Shelf

abbrev pairI (p : Int × Int) : Value := .tuple #[.int .i64 p.1, .int .i64 p.2]

theorem intI_bad {s : ByteArray} {f most : Int} (h : parseI s = (0, f)) (hf : f ≠ 0) : intI s most = (0, f) := by unfold intI; rw [h]; simp [hf]
theorem intI_neg {s : ByteArray} {v most : Int} (h : parseI s = (v, 0)) (hm : most < 0 ∨ most < v) : intI s most = (0, 2) := by unfold intI; rw [h]; simp [hm]
theorem intI_ok {s : ByteArray} {v most : Int} (h : parseI s = (v, 0)) (hm : ¬ (most < 0 ∨ most < v)) : intI s most = (v, 0) := by
  unfold intI
  rw [h]
  simp only [ne_eq, not_true, if_false]
  rw [if_neg hm]

set_option maxHeartbeats 400000 in
theorem Int_any (s : ByteArray) (most : Int) (w : World) (hs : s.size ≤ 140737488355328) (h0 : -9223372036854775808 ≤ most ∧ most ≤ 9223372036854775807) :
    Calls Tryz.prog 126 #[.string s, .int .i64 most] w fun e w' => e = .returned (pairI (intI s most)) ∧ Below w.heap.size w w' := by
  have HP := Lib.hid (Parse_any s w hs)
  rcases parseI_cases s with h | h | ⟨v, h, v0, v1⟩
  · have HR := Lib.hid (intI_bad (most := most) h (by decide))
    rw [h] at HP
    clear h
    generalize intI s most = r at *
    go_enter Tryz.func126, Tryz.ntmps126
    go_wp2_with (go_at_call 80; refine HP.out.mono ?_; rintro e w1 ⟨rfl, hb1⟩)
    go_ret2
    exact ⟨by rw [HR.out]; rfl, hb1⟩
  · have HR := Lib.hid (intI_bad (most := most) h (by decide))
    rw [h] at HP
    clear h
    generalize intI s most = r at *
    go_enter Tryz.func126, Tryz.ntmps126
    go_wp2_with (go_at_call 80; refine HP.out.mono ?_; rintro e w1 ⟨rfl, hb1⟩)
    go_ret2
    exact ⟨by rw [HR.out]; rfl, hb1⟩
  · rw [h] at HP
    by_cases hm : most < 0
    · have HR := Lib.hid (intI_neg (most := most) h (.inl hm))
      clear h
      generalize intI s most = r at *
      go_enter Tryz.func126, Tryz.ntmps126
      go_wp2_with (go_at_call 80; refine HP.out.mono ?_; rintro e w1 ⟨rfl, hb1⟩)
      go_ret2
      exact ⟨by rw [HR.out]; rfl, hb1⟩
    · have hw : IntKind.u64.wrap most = most := IntWalk.u64_in _ (by omega)
      by_cases hv : most < v
      · have HR := Lib.hid (intI_neg (most := most) h (.inr hv))
        clear h
        generalize intI s most = r at *
        go_enter Tryz.func126, Tryz.ntmps126
        go_wp2_with (go_at_call 80; refine HP.out.mono ?_; rintro e w1 ⟨rfl, hb1⟩)
        go_ret2
        exact ⟨by rw [HR.out]; rfl, hb1⟩
      · have HR := Lib.hid (intI_ok (most := most) h (by omega))
        clear h
        generalize intI s most = r at *
        go_enter Tryz.func126, Tryz.ntmps126
        go_wp2_with (go_at_call 80; refine HP.out.mono ?_; rintro e w1 ⟨rfl, hb1⟩)
        go_ret2
        exact ⟨by rw [HR.out]; first | done | rfl, hb1⟩

set_option maxHeartbeats 400000 in
theorem refInt_any (s : ByteArray) (most : Int) (w : World) (hs : s.size ≤ 140737488355328) (h0 : -9223372036854775808 ≤ most ∧ most ≤ 9223372036854775807) :
    Calls Tryz.prog 130 #[.string s, .int .i64 most] w fun e w' => e = .returned (pairI (intI s most)) ∧ Below w.heap.size w w' := by
  have HP := Lib.hid ((refParse_any s w hs).mono fun e w' ⟨h1, h2⟩ => (⟨h1, h2 ▸ Below.refl _ _⟩ : e = Ending.returned (pairV (parseI s)) ∧ Below w.heap.size w w'))
  rcases parseI_cases s with h | h | ⟨v, h, v0, v1⟩
  · have HR := Lib.hid (intI_bad (most := most) h (by decide))
    rw [h] at HP
    clear h
    generalize intI s most = r at *
    go_enter Tryz.func130, Tryz.ntmps130
    go_wp2_with (go_at_call 84; refine HP.out.mono ?_; rintro e w1 ⟨rfl, hb1⟩)
    go_ret2
    exact ⟨by rw [HR.out]; rfl, hb1⟩
  · have HR := Lib.hid (intI_bad (most := most) h (by decide))
    rw [h] at HP
    clear h
    generalize intI s most = r at *
    go_enter Tryz.func130, Tryz.ntmps130
    go_wp2_with (go_at_call 84; refine HP.out.mono ?_; rintro e w1 ⟨rfl, hb1⟩)
    go_ret2
    exact ⟨by rw [HR.out]; rfl, hb1⟩
  · rw [h] at HP
    by_cases hm : most < 0
    · have HR := Lib.hid (intI_neg (most := most) h (.inl hm))
      clear h
      generalize intI s most = r at *
      go_enter Tryz.func130, Tryz.ntmps130
      go_wp2_with (go_at_call 84; refine HP.out.mono ?_; rintro e w1 ⟨rfl, hb1⟩)
      go_ret2
      exact ⟨by rw [HR.out]; rfl, hb1⟩
    · have hw : IntKind.u64.wrap most = most := IntWalk.u64_in _ (by omega)
      by_cases hv : most < v
      · have HR := Lib.hid (intI_neg (most := most) h (.inr hv))
        clear h
        generalize intI s most = r at *
        go_enter Tryz.func130, Tryz.ntmps130
        go_wp2_with (go_at_call 84; refine HP.out.mono ?_; rintro e w1 ⟨rfl, hb1⟩)
        go_ret2
        exact ⟨by rw [HR.out]; rfl, hb1⟩
      · have HR := Lib.hid (intI_ok (most := most) h (by omega))
        clear h
        generalize intI s most = r at *
        go_enter Tryz.func130, Tryz.ntmps130
        go_wp2_with (go_at_call 84; refine HP.out.mono ?_; rintro e w1 ⟨rfl, hb1⟩)
        go_ret2
        exact ⟨by rw [HR.out]; first | done | rfl, hb1⟩

theorem const_p1 : parseI ⟨#[48, 48, 55]⟩ = (0, 3) := by decide +kernel
theorem const_p2 : parseI ⟨#[55, 48]⟩ = (70, 0) := by decide +kernel
theorem const_p3 : printI 70 = ⟨#[55, 48]⟩ := by
  unfold printI
  rw [show (70 : Int).toNat = 70 from rfl, Lib.decDigits_two (by decide) (by decide)]
  rfl

end Go.Proofs.YtelcmkccfjdmjaaGreatDoor
