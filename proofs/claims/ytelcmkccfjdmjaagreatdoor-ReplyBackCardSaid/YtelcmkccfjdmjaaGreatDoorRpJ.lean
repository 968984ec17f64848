/-
  Walks: strings.CutPrefix at one sign, and one more part of a reply's line.
-/
import Derived.Test.YtelcmkccfjdmjaaGreatDoorProg
import Derived.Test.YtelcmkccfjdmjaaGreatDoorRpI
import Derived.Test.YtelcmkccfjdmjaaGreatDoorTokB
import Derived.Test.YtelcmkccfjdmjaaGreatDoorNumParse
namespace Go.Proofs.YtelcmkccfjdmjaaGreatDoor
open Go Go.Proofs Go.RowKit Go.Shelf Go.Sort

/-- is it the first sign -/
def headIs (c : UInt8) (s : ByteArray) : Bool := decide (s.data.toList.head? = some c)
theorem sliteHasB_any (c : UInt8) (s : ByteArray) (w : World) (hs : s.size ≤ 140737488355328) : Calls Tryz.prog 165 #[.string s, .string ⟨#[c]⟩] w fun e w' => e = .returned (.bool (headIs c s)) ∧ w' = w := by
  by_cases hz : s.size = 0
  · have hh : headIs c s = false := by
      unfold headIs
      have : s.data.toList = [] := List.eq_nil_of_length_eq_zero (by simpa using hz)
      rw [this]
      rfl
    rw [hh]
    have h1 : ¬ (1 : Int) ≤ (s.size : Int) := by omega
    clear hz hh
    go_enter Tryz.func165, Tryz.ntmps165
    go_wp2
    go_ret
    exact ⟨rfl, rfl⟩
  · have h1 : (1 : Int) ≤ (s.size : Int) := by omega
    have hb : ((s.extract 0 1).toList == ([c] : List UInt8)) = headIs c s := by
      unfold headIs
      rw [ByteArray.toList_eq, extract_list]
      cases hh : s.data.toList with
      | nil =>
        have h0 : s.data.toList.length = 0 := by rw [hh]; rfl
        exact absurd (show s.size = 0 by simpa using h0) hz
      | cons a r => by_cases e : a = c <;> simp [e]
    generalize headIs c s = b at *
    cases b with
    | true =>
      clear hz
      go_enter Tryz.func165, Tryz.ntmps165
      go_wp2
      go_ret
      exact ⟨rfl, rfl⟩
    | false =>
      clear hz
      go_enter Tryz.func165, Tryz.ntmps165
      go_wp2
      go_ret
      exact ⟨rfl, rfl⟩
theorem sliteCutP_any (c : UInt8) (s : ByteArray) (w : World) (hs : s.size ≤ 140737488355328) : Calls Tryz.prog 127 #[.string s, .string ⟨#[c]⟩] w fun e w' => e = .returned (.tuple #[.string (if headIs c s then s.extract 1 s.size else s), .bool (headIs c s)]) ∧ w' = w := by
  have HH := Lib.hid (fun W => sliteHasB_any c s W hs)
  cases hb : headIs c s with
  | true =>
    have h1 : (1 : Int) ≤ (s.size : Int) := by
      unfold headIs at hb
      cases hh : s.data.toList with
      | nil => rw [hh] at hb; simp at hb
      | cons a r => have := congrArg List.length hh; simp at this; omega
    rw [hb] at HH
    clear hb
    go_enter Tryz.func127, Tryz.ntmps127
    go_wp2_with (go_at_call 165; refine (HH.out _).mono ?_; rintro e w1 ⟨rfl, rfl⟩)
    refine bodyPost_ret (by simp [results, Tryz.results127, go_sem]; try rfl) rfl ?_
    exact ⟨rfl, rfl⟩
  | false =>
    rw [hb] at HH
    clear hb
    go_enter Tryz.func127, Tryz.ntmps127
    go_wp2_with (go_at_call 165; refine (HH.out _).mono ?_; rintro e w1 ⟨rfl, rfl⟩)
    refine bodyPost_ret (by simp [results, Tryz.results127, go_sem]; try rfl) rfl ?_
    exact ⟨rfl, rfl⟩
theorem cutP_any (c : UInt8) (s : ByteArray) (w : World) (hs : s.size ≤ 140737488355328) : Calls Tryz.prog 82 #[.string s, .string ⟨#[c]⟩] w fun e w' => e = .returned (.tuple #[.string (if headIs c s then s.extract 1 s.size else s), .bool (headIs c s)]) ∧ w' = w := by
  have HH := Lib.hid (fun W => sliteCutP_any c s W hs)
  generalize (if headIs c s then s.extract 1 s.size else s) = x at *
  generalize headIs c s = b at *
  go_enter Tryz.func82, Tryz.ntmps82
  go_wp2_with (go_at_call 127; refine (HH.out _).mono ?_; rintro e w1 ⟨rfl, rfl⟩)
  refine bodyPost_ret (by simp [results, Tryz.results82, go_sem]; try rfl) rfl ?_
  exact ⟨rfl, rfl⟩

end Go.Proofs.YtelcmkccfjdmjaaGreatDoor
