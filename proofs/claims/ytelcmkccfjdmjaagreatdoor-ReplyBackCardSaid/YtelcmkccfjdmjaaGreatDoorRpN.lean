/-
  Walks: the chapter's examples.
-/
import Derived.Test.YtelcmkccfjdmjaaGreatDoorProg
import Derived.Test.YtelcmkccfjdmjaaGreatDoorRpM
import Derived.Test.YtelcmkccfjdmjaaGreatDoorSame
namespace Go.Proofs.YtelcmkccfjdmjaaGreatDoor
open Go Go.Proofs Go.RowKit Go.Shelf Go.Sort

/-- ok ROUTE 5:0.3 -/
def exT : ByteArray := ⟨#[111, 107, 32, 82, 79, 85, 84, 69, 32, 53, 58, 48, 46, 51]⟩
def exN : ByteArray := ⟨#[82, 79, 85, 84, 69]⟩
theorem parse_ex : parseR exT = ({ rep0 with name := exN, rts := [⟨[0, 3], 5⟩] }, 0) := by decide +kernel
theorem print_ex : printR { rep0 with f := 9 } = ⟨#[101, 114, 114, 111, 114, 32, 110, 111, 112, 97, 116, 104]⟩ := by decide +kernel
theorem parseEx_any (w : World) : Calls Tryz.prog 9 #[.string exT] w fun e w' => ∃ an cn b o cr aw cw ao co, e = .returned (.tuple #[.agg #[.int .i64 0, .string exN, .slice an 0 cn, .slice (some ⟨b, o, none⟩) 1 cr, .slice aw 0 cw], .int .i64 0]) ∧ w'.cell? ⟨b, o, none⟩ = some (.slice ao 2 co) ∧ w'.cell? ⟨b, o + 1, none⟩ = some (.int .u64 5) ∧ Cel w' ao ([0, 3].map encI) ∧ Below w.heap.size w w' := by
  refine (ReplyParse_any exT w (by decide)).mono ?_
  rintro e w' ⟨v, rfl, hv, hb⟩
  rw [parse_ex] at hv
  obtain ⟨an, cn, ar, cr, aw, cw, ts, rfl, -, hr, -, ht, hc⟩ := hv
  obtain ⟨t, rfl⟩ : ∃ t, ts = [t] := List.length_eq_one_iff.1 (by simpa using congrArg List.length ht)
  have e : t.r = ⟨[0, 3], 5⟩ := by simpa using ht
  obtain ⟨b, o, ha, h0⟩ := hr 0 (.slice t.ao 2 t.cap) (by simp [flatR, encC, e])
  obtain ⟨b', o', ha', h1⟩ := hr 1 (.int .u64 5) (by simp [flatR, encC, e])
  subst ha
  cases ha'
  have h2 := hc t (by simp)
  rw [e] at h2
  rw [parse_ex]
  exact ⟨an, cn, b, o, cr, aw, cw, t.ao, t.cap, rfl, h0, h1, h2, hb⟩

set_option maxRecDepth 100000 in
set_option maxHeartbeats 2000000 in
theorem alive41_any (w : World) : Calls Tryz.prog 8 #[] w fun e w' => e = .returned (.bool true) ∧ Below w.heap.size w w' := by
  have HPS := Lib.hid (fun W => parseEx_any W)
  have HER := Lib.hid (fun W => ReplyError_any 9 W)
  have HPR := Lib.hid (fun v W h => PrintF_any { rep0 with f := 9 } v W h (by decide) ⟨by decide, by decide, by decide⟩)
  rw [print_ex] at HPR
  rw [show (if (9 : Int) ≠ 0 ∧ isF 9 = true then (9 : Int) else 1) = 9 from by decide] at HER
  unfold exT at HPS
  generalize exN = nm at *
  go_enter Tryz.func8, Tryz.ntmps8
  go_wp2_with (first
    | (go_at_call 9; refine (HPS.out _).mono ?_; rintro e w1 ⟨an, cn, b, o, cr, aw, cw, ao, co, rfl, h0, h1, hc1, hb1⟩; (have HB1 := Lib.hid hb1; have HC1 := Lib.hid hc1; have k0 := fun O => cell_later (Below.of_al w1 O) h0; have k1 := fun O => cell_later (Below.of_al w1 O) h1; clear hb1 hc1))
    | (go_at_call 29; refine (sameInts_any ao (some ⟨w1.heap.size + 1, 0, none⟩) co 2 [0, 3] [0, 3] _ (by decide) (by decide) (HC1.out.go ((Below.of_al _ _).al _)) (cel_at (by simp) rfl)).mono ?_; rintro e w2 ⟨rfl, n2, rfl⟩; rw [decide_eq_true (rfl : ([0, 3] : List Int) = [0, 3])])
    | (go_at_call 20; refine (HER.out _).mono ?_; rintro e w3 ⟨⟨v3, rfl, hv3⟩, hb3⟩)
    | (go_at_call 15; refine (HPR.out v3 _ hv3).mono ?_; rintro e w4 ⟨rfl, hb4⟩))
  go_ret
  exact ⟨rfl, ((((HB1.out.al _).al _).dr n2).st hb3).st hb4⟩

end Go.Proofs.YtelcmkccfjdmjaaGreatDoor
