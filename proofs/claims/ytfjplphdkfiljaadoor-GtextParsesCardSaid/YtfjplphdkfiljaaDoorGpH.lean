/-
  The walk of the statement GtextParses: whatever the words, the law answers true.
-/
import Derived.Test.YtfjplphdkfiljaaDoorProg
import Derived.Test.YtfjplphdkfiljaaDoorGtG
import Derived.Test.YtfjplphdkfiljaaDoorGpG
import Derived.Test.YtfjplphdkfiljaaDoorGpS
namespace Go.Proofs.YtfjplphdkfiljaaDoor
open Go.Proofs Go.RowKit Go.Shelf Go.Sort

set_option maxHeartbeats 2000000 in
theorem GtextParses_any (l : List ByteArray) (ao : Option Addr) (cap : Nat) (w : World) (hl : l.length ≤ 9223372036854775807) (hc : Cel w ao (l.map encS)) (hp : Pow10 w) :
    Calls Tryd.prog 11 #[.slice ao l.length cap] w fun e w' => e = .returned (.bool true) ∧ Below w.heap.size w w' := by
  have HC := Lib.hid hc
  have HT := Lib.hid hp
  have HL := Lib.hid (fun W h => light06_any l ao cap W hl h)
  have HA := Lib.hid (fun W h => alive06_any W h)
  clear hc hp
  cases h : lightW l with
  | false =>
    rw [h] at HL
    clear h
    go_enter Tryd.func11, Tryd.ntmps11
    go_wp2_with (first
      | (go_at_call 54; refine (HL.out _ HC.out).mono ?_; rintro e w1 ⟨rfl, hb1⟩; (have HB1 := Lib.hid hb1; clear hb1))
      | (go_at_call 48; refine (HA.out _ (tabIs_go HT.out HB1.out)).mono ?_; rintro e w2 ⟨rfl, hb2⟩))
    go_ret
    exact ⟨rfl, HB1.out.st hb2⟩
  | true =>
    obtain ⟨m1, m2⟩ := lightW_mem h
    rw [h] at HL
    have H1 := Lib.hid (fun W h => GParse_any l ao cap W h (fun x hx => by have := m2 x hx; omega) (by omega))
    have H2 := Lib.hid (fun W h => refGParse_any l ao cap W h (fun x hx => by have := m2 x hx; omega) (by omega))
    have hes : (parseG l).1.es.length ≤ 9223372036854775807 := by
      unfold parseG
      split
      · simp
      · split
        · simp
        · rename_i e1 e2
          rw [show ((⟨valK l 0, fullEs l (valK l 1).toNat⟩, 0, 0) : GD × Int × Int).1.es = fullEs l (valK l 1).toNat from rfl, fullEs_length]
          have hu : Upto l (needP l) := fun j hj => by
            unfold firstBad at e1
            rw [List.find?_eq_none] at e1
            have := e1 j (List.mem_range.2 hj)
            simpa using this
          have hm := hu.m (needP_two l)
          omega
    generalize parseG l = r at *
    obtain ⟨⟨gn, es⟩, at', f⟩ := r
    simp only at hes
    clear h m1 m2
    go_enter Tryd.func11, Tryd.ntmps11
    go_wp2_with (first
      | (go_at_call 54; refine (HL.out _ HC.out).mono ?_; rintro e w1 ⟨rfl, hb1⟩; (have HB1 := Lib.hid hb1; clear hb1))
      | (go_at_call 55; refine (H1.out _ (HC.out.go HB1.out)).mono ?_; rintro e w2 ⟨ao2, cap2, rfl, hc2, hb2⟩; (have HB2 := Lib.hid (HB1.out.st hb2); have HC2 := Lib.hid hc2; clear hb2 hc2))
      | (go_at_call 56; refine (H2.out _ (HC.out.go (HB2.out.al _))).mono ?_; rintro e w3 ⟨ao3, cap3, rfl, hc3, hb3⟩; have k2 := cell_later hb3 (a := ⟨w2.heap.size, 0, none⟩) (v := .int .i64 gn) (by go_simp); have k3 := cell_later hb3 (a := ⟨w2.heap.size, 1, none⟩) (v := .slice ao2 es.length cap2) (by go_simp); (have hz3 : w2.heap.size < w3.heap.size := by have := hb3.size; simp at this; omega); (have HB3 := Lib.hid ((HB2.out.al _).st hb3); have HC3 := Lib.hid hc3; have HD3 := Lib.hid ((HC2.out.go (Below.of_al _ _)).go hb3); clear hb3 hc3))
      | (go_at_call 57; refine (refGSame_self gn es ao2 ao3 cap2 cap3 _ hes (HD3.out.go (Below.of_al _ _)) (HC3.out.go (Below.of_al _ _))).mono ?_; rintro e w4 ⟨rfl, hb4⟩; (have HB4 := Lib.hid ((HB3.out.al _).st hb4); clear hb4))
      | (go_at_call 48; refine (HA.out _ (tabIs_go HT.out HB4.out)).mono ?_; rintro e w5 ⟨rfl, hb5⟩))
    go_ret
    exact ⟨by first | rfl | simp, HB4.out.st hb5⟩

end Go.Proofs.YtfjplphdkfiljaaDoor
