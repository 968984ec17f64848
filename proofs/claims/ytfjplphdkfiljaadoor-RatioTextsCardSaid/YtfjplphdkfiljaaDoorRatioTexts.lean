/-
  The walk of the statement RatioTexts: whatever the ratio and the text, the law answers true.
-/
import Derived.Test.YtfjplphdkfiljaaDoorProg
import Derived.Test.YtfjplphdkfiljaaDoorRatioF
namespace Go.Proofs.YtfjplphdkfiljaaDoor
open Go.Proofs Go.RowKit Go.Shelf

set_option maxHeartbeats 4000000 in
theorem RatioTexts_any (n d : Int) (s : ByteArray) (w : World) (hn : W64 n) (ht : Pow10 w) :
    Calls Tryd.prog 12 #[ratV n d, .string s] w fun e w' => e = .returned (.bool true) ∧ Below w.heap.size w w' := by
  have HA := Lib.hid (fun W h => alive02_any W h)
  have HT := Lib.hid ht
  clear ht
  by_cases h : 100 < s.size
  · go_enter Tryd.func12, Tryd.ntmps12
    go_wp2_with (go_at_call 41; refine (HA.out _ (tabIs_go HT.out (Below.of_al _ _))).mono ?_; rintro e w1 ⟨rfl, hb1⟩)
    go_ret
    exact ⟨rfl, (Below.of_al _ _).st hb1⟩
  · have H1 := Lib.hid (fun W => RParse_any s W (by omega))
    have H2 := Lib.hid (fun W => refRParse_any s W (by omega))
    have H3 := Lib.hid (fun W => Right_any n d W hn.1)
    have H4 := Lib.hid (fun W => refRight_ratio n d W)
    have H5 := Lib.hid (fun W h => RPrint_any n d W hn.1 h)
    have H6 := Lib.hid (fun W => refRPrint_any n d W hn.1)
    generalize parseR s = p at *
    generalize rightR n d = b at *
    generalize ratioT n d = t at *
    obtain ⟨⟨pa, pb⟩, pf⟩ := p
    clear hn
    go_enter Tryd.func12, Tryd.ntmps12
    go_wp2_with fail
    obtain ⟨W, hW, c0, c1, hsW⟩ : ∃ W, W = w.alloc (Obj.cells #[.int .u64 n, .int .u64 d] 41) ∧ W.cell? ⟨w.heap.size, 0, none⟩ = some (.int .u64 n) ∧ W.cell? ⟨w.heap.size, 1, none⟩ = some (.int .u64 d) ∧ w.heap.size < W.heap.size := ⟨_, rfl, by go_simp, by go_simp, by simp⟩
    rw [← hW]
    have HW := Lib.hid (show Below w.heap.size w W by rw [hW]; repeat (first | exact Below.refl _ _ | refine Below.al ?_ _ | refine Below.dr ?_ _ | refine Below.drew ?_ | assumption | (refine Below.st ?_ (by assumption))))
    clear hW
    have e0 := fun p => cell_ext p c0
    have e1 := fun p => cell_ext p c1
    clear e0 e1
    refine (H1.out _).mono ?_
    rintro e w1 ⟨rfl, hb1⟩
    have k0 := fun o => cell_later ((Below.of_al w1 o)) (cell_later hb1 c0)
    have k1 := fun o => cell_later ((Below.of_al w1 o)) (cell_later hb1 c1)
    go_wp2_with fail
    refine (H2.out _).mono ?_
    rintro e w2 ⟨rfl, hb2⟩
    have HW2 := Lib.hid (((HW.out.st hb1).al _).st hb2)
    have q0 := cell_later hb2 (k0 _)
    have q1 := cell_later hb2 (k1 _)
    have q2 := cell_later hb2 (a := ⟨w1.heap.size, 0, none⟩) (v := .int .u64 pa) (by go_simp)
    have q3 := cell_later hb2 (a := ⟨w1.heap.size, 1, none⟩) (v := .int .u64 pb) (by go_simp)
    clear k0 k1 c0 c1 hb1
    obtain ⟨V, hV, c0, c1, c2, c3, c4, c5, hBV⟩ : ∃ V, V = w2.alloc (Obj.cells #[.int .u64 pa, .int .u64 pb] 41) ∧ V.cell? ⟨w.heap.size, 0, none⟩ = some (.int .u64 n) ∧ V.cell? ⟨w.heap.size, 1, none⟩ = some (.int .u64 d) ∧ V.cell? ⟨w1.heap.size, 0, none⟩ = some (.int .u64 pa) ∧ V.cell? ⟨w1.heap.size, 1, none⟩ = some (.int .u64 pb) ∧ V.cell? ⟨w2.heap.size, 0, none⟩ = some (.int .u64 pa) ∧ V.cell? ⟨w2.heap.size, 1, none⟩ = some (.int .u64 pb) ∧ Below w.heap.size w V :=
      ⟨_, rfl, cell_later (Below.of_al _ _) q0, cell_later (Below.of_al _ _) q1, cell_later (Below.of_al _ _) q2, cell_later (Below.of_al _ _) q3, by go_simp, by go_simp, HW2.out.al _⟩
    have HBV := Lib.hid hBV
    clear q0 q1 q2 q3 hb2 hBV
    go_wp2_with fail
    try rw [← hV]
    clear hV
    have e0 := fun p => cell_ext p c0
    have e1 := fun p => cell_ext p c1
    have e2 := fun p => cell_ext p c2
    have e3 := fun p => cell_ext p c3
    have e4 := fun p => cell_ext p c4
    have e5 := fun p => cell_ext p c5
    have XT := Lib.hid (fun p => tabIs_go HT.out (HBV.out.st (below_ext V p)))
    refine wp_region_ext (by kernel_rfl) (by kernel_rfl) ?_
    repeat (go_big_quiet_step ((first
      | (go_at_call 46; exact Calls.ext_of (H3.out _))
      | (go_at_call 60; exact Calls.ext_of (H4.out _))
      | (go_at_call 61; exact Calls.ext_of (H5.out _ (XT.out _)))
      | (go_at_call 62; exact Calls.ext_of (H6.out _))
      | (go_at_call 41; exact Calls.ext_of (HA.out _ (XT.out _))))))
    refine wpQuiet_nil ?_
    rintro _ ⟨p2, rfl⟩
    have HB2 := Lib.hid (below_ext V p2)
    generalize ext V p2 = w2 at HB2 ⊢
    go_wp2
    go_ret
    exact ⟨by first | rfl | simp, HBV.out.st HB2.out⟩

end Go.Proofs.YtfjplphdkfiljaaDoor
