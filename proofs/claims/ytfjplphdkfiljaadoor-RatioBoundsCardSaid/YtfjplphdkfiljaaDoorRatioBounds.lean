/-
  The walk of the statement RatioBounds: whatever the numbers and the ratio, the law answers true.
-/
import Derived.Test.YtfjplphdkfiljaaDoorProg
import Derived.Test.YtfjplphdkfiljaaDoorRatioJ
namespace Go.Proofs.YtfjplphdkfiljaaDoor
open Go.Proofs Go.RowKit Go.Shelf

set_option maxHeartbeats 4000000 in
theorem RatioBounds_any (v n d base most : Int) (w : World) (hv : W64 v) (hn : 0 ≤ n) (hb : W64 base) (ht : Pow10 w) :
    Calls Tryd.prog 7 #[.int .u64 v, ratV n d, .int .u64 base, .int .u64 most] w fun e w' => e = .returned (.bool true) ∧ Below w.heap.size w w' := by
  have HA := Lib.hid (fun W h => alive02_any W h)
  have HT := Lib.hid ht
  have H1 := Lib.hid (fun W => Within_any v n d base W hv hn hb)
  have H2 := Lib.hid (fun W => refWithin_any v n d base W hv hn hb)
  have H3 := Lib.hid (fun W => Stretched_any v n d base W hv hn hb)
  have H4 := Lib.hid (fun W => refStretched_any v n d base W hv hn hb)
  have H5 := Lib.hid (fun W => Up_any v n d most W hv hn)
  have H6 := Lib.hid (fun W => refUp_any v n d most W hv hn)
  generalize withinR v n d base = b1 at *
  generalize stretchedR v n d base = b2 at *
  generalize upR v n d most = u at *
  clear ht hv hn hb
  go_enter Tryd.func7, Tryd.ntmps7
  go_wp2_with fail
  obtain ⟨W, hW, c0, c1, hsW⟩ : ∃ W, W = w.alloc (Obj.cells #[.int .u64 n, .int .u64 d] 41) ∧ W.cell? ⟨w.heap.size, 0, none⟩ = some (.int .u64 n) ∧ W.cell? ⟨w.heap.size, 1, none⟩ = some (.int .u64 d) ∧ w.heap.size < W.heap.size := ⟨_, rfl, by go_simp, by go_simp, by simp⟩
  rw [← hW]
  have HW := Lib.hid (show Below w.heap.size w W by rw [hW]; repeat (first | exact Below.refl _ _ | refine Below.al ?_ _ | refine Below.dr ?_ _ | refine Below.drew ?_ | assumption | (refine Below.st ?_ (by assumption))))
  clear hW
  have e0 := fun p => cell_ext p c0
  have e1 := fun p => cell_ext p c1
  have XT := Lib.hid (fun p => tabIs_go HT.out (HW.out.st (below_ext W p)))
  refine wp_region_ext (by kernel_rfl) (by kernel_rfl) ?_
  repeat (go_big_quiet_step ((first
    | (go_at_call 35; exact Calls.ext_of (H1.out _))
    | (go_at_call 36; exact Calls.ext_of (H2.out _))
    | (go_at_call 37; exact Calls.ext_of (H3.out _))
    | (go_at_call 38; exact Calls.ext_of (H4.out _))
    | (go_at_call 39; exact Calls.ext_of (H5.out _))
    | (go_at_call 40; exact Calls.ext_of (H6.out _))
    | (go_at_call 41; exact Calls.ext_of (HA.out _ (XT.out _))))))
  refine wpQuiet_nil ?_
  rintro _ ⟨p1, rfl⟩
  have HB1 := Lib.hid (below_ext W p1)
  generalize ext W p1 = w1 at HB1 ⊢
  go_wp2
  go_ret
  exact ⟨by first | rfl | simp, HW.out.st HB1.out⟩

end Go.Proofs.YtfjplphdkfiljaaDoor
