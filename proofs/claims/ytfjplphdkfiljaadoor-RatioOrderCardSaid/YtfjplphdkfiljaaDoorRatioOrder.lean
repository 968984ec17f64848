/-
  The walk of the statement RatioOrder: whatever the ratios, the law answers true.
-/
import Derived.Test.YtfjplphdkfiljaaDoorProg
import Derived.Test.YtfjplphdkfiljaaDoorRatioL
namespace Go.Proofs.YtfjplphdkfiljaaDoor
open Go.Proofs Go.RowKit Go.Shelf

set_option maxHeartbeats 4000000 in
theorem RatioOrder_any (an ad bn bd : Int) (w : World) (ha : 0 ≤ an) (hb : 0 ≤ bn) (ht : Pow10 w) :
    Calls Tryd.prog 8 #[ratV an ad, ratV bn bd] w fun e w' => e = .returned (.bool true) ∧ Below w.heap.size w w' := by
  have HA := Lib.hid (fun W h => alive02_any W h)
  have HT := Lib.hid ht
  have H1 := Lib.hid (fun W => Cmp_ratio an ad bn bd W ha hb)
  have H2 := Lib.hid (fun W => refCmp_ratio an ad bn bd W ha hb)
  have H3 := Lib.hid (fun W => Reduce_any an ad W ha)
  have H4 := Lib.hid (fun W => refReduce_any an ad W ha)
  generalize cmpR an ad bn bd = c at *
  generalize redN an ad = x at *
  generalize redD an ad = y at *
  clear ht ha hb
  go_enter Tryd.func8, Tryd.ntmps8
  go_wp2_with fail
  obtain ⟨W, hW, c0, c1, c2, c3, hsW⟩ : ∃ W, W = (w.alloc (Obj.cells #[.int .u64 an, .int .u64 ad] 41)).alloc (Obj.cells #[.int .u64 bn, .int .u64 bd] 41) ∧ W.cell? ⟨w.heap.size, 0, none⟩ = some (.int .u64 an) ∧ W.cell? ⟨w.heap.size, 1, none⟩ = some (.int .u64 ad) ∧ W.cell? ⟨w.heap.size + 1, 0, none⟩ = some (.int .u64 bn) ∧ W.cell? ⟨w.heap.size + 1, 1, none⟩ = some (.int .u64 bd) ∧ w.heap.size + 1 < W.heap.size := ⟨_, rfl, by go_simp, by go_simp, by go_simp, by go_simp, by simp⟩
  rw [← hW]
  have HW := Lib.hid (show Below w.heap.size w W by rw [hW]; repeat (first | exact Below.refl _ _ | refine Below.al ?_ _ | refine Below.dr ?_ _ | refine Below.drew ?_ | assumption | (refine Below.st ?_ (by assumption))))
  clear hW
  have e0 := fun p => cell_ext p c0
  have e1 := fun p => cell_ext p c1
  have e2 := fun p => cell_ext p c2
  have e3 := fun p => cell_ext p c3
  have XT := Lib.hid (fun p => tabIs_go HT.out (HW.out.st (below_ext W p)))
  refine wp_region_ext (by kernel_rfl) (by kernel_rfl) ?_
  repeat (go_big_quiet_step ((first
    | (go_at_call 42; exact Calls.ext_of (H1.out _))
    | (go_at_call 43; exact Calls.ext_of (H2.out _))
    | (go_at_call 44; exact Calls.ext_of (H3.out _))
    | (go_at_call 45; exact Calls.ext_of (H4.out _))
    | (go_at_call 41; exact Calls.ext_of (HA.out _ (XT.out _))))))
  refine wpQuiet_nil ?_
  rintro _ ⟨p1, rfl⟩
  have HB1 := Lib.hid (below_ext W p1)
  generalize ext W p1 = w1 at HB1 ⊢
  go_wp2
  go_ret
  exact ⟨by first | rfl | simp, HW.out.st HB1.out⟩

end Go.Proofs.YtfjplphdkfiljaaDoor
