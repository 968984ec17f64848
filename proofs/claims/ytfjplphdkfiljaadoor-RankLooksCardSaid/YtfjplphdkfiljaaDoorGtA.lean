/-
  Walks of package gtext: the words of an edge.
-/
import Derived.Test.YtfjplphdkfiljaaDoorProg
import Derived.Test.YtfjplphdkfiljaaDoorNumPrintR
import Derived.Test.YtfjplphdkfiljaaDoorGraphD
import Derived.Test.YtfjplphdkfiljaaDoorShelf2
namespace Go.Proofs.YtfjplphdkfiljaaDoor
open Go.Proofs Go.RowKit Go.Shelf Go.Sort

theorem Itoa_any (n : Int) (h0 : 0 ≤ n) (h1 : n ≤ 9223372036854775807) (w : World) (ht : Pow10 w) :
    Calls Tryd.prog 94 #[.int .i64 n] w fun e w' => e = .returned (.string (printI n)) ∧ Below w.heap.size w w' := by
  refine (Tryd.strconv_Itoa n (by omega) h1 w ht).mono ?_
  rintro e w' ⟨rfl, k, os, rfl⟩
  refine ⟨?_, below_grow w os k⟩
  obtain ⟨u, rfl⟩ := Int.eq_ofNat_of_zero_le h0
  rw [Lib.itoa_nonneg]
  rfl

theorem refnumber_any (n : Int) (h0 : 0 ≤ n) (h1 : n ≤ 9223372036854775807) (w : World) :
    Calls Tryd.prog 96 #[.int .i64 n] w fun e w' => e = .returned (.string (printI n)) ∧ Below w.heap.size w w' := by
  have HP := Lib.hid (fun W => refPrint_any n h0 (by omega) W)
  have hw : IntKind.u64.wrap n = n := IntWalk.u64_in _ (by omega)
  generalize printI n = r at *
  go_enter Tryd.func96, Tryd.ntmps96
  go_wp2_with (go_at_call 27; refine (HP.out _).mono ?_; rintro e w1 ⟨rfl, hb1⟩)
  go_ret
  exact ⟨rfl, hb1⟩

/-- the words of an edge -/
def ofE (e : EdgeD) : List ByteArray := [printI e.f, printI e.t, printI e.w]

theorem s3_start {W : World} {a0 a1 a2 : Addr} {v0 v1 v2 : Value} (h0 : W.cell? a0 = some v0) (h1 : W.cell? a1 = some v1) (h2 : W.cell? a2 = some v2) : W.drew.cell? a0 = some v0 ∧ W.drew.cell? a1 = some v1 ∧ W.drew.cell? a2 = some v2 ∧ Below W.heap.size W W.drew := ⟨h0, h1, h2, Below.of_dr W 1⟩
theorem s3_next {W w1 w2 : World} {a0 a1 a2 : Addr} {v0 v1 v2 : Value} (hb : Below w1.heap.size w1 w2) (h : w1.cell? a0 = some v0 ∧ w1.cell? a1 = some v1 ∧ w1.cell? a2 = some v2 ∧ Below W.heap.size W w1) : w2.cell? a0 = some v0 ∧ w2.cell? a1 = some v1 ∧ w2.cell? a2 = some v2 ∧ Below W.heap.size W w2 :=
  ⟨cell_later hb h.1, cell_later hb h.2.1, cell_later hb h.2.2.1, h.2.2.2.st hb⟩

set_option maxHeartbeats 2000000 in
theorem of_any (x : EdgeD) (w : World) (hf : 0 ≤ x.f ∧ x.f ≤ 9223372036854775807) (ht : 0 ≤ x.t ∧ x.t ≤ 9223372036854775807) (hw : 0 ≤ x.w ∧ x.w < 18446744073709551616) (hp : Pow10 w) :
    Calls Tryd.prog 95 #[encE x] w fun e w' => ∃ g, e = .returned (.slice (some ⟨g, 0, none⟩) 3 3) ∧ Cel w' (some ⟨g, 0, none⟩) ((ofE x).map encS) ∧ Below w.heap.size w w' := by
  have H1 := Lib.hid (fun W h => Itoa_any x.f hf.1 hf.2 W h)
  have H2 := Lib.hid (fun W h => Itoa_any x.t ht.1 ht.2 W h)
  have H3 := Lib.hid (fun W h => Print_any x.w hw.1 hw.2 W h)
  have HE := Lib.hid (show (ofE x).map encS = [.string (printI x.f), .string (printI x.t), .string (printI x.w)] from rfl)
  have HT := Lib.hid hp
  obtain ⟨f, t, v⟩ := x
  simp only at H1 H2 H3 HE
  generalize (ofE ⟨f, t, v⟩).map encS = L at *
  generalize printI f = p1 at *
  generalize printI t = p2 at *
  generalize printI v = p3 at *
  clear hf ht hw hp
  go_enter Tryd.func95, Tryd.ntmps95
  go_wp2_with fail
  obtain ⟨W, hW, c0, c1, c2⟩ : ∃ W, W = w.alloc (Obj.cells #[.int .i64 f, .int .i64 t, .int .u64 v] 99) ∧ W.cell? ⟨w.heap.size, 0, none⟩ = some (.int .i64 f) ∧ W.cell? ⟨w.heap.size, 1, none⟩ = some (.int .i64 t) ∧ W.cell? ⟨w.heap.size, 2, none⟩ = some (.int .u64 v) := ⟨_, rfl, by go_simp, by go_simp, by go_simp⟩
  rw [← hW]
  have HW := Lib.hid (show Below w.heap.size w W by rw [hW]; exact Below.of_al _ _)
  clear hW
  go_region_held3 (fun w' => w'.cell? ⟨w.heap.size, 0, none⟩ = some (.int .i64 f) ∧ w'.cell? ⟨w.heap.size, 1, none⟩ = some (.int .i64 t) ∧ w'.cell? ⟨w.heap.size, 2, none⟩ = some (.int .u64 v) ∧ Below W.heap.size W w') (first | exact s3_start c0 c1 c2 | exact s3_next (by assumption) (by assumption) | exact s3_next (Below.of_al _ _) (by assumption)) (first
    | (go_at_call_of 94 (Value.int IntKind.i64 f); refine (H1.out _ (tabIs_go HT.out (HW.out.st (by go_split_ands; assumption)))).mono ?_; rintro e w1 ⟨rfl, hb1⟩)
    | (go_at_call_of 94 (Value.int IntKind.i64 t); refine (H2.out _ (tabIs_go HT.out (HW.out.st (by go_split_ands; assumption)))).mono ?_; rintro e w2 ⟨rfl, hb2⟩)
    | (go_at_call 19; refine (H3.out _ (tabIs_go HT.out (HW.out.st (by go_split_ands; assumption)))).mono ?_; rintro e w3 ⟨rfl, hb3⟩))
  go_wp2
  go_ret
  refine ⟨w3.heap.size, rfl, ?_, ?_⟩
  · rw [HE.out]; exact cel_new _ _ _ _
  · have := HW.out; repeat (first | exact Below.refl _ _ | refine Below.al ?_ _ | refine Below.dr ?_ _ | refine Below.drew ?_ | assumption | (refine Below.st ?_ (by assumption)))

end Go.Proofs.YtfjplphdkfiljaaDoor
