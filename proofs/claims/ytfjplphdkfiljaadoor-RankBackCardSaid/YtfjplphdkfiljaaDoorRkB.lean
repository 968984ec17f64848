/-
  Walks of package rank: the inverse of a rank.
-/
import Derived.Test.YtfjplphdkfiljaaDoorProg
import Derived.Test.YtfjplphdkfiljaaDoorRkA
import Derived.Deep.RegionLaw
namespace Go.Proofs.YtfjplphdkfiljaaDoor
open Go.Proofs Go.RowKit Go.Shelf

/-- a row of numbers is handed back -/
def IntsPost (w : World) (r : List Int) (e : Ending) (w' : World) : Prop :=
  ∃ ao cap, e = .returned (.slice ao r.length cap) ∧ Cel w' ao (r.map encI) ∧ Below w.heap.size w w'

set_option maxHeartbeats 1000000 in
theorem rkInverse_any (l : List Int) (ao : Option Addr) (cap : Nat) (w : World) (hl : l.length ≤ 1000000) (hc : Cel w ao (l.map encI)) :
    Calls Tryd.prog 77 #[.slice ao l.length cap] w (IntsPost w (invL l)) := by
  have HC := Lib.hid hc
  have HR := Lib.hid (fun W h => rkRight_any l ao cap W hl h)
  clear hc
  cases hr : rankB l with
  | false =>
    have HV := Lib.hid (show invL l = [] by unfold invL; rw [hr]; rfl)
    generalize invL l = r at *
    rw [hr] at HR
    clear hr
    go_enter Tryd.func77, Tryd.ntmps77
    go_wp2_with (go_at_call 75; refine (HR.out _ HC.out).mono ?_; rintro e w1 ⟨rfl, hb1⟩)
    go_ret
    exact ⟨none, 0, by rw [HV.out]; rfl, by rw [HV.out]; exact Cel.nil _ _, hb1⟩
  | true =>
    have HV := Lib.hid (show invL l = invK l l.length by unfold invL; rw [hr]; rfl)
    have HIN := Lib.hid (fun k (hk : k < l.length) => rankB_in hr l[k] (List.getElem_mem hk))
    have HS := Lib.hid (fun k (hk : k < l.length) => (show invK l (k + 1) = (invK l k).set l[k].toNat k by simp [invK, List.getD, hk]))
    have HLN := Lib.hid (invK_length l)
    have HZ := Lib.hid (show invK l 0 = List.replicate l.length 0 from rfl)
    generalize invL l = r at *
    generalize invK l = I at *
    rw [hr] at HR
    clear hr
    go_enter Tryd.func77, Tryd.ntmps77
    go_wp2_with fail
    refine (HR.out _ HC.out).mono ?_
    rintro e w1 ⟨rfl, hb1⟩
    have HB1 := Lib.hid hb1
    have HC1 := Lib.hid (HC.out.go hb1)
    clear hb1
    go_wp2_with (at_make; go_must ((with_reducible refine wpList_mk w1.heap.size 3 _ 1 8 elem_int Tryd.underlying69 l.length ?_ ?_ ?_ ?_ ?_ ?_ ?_ ?_); rotate_left 4; (· rfl); (· rfl); (· exact ⟨by simp, by simp, by omega, by omega, by simp⟩); intro wm hown hbl hszm; (have Hmo := Lib.hid hown; have Hmb := Lib.hid hbl; clear hown hbl)))
    have HZ0 := Lib.hid (show (madeCells (Value.int .i64 0).cells (l.length * 1)).toList = (I 0).map encI by
      show (madeCells #[Value.int .i64 0] (l.length * 1)).toList = _
      rw [Nat.mul_one, toList_madeCells_one, HZ.out, List.map_replicate])
    go_loopg [14] l.length (fun gg i wr => ∃ k : Nat, k ≤ l.length ∧ l.length - k ≤ gg ∧ i = .int .i64 k ∧ Aside (w1.heap.size < wr.heap.size) ∧
      Aside (wr.ownsRow w1.heap.size 3 1 (.slice (some ⟨w1.heap.size, 0, none⟩) l.length l.length) l.length ((I k).map encI)) ∧ Aside (Below w1.heap.size w1 wr))
    case atStart => exact ⟨0, Nat.zero_le _, by omega, rfl, hszm, by have := Hmo.out; rw [HZ0.out] at this; exact this, Hmb.out⟩
    case round =>
      obtain ⟨k, hk, hg, rfl, HZ2, HO, HB⟩ := hrel
      clear HZ0
      by_cases hlt : k < l.length
      · obtain ⟨b, o, hao, hcell⟩ := (HC1.out.go HB.out).at hlt
        subst hao
        have hlt3 : (k : Int) < (l.length : Int) := by omega
        have hk0 : (0 : Int) ≤ (k : Int) := by omega
        have hin := HIN.out k hlt
        have HS2 := Lib.hid (HS.out k hlt)
        generalize l[k] = x at *
        obtain ⟨v, rfl⟩ : ∃ v : Nat, x = (v : Int) := ⟨x.toNat, by omega⟩
        have hv : v < l.length := by omega
        obtain ⟨u, j4⟩ : ∃ u, wr.cell? ⟨w1.heap.size, v, none⟩ = some u := by
          rw [HO.out.cellAt v (by omega), List.getElem?_map, List.getElem?_eq_getElem (by rw [HLN.out]; omega)]
          exact ⟨_, rfl⟩
        have j6 := HO.out.frozenAt v
        have HO2 := Lib.hid (show (wr.setCell ⟨w1.heap.size, v, none⟩ (encI k)).ownsRow w1.heap.size 3 1 (.slice (some ⟨w1.heap.size, 0, none⟩) l.length l.length) l.length ((I (k + 1)).map encI) by
          have := (HO.out.stored v (encI k)).1
          rw [← List.map_set] at this
          rw [HS2.out]
          exact this)
        go_wp2
        go_roundg (l.length - (k + 1))
        case measure => omega
        case rel => exact ⟨k + 1, by omega, by omega, by go_num, (show w1.heap.size < (wr.setCell ⟨w1.heap.size, v, none⟩ (encI k)).heap.size by have := HZ2.out; simpa [World.setCell] using this), HO2.out, HB.out.setCell (Nat.le_refl _) _⟩
      · obtain rfl : k = l.length := by omega
        obtain ⟨ao8, cap8, e8, hc8⟩ := Cel.of_owns HO.out
        cases e8
        have HC8 := Lib.hid hc8
        have HRL := Lib.hid (show r.length = l.length by rw [HV.out]; exact HLN.out _)
        clear hc8
        go_wp2
        go_ret
        exact ⟨_, l.length, by rw [HRL.out]; rfl, by rw [HV.out]; exact HC8.out, HB1.out.st HB.out⟩

set_option maxHeartbeats 1000000 in
theorem refRkInverse_any (l : List Int) (ao : Option Addr) (cap : Nat) (w : World) (hl : l.length ≤ 1000000) (hc : Cel w ao (l.map encI)) :
    Calls Tryd.prog 78 #[.slice ao l.length cap] w (IntsPost w (invL l)) := by
  have HC := Lib.hid hc
  have HR := Lib.hid (fun W h => (refRkRight_any l ao cap W hl h).mono (R' := fun e w' => e = .returned (.bool (rankB l)) ∧ Below W.heap.size W w') fun e w' ⟨he, hw⟩ => ⟨he, hw ▸ Below.refl _ _⟩)
  clear hc
  cases hr : rankB l with
  | false =>
    have HV := Lib.hid (show invL l = [] by unfold invL; rw [hr]; rfl)
    generalize invL l = r at *
    rw [hr] at HR
    clear hr
    go_enter Tryd.func78, Tryd.ntmps78
    go_wp2_with (go_at_call 76; refine (HR.out _ HC.out).mono ?_; rintro e w1 ⟨rfl, hb1⟩)
    go_ret
    exact ⟨none, 0, by rw [HV.out]; rfl, by rw [HV.out]; exact Cel.nil _ _, hb1⟩
  | true =>
    have HV := Lib.hid (show invL l = invK l l.length by unfold invL; rw [hr]; rfl)
    have HIN := Lib.hid (fun k (hk : k < l.length) => rankB_in hr l[k] (List.getElem_mem hk))
    have HS := Lib.hid (fun k (hk : k < l.length) => (show invK l (k + 1) = (invK l k).set l[k].toNat k by simp [invK, List.getD, hk]))
    have HLN := Lib.hid (invK_length l)
    have HZ := Lib.hid (show invK l 0 = List.replicate l.length 0 from rfl)
    generalize invL l = r at *
    generalize invK l = I at *
    rw [hr] at HR
    clear hr
    go_enter Tryd.func78, Tryd.ntmps78
    go_wp2_with fail
    refine (HR.out _ HC.out).mono ?_
    rintro e w1 ⟨rfl, hb1⟩
    have HB1 := Lib.hid hb1
    have HC1 := Lib.hid (HC.out.go hb1)
    clear hb1
    go_wp2_with (at_make; go_must ((with_reducible refine wpList_mk w1.heap.size 3 _ 1 8 elem_int Tryd.underlying69 l.length ?_ ?_ ?_ ?_ ?_ ?_ ?_ ?_); rotate_left 4; (· rfl); (· rfl); (· exact ⟨by simp, by simp, by omega, by omega, by simp⟩); intro wm hown hbl hszm; (have Hmo := Lib.hid hown; have Hmb := Lib.hid hbl; clear hown hbl)))
    have HZ0 := Lib.hid (show (madeCells (Value.int .i64 0).cells (l.length * 1)).toList = (I 0).map encI by
      show (madeCells #[Value.int .i64 0] (l.length * 1)).toList = _
      rw [Nat.mul_one, toList_madeCells_one, HZ.out, List.map_replicate])
    go_loopg [4] l.length (fun gg i wr => ∃ k : Nat, k ≤ l.length ∧ l.length - k ≤ gg ∧ i = .int .i64 k ∧ Aside (w1.heap.size < wr.heap.size) ∧
      Aside (wr.ownsRow w1.heap.size 3 1 (.slice (some ⟨w1.heap.size, 0, none⟩) l.length l.length) l.length ((I k).map encI)) ∧ Aside (Below w1.heap.size w1 wr))
    case atStart => exact ⟨0, Nat.zero_le _, by omega, rfl, hszm, by have := Hmo.out; rw [HZ0.out] at this; exact this, Hmb.out⟩
    case round =>
      obtain ⟨k, hk, hg, rfl, HZ2, HO, HB⟩ := hrel
      clear HZ0
      by_cases hlt : k < l.length
      · obtain ⟨b, o, hao, hcell⟩ := (HC1.out.go HB.out).at hlt
        subst hao
        have hlt3 : (k : Int) < (l.length : Int) := by omega
        have hk0 : (0 : Int) ≤ (k : Int) := by omega
        have hin := HIN.out k hlt
        have HS2 := Lib.hid (HS.out k hlt)
        generalize l[k] = x at *
        obtain ⟨v, rfl⟩ : ∃ v : Nat, x = (v : Int) := ⟨x.toNat, by omega⟩
        have hv : v < l.length := by omega
        obtain ⟨u, j4⟩ : ∃ u, wr.cell? ⟨w1.heap.size, v, none⟩ = some u := by
          rw [HO.out.cellAt v (by omega), List.getElem?_map, List.getElem?_eq_getElem (by rw [HLN.out]; omega)]
          exact ⟨_, rfl⟩
        have j6 := HO.out.frozenAt v
        have HO2 := Lib.hid (show (wr.setCell ⟨w1.heap.size, v, none⟩ (encI k)).ownsRow w1.heap.size 3 1 (.slice (some ⟨w1.heap.size, 0, none⟩) l.length l.length) l.length ((I (k + 1)).map encI) by
          have := (HO.out.stored v (encI k)).1
          rw [← List.map_set] at this
          rw [HS2.out]
          exact this)
        go_wp2
        go_roundg (l.length - (k + 1))
        case measure => omega
        case rel => exact ⟨k + 1, by omega, by omega, by go_num, (show w1.heap.size < (wr.setCell ⟨w1.heap.size, v, none⟩ (encI k)).heap.size by have := HZ2.out; simpa [World.setCell] using this), HO2.out, HB.out.setCell (Nat.le_refl _) _⟩
      · obtain rfl : k = l.length := by omega
        obtain ⟨ao8, cap8, e8, hc8⟩ := Cel.of_owns HO.out
        cases e8
        have HC8 := Lib.hid hc8
        have HRL := Lib.hid (show r.length = l.length by rw [HV.out]; exact HLN.out _)
        clear hc8
        go_wp2
        go_ret
        exact ⟨_, l.length, by rw [HRL.out]; rfl, by rw [HV.out]; exact HC8.out, HB1.out.st HB.out⟩

end Go.Proofs.YtfjplphdkfiljaaDoor
