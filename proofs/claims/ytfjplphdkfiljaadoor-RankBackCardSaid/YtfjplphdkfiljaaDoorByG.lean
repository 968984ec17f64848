/-
  Walks of package rank: the rank of any keys.
-/
import Derived.Test.YtfjplphdkfiljaaDoorProg
import Derived.Test.YtfjplphdkfiljaaDoorByW
import Derived.Test.YtfjplphdkfiljaaDoorStaA
namespace Go.Proofs.YtfjplphdkfiljaaDoor
open Go.Proofs Go.RowKit Go.Shelf

set_option maxHeartbeats 4000000 in
theorem By_any (keys : List Int) (ko : Option Addr) (kc : Nat) (w : World) (hN2 : keys.length ≤ 1000000) (hc : Cel w ko (keys.map encW)) :
    Calls Tryd.prog 65 #[.slice ko keys.length kc] w (IntsPost w (byL keys)) := by
  have HC := Lib.hid hc
  clear hc
  have HN2 := Lib.hid hN2
  have HS := Lib.hid (fun g l w0 W => SortStable_any (keyF keys) keys.length 106 #[.pointer (some ⟨w.heap.size, 0, none⟩)] (w.heap.size + 1) g keys.length l w0 W by1_enters)
  go_enter Tryd.func65, Tryd.ntmps65
  go_wp2_with (at_make; go_must ((with_reducible refine wpList_mk (w.heap.size + 1) 3 _ 1 8 elem_int Tryd.underlying69 keys.length ?_ ?_ ?_ ?_ ?_ ?_ ?_ ?_); rotate_left 4; (· rfl); (· rfl); (· exact ⟨by simp, by simp, by omega, by omega, by simp⟩); intro wm hown hbl hszm; (have Hmo := Lib.hid hown; have Hmb := Lib.hid hbl; clear hown hbl)))
  have HZ0 := Lib.hid (show (madeCells (Value.int .i64 0).cells (keys.length * 1)).toList = (plcL keys.length 0).map encI by
    show (madeCells #[Value.int .i64 0] (keys.length * 1)).toList = _
    rw [Nat.mul_one, toList_madeCells_one, plcL_zero, List.map_replicate])
  have HKB := Lib.hid (show KeyB (w.alloc (Obj.cells #[.slice ko keys.length kc] 30)) w.heap.size keys from ⟨ko, kc, by go_simp, HC.out.go (Below.of_al _ _)⟩)
  have HBW := Lib.hid (show Below (w.heap.size + 1) (w.alloc (Obj.cells #[.slice ko keys.length kc] 30)) wm by have := Hmb.out; rw [World.size_alloc] at this; exact this)
  have HRM := Lib.hid (show RowI wm (w.heap.size + 1) (w.heap.size + 1) keys.length (plcL keys.length 0) by have := Hmo.out; rw [HZ0.out, World.size_alloc] at this; exact this)
  have HSZ0 := Lib.hid (show (w.alloc (Obj.cells #[.slice ko keys.length kc] 30)).heap.size = w.heap.size + 1 by simp)
  have HBL := Lib.hid (Below.of_al w (Obj.cells #[.slice ko keys.length kc] 30))
  generalize w.alloc (Obj.cells #[.slice ko keys.length kc] 30) = w0 at *
  clear HZ0 Hmo Hmb
  go_loopg [10] keys.length (fun gg v10 wr => ∃ k : Nat, k ≤ keys.length ∧ keys.length - k ≤ gg ∧ v10 = .int .i64 k ∧ Aside (RowI wr (w.heap.size + 1) (w.heap.size + 1) keys.length (plcL keys.length k)) ∧ Aside (Below (w.heap.size + 1) w0 wr))
  case atStart => exact ⟨0, Nat.zero_le _, by omega, rfl, HRM.out, HBW.out⟩
  case round =>
    clear HRM HBW
    obtain ⟨k, hk, hg, rfl, HR, HB⟩ := hrel
    by_cases hlt : k < keys.length
    · have hlt2 : (k : Int) < (keys.length : Int) := by omega
      have hk0 : (0 : Int) ≤ (k : Int) := by omega
      have hpl : (plcL keys.length k)[k]? = some ((plcL keys.length k)[k]'(by rw [plcL_length _ _ hk]; exact hlt)) := List.getElem?_eq_getElem _
      have c1 := HR.out.cell hpl
      have z1 := HR.out.frozenAt k
      have HP := Lib.hid (plcL_set keys.length k hlt)
      clear hpl
      generalize (plcL keys.length k)[k]'(by rw [plcL_length _ _ hk]; exact hlt) = u at *
      go_wp2
      go_roundg (keys.length - (k + 1))
      case measure => omega
      case rel => exact ⟨k + 1, by omega, by omega, by go_num, by rw [← HP.out]; exact HR.out.put k (k : Int), HB.out.setCell (Nat.le_refl _) _⟩
    · obtain rfl : k = keys.length := by omega
      have HR2 := Lib.hid (show RowI wr (w.heap.size + 1) (w.heap.size + 1) keys.length (rngI keys.length) by have := HR.out; rw [plcL_all] at this; exact this)
      have HCM := Lib.hid (show CmpOn 106 #[.pointer (some ⟨w.heap.size, 0, none⟩)] (keyF keys) keys.length (w.heap.size + 1) w0 by rw [← HSZ0.out]; exact cmpOn_keys keys w.heap.size w0 HKB.out)
      have HS2 := Lib.hid (HS.out (w.heap.size + 1) (rngI keys.length) w0 wr HCM.out HB.out HR2.out (fun x hx => mem_rngI.1 hx) HN2.out (asc_rngI _))
      go_wp2_with fail
      refine HS2.out.mono ?_
      rintro e w5 ⟨⟨v, rfl⟩, l', HG, HT, HR5, HB5⟩
      have hlen := HR5.out.len
      obtain ⟨ao8, cap8, e8, hc8⟩ := Cel.of_owns HR5.out
      cases e8
      have HI := Lib.hid (rkInverse_any l' (some ⟨w.heap.size + 1, 0, none⟩) keys.length w5 (by omega) hc8)
      rw [hlen, inv_sorted HG.out.perm HT.out] at HI
      have HBF := Lib.hid (show Below w.heap.size w w5 from HBL.out.trans (HB5.out.mono (Nat.le_succ _)))
      clear hc8 hlen
      go_wp2_with (go_at_call 77; refine HI.out.mono ?_; rintro e w6 ⟨ao, cap, rfl, hc6, hb6⟩; (have HC6 := Lib.hid hc6; have HB6 := Lib.hid (HBF.out.st hb6); clear hc6 hb6))
      go_ret
      exact ⟨ao, cap, rfl, HC6.out, HB6.out⟩

end Go.Proofs.YtfjplphdkfiljaaDoor
