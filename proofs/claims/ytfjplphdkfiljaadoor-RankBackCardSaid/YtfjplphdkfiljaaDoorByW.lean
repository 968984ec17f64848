/-
  Walks of package rank: the rank of few keys (fewer than twenty).
-/
import Derived.Test.YtfjplphdkfiljaaDoorProg
import Derived.Test.YtfjplphdkfiljaaDoorSortA
import Derived.Test.YtfjplphdkfiljaaDoorSortSpec
import Derived.Test.YtfjplphdkfiljaaDoorRkB
namespace Go.Proofs.YtfjplphdkfiljaaDoor
open Go.Proofs Go.RowKit Go.Shelf

theorem stable_few (key : Int → Int) (M F : Nat) (cb : Array Value) (base g N : Nat) (l : List Int) (w0 w : World) (hen : Enters Tryd.prog F) (hcmp : CmpOn F cb key M base w0) (hbw : Below base w0 w) (hrow : RowI w base g N l)
    (hM : ∀ x ∈ l, 0 ≤ x ∧ x < (M : Int)) (h0 : 0 < N) (hN : N < 20) (hasc : Asc 0 N l) :
    Calls Tryd.prog 132 #[.slice (some ⟨g, 0, none⟩) N N, .int .i64 N, .func (.func F) #[] cb] w (SortPost key base g N 0 N l w0) := by
  have HI := Lib.hid (insSort_any key M F cb base g N 0 N l w0 w hen hcmp hbw hrow hM h0 (Nat.le_refl _) (by omega) hasc)
  have h1 : ¬ (20 : Int) ≤ (N : Int) := by omega
  have h2 : ¬ (20 : Int) < (N : Int) := by omega
  clear hcmp hbw hrow hM hasc
  go_enter Tryd.func132, Tryd.ntmps132
  go_wp2
  refine wp_loop_rounds 1 ?_
  rw [rounds_succ]
  go_wp2_with (go_at_call 150; refine HI.out.mono ?_; rintro e w1 ⟨⟨v, rfl⟩, l', HS, HT, HR, HB⟩)
  refine wp_loop_rounds 1 ?_
  rw [rounds_succ]
  go_wp2
  go_end0
  exact ⟨⟨_, rfl⟩, l', HS, HT, HR, HB⟩

theorem SortStable_few (key : Int → Int) (M F : Nat) (cb : Array Value) (base g N : Nat) (l : List Int) (w0 w : World) (hen : Enters Tryd.prog F) (hcmp : CmpOn F cb key M base w0) (hbw : Below base w0 w) (hrow : RowI w base g N l)
    (hM : ∀ x ∈ l, 0 ≤ x ∧ x < (M : Int)) (h0 : 0 < N) (hN : N < 20) (hasc : Asc 0 N l) :
    Calls Tryd.prog 105 #[.slice (some ⟨g, 0, none⟩) N N, .func (.func F) #[] cb] w (SortPost key base g N 0 N l w0) := by
  have HI := Lib.hid (stable_few key M F cb base g N l w0 w hen hcmp hbw hrow hM h0 hN hasc)
  clear hcmp hbw hrow hM hasc
  go_enter Tryd.func105, Tryd.ntmps105
  go_wp2_with (go_at_call 132; refine HI.out.mono ?_; rintro e w1 ⟨⟨v, rfl⟩, l', HS, HT, HR, HB⟩)
  go_end0
  exact ⟨⟨_, rfl⟩, l', HS, HT, HR, HB⟩

/-- the first k are their places -/
def plcL (n k : Nat) : List Int := (rngI n).take k ++ List.replicate (n - k) 0
theorem plcL_length (n k : Nat) (h : k ≤ n) : (plcL n k).length = n := by unfold plcL; rw [List.length_append, List.length_take, rngI_length, List.length_replicate]; omega
theorem plcL_set (n k : Nat) (h : k < n) : (plcL n k).set k (k : Int) = plcL n (k + 1) := by
  unfold plcL
  have h1 : ((rngI n).take k).length = k := by rw [List.length_take, rngI_length]; omega
  rw [List.set_append_right _ _ (by omega), h1, Nat.sub_self]
  obtain ⟨m, hm⟩ : ∃ m, n - k = m + 1 := ⟨n - k - 1, by omega⟩
  have hk : k < (rngI n).length := by rw [rngI_length]; exact h
  have e0 : (rngI n)[k]? = some (k : Int) := by unfold rngI; rw [List.getElem?_map, List.getElem?_range h]; rfl
  have e : (rngI n)[k] = (k : Int) := Option.some.inj ((List.getElem?_eq_getElem hk).symm.trans e0)
  rw [hm, show n - (k + 1) = m by omega, List.replicate_succ, List.set_cons_zero, List.take_succ_eq_append_getElem hk, e, List.append_assoc]
  rfl
theorem plcL_zero (n : Nat) : plcL n 0 = List.replicate n 0 := by simp [plcL]
theorem plcL_all (n : Nat) : plcL n n = rngI n := by
  unfold plcL
  rw [List.take_of_length_le (by rw [rngI_length]; omega)]
  simp

theorem by1_enters : Enters Tryd.prog 106 := enters_of Tryd.func106 (by kernel_rfl) rfl
theorem cmpOn_keys (keys : List Int) (K : Nat) (w0 : World) (hk : KeyB w0 K keys) : CmpOn 106 #[.pointer (some ⟨K, 0, none⟩)] (keyF keys) keys.length w0.heap.size w0 := by
  intro W x y hb x0 x1 y0 y1
  obtain ⟨a, rfl⟩ := Int.eq_ofNat_of_zero_le x0
  obtain ⟨b, rfl⟩ := Int.eq_ofNat_of_zero_le y0
  have ha : a < keys.length := by omega
  have hb' : b < keys.length := by omega
  have := By1_any keys K a b W ha hb' (hk.go hb)
  unfold keyF
  rw [Int.toNat_natCast, Int.toNat_natCast]
  rw [show keys.getD a 0 = keys[a] by simp [List.getD, ha], show keys.getD b 0 = keys[b] by simp [List.getD, hb']]
  exact this

set_option maxHeartbeats 4000000 in
theorem By_few (keys : List Int) (ko : Option Addr) (kc : Nat) (w : World) (h0 : 0 < keys.length) (hN : keys.length < 20) (hc : Cel w ko (keys.map encW)) :
    Calls Tryd.prog 65 #[.slice ko keys.length kc] w (IntsPost w (byL keys)) := by
  have HC := Lib.hid hc
  clear hc
  have HN0 := Lib.hid h0
  have HN1 := Lib.hid hN
  have hN2 : keys.length ≤ 1000000 := by omega
  clear h0 hN
  have HS := Lib.hid (fun g l w0 W => SortStable_few (keyF keys) keys.length 106 #[.pointer (some ⟨w.heap.size, 0, none⟩)] (w.heap.size + 1) g keys.length l w0 W by1_enters)
  go_enter Tryd.func65, Tryd.ntmps65
  go_wp2_with (at_make; go_must ((with_reducible refine wpList_mk (w.heap.size + 1) 3 _ 1 8 elem_int Tryd.underlying69 keys.length ?_ ?_ ?_ ?_ ?_ ?_ ?_ ?_); rotate_left 4; (· rfl); (· rfl); (· exact ⟨by simp, by simp, by omega, by omega, by simp⟩); intro wm hown hbl hszm; (have Hmo := Lib.hid hown; have Hmb := Lib.hid hbl; clear hown hbl)))
  have HZ0 := Lib.hid (show (madeCells (Value.int .i64 0).cells (keys.length * 1)).toList = (plcL keys.length 0).map encI by
    show (madeCells #[Value.int .i64 0] (keys.length * 1)).toList = _
    rw [Nat.mul_one, toList_madeCells_one, plcL_zero, List.map_replicate])
  have HKB := Lib.hid (show KeyB (w.alloc (Obj.cells #[.slice ko keys.length kc] 30)) w.heap.size keys from ⟨ko, kc, by go_simp, HC.out.go (Below.of_al _ _)⟩)
  have HBW := Lib.hid (show Below (w.heap.size + 1) (w.alloc (Obj.cells #[.slice ko keys.length kc] 30)) wm by have := Hmb.out; rw [World.size_alloc] at this; exact this)
  have HRM := Lib.hid (show RowI wm (w.heap.size + 1) (w.heap.size + 1) keys.length (plcL keys.length 0) by have := Hmo.out; rw [HZ0.out, World.size_alloc] at this; exact this)
  have HSZ0 := Lib.hid (show (w.alloc (Obj.cells #[.slice ko keys.length kc] 30)).heap.size = w.heap.size + 1 by simp)
  have HBL := Lib.hid (Below.of_al w (Obj.cells #[.slice ko keys.length kc] 30))
  generalize w.alloc (Obj.cells #[.slice ko keys.length kc] 30) = w0 at *
  clear HZ0 Hmo Hmb
  go_loopg [10] keys.length (fun gg v10 wr => ∃ k : Nat, k ≤ keys.length ∧ keys.length - k ≤ gg ∧ v10 = .int .i64 k ∧ Aside (RowI wr (w.heap.size + 1) (w.heap.size + 1) keys.length (plcL keys.length k)) ∧ Aside (Below (w.heap.size + 1) w0 wr))
  case atStart => exact ⟨0, Nat.zero_le _, by omega, rfl, HRM.out, HBW.out⟩
  case round =>
    clear HRM HBW
    obtain ⟨k, hk, hg, rfl, HR, HB⟩ := hrel
    by_cases hlt : k < keys.length
    · have hlt2 : (k : Int) < (keys.length : Int) := by omega
      have hk0 : (0 : Int) ≤ (k : Int) := by omega
      have hpl : (plcL keys.length k)[k]? = some ((plcL keys.length k)[k]'(by rw [plcL_length _ _ hk]; exact hlt)) := List.getElem?_eq_getElem _
      have c1 := HR.out.cell hpl
      have z1 := HR.out.frozenAt k
      have HP := Lib.hid (plcL_set keys.length k hlt)
      clear hpl
      generalize (plcL keys.length k)[k]'(by rw [plcL_length _ _ hk]; exact hlt) = u at *
      go_wp2
      go_roundg (keys.length - (k + 1))
      case measure => omega
      case rel => exact ⟨k + 1, by omega, by omega, by go_num, by rw [← HP.out]; exact HR.out.put k (k : Int), HB.out.setCell (Nat.le_refl _) _⟩
    · obtain rfl : k = keys.length := by omega
      have HR2 := Lib.hid (show RowI wr (w.heap.size + 1) (w.heap.size + 1) keys.length (rngI keys.length) by have := HR.out; rw [plcL_all] at this; exact this)
      have HCM := Lib.hid (show CmpOn 106 #[.pointer (some ⟨w.heap.size, 0, none⟩)] (keyF keys) keys.length (w.heap.size + 1) w0 by rw [← HSZ0.out]; exact cmpOn_keys keys w.heap.size w0 HKB.out)
      have HS2 := Lib.hid (HS.out (w.heap.size + 1) (rngI keys.length) w0 wr HCM.out HB.out HR2.out (fun x hx => mem_rngI.1 hx) HN0.out HN1.out (asc_rngI _))
      go_wp2_with fail
      refine HS2.out.mono ?_
      rintro e w5 ⟨⟨v, rfl⟩, l', HG, HT, HR5, HB5⟩
      have hlen := HR5.out.len
      obtain ⟨ao8, cap8, e8, hc8⟩ := Cel.of_owns HR5.out
      cases e8
      have HI := Lib.hid (rkInverse_any l' (some ⟨w.heap.size + 1, 0, none⟩) keys.length w5 (by omega) hc8)
      rw [hlen, inv_sorted HG.out.perm HT.out] at HI
      have HBF := Lib.hid (show Below w.heap.size w w5 from HBL.out.trans (HB5.out.mono (Nat.le_succ _)))
      clear hc8 hlen
      go_wp2_with (go_at_call 77; refine HI.out.mono ?_; rintro e w6 ⟨ao, cap, rfl, hc6, hb6⟩; (have HC6 := Lib.hid hc6; have HB6 := Lib.hid (HBF.out.st hb6); clear hc6 hb6))
      go_ret
      exact ⟨ao, cap, rfl, HC6.out, HB6.out⟩

end Go.Proofs.YtfjplphdkfiljaaDoor
