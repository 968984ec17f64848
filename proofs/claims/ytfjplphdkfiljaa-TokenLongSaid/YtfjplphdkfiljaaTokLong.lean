/-
  The walk of the statement TokenLong: whatever the number, the law answers true.
-/
import Derived.Test.YtfjplphdkfiljaaProg
import Derived.Test.YtfjplphdkfiljaaTokWords
import Derived.Test.YtfjplphdkfiljaaTokJoin
namespace Go.Proofs.Ytfjplphdkfiljaa
open Go.Proofs Go.RowKit Go.Shelf

def fillX (n k : Nat) : List UInt8 := List.replicate k 120 ++ List.replicate (n - k) 0
theorem fillX_zero (n : Nat) : fillX n 0 = List.replicate n 0 := by simp [fillX]
theorem fillX_all (n : Nat) : fillX n n = List.replicate n 120 := by simp [fillX]
theorem fillX_length (n k : Nat) (h : k ≤ n) : (fillX n k).length = n := by simp [fillX]; omega
theorem fillX_set (n k : Nat) (h : k < n) : (fillX n k).set k 120 = fillX n (k + 1) := by
  unfold fillX
  rw [List.set_append_right _ _ (by simp)]
  simp only [List.length_replicate, Nat.sub_self]
  obtain ⟨m, hm⟩ : ∃ m, n - k = m + 1 := ⟨n - k - 1, by omega⟩
  rw [hm, show n - (k + 1) = m by omega, List.replicate_succ, List.set_cons_zero, List.replicate_succ', List.append_assoc]
  rfl

set_option maxHeartbeats 1000000 in
theorem TokenLong_any (n : Int) (w : World) (hn : -9223372036854775808 ≤ n ∧ n ≤ 9223372036854775807) :
    Calls Try.prog 6 #[.int .i64 n] w fun e w' => e = .returned (.bool true) ∧ Below w.heap.size w w' := by
  by_cases h1 : n < 65533
  · go_enter Try.func6, Try.ntmps6
    go_wp2_with (go_at_call 11; refine (alive03_any _).mono ?_; rintro e w1 ⟨rfl, hb1⟩)
    go_ret
    exact ⟨rfl, hb1⟩
  by_cases h2 : 65539 < n
  · go_enter Try.func6, Try.ntmps6
    go_wp2_with (go_at_call 11; refine (alive03_any _).mono ?_; rintro e w1 ⟨rfl, hb1⟩)
    go_ret
    exact ⟨rfl, hb1⟩
  obtain ⟨n, rfl⟩ : ∃ m : Nat, n = (m : Int) := ⟨n.toNat, by omega⟩
  have HW := Lib.hid (fun W => Words_any (xs n) W (by rw [xs_size]; omega))
  have HJ := Lib.hid (fun W a h => Join_any [xs n] a 1 W (by simp) (by intro x hx; simp at hx; subst hx; rw [xs_size]; omega) (by simp) h)
  by_cases hbig : 65536 < n
  · rw [xs_words_big hbig] at HW
    rw [xs_join_big hbig] at HJ
    clear hn
    go_enter Try.func6, Try.ntmps6
    go_wp2_with (at_make; go_must ((with_reducible refine wpList_mk w.heap.size 5 _ 1 1 elem_u8 Try.underlying50 n ?_ ?_ ?_ ?_ ?_ ?_ ?_ ?_); rotate_left 4; (· rfl); (· rfl); (· exact ⟨by simp, by simp, by omega, by omega, by simp⟩); intro wm hown hbl hszm; (have Hmo := Lib.hid hown; have Hmb := Lib.hid hbl; clear hown hbl)))
    have HZ0 := Lib.hid (show (madeCells (Value.int .u8 0).cells (n * 1)).toList = (fillX n 0).map encU8 by
      show (madeCells #[Value.int .u8 0] (n * 1)).toList = _
      rw [Nat.mul_one, toList_madeCells_one, fillX_zero, List.map_replicate]
      rfl)
    go_loopg [4] n (fun gg i wr => ∃ k : Nat, k ≤ n ∧ n - k ≤ gg ∧ i = .int .i64 k ∧ w.heap.size < wr.heap.size ∧
      Aside (wr.ownsRow w.heap.size 5 1 (.slice (some ⟨w.heap.size, 0, none⟩) n n) n ((fillX n k).map encU8) ∧ Below w.heap.size w wr))
    case atStart => exact ⟨0, Nat.zero_le _, by omega, rfl, hszm, by have := Hmo.out; rw [HZ0.out] at this; exact this, Hmb.out⟩
    case round =>
      obtain ⟨k, hk, hg, rfl, hsz, HA⟩ := hrel
      clear HZ0
      by_cases hlt : k < n
      · have j5 : ∃ v, wr.cell? ⟨w.heap.size, k, none⟩ = some v := by
          rw [HA.out.1.cellAt k (by omega), List.getElem?_eq_getElem (by rw [List.length_map, fillX_length _ _ hk]; exact hlt)]
          exact ⟨_, rfl⟩
        obtain ⟨v5, j5⟩ := j5
        have j6 := HA.out.1.frozenAt k
        have HST := Lib.hid (show (wr.setCell ⟨w.heap.size, k, none⟩ (.int .u8 120)).ownsRow w.heap.size 5 1 (.slice (some ⟨w.heap.size, 0, none⟩) n n) n ((fillX n (k + 1)).map encU8) by
          have := (HA.out.1.stored k (encU8 120)).1
          rw [← List.map_set, fillX_set n k hlt] at this
          exact this)
        go_wp2
        go_roundg (n - (k + 1))
        case measure => omega
        case rel => exact ⟨k + 1, by omega, by omega, by go_num, by simpa using hsz, HST.out, HA.out.2.setCell (by simp) _⟩
      · obtain rfl : k = n := by omega
        have HC : Cel wr (some ⟨w.heap.size, 0, none⟩) ((List.replicate k 120).map encU8) := by
          obtain ⟨ao3, cap3, e3, h3⟩ := Cel.of_owns HA.out.1
          cases e3
          rw [fillX_all] at h3
          exact h3
        have HC2 := Lib.hid HC
        clear HC
        go_wp2_with (first
          | ((with_reducible refine wpList_string_of 5 (List.replicate k 120) (some ⟨w.heap.size, 0, none⟩) k k ?_ ?_ ?_ Try.underlying50 Try.underlying9 Try.underlying5 ?_); (· simp); (· rfl); (· first | exact HC2.out | exact HC2.out.go HB1.out))
          | (go_at_call 12; refine (HW.out _).mono ?_; rintro e w1 ⟨ao, cap, rfl, hc1, hb1⟩; (have HB1 := Lib.hid hb1; clear hc1 hb1))
          | (go_at_call 34; go_must (refine (HJ.out _ _ (cel_new _ _ _ _)).mono ?_); rintro e w2 ⟨rfl, hb2⟩; (have HB2 := Lib.hid hb2; clear hb2))
          | (go_at_call 11; refine (alive03_any _).mono ?_; rintro e w3 ⟨rfl, hb3⟩))
        go_ret
        exact ⟨rfl, (((HA.out.2.st HB1.out).al _).st HB2.out).st hb3⟩
  · rw [xs_words (by omega) (by omega)] at HW
    rw [xs_join (by omega) (by omega)] at HJ
    clear hn
    go_enter Try.func6, Try.ntmps6
    go_wp2_with (at_make; go_must ((with_reducible refine wpList_mk w.heap.size 5 _ 1 1 elem_u8 Try.underlying50 n ?_ ?_ ?_ ?_ ?_ ?_ ?_ ?_); rotate_left 4; (· rfl); (· rfl); (· exact ⟨by simp, by simp, by omega, by omega, by simp⟩); intro wm hown hbl hszm; (have Hmo := Lib.hid hown; have Hmb := Lib.hid hbl; clear hown hbl)))
    have HZ0 := Lib.hid (show (madeCells (Value.int .u8 0).cells (n * 1)).toList = (fillX n 0).map encU8 by
      show (madeCells #[Value.int .u8 0] (n * 1)).toList = _
      rw [Nat.mul_one, toList_madeCells_one, fillX_zero, List.map_replicate]
      rfl)
    go_loopg [4] n (fun gg i wr => ∃ k : Nat, k ≤ n ∧ n - k ≤ gg ∧ i = .int .i64 k ∧ w.heap.size < wr.heap.size ∧
      Aside (wr.ownsRow w.heap.size 5 1 (.slice (some ⟨w.heap.size, 0, none⟩) n n) n ((fillX n k).map encU8) ∧ Below w.heap.size w wr))
    case atStart => exact ⟨0, Nat.zero_le _, by omega, rfl, hszm, by have := Hmo.out; rw [HZ0.out] at this; exact this, Hmb.out⟩
    case round =>
      obtain ⟨k, hk, hg, rfl, hsz, HA⟩ := hrel
      clear HZ0
      by_cases hlt : k < n
      · have j5 : ∃ v, wr.cell? ⟨w.heap.size, k, none⟩ = some v := by
          rw [HA.out.1.cellAt k (by omega), List.getElem?_eq_getElem (by rw [List.length_map, fillX_length _ _ hk]; exact hlt)]
          exact ⟨_, rfl⟩
        obtain ⟨v5, j5⟩ := j5
        have j6 := HA.out.1.frozenAt k
        have HST := Lib.hid (show (wr.setCell ⟨w.heap.size, k, none⟩ (.int .u8 120)).ownsRow w.heap.size 5 1 (.slice (some ⟨w.heap.size, 0, none⟩) n n) n ((fillX n (k + 1)).map encU8) by
          have := (HA.out.1.stored k (encU8 120)).1
          rw [← List.map_set, fillX_set n k hlt] at this
          exact this)
        go_wp2
        go_roundg (n - (k + 1))
        case measure => omega
        case rel => exact ⟨k + 1, by omega, by omega, by go_num, by simpa using hsz, HST.out, HA.out.2.setCell (by simp) _⟩
      · obtain rfl : k = n := by omega
        have HC : Cel wr (some ⟨w.heap.size, 0, none⟩) ((List.replicate k 120).map encU8) := by
          obtain ⟨ao3, cap3, e3, h3⟩ := Cel.of_owns HA.out.1
          cases e3
          rw [fillX_all] at h3
          exact h3
        have HC2 := Lib.hid HC
        clear HC
        go_wp2_with (first
          | ((with_reducible refine wpList_string_of 5 (List.replicate k 120) (some ⟨w.heap.size, 0, none⟩) k k ?_ ?_ ?_ Try.underlying50 Try.underlying9 Try.underlying5 ?_); (· simp); (· rfl); (· first | exact HC2.out | exact HC2.out.go HB1.out))
          | (go_at_call 12; refine (HW.out _).mono ?_; rintro e w1 ⟨ao, cap, rfl, hc1, hb1⟩; (have HB1 := Lib.hid hb1; clear hc1 hb1))
          | (go_at_call 34; go_must (refine (HJ.out _ _ (cel_new _ _ _ _)).mono ?_); rintro e w2 ⟨rfl, hb2⟩; (have HB2 := Lib.hid hb2; clear hb2))
          | (go_at_call 11; refine (alive03_any _).mono ?_; rintro e w3 ⟨rfl, hb3⟩))
        go_ret
        exact ⟨rfl, (((HA.out.2.st HB1.out).al _).st HB2.out).st hb3⟩

end Go.Proofs.Ytfjplphdkfiljaa
