/-
  Walks of package num and its reference: sums, the least of two, remainders.
  Walks: the number of some digits, num.Parse and its reference.
-/
import Derived.Test.YtelcmkccfjdmjaaGreatDoorProg
import Derived.Test.YtelcmkccfjdmjaaGreatDoorBits
namespace Go.Proofs.YtelcmkccfjdmjaaGreatDoor
open Go.Proofs Go.RowKit Go.Shelf

def modN (i n : Int) : Int := if n < 1 then 0 else i % n
theorem tmod_emod (i n : Int) (hn : 1 ≤ n) : i.tmod n = i % n ∨ i.tmod n = i % n - n := by
  rw [Int.tmod_eq_emod]
  split
  · exact .inl (by omega)
  · exact .inr (by omega)
theorem tmod_zero_neg (i n : Int) (hn : 1 ≤ n) (h : i.tmod n = i % n - n) : i.tmod n < 0 := by
  have := Int.emod_lt_of_pos i (show 0 < n by omega)
  omega

theorem tmod_bd0 (a b : Int) (hb : 1 ≤ b) : -b < a.tmod b ∧ a.tmod b < b := ⟨Int.lt_tmod_of_pos a (by omega), Int.tmod_lt_of_pos a (by omega)⟩

end Go.Proofs.YtelcmkccfjdmjaaGreatDoor

namespace Go.Proofs.YtelcmkccfjdmjaaGreatDoor
open Go.Proofs Go.RowKit Go.Shelf

def pv (s : ByteArray) (k : Nat) : Int := valD (s.data.toList.take k) 0
theorem pv_zero (s : ByteArray) : pv s 0 = 0 := by simp [pv, valD]
theorem pv_step (s : ByteArray) (k : Nat) (h : k < s.size) : pv s (k + 1) = pv s k * 10 + ((s[k].toNat : Int) - 48) := by
  have hk : k < s.data.toList.length := by simpa using h
  unfold pv
  rw [valD_take_succ hk]
  rfl
theorem pv_all (s : ByteArray) : pv s s.size = valD s.data.toList 0 := by
  unfold pv
  rw [List.take_of_length_le (by simp)]
theorem pv_le (s : ByteArray) (k : Nat) (h : ¬ (s.data.toList.any fun c => !isDig c) = true) : pv s k ≤ valD s.data.toList 0 := by
  refine (valD_take_le k fun c hc => ?_).2
  have h2 : s.data.toList.any (fun c => !isDig c) = false := by simpa using h
  rw [List.any_eq_false] at h2
  simpa using h2 c hc
theorem dig_all (s : ByteArray) (h : ∀ j (hj : j < s.size), j < s.size → isDig s[j] = true) : ¬ (s.data.toList.any fun c => !isDig c) = true := by
  rw [List.any_eq_true]
  rintro ⟨c, hc, h2⟩
  obtain ⟨j, hj, rfl⟩ := List.getElem_of_mem hc
  have hj2 : j < s.size := by simpa using hj
  have h3 : isDig s.data.toList[j] = true := h j hj2 hj2
  rw [h3] at h2
  cases h2
theorem dig_bad (s : ByteArray) (k : Nat) (hk : k < s.size) (h : isDig s[k] = false) : (s.data.toList.any fun c => !isDig c) = true :=
  List.any_eq_true.2 ⟨s[k], (by show s.data[k] ∈ _; simp), by simp [h]⟩
theorem dig_no {c : UInt8} (h : isDig c = false) : (c.toNat : Int) < 48 ∨ 57 < (c.toNat : Int) := by
  unfold isDig at h
  rcases Int.lt_or_le (c.toNat : Int) 48 with h1 | h1
  · exact .inl h1
  · rcases Int.lt_or_le 57 (c.toNat : Int) with h2 | h2
    · exact .inr h2
    · simp [h1, h2] at h

theorem size_zero {s : ByteArray} (h : s.size = 0) : s = ByteArray.empty := by
  apply Go.WideShapes.bytes_inj
  exact List.eq_nil_of_length_eq_zero (by simpa using h)
theorem head_at {s : ByteArray} (h : 0 < s.size) : s.data.toList.headD 0 = s[0] := by
  have hk : 0 < s.data.toList.length := by simpa using h
  rw [List.headD_eq_head?_getD, List.head?_eq_getElem?, List.getElem?_eq_getElem hk]
  rfl
theorem one_zero {s : ByteArray} (h : s.size = 1) (h2 : s[0]'(by omega) = 48) : s = ⟨#[48]⟩ := by
  apply Go.WideShapes.bytes_inj
  have hl : s.data.toList.length = 1 := by simpa using h
  match hx : s.data.toList, hl with
  | [c], _ =>
    have h3 := head_at (s := s) (by omega)
    rw [hx] at h3
    simp at h3
    rw [h3, h2]

set_option maxHeartbeats 1000000 in
theorem refParse_any (s : ByteArray) (w : World) (hs : s.size ≤ 140737488355328) :
    Calls Tryz.prog 84 #[.string s] w fun e w' => e = .returned (pairV (parseI s)) ∧ w' = w := by
  by_cases h0 : s.size = 0
  · obtain rfl := size_zero h0
    rw [show parseI ByteArray.empty = (0, 3) from parseI_bad (.inl rfl)]
    clear h0
    go_enter Tryz.func84, Tryz.ntmps84
    go_wp2
    go_ret2
    exact ⟨rfl, rfl⟩
  have hpos : 0 < s.size := by omega
  have hh := head_at hpos
  by_cases hz : s[0] = 48 ∧ s.size ≠ 1
  · rw [show parseI s = (0, 3) from parseI_bad (.inr ⟨hh.trans hz.1, hz.2⟩)]
    have hc : (s[0].toNat : Int) = 48 := by rw [hz.1]; rfl
    have h1 : 1 < s.size := by omega
    clear hz hh
    go_enter Tryz.func84, Tryz.ntmps84
    go_wp2
    go_ret2
    exact ⟨rfl, rfl⟩
  have hno : ¬ noNum s := by
    unfold noNum
    rintro (h | ⟨h1, h2⟩)
    · exact h0 h
    · exact hz ⟨hh ▸ h1, h2⟩
  have HLET := Lib.hid (parseI_let (s := s))
  have HOVER := Lib.hid (parseI_over hno)
  have HOK := Lib.hid (parseI_ok hno)
  have HLE := Lib.hid (pv_le s)
  have HZ := Lib.hid (pv_zero s)
  have HST := Lib.hid (pv_step s)
  have HALL := Lib.hid (pv_all s)
  have HDA := Lib.hid (dig_all s)
  have HDB := Lib.hid (dig_bad s)
  have hguard : ¬ (1 < s.size ∧ (s[0].toNat : Int) = 48) := by
    rintro ⟨h1, h2⟩
    exact hz ⟨by apply UInt8.toNat_inj.1; have : s[0].toNat = 48 := by omega
                 rw [this]; rfl, by omega⟩
  clear hz hh hno
  generalize parseI s = r at *
  generalize valD s.data.toList 0 = tv at *
  generalize pv s = V at *
  go_enter Tryz.func84, Tryz.ntmps84
  by_cases hs1 : 1 < s.size
  · have hs0 : ¬ (s[0].toNat : Int) = 48 := fun h => hguard ⟨hs1, h⟩
    have e1 : ((s.size : Int) == 0) = false := by rw [beq_eq_false_iff_ne]; omega
    have e2 : ((s[0].toNat : Int) == 48) = false := by simpa using hs0
    clear hguard
    go_wp2
    go_loop [4] (fun i => ∃ k : Nat, k ≤ s.size ∧ i = .int .i64 k ∧ Aside (∀ j (h : j < s.size), j < k → isDig s[j] = true)) (fun i => s.size - (intOf i).toNat)
    case atStart => exact ⟨0, Nat.zero_le _, rfl, fun j _ h => absurd h (Nat.not_lt_zero _)⟩
    case round =>
      obtain ⟨k, hk, rfl, HA⟩ := hrel
      by_cases hlt : k < s.size
      · cases hd : isDig s[k] with
        | true =>
          obtain ⟨d0, d1⟩ := isDig_of hd
          have HT := Lib.hid (fun j (h : j < s.size) (h2 : j < k + 1) => (by
            by_cases e : j = k
            · subst e; exact hd
            · exact HA.out j h (by omega) : isDig s[j] = true))
          clear hd
          go_wp2
          go_round
          case rel => exact ⟨k + 1, by omega, by go_num, HT.out⟩
          case measure => simp [intOf]; omega
        | false =>
          have HR := Lib.hid (HLET.out (HDB.out k hlt hd))
          have hcases := dig_no hd
          clear hd
          by_cases hq : (s[k].toNat : Int) < 48
          · go_wp2
            go_ret2
            exact ⟨by rw [HR.out]; rfl, rfl⟩
          · have hq2 : 57 < (s[k].toNat : Int) := by omega
            clear hcases
            go_wp2
            go_ret2
            exact ⟨by rw [HR.out]; rfl, rfl⟩
      · obtain rfl : k = s.size := by omega
        have HNO := Lib.hid (HDA.out HA.out)
        have HDG := Lib.hid HA.out
        clear HA HLET HDB
        go_wp2
        go_loop [5, 6] (fun v i => ∃ (k : Nat) (n : Int), k ≤ s.size ∧ v = .int .u64 n ∧ i = .int .i64 k ∧ 0 ≤ n ∧ n < 18446744073709551616 ∧ Aside (n = V k)) (fun v i => s.size - (intOf i).toNat)
        case atStart => exact ⟨0, 0, Nat.zero_le _, rfl, rfl, by decide, by decide, HZ.out.symm⟩
        case round =>
          obtain ⟨k, n, hk, rfl, rfl, n0, n1, HV⟩ := hrel
          by_cases hlt : k < s.size
          · obtain ⟨d0, d1⟩ := isDig_of (HDG.out k hlt hlt)
            have hst := HST.out k hlt
            have hle := HLE.out (k + 1) HNO.out
            rw [← HV.out] at hst
            have HM := Lib.hid (fun W => refMul_any n 10 ⟨n0, n1⟩ ⟨by decide, by decide⟩ W)
            by_cases hm : n * 10 < 18446744073709551616
            · rw [show mulI n 10 = (n * 10, 0) from if_pos hm] at HM
              have HAD := Lib.hid (fun W => refAdd_any (n * 10) ((s[k].toNat : Int) - 48) ⟨by omega, hm⟩ ⟨by omega, by omega⟩ W)
              by_cases ha : n * 10 + ((s[k].toNat : Int) - 48) < 18446744073709551616
              · rw [show addI (n * 10) ((s[k].toNat : Int) - 48) = (n * 10 + ((s[k].toNat : Int) - 48), 0) from if_pos ha] at HAD
                have HS := Lib.hid hst
                clear hst
                go_wp2_with (first
                  | (go_at_call 128; refine (HM.out _).mono ?_; rintro e w1 ⟨rfl, rfl⟩)
                  | (go_at_call 129; refine (HAD.out _).mono ?_; rintro e w1 ⟨rfl, rfl⟩))
                go_round
                case rel => exact ⟨k + 1, n * 10 + ((s[k].toNat : Int) - 48), by omega, rfl, by go_num, by omega, ha, HS.out.symm⟩
                case measure => simp [intOf]; omega
              · rw [show addI (n * 10) ((s[k].toNat : Int) - 48) = (0, 6) from if_neg ha] at HAD
                have HR := Lib.hid (HOVER.out HNO.out (by omega))
                clear hst hle
                go_wp2_with (first
                  | (go_at_call 128; refine (HM.out _).mono ?_; rintro e w1 ⟨rfl, rfl⟩)
                  | (go_at_call 129; refine (HAD.out _).mono ?_; rintro e w1 ⟨rfl, rfl⟩))
                go_ret2
                exact ⟨by rw [HR.out]; rfl, rfl⟩
            · rw [show mulI n 10 = (0, 6) from if_neg hm] at HM
              have HR := Lib.hid (HOVER.out HNO.out (by omega))
              clear hst hle
              go_wp2_with (go_at_call 128; refine (HM.out _).mono ?_; rintro e w1 ⟨rfl, rfl⟩)
              go_ret2
              exact ⟨by rw [HR.out]; rfl, rfl⟩
          · obtain rfl : k = s.size := by omega
            have HR := Lib.hid (HOK.out HNO.out (by rw [← HALL.out, ← HV.out]; omega))
            have HV2 := Lib.hid (HV.out.trans HALL.out)
            go_wp2
            go_ret2
            exact ⟨by rw [HR.out, ← HV2.out]; rfl, rfl⟩
  · clear hguard
    go_wp2
    go_loop [4] (fun i => ∃ k : Nat, k ≤ s.size ∧ i = .int .i64 k ∧ Aside (∀ j (h : j < s.size), j < k → isDig s[j] = true)) (fun i => s.size - (intOf i).toNat)
    case atStart => exact ⟨0, Nat.zero_le _, rfl, fun j _ h => absurd h (Nat.not_lt_zero _)⟩
    case round =>
      obtain ⟨k, hk, rfl, HA⟩ := hrel
      by_cases hlt : k < s.size
      · cases hd : isDig s[k] with
        | true =>
          obtain ⟨d0, d1⟩ := isDig_of hd
          have HT := Lib.hid (fun j (h : j < s.size) (h2 : j < k + 1) => (by
            by_cases e : j = k
            · subst e; exact hd
            · exact HA.out j h (by omega) : isDig s[j] = true))
          clear hd
          go_wp2
          go_round
          case rel => exact ⟨k + 1, by omega, by go_num, HT.out⟩
          case measure => simp [intOf]; omega
        | false =>
          have HR := Lib.hid (HLET.out (HDB.out k hlt hd))
          have hcases := dig_no hd
          clear hd
          by_cases hq : (s[k].toNat : Int) < 48
          · go_wp2
            go_ret2
            exact ⟨by rw [HR.out]; rfl, rfl⟩
          · have hq2 : 57 < (s[k].toNat : Int) := by omega
            clear hcases
            go_wp2
            go_ret2
            exact ⟨by rw [HR.out]; rfl, rfl⟩
      · obtain rfl : k = s.size := by omega
        have HNO := Lib.hid (HDA.out HA.out)
        have HDG := Lib.hid HA.out
        clear HA HLET HDB
        go_wp2
        go_loop [5, 6] (fun v i => ∃ (k : Nat) (n : Int), k ≤ s.size ∧ v = .int .u64 n ∧ i = .int .i64 k ∧ 0 ≤ n ∧ n < 18446744073709551616 ∧ Aside (n = V k)) (fun v i => s.size - (intOf i).toNat)
        case atStart => exact ⟨0, 0, Nat.zero_le _, rfl, rfl, by decide, by decide, HZ.out.symm⟩
        case round =>
          obtain ⟨k, n, hk, rfl, rfl, n0, n1, HV⟩ := hrel
          by_cases hlt : k < s.size
          · obtain ⟨d0, d1⟩ := isDig_of (HDG.out k hlt hlt)
            have hst := HST.out k hlt
            have hle := HLE.out (k + 1) HNO.out
            rw [← HV.out] at hst
            have HM := Lib.hid (fun W => refMul_any n 10 ⟨n0, n1⟩ ⟨by decide, by decide⟩ W)
            by_cases hm : n * 10 < 18446744073709551616
            · rw [show mulI n 10 = (n * 10, 0) from if_pos hm] at HM
              have HAD := Lib.hid (fun W => refAdd_any (n * 10) ((s[k].toNat : Int) - 48) ⟨by omega, hm⟩ ⟨by omega, by omega⟩ W)
              by_cases ha : n * 10 + ((s[k].toNat : Int) - 48) < 18446744073709551616
              · rw [show addI (n * 10) ((s[k].toNat : Int) - 48) = (n * 10 + ((s[k].toNat : Int) - 48), 0) from if_pos ha] at HAD
                have HS := Lib.hid hst
                clear hst
                go_wp2_with (first
                  | (go_at_call 128; refine (HM.out _).mono ?_; rintro e w1 ⟨rfl, rfl⟩)
                  | (go_at_call 129; refine (HAD.out _).mono ?_; rintro e w1 ⟨rfl, rfl⟩))
                go_round
                case rel => exact ⟨k + 1, n * 10 + ((s[k].toNat : Int) - 48), by omega, rfl, by go_num, by omega, ha, HS.out.symm⟩
                case measure => simp [intOf]; omega
              · rw [show addI (n * 10) ((s[k].toNat : Int) - 48) = (0, 6) from if_neg ha] at HAD
                have HR := Lib.hid (HOVER.out HNO.out (by omega))
                clear hst hle
                go_wp2_with (first
                  | (go_at_call 128; refine (HM.out _).mono ?_; rintro e w1 ⟨rfl, rfl⟩)
                  | (go_at_call 129; refine (HAD.out _).mono ?_; rintro e w1 ⟨rfl, rfl⟩))
                go_ret2
                exact ⟨by rw [HR.out]; rfl, rfl⟩
            · rw [show mulI n 10 = (0, 6) from if_neg hm] at HM
              have HR := Lib.hid (HOVER.out HNO.out (by omega))
              clear hst hle
              go_wp2_with (go_at_call 128; refine (HM.out _).mono ?_; rintro e w1 ⟨rfl, rfl⟩)
              go_ret2
              exact ⟨by rw [HR.out]; rfl, rfl⟩
          · obtain rfl : k = s.size := by omega
            have HR := Lib.hid (HOK.out HNO.out (by rw [← HALL.out, ← HV.out]; omega))
            have HV2 := Lib.hid (HV.out.trans HALL.out)
            go_wp2
            go_ret2
            exact ⟨by rw [HR.out, ← HV2.out]; rfl, rfl⟩

theorem digit_sum {n d : Int} (n0 : 0 ≤ n) (d0 : 0 ≤ d) (d1 : d ≤ 9) :
    ((n * 10 % 18446744073709551616 + d) % 18446744073709551616 = (n * 10 + d) % 18446744073709551616) ∧
    n * 10 / 18446744073709551616 + (n * 10 % 18446744073709551616 + d) / 18446744073709551616 = (n * 10 + d) / 18446744073709551616 := by
  constructor <;> omega

/-- the state of the reading: n is the number so far, or it is beyond all -/
def PS (s : ByteArray) (k : Nat) (n : Int) (b : Bool) : Prop :=
  (∀ j (h : j < s.size), j < k → isDig s[j] = true) ∧ (b = false → n = pv s k) ∧ (b = true → 18446744073709551616 ≤ pv s k)

theorem ps_start (s : ByteArray) : PS s 0 0 false := ⟨fun j _ h => absurd h (Nat.not_lt_zero _), fun _ => (pv_zero s).symm, fun h => by cases h⟩
theorem ps_digs {s : ByteArray} {k : Nat} {n : Int} {b : Bool} (h : PS s k n b) (hk : k < s.size) (hd : isDig s[k] = true) : ∀ j (h : j < s.size), j < k + 1 → isDig s[j] = true := by
  intro j hj h2
  by_cases e : j = k
  · subst e; exact hd
  · exact h.1 j hj (by omega)
theorem ps_in {s : ByteArray} {k : Nat} {n : Int} (h : PS s k n false) (hk : k < s.size) (hd : isDig s[k] = true) : PS s (k + 1) (n * 10 + ((s[k].toNat : Int) - 48)) false :=
  ⟨ps_digs h hk hd, fun _ => by rw [pv_step s k hk, h.2.1 rfl], fun h => by cases h⟩
theorem ps_out {s : ByteArray} {k : Nat} {n m : Int} (h : PS s k n false) (hk : k < s.size) (hd : isDig s[k] = true) (ho : ¬ n * 10 + ((s[k].toNat : Int) - 48) < 18446744073709551616) : PS s (k + 1) m true :=
  ⟨ps_digs h hk hd, fun h => (by cases h), fun _ => by rw [pv_step s k hk, ← h.2.1 rfl]; omega⟩
theorem ps_stay {s : ByteArray} {k : Nat} {n m : Int} (h : PS s k n true) (hk : k < s.size) (hd : isDig s[k] = true) : PS s (k + 1) m true :=
  ⟨ps_digs h hk hd, fun h => (by cases h), fun _ => by
    have h1 := h.2.2 rfl
    have h2 := isDig_of hd
    rw [pv_step s k hk]
    omega⟩
theorem ps_over {s : ByteArray} {n : Int} (h : PS s s.size n true) (hno : ¬ noNum s) : parseI s = (0, 6) :=
  parseI_over hno (dig_all s h.1) (by rw [← pv_all]; exact h.2.2 rfl)
theorem ps_ok {s : ByteArray} {n : Int} (h : PS s s.size n false) (hno : ¬ noNum s) (hn : n < 18446744073709551616) : parseI s = (n, 0) := by
  have e := h.2.1 rfl
  rw [pv_all] at e
  rw [e]
  exact parseI_ok hno (dig_all s h.1) (by omega)

set_option maxHeartbeats 1000000 in
theorem Parse_any (s : ByteArray) (w : World) (hs : s.size ≤ 140737488355328) :
    Calls Tryz.prog 80 #[.string s] w fun e w' => e = .returned (pairV (parseI s)) ∧ Below w.heap.size w w' := by
  by_cases h0 : s.size = 0
  · obtain rfl := size_zero h0
    rw [show parseI ByteArray.empty = (0, 3) from parseI_bad (.inl rfl)]
    clear h0
    go_enter Tryz.func80, Tryz.ntmps80
    go_wp2
    go_ret2
    exact ⟨rfl, Below.refl _ _⟩
  have hpos : 0 < s.size := by omega
  have hh := head_at hpos
  have he : (s.toList == []) = false := by
    rw [ByteArray.toList_eq, beq_eq_false_iff_ne]
    intro e
    have h2 : s.data.toList.length = s.size := by simp
    rw [e] at h2
    exact h0 h2.symm
  by_cases hz : s[0] = 48 ∧ s.size ≠ 1
  · rw [show parseI s = (0, 3) from parseI_bad (.inr ⟨hh.trans hz.1, hz.2⟩)]
    have hc : (s[0].toNat : Int) = 48 := by rw [hz.1]; rfl
    have h1 : 1 < s.size := by omega
    have he2 : (s.toList == [48]) = false := by
      rw [ByteArray.toList_eq, beq_eq_false_iff_ne]
      intro e
      have := congrArg List.length e
      simp at this
      omega
    clear hz hh
    go_enter Tryz.func80, Tryz.ntmps80
    go_wp2
    go_ret2
    exact ⟨rfl, Below.refl _ _⟩
  have hno : ¬ noNum s := by
    unfold noNum
    rintro (h | ⟨h1, h2⟩)
    · exact h0 h
    · exact hz ⟨hh ▸ h1, h2⟩
  have HLET := Lib.hid (fun k hk h => parseI_let (s := s) (dig_bad s k hk h))
  have HOVER := Lib.hid (fun n h => ps_over (s := s) (n := n) h hno)
  have HOK := Lib.hid (fun n h => ps_ok (s := s) (n := n) h hno)
  have hcases : (¬ (s[0].toNat : Int) = 48) ∨ ((s[0].toNat : Int) = 48 ∧ (s.toList == [48]) = true) := by
    by_cases h1 : s[0] = 48
    · refine .inr ⟨by rw [h1]; rfl, ?_⟩
      have h3 := one_zero (Classical.byContradiction fun h2 => hz ⟨h1, h2⟩) h1
      rw [h3]
      rw [ByteArray.toList_eq]
      rfl
    · refine .inl fun h2 => h1 ?_
      apply UInt8.toNat_inj.1
      have : s[0].toNat = 48 := by omega
      rw [this]; rfl
  clear hz hh hno
  generalize parseI s = r at *
  rcases hcases with hs0 | ⟨hs0, hs1⟩
  · have e2 : ((s[0].toNat : Int) == 48) = false := by simpa using hs0
    go_enter Tryz.func80, Tryz.ntmps80
    go_wp2_with ((with_reducible refine wpList_bytes_of 5 s ?_ Tryz.underlying9 Tryz.underlying113 Tryz.underlying5 ?_); (· rfl); intro cap1 w1 hown hb hsz1; (have HO1 := Lib.hid hown; have HB1 := Lib.hid hb; clear hown hb))
    go_loop [2, 4, 25] (fun v o i => ∃ (k : Nat) (n : Int) (b : Bool), k ≤ (s).size ∧ v = .int .u64 n ∧ o = .bool b ∧ i = .int .i64 k ∧ 0 ≤ n ∧ n < 18446744073709551616 ∧ Aside (PS s k n b)) (fun v o i => (s).size - (intOf i).toNat)
    case atStart => exact ⟨0, 0, false, Nat.zero_le _, rfl, rfl, rfl, by decide, by decide, ps_start _⟩
    case round =>
      obtain ⟨k, n, b, hk, rfl, rfl, rfl, n0, n1, HA⟩ := hrel
      by_cases hlt : k < (s).size
      · have hcell : w1.cell? ⟨w.heap.size, k, none⟩ = some (.int .u8 ((s)[k].toNat : Int)) := by
          refine HO1.out.cell ?_
          have hkl : k < (s).data.toList.length := by simpa using hlt
          rw [List.getElem?_map, List.getElem?_eq_getElem hkl]; rfl
        cases hd : isDig (s)[k] with
        | false =>
          have HR := Lib.hid (HLET.out k hlt hd)
          have hcases := dig_no hd
          have hc0 : (0 : Int) ≤ ((s)[k].toNat : Int) := by omega
          clear hd
          generalize ((s)[k].toNat : Int) = c at *
          by_cases hq : c < 48
          · go_wp2
            go_ret2
            exact ⟨by rw [HR.out]; rfl, HB1.out⟩
          · have hq2 : 57 < c := by omega
            clear hcases
            go_wp2
            go_ret2
            exact ⟨by rw [HR.out]; rfl, HB1.out⟩
        | true =>
          obtain ⟨d0, d1⟩ := isDig_of hd
          have HM := Lib.hid (fun W => mul64 n 10 n0 n1 (by decide) (by decide) W)
          have HAD := Lib.hid (fun W => add64_0 (n * 10 % 18446744073709551616) (((s)[k].toNat : Int) - 48) (by omega) (by omega) W)
          obtain ⟨g1, g2⟩ := digit_sum (d := ((s)[k].toNat : Int) - 48) n0 (by omega) (by omega)
          have hu : IntKind.u8.wrap (((s)[k].toNat : Int) - 48) = ((s)[k].toNat : Int) - 48 := by rw [IntKind.wrap_u8]; omega
          have m0 : 0 ≤ n * 10 / 18446744073709551616 ∧ n * 10 / 18446744073709551616 ≤ 9 := by omega
          have m1 : 0 ≤ (n * 10 % 18446744073709551616 + (((s)[k].toNat : Int) - 48)) / 18446744073709551616 ∧ (n * 10 % 18446744073709551616 + (((s)[k].toNat : Int) - 48)) / 18446744073709551616 ≤ 1 := by omega
          have m2 : 0 ≤ (n * 10 % 18446744073709551616 + (((s)[k].toNat : Int) - 48)) % 18446744073709551616 ∧ (n * 10 % 18446744073709551616 + (((s)[k].toNat : Int) - 48)) % 18446744073709551616 < 18446744073709551616 := by omega
          have hbig : (n * 10 + (((s)[k].toNat : Int) - 48) < 18446744073709551616 ∧ n * 10 / 18446744073709551616 + (n * 10 % 18446744073709551616 + (((s)[k].toNat : Int) - 48)) / 18446744073709551616 = 0 ∧ (n * 10 % 18446744073709551616 + (((s)[k].toNat : Int) - 48)) % 18446744073709551616 = n * 10 + (((s)[k].toNat : Int) - 48)) ∨
              (¬ n * 10 + (((s)[k].toNat : Int) - 48) < 18446744073709551616 ∧ 0 < n * 10 / 18446744073709551616 + (n * 10 % 18446744073709551616 + (((s)[k].toNat : Int) - 48)) / 18446744073709551616) := by omega
          cases b with
          | true =>
            have HPS := Lib.hid (fun m => ps_stay (m := m) HA.out hlt hd)
            clear hd g1 g2 hbig
            generalize n * 10 / 18446744073709551616 = q1 at *
            generalize (n * 10 % 18446744073709551616 + (((s)[k].toNat : Int) - 48)) / 18446744073709551616 = q2 at *
            generalize (n * 10 % 18446744073709551616 + (((s)[k].toNat : Int) - 48)) % 18446744073709551616 = q3 at *
            generalize n * 10 % 18446744073709551616 = q4 at *
            go_wp2_with (first
              | simp only [HAD.out]
              | (go_at_call 122; refine (HM.out _).mono ?_; rintro e w2 ⟨rfl, rfl⟩))
            go_round
            case rel => exact ⟨k + 1, q3, true, by omega, rfl, rfl, by go_num, m2.1, m2.2, HPS.out q3⟩
            case measure => simp [intOf]; omega
          | false =>
            rcases hbig with ⟨t1, t2, t3⟩ | ⟨t1, t2⟩
            · have HPS := Lib.hid (ps_in HA.out hlt hd)
              rw [← t3] at HPS
              clear hd g1 g2 t1 t3
              generalize n * 10 / 18446744073709551616 = q1 at *
              generalize (n * 10 % 18446744073709551616 + (((s)[k].toNat : Int) - 48)) / 18446744073709551616 = q2 at *
              generalize (n * 10 % 18446744073709551616 + (((s)[k].toNat : Int) - 48)) % 18446744073709551616 = q3 at *
              generalize n * 10 % 18446744073709551616 = q4 at *
              go_wp2_with (first
                | simp only [HAD.out]
                | (go_at_call 122; refine (HM.out _).mono ?_; rintro e w2 ⟨rfl, rfl⟩))
              go_round
              case rel => exact ⟨k + 1, q3, false, by omega, rfl, by first | rfl | simp [t2], by go_num, m2.1, m2.2, HPS.out⟩
              case measure => simp [intOf]; omega
            · have HPS := Lib.hid (fun m => ps_out (m := m) HA.out hlt hd t1)
              clear hd g1 g2 t1
              generalize n * 10 / 18446744073709551616 = q1 at *
              generalize (n * 10 % 18446744073709551616 + (((s)[k].toNat : Int) - 48)) / 18446744073709551616 = q2 at *
              generalize (n * 10 % 18446744073709551616 + (((s)[k].toNat : Int) - 48)) % 18446744073709551616 = q3 at *
              generalize n * 10 % 18446744073709551616 = q4 at *
              go_wp2_with (first
                | simp only [HAD.out]
                | (go_at_call 122; refine (HM.out _).mono ?_; rintro e w2 ⟨rfl, rfl⟩))
              go_round
              case rel => exact ⟨k + 1, q3, true, by omega, rfl, by first | rfl | simp [t2], by go_num, m2.1, m2.2, HPS.out q3⟩
              case measure => simp [intOf]; omega
      · obtain rfl : k = (s).size := by omega
        cases b with
        | true =>
          have HR := Lib.hid (HOVER.out n HA.out)
          go_wp2
          go_ret2
          exact ⟨by rw [HR.out]; rfl, HB1.out⟩
        | false =>
          have HR := Lib.hid (HOK.out n HA.out n1)
          go_wp2
          go_ret2
          exact ⟨by rw [HR.out]; rfl, HB1.out⟩
  · go_enter Tryz.func80, Tryz.ntmps80
    go_wp2_with ((with_reducible refine wpList_bytes_of 5 s ?_ Tryz.underlying9 Tryz.underlying113 Tryz.underlying5 ?_); (· rfl); intro cap1 w1 hown hb hsz1; (have HO1 := Lib.hid hown; have HB1 := Lib.hid hb; clear hown hb))
    go_loop [2, 4, 25] (fun v o i => ∃ (k : Nat) (n : Int) (b : Bool), k ≤ (s).size ∧ v = .int .u64 n ∧ o = .bool b ∧ i = .int .i64 k ∧ 0 ≤ n ∧ n < 18446744073709551616 ∧ Aside (PS s k n b)) (fun v o i => (s).size - (intOf i).toNat)
    case atStart => exact ⟨0, 0, false, Nat.zero_le _, rfl, rfl, rfl, by decide, by decide, ps_start _⟩
    case round =>
      obtain ⟨k, n, b, hk, rfl, rfl, rfl, n0, n1, HA⟩ := hrel
      by_cases hlt : k < (s).size
      · have hcell : w1.cell? ⟨w.heap.size, k, none⟩ = some (.int .u8 ((s)[k].toNat : Int)) := by
          refine HO1.out.cell ?_
          have hkl : k < (s).data.toList.length := by simpa using hlt
          rw [List.getElem?_map, List.getElem?_eq_getElem hkl]; rfl
        cases hd : isDig (s)[k] with
        | false =>
          have HR := Lib.hid (HLET.out k hlt hd)
          have hcases := dig_no hd
          have hc0 : (0 : Int) ≤ ((s)[k].toNat : Int) := by omega
          clear hd
          generalize ((s)[k].toNat : Int) = c at *
          by_cases hq : c < 48
          · go_wp2
            go_ret2
            exact ⟨by rw [HR.out]; rfl, HB1.out⟩
          · have hq2 : 57 < c := by omega
            clear hcases
            go_wp2
            go_ret2
            exact ⟨by rw [HR.out]; rfl, HB1.out⟩
        | true =>
          obtain ⟨d0, d1⟩ := isDig_of hd
          have HM := Lib.hid (fun W => mul64 n 10 n0 n1 (by decide) (by decide) W)
          have HAD := Lib.hid (fun W => add64_0 (n * 10 % 18446744073709551616) (((s)[k].toNat : Int) - 48) (by omega) (by omega) W)
          obtain ⟨g1, g2⟩ := digit_sum (d := ((s)[k].toNat : Int) - 48) n0 (by omega) (by omega)
          have hu : IntKind.u8.wrap (((s)[k].toNat : Int) - 48) = ((s)[k].toNat : Int) - 48 := by rw [IntKind.wrap_u8]; omega
          have m0 : 0 ≤ n * 10 / 18446744073709551616 ∧ n * 10 / 18446744073709551616 ≤ 9 := by omega
          have m1 : 0 ≤ (n * 10 % 18446744073709551616 + (((s)[k].toNat : Int) - 48)) / 18446744073709551616 ∧ (n * 10 % 18446744073709551616 + (((s)[k].toNat : Int) - 48)) / 18446744073709551616 ≤ 1 := by omega
          have m2 : 0 ≤ (n * 10 % 18446744073709551616 + (((s)[k].toNat : Int) - 48)) % 18446744073709551616 ∧ (n * 10 % 18446744073709551616 + (((s)[k].toNat : Int) - 48)) % 18446744073709551616 < 18446744073709551616 := by omega
          have hbig : (n * 10 + (((s)[k].toNat : Int) - 48) < 18446744073709551616 ∧ n * 10 / 18446744073709551616 + (n * 10 % 18446744073709551616 + (((s)[k].toNat : Int) - 48)) / 18446744073709551616 = 0 ∧ (n * 10 % 18446744073709551616 + (((s)[k].toNat : Int) - 48)) % 18446744073709551616 = n * 10 + (((s)[k].toNat : Int) - 48)) ∨
              (¬ n * 10 + (((s)[k].toNat : Int) - 48) < 18446744073709551616 ∧ 0 < n * 10 / 18446744073709551616 + (n * 10 % 18446744073709551616 + (((s)[k].toNat : Int) - 48)) / 18446744073709551616) := by omega
          cases b with
          | true =>
            have HPS := Lib.hid (fun m => ps_stay (m := m) HA.out hlt hd)
            clear hd g1 g2 hbig
            generalize n * 10 / 18446744073709551616 = q1 at *
            generalize (n * 10 % 18446744073709551616 + (((s)[k].toNat : Int) - 48)) / 18446744073709551616 = q2 at *
            generalize (n * 10 % 18446744073709551616 + (((s)[k].toNat : Int) - 48)) % 18446744073709551616 = q3 at *
            generalize n * 10 % 18446744073709551616 = q4 at *
            go_wp2_with (first
              | simp only [HAD.out]
              | (go_at_call 122; refine (HM.out _).mono ?_; rintro e w2 ⟨rfl, rfl⟩))
            go_round
            case rel => exact ⟨k + 1, q3, true, by omega, rfl, rfl, by go_num, m2.1, m2.2, HPS.out q3⟩
            case measure => simp [intOf]; omega
          | false =>
            rcases hbig with ⟨t1, t2, t3⟩ | ⟨t1, t2⟩
            · have HPS := Lib.hid (ps_in HA.out hlt hd)
              rw [← t3] at HPS
              clear hd g1 g2 t1 t3
              generalize n * 10 / 18446744073709551616 = q1 at *
              generalize (n * 10 % 18446744073709551616 + (((s)[k].toNat : Int) - 48)) / 18446744073709551616 = q2 at *
              generalize (n * 10 % 18446744073709551616 + (((s)[k].toNat : Int) - 48)) % 18446744073709551616 = q3 at *
              generalize n * 10 % 18446744073709551616 = q4 at *
              go_wp2_with (first
                | simp only [HAD.out]
                | (go_at_call 122; refine (HM.out _).mono ?_; rintro e w2 ⟨rfl, rfl⟩))
              go_round
              case rel => exact ⟨k + 1, q3, false, by omega, rfl, by first | rfl | simp [t2], by go_num, m2.1, m2.2, HPS.out⟩
              case measure => simp [intOf]; omega
            · have HPS := Lib.hid (fun m => ps_out (m := m) HA.out hlt hd t1)
              clear hd g1 g2 t1
              generalize n * 10 / 18446744073709551616 = q1 at *
              generalize (n * 10 % 18446744073709551616 + (((s)[k].toNat : Int) - 48)) / 18446744073709551616 = q2 at *
              generalize (n * 10 % 18446744073709551616 + (((s)[k].toNat : Int) - 48)) % 18446744073709551616 = q3 at *
              generalize n * 10 % 18446744073709551616 = q4 at *
              go_wp2_with (first
                | simp only [HAD.out]
                | (go_at_call 122; refine (HM.out _).mono ?_; rintro e w2 ⟨rfl, rfl⟩))
              go_round
              case rel => exact ⟨k + 1, q3, true, by omega, rfl, by first | rfl | simp [t2], by go_num, m2.1, m2.2, HPS.out q3⟩
              case measure => simp [intOf]; omega
      · obtain rfl : k = (s).size := by omega
        cases b with
        | true =>
          have HR := Lib.hid (HOVER.out n HA.out)
          go_wp2
          go_ret2
          exact ⟨by rw [HR.out]; rfl, HB1.out⟩
        | false =>
          have HR := Lib.hid (HOK.out n HA.out n1)
          go_wp2
          go_ret2
          exact ⟨by rw [HR.out]; rfl, HB1.out⟩

end Go.Proofs.YtelcmkccfjdmjaaGreatDoor
