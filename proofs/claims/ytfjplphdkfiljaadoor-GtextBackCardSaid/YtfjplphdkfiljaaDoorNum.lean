/-
  Walks of package num and its reference: sums, the least of two, remainders.
-/
import Derived.Test.YtfjplphdkfiljaaDoorProg
import Derived.Test.YtfjplphdkfiljaaDoorBits
namespace Go.Proofs.YtfjplphdkfiljaaDoor
open Go.Proofs Go.RowKit Go.Shelf

set_option maxHeartbeats 400000 in
theorem refSum_any (l : List Int) (ao : Option Addr) (cap : Nat) (w : World) (hb : ∀ x ∈ l, W64 x) (hl : l.length ≤ 9223372036854775807) (hc : Cel w ao (l.map encW)) :
    Calls Tryd.prog 23 #[.slice ao l.length cap] w fun e w' => e = .returned (pairV (sumI 0 l)) ∧ w' = w := by
  have HC := Lib.hid hc
  have HB := Lib.hid hb
  have H0 := Lib.hid (show sumI 0 (l.drop 0) = sumI 0 l by simp)
  clear hc hb
  generalize sumI 0 l = r at *
  go_enter Tryd.func23, Tryd.ntmps23
  go_wp2
  go_loop [4, 5] (fun v i => ∃ (k : Nat) (n : Int), k ≤ l.length ∧ v = .int .u64 n ∧ i = .int .i64 k ∧ 0 ≤ n ∧ n < 18446744073709551616 ∧ Aside (sumI n (l.drop k) = r)) (fun v i => l.length - (intOf i).toNat)
  case atStart => exact ⟨0, 0, Nat.zero_le _, rfl, rfl, by decide, by decide, H0.out⟩
  case round =>
    obtain ⟨k, n, hk, rfl, rfl, n0, n1, HA⟩ := hrel
    by_cases hlt : k < l.length
    · obtain ⟨b, o, hao, f1⟩ := HC.out.at hlt
      subst hao
      obtain ⟨x0, x1⟩ := HB.out l[k] (List.getElem_mem hlt)
      have HY := Lib.hid (sumI_ok (n := n) hlt)
      have HN := Lib.hid (sumI_over (n := n) hlt)
      obtain ⟨x, hxe⟩ : ∃ x, l[k] = x := ⟨_, rfl⟩
      rw [hxe] at f1 x0 x1 HY HN
      clear hxe
      have HD := Lib.hid (fun W => refAdd_any n x ⟨n0, n1⟩ ⟨x0, x1⟩ W)
      by_cases h : n + x < 18446744073709551616
      · rw [show addI n x = (n + x, 0) from if_pos h] at HD
        have HS := Lib.hid (HY.out h)
        go_wp2_with (go_at_call 28; refine (HD.out _).mono ?_; rintro e w1 ⟨rfl, rfl⟩)
        go_round
        case rel => exact ⟨k + 1, n + x, by omega, rfl, by go_num, by omega, h, by show _ = _; rw [← HS.out]; exact HA.out⟩
        case measure => simp [intOf]; omega
      · rw [show addI n x = (0, 6) from if_neg h] at HD
        have HS := Lib.hid (HN.out h)
        go_wp2_with (go_at_call 28; refine (HD.out _).mono ?_; rintro e w1 ⟨rfl, rfl⟩)
        go_ret2
        exact ⟨by rw [← HA.out, HS.out]; rfl, rfl⟩
    · obtain rfl : k = l.length := by omega
      have HE := Lib.hid (sumI_end l n)
      go_wp2
      go_ret2
      exact ⟨by rw [← HA.out, HE.out]; rfl, rfl⟩

set_option maxHeartbeats 400000 in
theorem Sum_any (l : List Int) (ao : Option Addr) (cap : Nat) (w : World) (hb : ∀ x ∈ l, W64 x) (hl : l.length ≤ 9223372036854775807) (hc : Cel w ao (l.map encW)) :
    Calls Tryd.prog 22 #[.slice ao l.length cap] w fun e w' => e = .returned (pairV (sumI 0 l)) ∧ w' = w := by
  have HC := Lib.hid hc
  have HB := Lib.hid hb
  have H0 := Lib.hid (show sumI 0 (l.drop 0) = sumI 0 l by simp)
  clear hc hb
  generalize sumI 0 l = r at *
  go_enter Tryd.func22, Tryd.ntmps22
  repeat go_step
  refine wp_scope_labels 0 (fun _ _ _ _ => False) ?_ (fun _ _ _ _ h => h.elim)
  go_wp2
  go_step3
  repeat go_step
  go_loop [2, 3, 8] (fun v f i => ∃ (k : Nat) (n : Int), k ≤ l.length ∧ v = .int .u64 n ∧ f = .int .i64 0 ∧ i = .int .i64 k ∧ 0 ≤ n ∧ n < 18446744073709551616 ∧ Aside (sumI n (l.drop k) = r)) (fun v f i => l.length - (intOf i).toNat)
  case atStart => exact ⟨0, 0, Nat.zero_le _, rfl, rfl, rfl, by decide, by decide, H0.out⟩
  case round =>
    obtain ⟨k, n, hk, rfl, rfl, rfl, n0, n1, HA⟩ := hrel
    by_cases hlt : k < l.length
    · obtain ⟨b, o, hao, f1⟩ := HC.out.at hlt
      subst hao
      obtain ⟨x0, x1⟩ := HB.out l[k] (List.getElem_mem hlt)
      have HY := Lib.hid (sumI_ok (n := n) hlt)
      have HN := Lib.hid (sumI_over (n := n) hlt)
      obtain ⟨x, hxe⟩ : ∃ x, l[k] = x := ⟨_, rfl⟩
      rw [hxe] at f1 x0 x1 HY HN
      clear hxe
      have HD := Lib.hid (fun W => Add_any n x ⟨n0, n1⟩ ⟨x0, x1⟩ W)
      by_cases h : n + x < 18446744073709551616
      · rw [show addI n x = (n + x, 0) from if_pos h] at HD
        have HS := Lib.hid (HY.out h)
        go_wp2_with (go_at_call 20; refine (HD.out _).mono ?_; rintro e w1 ⟨rfl, rfl⟩)
        go_round
        case rel => exact ⟨k + 1, n + x, by omega, rfl, rfl, by go_num, by omega, h, by show _ = _; rw [← HS.out]; exact HA.out⟩
        case measure => simp [intOf]; omega
      · rw [show addI n x = (0, 6) from if_neg h] at HD
        have HS := Lib.hid (HN.out h)
        go_wp2_with (go_at_call 20; refine (HD.out _).mono ?_; rintro e w1 ⟨rfl, rfl⟩)
        simp only [jumps_ret]
        go_ret2
        exact ⟨by rw [← HA.out, HS.out]; rfl, rfl⟩
    · obtain rfl : k = l.length := by omega
      have HE := Lib.hid (sumI_end l n)
      go_wp2
      go_ret2
      exact ⟨by rw [← HA.out, HE.out]; rfl, rfl⟩

theorem Cap_any (a b : Int) (w : World) :
    Calls Tryd.prog 32 #[.int .u64 a, .int .u64 b] w fun e w' => e = .returned (.int .u64 (min a b)) ∧ w' = w := by
  go_enter Tryd.func32, Tryd.ntmps32
  go_wp2
  go_ret
  exact ⟨by first | rfl | simp, rfl⟩

def modN (i n : Int) : Int := if n < 1 then 0 else i % n
theorem tmod_emod (i n : Int) (hn : 1 ≤ n) : i.tmod n = i % n ∨ i.tmod n = i % n - n := by
  rw [Int.tmod_eq_emod]
  split
  · exact .inl (by omega)
  · exact .inr (by omega)
theorem tmod_zero_neg (i n : Int) (hn : 1 ≤ n) (h : i.tmod n = i % n - n) : i.tmod n < 0 := by
  have := Int.emod_lt_of_pos i (show 0 < n by omega)
  omega

theorem tmod_bd0 (a b : Int) (hb : 1 ≤ b) : -b < a.tmod b ∧ a.tmod b < b := ⟨Int.lt_tmod_of_pos a (by omega), Int.tmod_lt_of_pos a (by omega)⟩

theorem Mod_num (i n : Int) (w : World) (h2 : n ≤ 4611686018427387904) :
    Calls Tryd.prog 33 #[.int .i64 i, .int .i64 n] w fun e w' => e = .returned (.int .i64 (modN i n)) ∧ w' = w := by
  unfold modN
  by_cases h : n < 1
  · rw [if_pos h]
    go_enter Tryd.func33, Tryd.ntmps33
    go_wp2
    go_ret
    exact ⟨rfl, rfl⟩
  · rw [if_neg h]
    have e0 := Int.emod_nonneg i (b := n) (by omega)
    have e1 := Int.emod_lt_of_pos i (show 0 < n by omega)
    have hm := tmod_emod i n (by omega)
    have hk : (i.tmod n + n).tmod n = i % n := by
      rcases hm with h3 | h3
      · rw [h3, Int.tmod_eq_emod_of_nonneg (by omega), Int.add_emod_right, Int.emod_emod_of_dvd _ (Int.dvd_refl n)]
      · rw [h3, show i % n - n + n = i % n by omega, Int.tmod_eq_emod_of_nonneg e0, Int.emod_emod_of_dvd _ (Int.dvd_refl n)]
    have HK := Lib.hid hk
    clear hk
    have hb0 : (n == 0) = false := by simp; omega
    have hb3 : ¬ n = 0 := by omega
    generalize i % n = r at *
    have hm1 := tmod_bd0 i n (by omega)
    generalize hmm : i.tmod n = m at *
    obtain ⟨t, ht⟩ : ∃ t, (m + n).tmod n = t := ⟨_, rfl⟩
    have HK2 := Lib.hid (ht ▸ HK.out)
    have ht0 : 0 ≤ t ∧ t < n := by rw [HK2.out]; exact ⟨e0, e1⟩
    clear hm HK
    go_enter Tryd.func33, Tryd.ntmps33
    go_wp2
    go_ret
    exact ⟨by rw [HK2.out]; rfl, rfl⟩

theorem refMod_num (i n : Int) (w : World) (h2 : n ≤ 4611686018427387904) :
    Calls Tryd.prog 34 #[.int .i64 i, .int .i64 n] w fun e w' => e = .returned (.int .i64 (modN i n)) ∧ w' = w := by
  unfold modN
  by_cases h : n < 1
  · rw [if_pos h]
    go_enter Tryd.func34, Tryd.ntmps34
    go_wp2
    go_ret
    exact ⟨rfl, rfl⟩
  · rw [if_neg h]
    have e0 := Int.emod_nonneg i (b := n) (by omega)
    have e1 := Int.emod_lt_of_pos i (show 0 < n by omega)
    have hm := tmod_emod i n (by omega)
    have hb0 : (n == 0) = false := by simp; omega
    have hb3 : ¬ n = 0 := by omega
    generalize i % n = r at *
    have hz := tmod_bd0 i n (by omega)
    generalize hmm : i.tmod n = m at *
    by_cases hneg : m < 0
    · have hr : r = m + n := by omega
      have HR := Lib.hid hr
      clear hr hm
      go_enter Tryd.func34, Tryd.ntmps34
      go_wp2
      go_ret
      exact ⟨by rw [HR.out]; first | done | rfl, rfl⟩
    · have hr : r = m := by omega
      have HR := Lib.hid hr
      clear hr hm
      go_enter Tryd.func34, Tryd.ntmps34
      go_wp2
      go_ret
      exact ⟨by rw [HR.out]; first | done | rfl, rfl⟩

end Go.Proofs.YtfjplphdkfiljaaDoor
