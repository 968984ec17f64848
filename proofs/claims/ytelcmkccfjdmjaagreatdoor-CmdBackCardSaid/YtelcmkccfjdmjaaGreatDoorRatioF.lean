/-
  Walks: the reference's ratio of a text, and the statement RatioTexts.
-/
import Derived.Test.YtelcmkccfjdmjaaGreatDoorProg
import Derived.Test.YtelcmkccfjdmjaaGreatDoorRatioD
namespace Go.Proofs.YtelcmkccfjdmjaaGreatDoor
open Go.Proofs Go.RowKit Go.Shelf

/-- the place of the first stroke among the first k letters, or -1 -/
def SL (s : ByteArray) (k : Nat) (a : Int) : Prop :=
  (a = -1 ∧ ∀ j (hj : j < s.size), j < k → s[j] ≠ 47) ∨ ∃ (i : Nat) (hi : i < s.size), a = (i : Int) ∧ i < k ∧ s[i] = 47 ∧ ∀ j (hj : j < s.size), j < i → s[j] ≠ 47
theorem sl_start (s : ByteArray) : SL s 0 (-1) := .inl ⟨rfl, fun j _ h => absurd h (Nat.not_lt_zero _)⟩
theorem sl_bd {s : ByteArray} {k : Nat} {a : Int} (h : SL s k a) (hk : k ≤ s.size) : -1 ≤ a ∧ a < (k : Int) := by
  rcases h with ⟨h, _⟩ | ⟨i, _, h, h2, _⟩ <;> omega
theorem sl_hit {s : ByteArray} {k : Nat} {a : Int} (h : SL s k a) (hk : k < s.size) (ha : a < 0) (hc : s[k] = 47) : SL s (k + 1) (k : Int) := by
  rcases h with ⟨_, h⟩ | ⟨i, _, h, _⟩
  · exact .inr ⟨k, hk, rfl, by omega, hc, h⟩
  · omega
theorem sl_skip {s : ByteArray} {k : Nat} {a : Int} (h : SL s k a) (hk : k < s.size) (hc : s[k] ≠ 47 ∨ 0 ≤ a) : SL s (k + 1) a := by
  rcases h with ⟨rfl, h⟩ | ⟨i, hi, h, h2, h3⟩
  · refine .inl ⟨rfl, fun j hj h2 => ?_⟩
    by_cases e : j = k
    · subst e
      rcases hc with hc | hc
      · exact hc
      · omega
    · exact h j hj (by omega)
  · exact .inr ⟨i, hi, h, by omega, h3⟩
theorem sl_no {s : ByteArray} {a : Int} (h : SL s s.size a) (ha : a < 0) : slI s = -1 := by
  rcases h with ⟨_, h⟩ | ⟨i, _, h, _⟩
  · exact slI_miss h
  · omega
theorem sl_at {s : ByteArray} {i : Nat} (h : SL s s.size (i : Int)) : slI s = (i : Int) := by
  rcases h with ⟨h, _⟩ | ⟨j, hj, h, _, h2, h3⟩
  · omega
  · rw [h]
    exact slI_hit hj h2 h3

theorem u8_47 {c : UInt8} (h : (c.toNat : Int) = 47) : c = 47 := by
  apply UInt8.toNat_inj.1
  have : c.toNat = 47 := by omega
  rw [this]
  rfl

set_option maxHeartbeats 1000000 in
set_option maxRecDepth 100000 in
theorem refRParse_any (s : ByteArray) (w : World) (hs : s.size ≤ 140737488355328) :
    Calls Tryz.prog 150 #[.string s] w fun e w' => e = .returned (parV (parseR s)) ∧ Below w.heap.size w w' := by
  have HNO := Lib.hid (parseR_none (s := s))
  have HAT := Lib.hid (fun i h => parseR_at (s := s) (i := i) h)
  have HCS := Lib.hid (fun f k (h : k ≤ s.size) => cut_size s f k h)
  generalize parseR s = r at *
  go_enter Tryz.func150, Tryz.ntmps150
  go_wp2_with fail
  obtain ⟨W, hW, hz, hB⟩ : ∃ W, W = w.alloc (Obj.cells #[.int .u64 0, .int .u64 0] 98) ∧ Z2 W w.heap.size ∧ Below w.heap.size w W := ⟨_, rfl, z2_new _ _, Below.of_al _ _⟩
  rw [← hW]
  clear hW
  have hltw := z2_lt hz
  have HZ3 := Lib.hid hz
  have HB3 := Lib.hid hB
  clear hz hB
  go_loop [4, 5] (fun a i => ∃ (k : Nat) (t : Int), k ≤ s.size ∧ i = .int .i64 k ∧ a = .int .i64 t ∧ -1 ≤ t ∧ t < 140737488355329 ∧ Aside (SL s k t)) (fun a i => s.size - (intOf i).toNat)
  case atStart => exact ⟨0, -1, Nat.zero_le _, rfl, rfl, by decide, by decide, sl_start s⟩
  case round =>
    obtain ⟨k, t, hk, rfl, rfl, t0, t1, HA⟩ := hrel
    by_cases hlt : k < s.size
    · by_cases hc : s[k] = 47
      · have hcn : (s[k].toNat : Int) = 47 := by rw [hc]; rfl
        by_cases ht : t < 0
        · have HS := Lib.hid (sl_hit HA.out hlt ht hc)
          clear hc
          go_wp2
          go_round
          case rel => exact ⟨k + 1, k, by omega, by go_num, rfl, by omega, by omega, HS.out⟩
          case measure => simp [intOf]; omega
        · have HS := Lib.hid (sl_skip HA.out hlt (.inr (by omega)))
          clear hc
          go_wp2
          go_round
          case rel => exact ⟨k + 1, t, by omega, by go_num, rfl, t0, t1, HS.out⟩
          case measure => simp [intOf]; omega
      · have hcn : ¬ (s[k].toNat : Int) = 47 := fun e => hc (u8_47 e)
        have HS := Lib.hid (sl_skip HA.out hlt (.inl hc))
        clear hc
        go_wp2
        go_round
        case rel => exact ⟨k + 1, t, by omega, by go_num, rfl, t0, t1, HS.out⟩
        case measure => simp [intOf]; omega
    · obtain rfl : k = s.size := by omega
      by_cases ht : t < 0
      · have HR := Lib.hid (HNO.out (sl_no HA.out ht))
        obtain ⟨m0, m1, f0, f1⟩ := HZ3.out
        have r0 := z2_r0 HZ3.out
        have r1 := z2_r1 HZ3.out
        go_wp2
        refine bodyPost_ret (by simp [results, Tryz.results150, go_sem, r0, r1]; try rfl) rfl ?_
        exact ⟨by rw [HR.out], (HB3.out.setCell (by simp) _).setCell (by simp) _⟩
      · obtain ⟨i, rfl⟩ := Int.eq_ofNat_of_zero_le (show 0 ≤ t by omega)
        have hi := (sl_bd HA.out (Nat.le_refl _)).2
        have hr := HAT.out i (sl_at HA.out)
        have k1 := HCS.out 0 i (by omega)
        have k2 := HCS.out (i + 1) s.size (Nat.le_refl _)
        have HP1 := Lib.hid (fun W => refParse_any (s.extract 0 i) W (by omega))
        have HP2 := Lib.hid (fun W => refParse_any (s.extract (i + 1) s.size) W (by omega))
        have hcs := parseP_cases (s.extract 0 i) (s.extract (i + 1) s.size)
        clear HA HNO HAT HCS
        have i2 : i < s.size := by omega
        generalize hxa : s.extract 0 i = xa at *
        generalize hxb : s.extract (i + 1) s.size = xb at *
        rcases hcs with ⟨f, h1, hf⟩ | ⟨v, f, h1, v0, h2, hf⟩ | ⟨v, u, h1, v0, h2, u0⟩
        · have HR := Lib.hid (show r = ((0, 0), 3) by rw [hr, h1]; unfold parseP; rw [if_pos (.inl hf)])
          rw [h1] at HP1
          clear hr h1
          generalize parseI xb = q at *
          obtain ⟨m0, m1, f0, f1⟩ := HZ3.out
          have r0 := z2_r0 HZ3.out
          have r1 := z2_r1 HZ3.out
          go_wp2_with (first
            | (go_at_call_of 84 (Value.string xa); refine (HP1.out _).mono ?_; rintro e w1 ⟨rfl, rfl⟩)
            | (go_at_call_of 84 (Value.string xb); refine (HP2.out _).mono ?_; rintro e w1 ⟨rfl, rfl⟩))
          refine bodyPost_ret (by simp [results, Tryz.results150, go_sem, r0, r1]; try rfl) rfl ?_
          exact ⟨by rw [HR.out], (HB3.out.setCell (by simp) _).setCell (by simp) _⟩
        · have HR := Lib.hid (show r = ((0, 0), 3) by rw [hr, h1, h2]; unfold parseP; rw [if_pos (.inr hf)])
          rw [h1] at HP1
          rw [h2] at HP2
          have hf2 : (f != 0) = true := by simpa using hf
          clear hr h1 h2 v0 hf
          obtain ⟨m0, m1, f0, f1⟩ := HZ3.out
          have r0 := z2_r0 HZ3.out
          have r1 := z2_r1 HZ3.out
          go_wp2_with (first
            | (go_at_call_of 84 (Value.string xa); refine (HP1.out _).mono ?_; rintro e w1 ⟨rfl, rfl⟩)
            | (go_at_call_of 84 (Value.string xb); refine (HP2.out _).mono ?_; rintro e w1 ⟨rfl, rfl⟩))
          refine bodyPost_ret (by simp [results, Tryz.results150, go_sem, r0, r1]; try rfl) rfl ?_
          exact ⟨by rw [HR.out], (HB3.out.setCell (by simp) _).setCell (by simp) _⟩
        · have hr2 : r = if rightR v u = true then ((v, u), 0) else ((0, 0), 2) := by rw [hr, h1, h2]; unfold parseP; simp
          have HG := Lib.hid (fun W => refRight_ratio v u W)
          rw [h1] at HP1
          rw [h2] at HP2
          clear hr h1 h2
          cases hg : rightR v u with
          | true =>
            rw [hg, if_pos rfl] at hr2
            rw [hg] at HG
            have HR := Lib.hid hr2
            clear hr2 hg
            go_wp2_with (first
              | (go_at_call_of 84 (Value.string xa); refine (HP1.out _).mono ?_; rintro e w1 ⟨rfl, hw1⟩; have hq1 := hw1.symm; subst hq1)
              | (go_at_call_of 84 (Value.string xb); refine (HP2.out _).mono ?_; rintro e w1 ⟨rfl, hw1⟩; have hq1 := hw1.symm; subst hq1)
              | fail)
            refine (HG.out _).mono ?_
            rintro e w4 ⟨rfl, hb4⟩
            have HB4 := Lib.hid ((HB3.out.al _).st hb4)
            have HZ5 := Lib.hid (z2_go (z2_go HZ3.out (Below.of_al _ _)) hb4)
            have a0 := cell_later hb4 (a := ⟨W.heap.size, 0, none⟩) (v := .int .u64 v) (by go_simp)
            have a1 := cell_later hb4 (a := ⟨W.heap.size, 1, none⟩) (v := .int .u64 u) (by go_simp)
            clear hb4
            obtain ⟨m0, m1, f0, f1⟩ := HZ5.out
            have r0 := z2_r0 HZ5.out
            have r1 := z2_r1 HZ5.out
            go_wp2
            refine bodyPost_ret (by simp [results, Tryz.results150, go_sem, r0, r1]; try rfl) rfl ?_
            exact ⟨by rw [HR.out], (HB4.out.setCell (by simp) _).setCell (by simp) _⟩
          | false =>
            rw [hg, if_neg (by decide)] at hr2
            rw [hg] at HG
            have HR := Lib.hid hr2
            clear hr2 hg
            go_wp2_with (first
              | (go_at_call_of 84 (Value.string xa); refine (HP1.out _).mono ?_; rintro e w1 ⟨rfl, hw1⟩; have hq1 := hw1.symm; subst hq1)
              | (go_at_call_of 84 (Value.string xb); refine (HP2.out _).mono ?_; rintro e w1 ⟨rfl, hw1⟩; have hq1 := hw1.symm; subst hq1)
              | fail)
            refine (HG.out _).mono ?_
            rintro e w4 ⟨rfl, hb4⟩
            have HB4 := Lib.hid ((HB3.out.al _).st hb4)
            have HZ5 := Lib.hid (z2_go (z2_go HZ3.out (Below.of_al _ _)) hb4)
            have a0 := cell_later hb4 (a := ⟨W.heap.size, 0, none⟩) (v := .int .u64 v) (by go_simp)
            have a1 := cell_later hb4 (a := ⟨W.heap.size, 1, none⟩) (v := .int .u64 u) (by go_simp)
            clear hb4
            obtain ⟨m0, m1, f0, f1⟩ := HZ5.out
            have r0 := z2_r0 HZ5.out
            have r1 := z2_r1 HZ5.out
            go_wp2
            refine bodyPost_ret (by simp [results, Tryz.results150, go_sem, r0, r1]; try rfl) rfl ?_
            exact ⟨by rw [HR.out], (HB4.out.setCell (by simp) _).setCell (by simp) _⟩

end Go.Proofs.YtelcmkccfjdmjaaGreatDoor
