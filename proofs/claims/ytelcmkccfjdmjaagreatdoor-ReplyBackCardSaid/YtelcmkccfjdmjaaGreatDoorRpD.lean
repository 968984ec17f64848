/-
  Walk: the route of a text, as the document has it.
-/
import Derived.Test.YtelcmkccfjdmjaaGreatDoorProg
import Derived.Test.YtelcmkccfjdmjaaGreatDoorRpC
namespace Go.Proofs.YtelcmkccfjdmjaaGreatDoor
open Go Go.Proofs Go.RowKit Go.Shelf Go.Sort

/-- how far the document's ParseRoute is: m: behind the colon -/
def RtP (s : ByteArray) (m i f : Nat) (pre : List ByteArray) : Prop :=
  badP pre = false ∧ ((i ≤ s.size ∧ f ≤ i ∧ partsS 46 (s.extract m s.size) = pre ++ partsS 46 (s.extract f s.size) ∧ noB 46 s f i) ∨ (i = s.size + 1 ∧ f = s.size + 1 ∧ partsS 46 (s.extract m s.size) = pre))
theorem RtP.start (s : ByteArray) {m : Nat} (h : m ≤ s.size) : RtP s m m m [] := ⟨rfl, .inl ⟨h, Nat.le_refl _, rfl, fun j _ h1 h2 => by omega⟩⟩
theorem RtP.skip {s : ByteArray} {m i f : Nat} {pre : List ByteArray} (h : RtP s m i f pre) (hi : i < s.size) (hc : s[i] ≠ 46) : RtP s m (i + 1) f pre := by
  obtain ⟨h1, ⟨a, b, c, d⟩ | ⟨a, b, c⟩⟩ := h
  · exact ⟨h1, .inl ⟨by omega, by omega, c, fun j hj h3 h4 => by
      by_cases e : j = i
      · subst e; exact hc
      · exact d j hj h3 (by omega)⟩⟩
  · omega
theorem RtP.part {s : ByteArray} {m i f : Nat} {pre : List ByteArray} (h : RtP s m i f pre) (hi : i ≤ s.size) (hc : ∀ h : i < s.size, s[i] = 46) (hs : (partI (s.extract f i)).2 = 0) : RtP s m (i + 1) (i + 1) (pre ++ [s.extract f i]) := by
  obtain ⟨h1, ⟨a, b, c, d⟩ | ⟨a, b, c⟩⟩ := h
  · refine ⟨by rw [badP_snoc, h1, hs]; rfl, ?_⟩
    by_cases hlt : i < s.size
    · refine .inl ⟨hlt, Nat.le_refl _, ?_, fun j _ h3 h4 => by omega⟩
      rw [c, partsB_at b hlt (hc hlt) d, List.append_assoc]
      rfl
    · obtain rfl : i = s.size := by omega
      exact .inr ⟨rfl, rfl, by rw [c, partsB_end d]⟩
  · omega
theorem RtP.bad {s : ByteArray} {m i f : Nat} {pre : List ByteArray} (h : RtP s m i f pre) (hi : i ≤ s.size) (hc : ∀ h : i < s.size, s[i] = 46) (hs : (partI (s.extract f i)).2 ≠ 0) : badP (partsS 46 (s.extract m s.size)) = true := by
  obtain ⟨h1, ⟨a, b, c, d⟩ | ⟨a, b, c⟩⟩ := h
  · have e : badP (pre ++ [s.extract f i]) = true := by rw [badP_snoc]; simp [hs]
    by_cases hlt : i < s.size
    · refine badP_prefix (pre := pre ++ [s.extract f i]) ?_ e
      rw [c, partsB_at b hlt (hc hlt) d]
      exact ⟨partsS 46 (s.extract (i + 1) s.size), by simp⟩
    · obtain rfl : i = s.size := by omega
      rw [c, partsB_end d]
      exact e
  · omega
theorem RtP.stop {s : ByteArray} {m i f : Nat} {pre : List ByteArray} (h : RtP s m i f pre) (hi : ¬ i ≤ s.size) : partsS 46 (s.extract m s.size) = pre ∧ badP pre = false := by
  obtain ⟨h1, ⟨a, b, c, d⟩ | ⟨a, b, c⟩⟩ := h
  · omega
  · exact ⟨c, h1⟩
theorem RtP.len {s : ByteArray} {m i f : Nat} {pre : List ByteArray} (h : RtP s m i f pre) : pre.length ≤ s.size + 1 ∧ (i ≤ s.size → f ≤ i) ∧ f ≤ s.size + 1 := by
  have hc := @partsS_count 46 (s.extract m s.size)
  rw [ByteArray.size_extract] at hc
  obtain ⟨h1, ⟨a, b, c, d⟩ | ⟨a, b, c⟩⟩ := h
  · rw [c, List.length_append] at hc
    exact ⟨by omega, fun _ => b, by omega⟩
  · rw [c] at hc
    exact ⟨by omega, fun hh => by omega, by omega⟩

set_option maxRecDepth 100000 in
set_option maxHeartbeats 8000000 in
theorem refParseRoute_any (s : ByteArray) (w : World) (hs : s.size ≤ 10000) : Calls Tryz.prog 85 #[.string s] w (PRPost w (parseRt s)) := by
  have HV0 := Lib.hid (parseRt.eq_1 s)
  generalize parseRt s = r at *
  go_enter Tryz.func85, Tryz.ntmps85
  go_wp2_with fail
  obtain ⟨W0, hW0, hP0, hB0, hZ0⟩ : ∃ W0, W0 = w.alloc (Obj.cells #[.slice none 0 0, .int .u64 0] 48) ∧ P2 W0 w.heap.size (.slice none 0 0) (.int .u64 0) ∧ Below w.heap.size w W0 ∧ W0.heap.size = w.heap.size + 1 :=
    ⟨_, rfl, P2.new _ _ _ _, Below.of_al _ _, by simp⟩
  rw [← hW0]
  clear hW0
  have HP0 := Lib.hid hP0
  have HB0 := Lib.hid hB0
  clear hP0 hB0
  go_loopg [4] s.size (fun g i wr => ∃ k : Nat, k ≤ s.size ∧ s.size - k ≤ g ∧ i = .int .i64 k ∧ wr = W0 ∧ Aside (noB 58 s 0 k))
  case atStart => exact ⟨0, Nat.zero_le _, by omega, rfl, rfl, fun j _ _ h => by omega⟩
  case round =>
    obtain ⟨k, hk, hg, rfl, rfl, HN⟩ := hrel
    have hk0 : (0 : Int) ≤ (k : Int) := by omega
    by_cases hlt : k < s.size
    · have hlt2 : (k : Int) < (s.size : Int) := by omega
      by_cases hc : s[k] = 58
      · have hidx := indexB_at hlt hc HN.out
        have hb := bB_c (n := 58) (by decide) hlt hc
        have HR0 := Lib.hid (show r = cutRt s k by rw [HV0.out, hidx, if_neg (by omega), Int.toNat_natCast])
        have hza : (s.extract 0 k).size ≤ 10000 := by rw [ByteArray.size_extract]; omega
        have HI := Lib.hid (show ∀ W, Calls Tryz.prog 84 #[.string (s.extract 0 k)] W fun e w' => e = .returned (.tuple #[.int .u64 (parseI (s.extract 0 k)).1, .int .i64 (parseI (s.extract 0 k)).2]) ∧ w' = W from fun W => refParse_any _ W (by omega))
        have hke : ((k : Int) == (s.size : Int)) = false := by rw [beq_eq_false_iff_ne]; omega
        clear hc hidx HN
        unfold cutRt at HR0
        generalize hpq : parseI (s.extract 0 k) = q at *
        obtain ⟨pv, pf⟩ := q
        simp only at HR0 HI
        by_cases hpf : pf = 0
        · subst hpf
          have HR1 := Lib.hid (HR0.out.trans (if_neg (by simp)))
          clear HR0 hpq HV0
          by_cases hbe : k + 1 < s.size
          · have hbe2 : (k : Int) + 1 < (s.size : Int) := by omega
            have hbz : ¬ (s.extract (k + 1) s.size).size = 0 := by rw [ByteArray.size_extract]; omega
            have HRS := Lib.hid (RtP.start s (m := k + 1) (by omega))
            go_wp2_with (go_at_call 84; refine (HI.out _).mono ?_; rintro e w1 ⟨rfl, rfl⟩)
            obtain ⟨R, hR⟩ : ∃ R, R = w.heap.size + 1 := ⟨_, rfl⟩
            obtain ⟨W2, hW2⟩ : ∃ W2, W2 = w1.alloc (Obj.cells #[.slice none 0 0, .int .u64 pv] 48) := ⟨_, rfl⟩
            have HRR := Lib.hid (show P2 W2 R (.slice none 0 0) (.int .u64 pv) by rw [hW2, hR, ← hZ0]; exact P2.new _ _ _ _)
            have HHH := Lib.hid (show P2 W2 w.heap.size (.slice none 0 0) (.int .u64 0) by rw [hW2]; exact HP0.out.go (Below.of_al _ _))
            have HBB := Lib.hid (show Below w.heap.size w W2 by rw [hW2]; exact HB0.out.al _)
            have HZZ := Lib.hid (show R + 1 ≤ W2.heap.size by rw [hW2, hR, ← hZ0]; simp)
            have hRh : w.heap.size < R := by omega
            rw [← hR, ← hW2]
            clear hR hW2 HP0 HB0 hZ0 HI
            go_loopg [8, 9] (s.size + 1) (fun gq v8 v9 wr => ∃ (i f : Nat) (pre : List ByteArray) (v : Value), i ≤ s.size + 1 ∧ s.size + 1 - i ≤ gq ∧ v9 = .int .i64 i ∧ v8 = .int .i64 f ∧ Aside (RtP s (k + 1) i f pre) ∧ Aside (P2 wr R v (.int .u64 pv)) ∧
              Aside (wr.ownsRow (R + 1) 3 1 v pre.length ((valP pre).map encI)) ∧ Aside (P2 wr w.heap.size (.slice none 0 0) (.int .u64 0)) ∧ Aside (Below w.heap.size w wr) ∧ Aside (R + 1 ≤ wr.heap.size))
            case atStart => exact ⟨k + 1, k + 1, [], .slice none 0 0, by omega, by omega, by go_num, by go_num, HRS.out, HRR.out, World.ownsRow_nil _ _ _ _, HHH.out, HBB.out, HZZ.out⟩
            case round =>
              clear HRR HHH HBB HZZ HRS
              obtain ⟨i, f, pre, v, hi1, hgq, rfl, rfl, HRT, HR, HO, HH, HB, HZ⟩ := hrel
              obtain ⟨ao, cap, rfl, -⟩ := Cel.of_owns HO.out
              obtain ⟨hpl, hfi, hf1⟩ := HRT.out.len
              have hi0 : (0 : Int) ≤ (i : Int) := by omega
              have hf0 : (0 : Int) ≤ (f : Int) := by omega
              by_cases hi : i ≤ s.size
              · have hi2 : (i : Int) ≤ (s.size : Int) := by omega
                have hfi2 := hfi hi
                have hfs : (f : Int) < (s.size : Int) + 1 := by omega
                have hfi3 : (f : Int) ≤ (i : Int) := by omega
                clear hfi
                by_cases hcont : ∃ h : i < s.size, s[i] ≠ 46
                · obtain ⟨hlt5, hne⟩ := hcont
                  have hlt6 : (i : Int) < (s.size : Int) := by omega
                  have hb5 := bB_n (n := 46) (by decide) hlt5 hne
                  have HP2 := Lib.hid (HRT.out.skip hlt5 hne)
                  clear hne
                  go_wp2
                  go_roundg (s.size + 1 - (i + 1))
                  case measure => omega
                  case rel => exact ⟨i + 1, f, pre, .slice ao pre.length cap, by omega, by omega, by go_num, rfl, HP2.out, HR.out, HO.out, HH.out, HB.out, HZ.out⟩
                · have hc : ∀ h : i < s.size, s[i] = 46 := fun h => Classical.byContradiction fun e => hcont ⟨h, e⟩
                  have hxs : (s.extract f i).size ≤ 10000 := by rw [ByteArray.size_extract]; omega
                  clear hcont
                  by_cases hlt5 : i < s.size
                  · have hlt6 : (i : Int) < (s.size : Int) := by omega
                    have hb5 := bB_c (n := 46) (by decide) hlt5 (hc hlt5)
                    by_cases hq : (partI (s.extract f i)).2 = 0
                    · have HP2 := Lib.hid (HRT.out.part hi hc hq)
                      have HVS := Lib.hid (valP_snoc pre (s.extract f i))
                      have HLS := Lib.hid (show (pre ++ [s.extract f i]).length = pre.length + 1 by simp)
                      have HI2 := Lib.hid (show ∀ W, Calls Tryz.prog 130 #[.string (s.extract f i), .int .i64 9007199254740992] W fun e w' => e = .returned (.tuple #[.int .i64 (partI (s.extract f i)).1, .int .i64 (partI (s.extract f i)).2]) ∧ Below W.heap.size W w' from fun W => refInt_any _ 9007199254740992 W (by omega) (by omega))
                      rw [hq] at HI2
                      generalize (partI (s.extract f i)).1 = y at *
                      generalize pre ++ [s.extract f i] = pre2 at *
                      clear hq hc
                      go_wp2_with (first
                        | (go_at_call 130; refine (HI2.out _).mono ?_; rintro e w5 ⟨rfl, hb5⟩; (have HR5 := Lib.hid (HR.out.go hb5); have HO5 := Lib.hid (rt_owns_go HO.out hb5); have HH5 := Lib.hid (HH.out.go hb5); have HB5 := Lib.hid (HB.out.st hb5); have HZ5 := Lib.hid (Nat.le_trans HZ.out hb5.size); clear hb5); obtain ⟨a0, a1, a2, a3⟩ := HR5.out)
                        | (at_builtin; go_must ((with_reducible refine wpList_app (R + 1) 3 _ 1 8 rt_elemi Tryz.underlying45 (.slice ao pre.length cap) pre.length _ ⟨w5.heap.size, 0, none⟩ 1 1 [.int .i64 y] ?_ ?_ (HO5.out.alloc _) (rt_one _ _ _) (rt_onei _) ⟨rfl, by decide, by omega, by omega, by have := HZ5.out; simp; omega⟩ ?_); (· rfl); (· rfl); intro g6 cap6 w6 hown hgrow hbl hat hlt6; (have HO6 := Lib.hid hown; have HR6 := Lib.hid ((HR5.out.go (Below.of_al _ _)).eq (hbl.block R (by omega))); have HH6 := Lib.hid ((HH5.out.go (Below.of_al _ _)).eq (hbl.block w.heap.size (by omega))); have HB6 := Lib.hid ((HB5.out.al _).trans (hbl.mono (by omega))); have HZ6 := Lib.hid (show R + 1 ≤ w6.heap.size by have := HZ5.out; have := hbl.size; simp at this; omega); clear hown hgrow hbl hat); obtain ⟨c0, c1, c2, c3⟩ := HR6.out)))
                      go_roundg (s.size + 1 - (i + 1))
                      case measure => omega
                      case rel => exact ⟨i + 1, i + 1, pre2, .slice (some ⟨g6, 0, none⟩) (pre.length + 1) cap6, by omega, by omega, by go_num, by go_num, HP2.out, HR6.out.set0 _, by rw [HLS.out, HVS.out, List.map_append]; exact ownsRow_setCell_below HO6.out (show R < R + 1 by omega) _, HH6.out.setAt (by omega) _, HB6.out.setCell (show w.heap.size ≤ R by omega) _, (show R + 1 ≤ (w6.setCell _ _).heap.size by have := HZ6.out; simpa [World.setCell] using this)⟩
                    · have HBAD := Lib.hid (HRT.out.bad hi hc hq)
                      have HV := Lib.hid (show r = (rt0, false) by rw [HR1.out, if_neg hbz, if_pos HBAD.out])
                      have hq2 : ((partI (s.extract f i)).2 != 0) = true := by simpa using hq
                      have HI2 := Lib.hid (show ∀ W, Calls Tryz.prog 130 #[.string (s.extract f i), .int .i64 9007199254740992] W fun e w' => e = .returned (.tuple #[.int .i64 (partI (s.extract f i)).1, .int .i64 (partI (s.extract f i)).2]) ∧ Below W.heap.size W w' from fun W => refInt_any _ 9007199254740992 W (by omega) (by omega))
                      generalize partI (s.extract f i) = q at *
                      clear hq hc
                      go_wp2_with (go_at_call 130; refine (HI2.out _).mono ?_; rintro e w5 ⟨rfl, hb5⟩; (have HH5 := Lib.hid (HH.out.go hb5); have HB5 := Lib.hid (HB.out.st hb5); clear hb5); obtain ⟨a0, a1, a2, a3⟩ := HH5.out)
                      have r0 := (HH5.out.set0 (.slice none 0 0)).set1 (.int .u64 0)
                      obtain ⟨r0, r1, -, -⟩ := r0
                      refine bodyPost_ret (v := .tuple #[.agg #[.slice none 0 0, .int .u64 0], .bool false]) (by simp [results, Tryz.results85, go_sem, r0, r1]; try rfl) rfl ?_
                      exact ⟨none, 0, by rw [HV.out]; rfl, by rw [HV.out]; exact Cel.nil _ _, (HB5.out.setCell (Nat.le_refl _) _).setCell (Nat.le_refl _) _, fun x hx => by cases hx⟩
                  · have hlt6 : ¬ (i : Int) < (s.size : Int) := by omega
                    by_cases hq : (partI (s.extract f i)).2 = 0
                    · have HP2 := Lib.hid (HRT.out.part hi hc hq)
                      have HVS := Lib.hid (valP_snoc pre (s.extract f i))
                      have HLS := Lib.hid (show (pre ++ [s.extract f i]).length = pre.length + 1 by simp)
                      have HI2 := Lib.hid (show ∀ W, Calls Tryz.prog 130 #[.string (s.extract f i), .int .i64 9007199254740992] W fun e w' => e = .returned (.tuple #[.int .i64 (partI (s.extract f i)).1, .int .i64 (partI (s.extract f i)).2]) ∧ Below W.heap.size W w' from fun W => refInt_any _ 9007199254740992 W (by omega) (by omega))
                      rw [hq] at HI2
                      generalize (partI (s.extract f i)).1 = y at *
                      generalize pre ++ [s.extract f i] = pre2 at *
                      clear hq hc
                      go_wp2_with (first
                        | (go_at_call 130; refine (HI2.out _).mono ?_; rintro e w5 ⟨rfl, hb5⟩; (have HR5 := Lib.hid (HR.out.go hb5); have HO5 := Lib.hid (rt_owns_go HO.out hb5); have HH5 := Lib.hid (HH.out.go hb5); have HB5 := Lib.hid (HB.out.st hb5); have HZ5 := Lib.hid (Nat.le_trans HZ.out hb5.size); clear hb5); obtain ⟨a0, a1, a2, a3⟩ := HR5.out)
                        | (at_builtin; go_must ((with_reducible refine wpList_app (R + 1) 3 _ 1 8 rt_elemi Tryz.underlying45 (.slice ao pre.length cap) pre.length _ ⟨w5.heap.size, 0, none⟩ 1 1 [.int .i64 y] ?_ ?_ (HO5.out.alloc _) (rt_one _ _ _) (rt_onei _) ⟨rfl, by decide, by omega, by omega, by have := HZ5.out; simp; omega⟩ ?_); (· rfl); (· rfl); intro g6 cap6 w6 hown hgrow hbl hat hlt6; (have HO6 := Lib.hid hown; have HR6 := Lib.hid ((HR5.out.go (Below.of_al _ _)).eq (hbl.block R (by omega))); have HH6 := Lib.hid ((HH5.out.go (Below.of_al _ _)).eq (hbl.block w.heap.size (by omega))); have HB6 := Lib.hid ((HB5.out.al _).trans (hbl.mono (by omega))); have HZ6 := Lib.hid (show R + 1 ≤ w6.heap.size by have := HZ5.out; have := hbl.size; simp at this; omega); clear hown hgrow hbl hat); obtain ⟨c0, c1, c2, c3⟩ := HR6.out)))
                      go_roundg (s.size + 1 - (i + 1))
                      case measure => omega
                      case rel => exact ⟨i + 1, i + 1, pre2, .slice (some ⟨g6, 0, none⟩) (pre.length + 1) cap6, by omega, by omega, by go_num, by go_num, HP2.out, HR6.out.set0 _, by rw [HLS.out, HVS.out, List.map_append]; exact ownsRow_setCell_below HO6.out (show R < R + 1 by omega) _, HH6.out.setAt (by omega) _, HB6.out.setCell (show w.heap.size ≤ R by omega) _, (show R + 1 ≤ (w6.setCell _ _).heap.size by have := HZ6.out; simpa [World.setCell] using this)⟩
                    · have HBAD := Lib.hid (HRT.out.bad hi hc hq)
                      have HV := Lib.hid (show r = (rt0, false) by rw [HR1.out, if_neg hbz, if_pos HBAD.out])
                      have hq2 : ((partI (s.extract f i)).2 != 0) = true := by simpa using hq
                      have HI2 := Lib.hid (show ∀ W, Calls Tryz.prog 130 #[.string (s.extract f i), .int .i64 9007199254740992] W fun e w' => e = .returned (.tuple #[.int .i64 (partI (s.extract f i)).1, .int .i64 (partI (s.extract f i)).2]) ∧ Below W.heap.size W w' from fun W => refInt_any _ 9007199254740992 W (by omega) (by omega))
                      generalize partI (s.extract f i) = q at *
                      clear hq hc
                      go_wp2_with (go_at_call 130; refine (HI2.out _).mono ?_; rintro e w5 ⟨rfl, hb5⟩; (have HH5 := Lib.hid (HH.out.go hb5); have HB5 := Lib.hid (HB.out.st hb5); clear hb5); obtain ⟨a0, a1, a2, a3⟩ := HH5.out)
                      have r0 := (HH5.out.set0 (.slice none 0 0)).set1 (.int .u64 0)
                      obtain ⟨r0, r1, -, -⟩ := r0
                      refine bodyPost_ret (v := .tuple #[.agg #[.slice none 0 0, .int .u64 0], .bool false]) (by simp [results, Tryz.results85, go_sem, r0, r1]; try rfl) rfl ?_
                      exact ⟨none, 0, by rw [HV.out]; rfl, by rw [HV.out]; exact Cel.nil _ _, (HB5.out.setCell (Nat.le_refl _) _).setCell (Nat.le_refl _) _, fun x hx => by cases hx⟩
              · obtain ⟨e1, e2⟩ := HRT.out.stop hi
                have hi2 : ¬ (i : Int) ≤ (s.size : Int) := by omega
                have HV := Lib.hid (show r = (⟨valP pre, pv⟩, true) by rw [HR1.out, if_neg hbz, e1, if_neg (by rw [e2]; simp)])
                have HVL := Lib.hid (valP_length pre)
                clear e1 e2 hfi
                obtain ⟨a0, a1, a2, a3⟩ := HR.out
                obtain ⟨p0, p1, p2, p3⟩ := HH.out
                go_wp2
                have r0 := (HH.out.set0 (.slice ao pre.length cap)).set1 (.int .u64 pv)
                obtain ⟨r0, r1, -, -⟩ := r0
                refine bodyPost_ret (v := .tuple #[.agg #[.slice ao pre.length cap, .int .u64 pv], .bool true]) (by simp [results, Tryz.results85, go_sem, r0, r1]; try rfl) rfl ?_
                obtain ⟨ao9, cap9, e9, hc9⟩ := Cel.of_owns (ownsRow_setCell_below (ownsRow_setCell_below HO.out (a := ⟨w.heap.size, 0, none⟩) (show w.heap.size < R + 1 by omega) (.slice ao pre.length cap)) (a := ⟨w.heap.size, 1, none⟩) (show w.heap.size < R + 1 by omega) (.int .u64 pv))
                cases e9
                exact ⟨ao, cap, by rw [HV.out]; simp only [HVL.out], by rw [HV.out]; exact hc9, (HB.out.setCell (Nat.le_refl _) _).setCell (Nat.le_refl _) _, fun x hx => by have := (HO.out.lt x.block (by rw [hx]; rfl)).1; omega⟩
          · have hbz : (s.extract (k + 1) s.size).size = 0 := by rw [ByteArray.size_extract]; omega
            have HV := Lib.hid (show r = (⟨[], pv⟩, true) by rw [HR1.out, if_pos hbz])
            have hbe2 : ¬ (k : Int) + 1 < (s.size : Int) := by omega
            have hbe3 : (k : Int) + 1 ≤ (s.size : Int) := by omega
            have hbe4 : (k : Int) + 1 < (s.size : Int) + 1 := by omega
            go_wp2_with (go_at_call 84; refine (HI.out _).mono ?_; rintro e w1 ⟨rfl, rfl⟩)
            obtain ⟨R, hR⟩ : ∃ R, R = w.heap.size + 1 := ⟨_, rfl⟩
            obtain ⟨W2, hW2⟩ : ∃ W2, W2 = w1.alloc (Obj.cells #[.slice none 0 0, .int .u64 pv] 48) := ⟨_, rfl⟩
            have HR := Lib.hid (show P2 W2 R (.slice none 0 0) (.int .u64 pv) by rw [hW2, hR, ← hZ0]; exact P2.new _ _ _ _)
            have HH := Lib.hid (show P2 W2 w.heap.size (.slice none 0 0) (.int .u64 0) by rw [hW2]; exact HP0.out.go (Below.of_al _ _))
            have HB := Lib.hid (show Below w.heap.size w W2 by rw [hW2]; exact HB0.out.al _)
            rw [← hR, ← hW2]
            clear hR hW2 HP0 HB0 hZ0 HI HR1 hbz hza
            obtain ⟨a0, a1, a2, a3⟩ := HR.out
            obtain ⟨p0, p1, p2, p3⟩ := HH.out
            refine wp_loop_rounds 1 ?_
            rw [rounds_succ]
            go_wp2
            have r0 := (HH.out.set0 (.slice none 0 0)).set1 (.int .u64 pv)
            obtain ⟨r0, r1, -, -⟩ := r0
            refine bodyPost_ret (v := .tuple #[.agg #[.slice none 0 0, .int .u64 pv], .bool true]) (by simp [results, Tryz.results85, go_sem, r0, r1]; try rfl) rfl ?_
            exact ⟨none, 0, by rw [HV.out]; rfl, by rw [HV.out]; exact Cel.nil _ _, (HB.out.setCell (Nat.le_refl _) _).setCell (Nat.le_refl _) _, fun x hx => by cases hx⟩
        · have HV := Lib.hid (show r = (rt0, false) by rw [HR0.out, if_pos hpf])
          have hpf2 : (pf != 0) = true := by simpa using hpf
          clear HR0 hpf hpq HV0
          obtain ⟨p0, p1, p2, p3⟩ := HP0.out
          go_wp2_with (go_at_call 84; refine (HI.out _).mono ?_; rintro e w1 ⟨rfl, rfl⟩)
          have r0 := (HP0.out.set0 (.slice none 0 0)).set1 (.int .u64 0)
          obtain ⟨r0, r1, -, -⟩ := r0
          refine bodyPost_ret (v := .tuple #[.agg #[.slice none 0 0, .int .u64 0], .bool false]) (by simp [results, Tryz.results85, go_sem, r0, r1]; try rfl) rfl ?_
          exact ⟨none, 0, by rw [HV.out]; rfl, by rw [HV.out]; exact Cel.nil _ _, (HB0.out.setCell (Nat.le_refl _) _).setCell (Nat.le_refl _) _, fun x hx => by cases hx⟩
      · have hb := bB_n (n := 58) (by decide) hlt hc
        have HN2 := Lib.hid (show noB 58 s 0 (k + 1) from fun j hj h1 h2 => by
          by_cases e : j = k
          · subst e; exact hc
          · exact HN.out j hj h1 (by omega))
        clear hc
        go_wp2
        go_roundg (s.size - (k + 1))
        case measure => omega
        case rel => exact ⟨k + 1, by omega, by omega, by go_num, rfl, HN2.out⟩
    · obtain rfl : k = s.size := by omega
      have HV := Lib.hid (show r = (rt0, false) by rw [HV0.out, indexB_none HN.out, if_pos rfl])
      have hke : ((s.size : Int) == (s.size : Int)) = true := by simp
      obtain ⟨p0, p1, p2, p3⟩ := HP0.out
      go_wp2
      have r0 := (HP0.out.set0 (.slice none 0 0)).set1 (.int .u64 0)
      obtain ⟨r0, r1, -, -⟩ := r0
      refine bodyPost_ret (v := .tuple #[.agg #[.slice none 0 0, .int .u64 0], .bool false]) (by simp [results, Tryz.results85, go_sem, r0, r1]; try rfl) rfl ?_
      exact ⟨none, 0, by rw [HV.out]; rfl, by rw [HV.out]; exact Cel.nil _ _, (HB0.out.setCell (Nat.le_refl _) _).setCell (Nat.le_refl _) _, fun x hx => by cases hx⟩

end Go.Proofs.YtelcmkccfjdmjaaGreatDoor
