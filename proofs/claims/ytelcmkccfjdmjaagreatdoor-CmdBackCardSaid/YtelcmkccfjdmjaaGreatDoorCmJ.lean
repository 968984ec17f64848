/-
  Walk of package cmd: Parse.
  Walks of the reference of package cmd: a word of a kind.
-/
import Derived.Test.YtelcmkccfjdmjaaGreatDoorProg
import Derived.Test.YtelcmkccfjdmjaaGreatDoorCmE
import Derived.Test.YtelcmkccfjdmjaaGreatDoorWords
import Derived.Test.YtelcmkccfjdmjaaGreatDoorGpG
import Derived.Test.YtelcmkccfjdmjaaGreatDoorRatioF
namespace Go.Proofs.YtelcmkccfjdmjaaGreatDoor
open Go Go.Proofs Go.RowKit Go.Shelf Go.Sort

theorem flush_sz {N : Nat} {cur : List UInt8} {out : List ByteArray} (h : ∀ x ∈ out, x.size ≤ N) (hc : cur.length ≤ N) : ∀ x ∈ flushW cur out, x.size ≤ N := by
  unfold flushW
  split
  · exact h
  · intro x hx
    rcases List.mem_append.1 hx with hx | hx
    · exact h x hx
    · rw [List.mem_singleton] at hx
      subst hx
      exact hc
theorem flush_len (cur : List UInt8) (out : List ByteArray) : (flushW cur out).length ≤ out.length + cur.length := by
  unfold flushW
  split
  · omega
  · rename_i h
    have := List.length_pos_iff.2 h
    rw [List.length_append]
    simp
    omega
theorem wordsGo_sz {N : Nat} : ∀ (l cur : List UInt8) (out O : List ByteArray), wordsGo l cur out = some O → (∀ x ∈ out, x.size ≤ N) → cur.length + l.length ≤ N → (∀ x ∈ O, x.size ≤ N) ∧ O.length ≤ out.length + cur.length + l.length
  | [], cur, out, O, h, h1, h2 => by
    rw [wordsGo] at h
    cases h
    exact ⟨flush_sz h1 (by simpa using h2), by have := flush_len cur out; simpa using this⟩
  | c :: r, cur, out, O, h, h1, h2 => by
    rw [wordsGo] at h
    simp only [List.length_cons] at h2
    split at h
    · have := wordsGo_sz r (cur ++ [c]) out O h h1 (by rw [List.length_append]; simp; omega)
      refine ⟨this.1, ?_⟩
      have h3 := this.2
      rw [List.length_append] at h3
      simp at h3 ⊢
      omega
    · split at h
      · have := wordsGo_sz r [] (flushW cur out) O h (flush_sz h1 (by omega)) (by simp; omega)
        refine ⟨this.1, ?_⟩
        have h3 := this.2
        have h4 := flush_len cur out
        simp at h3 ⊢
        omega
      · cases h
theorem wordsF_sz (s : ByteArray) : (∀ x ∈ (wordsF s).1, x.size ≤ s.size) ∧ (wordsF s).1.length ≤ s.size := by
  unfold wordsF
  split
  · simp
  · split
    · simp
    · rename_i l hl
      split
      · simp
      · have := wordsGo_sz (N := s.size) _ _ _ _ hl (by simp) (by simp)
        simpa using this
/-- what Parse leaves -/
def CParsePost (w : World) (r : CmD × Int) (e : Ending) (w' : World) : Prop :=
  ∃ v, CmV w' r.1 v ∧ e = .returned (.tuple #[.agg v.toArray, .int .i64 r.2]) ∧ Below w.heap.size w w'

theorem PB.new7 (w : World) (T : TypeId) (x0 x1 x2 x3 x4 x5 x6 : Value) : PB (w.alloc (.cells #[x0, x1, x2, x3, x4, x5, x6] T)) w.heap.size [x0, x1, x2, x3, x4, x5, x6] := by
  intro i x hx
  match i with
  | 0 => cases hx; exact ⟨by go_simp, by go_simp⟩
  | 1 => cases hx; exact ⟨by go_simp, by go_simp⟩
  | 2 => cases hx; exact ⟨by go_simp, by go_simp⟩
  | 3 => cases hx; exact ⟨by go_simp, by go_simp⟩
  | 4 => cases hx; exact ⟨by go_simp, by go_simp⟩
  | 5 => cases hx; exact ⟨by go_simp, by go_simp⟩
  | 6 => cases hx; exact ⟨by go_simp, by go_simp⟩
  | j + 7 => simp at hx
theorem PB.new8 (w : World) (T : TypeId) (x0 x1 x2 x3 x4 x5 x6 x7 : Value) : PB (w.alloc (.cells #[x0, x1, x2, x3, x4, x5, x6, x7] T)) w.heap.size [x0, x1, x2, x3, x4, x5, x6, x7] := by
  intro i x hx
  match i with
  | 0 => cases hx; exact ⟨by go_simp, by go_simp⟩
  | 1 => cases hx; exact ⟨by go_simp, by go_simp⟩
  | 2 => cases hx; exact ⟨by go_simp, by go_simp⟩
  | 3 => cases hx; exact ⟨by go_simp, by go_simp⟩
  | 4 => cases hx; exact ⟨by go_simp, by go_simp⟩
  | 5 => cases hx; exact ⟨by go_simp, by go_simp⟩
  | 6 => cases hx; exact ⟨by go_simp, by go_simp⟩
  | 7 => cases hx; exact ⟨by go_simp, by go_simp⟩
  | j + 8 => simp at hx
theorem PB.set7 {W : World} {b : Nat} {xs : List Value} (h : PB W b xs) (hl : xs.length = 7) (v0 v1 v2 v3 v4 v5 v6 : Value) :
    PB (((((((W.setCell ⟨b, 0, none⟩ v0).setCell ⟨b, 1, none⟩ v1).setCell ⟨b, 2, none⟩ v2).setCell ⟨b, 3, none⟩ v3).setCell ⟨b, 4, none⟩ v4).setCell ⟨b, 5, none⟩ v5).setCell ⟨b, 6, none⟩ v6) b [v0, v1, v2, v3, v4, v5, v6] := by
  match xs, hl with
  | [x0, x1, x2, x3, x4, x5, x6], _ => exact ((((((h.set 0 v0).set 1 v1).set 2 v2).set 3 v3).set 4 v4).set 5 v5).set 6 v6
theorem bel_set7 {base b : Nat} {w W : World} (h : Below base w W) (hb : base ≤ b) (v0 v1 v2 v3 v4 v5 v6 : Value) :
    Below base w (((((((W.setCell ⟨b, 0, none⟩ v0).setCell ⟨b, 1, none⟩ v1).setCell ⟨b, 2, none⟩ v2).setCell ⟨b, 3, none⟩ v3).setCell ⟨b, 4, none⟩ v4).setCell ⟨b, 5, none⟩ v5).setCell ⟨b, 6, none⟩ v6) :=
  ((((((h.setCell hb _).setCell hb _).setCell hb _).setCell hb _).setCell hb _).setCell hb _).setCell hb _
theorem Cel.put7 {W : World} {ao : Option Addr} {cs : List Value} {b : Nat} (h : Cel W ao cs) (hn : ∀ x, ao = some x → x.block ≠ b) (v0 v1 v2 v3 v4 v5 v6 : Value) :
    Cel (((((((W.setCell ⟨b, 0, none⟩ v0).setCell ⟨b, 1, none⟩ v1).setCell ⟨b, 2, none⟩ v2).setCell ⟨b, 3, none⟩ v3).setCell ⟨b, 4, none⟩ v4).setCell ⟨b, 5, none⟩ v5).setCell ⟨b, 6, none⟩ v6) ao cs :=
  ((((((h.put hn 0 v0).put hn 1 v1).put hn 2 v2).put hn 3 v3).put hn 4 v4).put hn 5 v5).put hn 6 v6
theorem CmV.zero (W : World) : CmV W cmd0 [.string ByteArray.empty, .slice none 0 0, .int .u64 0, .slice none 0 0, .int .i64 0, .slice none 0 0, .slice none 0 0] :=
  ⟨none, 0, none, 0, none, 0, none, 0, rfl, Cel.nil _ _, Cel.nil _ _, Cel.nil _ _, Cel.nil _ _⟩
theorem foldC_zero : ∀ (c : CmD) (ks : List UInt8) (tl : List ByteArray), (foldC c ks tl).2 ≠ 0 → (foldC c ks tl).1 = cmd0
  | c, [], tl, h => by rw [foldC] at h; · exact absurd rfl h
                       · intro k ks x xs h; cases h
  | c, k :: ks, [], h => by rw [foldC] at h; · exact absurd rfl h
                            · intro k ks x xs h h2; cases h2
  | c, k :: ks, x :: xs, h => by
    rw [foldC] at h ⊢
    split
    · rename_i h0
      rw [if_pos h0] at h
      exact foldC_zero _ ks xs h
    · rfl
theorem restC_zero (nm : ByteArray) (tl : List ByteArray) (h : (restC nm tl).2 ≠ 0) : (restC nm tl).1 = cmd0 := by
  unfold restC at h ⊢
  split
  · rename_i h1
    rw [if_pos h1] at h
    split
    · rename_i h2
      rw [if_pos h2] at h
      exact absurd rfl h
    · rfl
  · rename_i h1
    rw [if_neg h1] at h
    split
    · rename_i h2
      rw [if_pos h2] at h
      match tl, h with
      | [], h => exact absurd rfl h
      | [x], h =>
        simp only at h ⊢
        split
        · rename_i h3
          rw [if_pos h3] at h
          exact absurd rfl h
        · rfl
      | x :: y :: t, h => rfl
    · rename_i h2
      rw [if_neg h2] at h
      split
      · rename_i h3
        rw [if_pos h3] at h
        exact foldC_zero _ _ _ h
      · rfl
theorem cs1_start {W : World} {a0 : Addr} {v0 : Value} (h0 : W.cell? a0 = some v0) : W.drew.cell? a0 = some v0 ∧ Below W.heap.size W W.drew := ⟨h0, Below.of_dr W 1⟩
theorem cs1_next {W w1 w2 : World} {a0 : Addr} {v0 : Value} (hb : Below w1.heap.size w1 w2) (h : w1.cell? a0 = some v0 ∧ Below W.heap.size W w1) : w2.cell? a0 = some v0 ∧ Below W.heap.size W w2 :=
  ⟨cell_later hb h.1, h.2.st hb⟩

/-- the words behind the first one -/
theorem cm_tail {W : World} {b o : Nat} {a : ByteArray} {tl : List ByteArray} (h : Cel W (some ⟨b, o, none⟩) ((a :: tl).map encS)) : Cel W (some ⟨b, o + 1, none⟩) (tl.map encS) := by
  intro i u hu
  obtain ⟨b', o', e, hc⟩ := h (i + 1) u (by simpa using hu)
  cases e
  exact ⟨b, o + 1, rfl, by rw [Nat.add_assoc, Nat.add_comm 1 i]; exact hc⟩

set_option maxRecDepth 100000 in
set_option maxHeartbeats 4000000 in
theorem cmdParse_any (s : ByteArray) (w : World) (hs : s.size ≤ 65536) :
    Calls Tryz.prog 28 #[.string s] w (CParsePost w (parseC s)) := by
  have HW := Lib.hid (fun W => Words_own s W (by omega))
  have hsz := wordsF_sz s
  unfold parseC
  unfold WordsPostC at HW
  generalize wordsF s = r at *
  obtain ⟨l, f⟩ := r
  simp only at HW hsz ⊢
  by_cases hf : f = 0
  · subst hf
    rw [if_neg (fun h => h rfl)]
    match l, hsz, HW with
    | [], hsz, HW =>
      clear hsz
      simp only
      go_enter Tryz.func28, Tryz.ntmps28
      go_wp2_with fail
      (go_at_call 69; refine (HW.out _).mono ?_; rintro e w1 ⟨ao1, cap1, rfl, hc1, hb1, hcp1⟩; (have HP1 := Lib.hid ((PB.new7 w 55 _ _ _ _ _ _ _).go hb1)); (have HB1 := Lib.hid ((Below.of_al w (Obj.cells #[.string ⟨#[]⟩, .slice none 0 0, .int .u64 0, .slice none 0 0, .int .i64 0, .slice none 0 0, .slice none 0 0] 55)).st hb1)); (have HC1 := Lib.hid hc1); (have HZ1 := Lib.hid (show w.heap.size + 1 ≤ w1.heap.size by have := hb1.size; simp at this; omega)); clear hb1 hc1)
      obtain ⟨p0, q0⟩ := HP1.out 0 _ rfl
      obtain ⟨p1, q1⟩ := HP1.out 1 _ rfl
      obtain ⟨p2, q2⟩ := HP1.out 2 _ rfl
      obtain ⟨p3, q3⟩ := HP1.out 3 _ rfl
      obtain ⟨p4, q4⟩ := HP1.out 4 _ rfl
      obtain ⟨p5, q5⟩ := HP1.out 5 _ rfl
      obtain ⟨p6, q6⟩ := HP1.out 6 _ rfl
      go_wp2
      have hr7 := (HP1.out).set7 rfl (.string ⟨#[]⟩) (.slice none 0 0) (.int .u64 0) (.slice none 0 0) (.int .i64 0) (.slice none 0 0) (.slice none 0 0)
      obtain ⟨r0, -⟩ := hr7 0 _ rfl
      obtain ⟨r1, -⟩ := hr7 1 _ rfl
      obtain ⟨r2, -⟩ := hr7 2 _ rfl
      obtain ⟨r3, -⟩ := hr7 3 _ rfl
      obtain ⟨r4, -⟩ := hr7 4 _ rfl
      obtain ⟨r5, -⟩ := hr7 5 _ rfl
      obtain ⟨r6, -⟩ := hr7 6 _ rfl
      refine bodyPost_ret (v := .tuple #[.agg #[.string ⟨#[]⟩, .slice none 0 0, .int .u64 0, .slice none 0 0, .int .i64 0, .slice none 0 0, .slice none 0 0], .int .i64 3]) (by simp [results, Tryz.results28, go_sem, r0, r1, r2, r3, r4, r5, r6]; try rfl) rfl ?_
      exact ⟨_, CmV.zero _, rfl, bel_set7 HB1.out (Nat.le_refl _) _ _ _ _ _ _ _⟩
    | a :: tl, hsz, HW =>
      simp only
      have HSZ := Lib.hid hsz
      have HA := Lib.hid (hsz.1 a (by simp))
      have hl2 : tl.length + 1 ≤ 65536 := by have := hsz.2; simp at this; omega
      have HU := Lib.hid (fun W => Upper_any a W (by have := HA.out; omega))
      have HN := Lib.hid (fun W => cmdNames_any W)
      clear hsz
      cases hk : isNm (upS a) with
      | false =>
        rw [if_neg (by decide)]
        have HIN := Lib.hid (fun W ao cap h => (show Calls Tryz.prog 71 #[.slice ao 13 cap, .string (upS a)] W fun e w' => e = .returned (.bool false) ∧ w' = W from hk ▸ contains_any nameL (upS a) ao cap W (by decide) h))
        generalize upS a = nm at *
        clear hk
        go_enter Tryz.func28, Tryz.ntmps28
        go_wp2_with fail
        (go_at_call 69; refine (HW.out _).mono ?_; rintro e w1 ⟨ao1, cap1, rfl, hc1, hb1, hcp1⟩; (have HP1 := Lib.hid ((PB.new7 w 55 _ _ _ _ _ _ _).go hb1)); (have HB1 := Lib.hid ((Below.of_al w (Obj.cells #[.string ⟨#[]⟩, .slice none 0 0, .int .u64 0, .slice none 0 0, .int .i64 0, .slice none 0 0, .slice none 0 0] 55)).st hb1)); (have HC1 := Lib.hid hc1); (have HZ1 := Lib.hid (show w.heap.size + 1 ≤ w1.heap.size by have := hb1.size; simp at this; omega)); clear hb1 hc1)
        obtain ⟨bw, ow, rfl, hcw⟩ := HC1.out.at (i := 0) (by simp)
        simp only [Nat.add_zero, List.getElem_cons_zero] at hcw
        have hbw : bw < w1.heap.size := World.block_lt_of_cell? _ _ hcw
        go_wp2_with (go_at_call 70; refine (HU.out _).mono ?_; rintro e w2 ⟨rfl, hb2⟩)
        obtain ⟨W3, hW3⟩ : ∃ W3, W3 = w2.alloc (Obj.cells #[.string nm, .slice none 0 0, .int .u64 0, .slice none 0 0, .int .i64 0, .slice none 0 0, .slice none 0 0, .int .i64 0] 105) := ⟨_, rfl⟩
        have hb3 : Below w2.heap.size w2 W3 := by rw [hW3]; exact Below.of_al _ _
        have HR3 := Lib.hid (show PB W3 w2.heap.size (rd0 nm) by rw [hW3]; exact PB.new8 _ _ _ _ _ _ _ _ _ _)
        have HP3 := Lib.hid ((HP1.out.go hb2).go hb3)
        have HB3 := Lib.hid ((HB1.out.st hb2).st hb3)
        have HC3 := Lib.hid ((HC1.out.go hb2).go hb3)
        have HZ3 := Lib.hid (show w2.heap.size < W3.heap.size by rw [hW3]; simp)
        have hbb : bw < w2.heap.size := by have := hb2.size; omega
        have HZ2 := Lib.hid (show w.heap.size + 1 ≤ w2.heap.size by have := hb2.size; have := HZ1.out; omega)
        rw [← hW3]
        clear hW3 hb3 hb2 HP1 HB1 HC1 hcw hbw HZ1
        generalize w2.heap.size = b at *
        obtain ⟨c0, -⟩ := HR3.out 0 _ rfl
        simp only [cmd0] at c0
        go_wp2_with fail
        go_region_held3 (fun w' => w'.cell? ⟨b, 0, none⟩ = some (.string nm) ∧ Below W3.heap.size W3 w') (first | assumption | exact cs1_start c0 | exact cs1_next (by assumption) (by assumption)) (first
          | (go_at_call 72; refine (HN.out _).mono ?_; rintro e w4 ⟨ao4, cap4, rfl, hc4, hb4⟩)
          | (go_at_call 71; refine (HIN.out _ _ _ (by assumption)).mono ?_; rintro e w5 ⟨rfl, rfl⟩))
        rename_i hHeld
        obtain ⟨-, hb5⟩ := hHeld
        have HP4 := Lib.hid (HP3.out.go hb5)
        have HB4 := Lib.hid (HB3.out.st hb5)
        have HR4 := Lib.hid (HR3.out.go hb5)
        have HC4 := Lib.hid (HC3.out.go hb5)
        have HZ4 := Lib.hid (show b < w5.heap.size by have := hb5.size; have := HZ3.out; omega)
        clear hb5 hb4 hc4 HP3 HB3 HR3 HC3 HZ3 c0
        obtain ⟨p0, q0⟩ := HP4.out 0 _ rfl
        obtain ⟨p1, q1⟩ := HP4.out 1 _ rfl
        obtain ⟨p2, q2⟩ := HP4.out 2 _ rfl
        obtain ⟨p3, q3⟩ := HP4.out 3 _ rfl
        obtain ⟨p4, q4⟩ := HP4.out 4 _ rfl
        obtain ⟨p5, q5⟩ := HP4.out 5 _ rfl
        obtain ⟨p6, q6⟩ := HP4.out 6 _ rfl
        go_wp2
        have hr7 := (HP4.out).set7 rfl (.string ⟨#[]⟩) (.slice none 0 0) (.int .u64 0) (.slice none 0 0) (.int .i64 0) (.slice none 0 0) (.slice none 0 0)
        obtain ⟨r0, -⟩ := hr7 0 _ rfl
        obtain ⟨r1, -⟩ := hr7 1 _ rfl
        obtain ⟨r2, -⟩ := hr7 2 _ rfl
        obtain ⟨r3, -⟩ := hr7 3 _ rfl
        obtain ⟨r4, -⟩ := hr7 4 _ rfl
        obtain ⟨r5, -⟩ := hr7 5 _ rfl
        obtain ⟨r6, -⟩ := hr7 6 _ rfl
        refine bodyPost_ret (v := .tuple #[.agg #[.string ⟨#[]⟩, .slice none 0 0, .int .u64 0, .slice none 0 0, .int .i64 0, .slice none 0 0, .slice none 0 0], .int .i64 10]) (by simp [results, Tryz.results28, go_sem, r0, r1, r2, r3, r4, r5, r6]; try rfl) rfl ?_
        exact ⟨_, CmV.zero _, rfl, bel_set7 HB4.out (Nat.le_refl _) _ _ _ _ _ _ _⟩
      | true =>
        rw [if_pos rfl]
        have HIN := Lib.hid (fun W ao cap h => (show Calls Tryz.prog 71 #[.slice ao 13 cap, .string (upS a)] W fun e w' => e = .returned (.bool true) ∧ w' = W from hk ▸ contains_any nameL (upS a) ao cap W (by decide) h))
        have HRE := Lib.hid (fun ao cap b W h1 h2 h3 h4 => cmdRest_any (upS a) hk tl ao cap b W (by omega) (fun x hx => HSZ.out.1 x (by simp [hx]) |> fun h => Nat.le_trans h hs) h1 h2 h3 h4)
        have HRZ := Lib.hid (restC_zero (upS a) tl)
        unfold RestPost at HRE
        generalize restC (upS a) tl = q at *
        obtain ⟨q, f⟩ := q
        simp only at HRE HRZ ⊢
        generalize upS a = nm at *
        clear hk
        go_enter Tryz.func28, Tryz.ntmps28
        go_wp2_with fail
        (go_at_call 69; refine (HW.out _).mono ?_; rintro e w1 ⟨ao1, cap1, rfl, hc1, hb1, hcp1⟩; (have HP1 := Lib.hid ((PB.new7 w 55 _ _ _ _ _ _ _).go hb1)); (have HB1 := Lib.hid ((Below.of_al w (Obj.cells #[.string ⟨#[]⟩, .slice none 0 0, .int .u64 0, .slice none 0 0, .int .i64 0, .slice none 0 0, .slice none 0 0] 55)).st hb1)); (have HC1 := Lib.hid hc1); (have HZ1 := Lib.hid (show w.heap.size + 1 ≤ w1.heap.size by have := hb1.size; simp at this; omega)); clear hb1 hc1)
        obtain ⟨bw, ow, rfl, hcw⟩ := HC1.out.at (i := 0) (by simp)
        simp only [Nat.add_zero, List.getElem_cons_zero] at hcw
        have hbw : bw < w1.heap.size := World.block_lt_of_cell? _ _ hcw
        go_wp2_with (go_at_call 70; refine (HU.out _).mono ?_; rintro e w2 ⟨rfl, hb2⟩)
        obtain ⟨W3, hW3⟩ : ∃ W3, W3 = w2.alloc (Obj.cells #[.string nm, .slice none 0 0, .int .u64 0, .slice none 0 0, .int .i64 0, .slice none 0 0, .slice none 0 0, .int .i64 0] 105) := ⟨_, rfl⟩
        have hb3 : Below w2.heap.size w2 W3 := by rw [hW3]; exact Below.of_al _ _
        have HR3 := Lib.hid (show PB W3 w2.heap.size (rd0 nm) by rw [hW3]; exact PB.new8 _ _ _ _ _ _ _ _ _ _)
        have HP3 := Lib.hid ((HP1.out.go hb2).go hb3)
        have HB3 := Lib.hid ((HB1.out.st hb2).st hb3)
        have HC3 := Lib.hid ((HC1.out.go hb2).go hb3)
        have HZ3 := Lib.hid (show w2.heap.size < W3.heap.size by rw [hW3]; simp)
        have hbb : bw < w2.heap.size := by have := hb2.size; omega
        have HZ2 := Lib.hid (show w.heap.size + 1 ≤ w2.heap.size by have := hb2.size; have := HZ1.out; omega)
        rw [← hW3]
        clear hW3 hb3 hb2 HP1 HB1 HC1 hcw hbw HZ1
        generalize w2.heap.size = b at *
        obtain ⟨c0, -⟩ := HR3.out 0 _ rfl
        simp only [cmd0] at c0
        go_wp2_with fail
        go_region_held3 (fun w' => w'.cell? ⟨b, 0, none⟩ = some (.string nm) ∧ Below W3.heap.size W3 w') (first | assumption | exact cs1_start c0 | exact cs1_next (by assumption) (by assumption)) (first
          | (go_at_call 72; refine (HN.out _).mono ?_; rintro e w4 ⟨ao4, cap4, rfl, hc4, hb4⟩)
          | (go_at_call 71; refine (HIN.out _ _ _ (by assumption)).mono ?_; rintro e w5 ⟨rfl, rfl⟩))
        rename_i hHeld
        obtain ⟨-, hb5⟩ := hHeld
        have HP4 := Lib.hid (HP3.out.go hb5)
        have HB4 := Lib.hid (HB3.out.st hb5)
        have HR4 := Lib.hid (HR3.out.go hb5)
        have HC4 := Lib.hid (HC3.out.go hb5)
        have HZ4 := Lib.hid (show b < w5.heap.size by have := hb5.size; have := HZ3.out; omega)
        clear hb5 hb4 hc4 HP3 HB3 HR3 HC3 HZ3 c0
        have hcp : tl.length + 1 ≤ cap1 := hcp1
        have HCA := Lib.hid (fun (h : cap1 = 1) (ad : Addr) => (show Cel w5 (some ad) (tl.map encS) by
          obtain rfl : tl = [] := List.length_eq_zero_iff.1 (by omega)
          exact Cel.nil _ _))
        have HCB := Lib.hid (cm_tail HC4.out)
        have HBN := Lib.hid (fun (o : Nat) (x : Addr) (h : some (⟨bw, o, none⟩ : Addr) = some x) => (show x.block ≠ b by cases h; exact Nat.ne_of_lt hbb))
        go_wp2_with fail
        · refine (HRE.out _ _ _ _ (HCA.out (by omega) _) (HBN.out _) HZ4.out HR4.out).mono ?_
          rintro e w6 ⟨rfl, hb6, v, h7, hpb, hcv⟩
          have HP6 := Lib.hid (HP4.out.eq (hb6.block w.heap.size (by have := HZ2.out; omega)))
          have HB6 := Lib.hid (HB4.out.trans (hb6.mono (by have := HZ2.out; omega)))
          have HPB := Lib.hid hpb
          have HCV := Lib.hid hcv
          clear hb6 hpb hcv HP4 HB4 HR4 HC4 HCA HCB HBN
          by_cases hf : f = 0
          · subst hf
            obtain ⟨ai, ci, aq, cq, ag, cg, ak, ck, rfl, h1, h2, h3, h4, k1, k2, k3, k4⟩ := HCV.out rfl
            have HNB := Lib.hid (fun (ao : Option Addr) (h : ∀ x, ao = some x → b ≤ x.block) x (e : ao = some x) => (show x.block ≠ w.heap.size by have := h x e; have := HZ2.out; omega))
            have H1 := Lib.hid (And.intro h1 (HNB.out _ k1))
            have H2 := Lib.hid (And.intro h2 (HNB.out _ k2))
            have H3 := Lib.hid (And.intro h3 (HNB.out _ k3))
            have H4 := Lib.hid (And.intro h4 (HNB.out _ k4))
            clear HCV h1 h2 h3 h4 h7 k1 k2 k3 k4 HNB
            obtain ⟨a7, -⟩ := HPB.out 7 _ rfl
            obtain ⟨a0, -⟩ := HPB.out 0 _ rfl
            obtain ⟨a1, -⟩ := HPB.out 1 _ rfl
            obtain ⟨a2, -⟩ := HPB.out 2 _ rfl
            obtain ⟨a3, -⟩ := HPB.out 3 _ rfl
            obtain ⟨a4, -⟩ := HPB.out 4 _ rfl
            obtain ⟨a5, -⟩ := HPB.out 5 _ rfl
            obtain ⟨a6, -⟩ := HPB.out 6 _ rfl
            obtain ⟨p0, q0⟩ := HP6.out 0 _ rfl
            obtain ⟨p1, q1⟩ := HP6.out 1 _ rfl
            obtain ⟨p2, q2⟩ := HP6.out 2 _ rfl
            obtain ⟨p3, q3⟩ := HP6.out 3 _ rfl
            obtain ⟨p4, q4⟩ := HP6.out 4 _ rfl
            obtain ⟨p5, q5⟩ := HP6.out 5 _ rfl
            obtain ⟨p6, q6⟩ := HP6.out 6 _ rfl
            go_wp2
            have hr7 := (HP6.out).set7 rfl (.string q.name) (.slice ai q.ints.length ci) (.int .u64 q.w) (.slice aq q.rats.length cq) (.int .i64 q.gn) (.slice ag q.ge.length cg) (.slice ak q.rank.length ck)
            obtain ⟨r0, -⟩ := hr7 0 _ rfl
            obtain ⟨r1, -⟩ := hr7 1 _ rfl
            obtain ⟨r2, -⟩ := hr7 2 _ rfl
            obtain ⟨r3, -⟩ := hr7 3 _ rfl
            obtain ⟨r4, -⟩ := hr7 4 _ rfl
            obtain ⟨r5, -⟩ := hr7 5 _ rfl
            obtain ⟨r6, -⟩ := hr7 6 _ rfl
            refine bodyPost_ret (v := .tuple #[.agg #[.string q.name, .slice ai q.ints.length ci, .int .u64 q.w, .slice aq q.rats.length cq, .int .i64 q.gn, .slice ag q.ge.length cg, .slice ak q.rank.length ck], .int .i64 0]) (by simp [results, Tryz.results28, go_sem, r0, r1, r2, r3, r4, r5, r6]; try rfl) rfl ?_
            exact ⟨_, ⟨ai, ci, aq, cq, ag, cg, ak, ck, rfl, H1.out.1.put7 H1.out.2 _ _ _ _ _ _ _, H2.out.1.put7 H2.out.2 _ _ _ _ _ _ _, H3.out.1.put7 H3.out.2 _ _ _ _ _ _ _, H4.out.1.put7 H4.out.2 _ _ _ _ _ _ _⟩, rfl, bel_set7 HB6.out (Nat.le_refl _) _ _ _ _ _ _ _⟩
          · match v, h7, HPB, HCV with
            | [x0, x1, x2, x3, x4, x5, x6], _, HPB, _ =>
              obtain ⟨a7, -⟩ := HPB.out 7 _ rfl
              obtain ⟨p0, q0⟩ := HP6.out 0 _ rfl
              obtain ⟨p1, q1⟩ := HP6.out 1 _ rfl
              obtain ⟨p2, q2⟩ := HP6.out 2 _ rfl
              obtain ⟨p3, q3⟩ := HP6.out 3 _ rfl
              obtain ⟨p4, q4⟩ := HP6.out 4 _ rfl
              obtain ⟨p5, q5⟩ := HP6.out 5 _ rfl
              obtain ⟨p6, q6⟩ := HP6.out 6 _ rfl
              have hf2 : (f != 0) = true := by simpa using hf
              have hq := HRZ.out hf
              subst hq
              clear hf
              go_wp2
              go_region
              go_wp2
              have hr7 := (HP6.out).set7 rfl (.string ⟨#[]⟩) (.slice none 0 0) (.int .u64 0) (.slice none 0 0) (.int .i64 0) (.slice none 0 0) (.slice none 0 0)
              obtain ⟨r0, -⟩ := hr7 0 _ rfl
              obtain ⟨r1, -⟩ := hr7 1 _ rfl
              obtain ⟨r2, -⟩ := hr7 2 _ rfl
              obtain ⟨r3, -⟩ := hr7 3 _ rfl
              obtain ⟨r4, -⟩ := hr7 4 _ rfl
              obtain ⟨r5, -⟩ := hr7 5 _ rfl
              obtain ⟨r6, -⟩ := hr7 6 _ rfl
              refine bodyPost_ret (v := .tuple #[.agg #[.string ⟨#[]⟩, .slice none 0 0, .int .u64 0, .slice none 0 0, .int .i64 0, .slice none 0 0, .slice none 0 0], .int .i64 f]) (by simp [results, Tryz.results28, go_sem, r0, r1, r2, r3, r4, r5, r6]; try rfl) rfl ?_
              refine ⟨_, CmV.zero _, ?_, ?_⟩
              · rfl
              · exact (bel_set7 HB6.out (Nat.le_refl _) _ _ _ _ _ _ _).drew
        · refine (HRE.out _ _ _ _ HCB.out (HBN.out _) HZ4.out HR4.out).mono ?_
          rintro e w6 ⟨rfl, hb6, v, h7, hpb, hcv⟩
          have HP6 := Lib.hid (HP4.out.eq (hb6.block w.heap.size (by have := HZ2.out; omega)))
          have HB6 := Lib.hid (HB4.out.trans (hb6.mono (by have := HZ2.out; omega)))
          have HPB := Lib.hid hpb
          have HCV := Lib.hid hcv
          clear hb6 hpb hcv HP4 HB4 HR4 HC4 HCA HCB HBN
          by_cases hf : f = 0
          · subst hf
            obtain ⟨ai, ci, aq, cq, ag, cg, ak, ck, rfl, h1, h2, h3, h4, k1, k2, k3, k4⟩ := HCV.out rfl
            have HNB := Lib.hid (fun (ao : Option Addr) (h : ∀ x, ao = some x → b ≤ x.block) x (e : ao = some x) => (show x.block ≠ w.heap.size by have := h x e; have := HZ2.out; omega))
            have H1 := Lib.hid (And.intro h1 (HNB.out _ k1))
            have H2 := Lib.hid (And.intro h2 (HNB.out _ k2))
            have H3 := Lib.hid (And.intro h3 (HNB.out _ k3))
            have H4 := Lib.hid (And.intro h4 (HNB.out _ k4))
            clear HCV h1 h2 h3 h4 h7 k1 k2 k3 k4 HNB
            obtain ⟨a7, -⟩ := HPB.out 7 _ rfl
            obtain ⟨a0, -⟩ := HPB.out 0 _ rfl
            obtain ⟨a1, -⟩ := HPB.out 1 _ rfl
            obtain ⟨a2, -⟩ := HPB.out 2 _ rfl
            obtain ⟨a3, -⟩ := HPB.out 3 _ rfl
            obtain ⟨a4, -⟩ := HPB.out 4 _ rfl
            obtain ⟨a5, -⟩ := HPB.out 5 _ rfl
            obtain ⟨a6, -⟩ := HPB.out 6 _ rfl
            obtain ⟨p0, q0⟩ := HP6.out 0 _ rfl
            obtain ⟨p1, q1⟩ := HP6.out 1 _ rfl
            obtain ⟨p2, q2⟩ := HP6.out 2 _ rfl
            obtain ⟨p3, q3⟩ := HP6.out 3 _ rfl
            obtain ⟨p4, q4⟩ := HP6.out 4 _ rfl
            obtain ⟨p5, q5⟩ := HP6.out 5 _ rfl
            obtain ⟨p6, q6⟩ := HP6.out 6 _ rfl
            go_wp2
            have hr7 := (HP6.out).set7 rfl (.string q.name) (.slice ai q.ints.length ci) (.int .u64 q.w) (.slice aq q.rats.length cq) (.int .i64 q.gn) (.slice ag q.ge.length cg) (.slice ak q.rank.length ck)
            obtain ⟨r0, -⟩ := hr7 0 _ rfl
            obtain ⟨r1, -⟩ := hr7 1 _ rfl
            obtain ⟨r2, -⟩ := hr7 2 _ rfl
            obtain ⟨r3, -⟩ := hr7 3 _ rfl
            obtain ⟨r4, -⟩ := hr7 4 _ rfl
            obtain ⟨r5, -⟩ := hr7 5 _ rfl
            obtain ⟨r6, -⟩ := hr7 6 _ rfl
            refine bodyPost_ret (v := .tuple #[.agg #[.string q.name, .slice ai q.ints.length ci, .int .u64 q.w, .slice aq q.rats.length cq, .int .i64 q.gn, .slice ag q.ge.length cg, .slice ak q.rank.length ck], .int .i64 0]) (by simp [results, Tryz.results28, go_sem, r0, r1, r2, r3, r4, r5, r6]; try rfl) rfl ?_
            exact ⟨_, ⟨ai, ci, aq, cq, ag, cg, ak, ck, rfl, H1.out.1.put7 H1.out.2 _ _ _ _ _ _ _, H2.out.1.put7 H2.out.2 _ _ _ _ _ _ _, H3.out.1.put7 H3.out.2 _ _ _ _ _ _ _, H4.out.1.put7 H4.out.2 _ _ _ _ _ _ _⟩, rfl, bel_set7 HB6.out (Nat.le_refl _) _ _ _ _ _ _ _⟩
          · match v, h7, HPB, HCV with
            | [x0, x1, x2, x3, x4, x5, x6], _, HPB, _ =>
              obtain ⟨a7, -⟩ := HPB.out 7 _ rfl
              obtain ⟨p0, q0⟩ := HP6.out 0 _ rfl
              obtain ⟨p1, q1⟩ := HP6.out 1 _ rfl
              obtain ⟨p2, q2⟩ := HP6.out 2 _ rfl
              obtain ⟨p3, q3⟩ := HP6.out 3 _ rfl
              obtain ⟨p4, q4⟩ := HP6.out 4 _ rfl
              obtain ⟨p5, q5⟩ := HP6.out 5 _ rfl
              obtain ⟨p6, q6⟩ := HP6.out 6 _ rfl
              have hf2 : (f != 0) = true := by simpa using hf
              have hq := HRZ.out hf
              subst hq
              clear hf
              go_wp2
              go_region
              go_wp2
              have hr7 := (HP6.out).set7 rfl (.string ⟨#[]⟩) (.slice none 0 0) (.int .u64 0) (.slice none 0 0) (.int .i64 0) (.slice none 0 0) (.slice none 0 0)
              obtain ⟨r0, -⟩ := hr7 0 _ rfl
              obtain ⟨r1, -⟩ := hr7 1 _ rfl
              obtain ⟨r2, -⟩ := hr7 2 _ rfl
              obtain ⟨r3, -⟩ := hr7 3 _ rfl
              obtain ⟨r4, -⟩ := hr7 4 _ rfl
              obtain ⟨r5, -⟩ := hr7 5 _ rfl
              obtain ⟨r6, -⟩ := hr7 6 _ rfl
              refine bodyPost_ret (v := .tuple #[.agg #[.string ⟨#[]⟩, .slice none 0 0, .int .u64 0, .slice none 0 0, .int .i64 0, .slice none 0 0, .slice none 0 0], .int .i64 f]) (by simp [results, Tryz.results28, go_sem, r0, r1, r2, r3, r4, r5, r6]; try rfl) rfl ?_
              refine ⟨_, CmV.zero _, ?_, ?_⟩
              · rfl
              · exact (bel_set7 HB6.out (Nat.le_refl _) _ _ _ _ _ _ _).drew
  · rw [if_pos hf]
    have hf2 : (f != 0) = true := by simpa using hf
    clear hsz
    go_enter Tryz.func28, Tryz.ntmps28
    go_wp2_with fail
    (go_at_call 69; refine (HW.out _).mono ?_; rintro e w1 ⟨ao1, cap1, rfl, hc1, hb1, hcp1⟩; (have HP1 := Lib.hid ((PB.new7 w 55 _ _ _ _ _ _ _).go hb1)); (have HB1 := Lib.hid ((Below.of_al w (Obj.cells #[.string ⟨#[]⟩, .slice none 0 0, .int .u64 0, .slice none 0 0, .int .i64 0, .slice none 0 0, .slice none 0 0] 55)).st hb1)); (have HC1 := Lib.hid hc1); (have HZ1 := Lib.hid (show w.heap.size + 1 ≤ w1.heap.size by have := hb1.size; simp at this; omega)); clear hb1 hc1)
    obtain ⟨p0, q0⟩ := HP1.out 0 _ rfl
    obtain ⟨p1, q1⟩ := HP1.out 1 _ rfl
    obtain ⟨p2, q2⟩ := HP1.out 2 _ rfl
    obtain ⟨p3, q3⟩ := HP1.out 3 _ rfl
    obtain ⟨p4, q4⟩ := HP1.out 4 _ rfl
    obtain ⟨p5, q5⟩ := HP1.out 5 _ rfl
    obtain ⟨p6, q6⟩ := HP1.out 6 _ rfl
    go_wp2
    have hr7 := (HP1.out).set7 rfl (.string ⟨#[]⟩) (.slice none 0 0) (.int .u64 0) (.slice none 0 0) (.int .i64 0) (.slice none 0 0) (.slice none 0 0)
    obtain ⟨r0, -⟩ := hr7 0 _ rfl
    obtain ⟨r1, -⟩ := hr7 1 _ rfl
    obtain ⟨r2, -⟩ := hr7 2 _ rfl
    obtain ⟨r3, -⟩ := hr7 3 _ rfl
    obtain ⟨r4, -⟩ := hr7 4 _ rfl
    obtain ⟨r5, -⟩ := hr7 5 _ rfl
    obtain ⟨r6, -⟩ := hr7 6 _ rfl
    refine bodyPost_ret (v := .tuple #[.agg #[.string ⟨#[]⟩, .slice none 0 0, .int .u64 0, .slice none 0 0, .int .i64 0, .slice none 0 0, .slice none 0 0], .int .i64 f]) (by simp [results, Tryz.results28, go_sem, r0, r1, r2, r3, r4, r5, r6]; try rfl) rfl ?_
    exact ⟨_, CmV.zero _, rfl, bel_set7 HB1.out (Nat.le_refl _) _ _ _ _ _ _ _⟩

end Go.Proofs.YtelcmkccfjdmjaaGreatDoor

namespace Go.Proofs.YtelcmkccfjdmjaaGreatDoor
open Go Go.Proofs Go.RowKit Go.Shelf Go.Sort

/-- a command as the reference has it while words are taken -/
def cmVal (c : CmD) (vi vr : Value) : List Value := [.string c.name, vi, .int .u64 c.w, vr, .int .i64 0, .slice none 0 0, .slice none 0 0]
structure RfS (W : World) (base : Nat) (c : CmD) (vi vr : Value) : Prop where
  oi : W.ownsRow base 3 1 vi c.ints.length (c.ints.map encI)
  oq : W.ownsRow base 98 2 vr c.rats.length (flatP c.rats)
  far : ∀ k, vi.ownBlock = some k → vr.ownBlock ≠ some k
theorem RfS.go {W W' : World} {base : Nat} {c : CmD} {vi vr : Value} (h : RfS W base c vi vr) (hb : Below W.heap.size W W') : RfS W' base c vi vr :=
  ⟨cm_owns_go h.oi hb, cm_owns_go h.oq hb, h.far⟩
theorem RfS.w {W : World} {base : Nat} {c : CmD} {vi vr : Value} (h : RfS W base c vi vr) (x : Int) : RfS W base { c with w := x } vi vr := ⟨h.oi, h.oq, h.far⟩
theorem RfS.set {W : World} {base b : Nat} {c : CmD} {vi vr : Value} (h : RfS W base c vi vr) (hi : vi.ownBlock ≠ some b) (hr : vr.ownBlock ≠ some b) (j : Nat) (u : Value) : RfS (W.setCell ⟨b, j, none⟩ u) base c vi vr :=
  ⟨owns_setNew h.oi hi u, owns_setNew h.oq hr u, h.far⟩
theorem RfS.set7 {W : World} {base b : Nat} {c : CmD} {vi vr : Value} (h : RfS W base c vi vr) (hi : vi.ownBlock ≠ some b) (hr : vr.ownBlock ≠ some b) (v0 v1 v2 v3 v4 v5 v6 : Value) :
    RfS (((((((W.setCell ⟨b, 0, none⟩ v0).setCell ⟨b, 1, none⟩ v1).setCell ⟨b, 2, none⟩ v2).setCell ⟨b, 3, none⟩ v3).setCell ⟨b, 4, none⟩ v4).setCell ⟨b, 5, none⟩ v5).setCell ⟨b, 6, none⟩ v6) base c vi vr :=
  ((((((h.set hi hr 0 v0).set hi hr 1 v1).set hi hr 2 v2).set hi hr 3 v3).set hi hr 4 v4).set hi hr 5 v5).set hi hr 6 v6
theorem RfS.int {W W' : World} {base : Nat} {c : CmD} {x : Int} {vi vr : Value} {g cap : Nat} (h : RfS W base c vi vr) (ho : W'.ownsRow base 3 1 (.slice (some ⟨g, 0, none⟩) (c.ints.length + 1) cap) (c.ints.length + 1) (c.ints.map encI ++ [.int .i64 x]))
    (hg : W.grownBy W' vi.ownBlock) (hat : vi.ownBlock = some g ∨ g = W.heap.size) :
    RfS W' base { c with ints := c.ints ++ [x] } (.slice (some ⟨g, 0, none⟩) (c.ints.length + 1) cap) vr := by
  refine ⟨?_, ?_, ?_⟩
  · rw [show (c.ints ++ [x]).length = c.ints.length + 1 by simp, List.map_append]
    exact ho
  · refine h.oq.kept hg ?_
    cases hv : vr.ownBlock with
    | none => exact .inl rfl
    | some k => exact .inr (fun e => h.far k e.symm hv)
  · intro k hk
    cases hk
    rcases hat with e | e
    · exact h.far _ e
    · intro e2
      have h9 : g < W.heap.size := (h.oq.lt _ e2).2
      omega
theorem RfS.rat {W W' : World} {base : Nat} {c : CmD} {q : Int × Int} {vi vr : Value} {g cap : Nat} (h : RfS W base c vi vr) (ho : W'.ownsRow base 98 2 (.slice (some ⟨g, 0, none⟩) (c.rats.length + 1) cap) (c.rats.length + 1) (flatP c.rats ++ [.int .u64 q.1, .int .u64 q.2]))
    (hg : W.grownBy W' vr.ownBlock) (hat : vr.ownBlock = some g ∨ g = W.heap.size) :
    RfS W' base { c with rats := c.rats ++ [q] } vi (.slice (some ⟨g, 0, none⟩) (c.rats.length + 1) cap) := by
  refine ⟨?_, ?_, ?_⟩
  · refine h.oi.kept hg ?_
    cases hv : vi.ownBlock with
    | none => exact .inl rfl
    | some k => exact .inr (fun e => h.far k hv e.symm)
  · rw [show (c.rats ++ [q]).length = c.rats.length + 1 by simp, flatP_snoc]
    exact ho
  · intro k hk e
    have e2 : g = k := Option.some.inj e
    subst e2
    rcases hat with e3 | e3
    · exact h.far _ hk e3
    · have h9 : g < W.heap.size := (h.oi.lt _ hk).2
      omega
theorem PB.new7At (w : World) (T : TypeId) (x0 x1 x2 x3 x4 x5 x6 : Value) {k : Nat} (hk : k = w.heap.size) : PB (w.alloc (.cells #[x0, x1, x2, x3, x4, x5, x6] T)) k [x0, x1, x2, x3, x4, x5, x6] := by
  subst hk
  exact PB.new7 w T x0 x1 x2 x3 x4 x5 x6
theorem at_ne2 {v : Value} {g N M : Nat} (hv : ∀ k, v.ownBlock = some k → k < N) (hat : v.ownBlock = some g ∨ g = M) (hm : N + 2 ≤ M) : g ≠ N ∧ g ≠ N + 1 := by
  rcases hat with h | h
  · have := hv _ h
    omega
  · omega
/-- what take leaves -/
def RtPost (w : World) (base : Nat) (k : UInt8) (s : ByteArray) (c : CmD) (ui ur : Value) (e : Ending) (w' : World) : Prop :=
  ∃ vi vr, e = .returned (.tuple #[.agg (cmVal (tkC k s c) vi vr).toArray, .int .i64 (tkF k s)]) ∧ RfS w' base (tkC k s c) vi vr ∧ Below base w w' ∧
    (∀ j, j < w.heap.size → ui.ownBlock ≠ some j → ur.ownBlock ≠ some j → w'.heap[j]? = w.heap[j]?) ∧ (∀ j, vi.ownBlock = some j → ui.ownBlock = some j ∨ w.heap.size ≤ j) ∧ (∀ j, vr.ownBlock = some j → ur.ownBlock = some j ∨ w.heap.size ≤ j)

set_option maxRecDepth 100000 in
set_option maxHeartbeats 4000000 in
theorem refTake_w (k : UInt8) (hk : k = 119 ∨ k = 97) (s : ByteArray) (c : CmD) (base : Nat) (vi vr : Value) (w : World) (hs : s.size ≤ 65536) (hbz : base ≤ w.heap.size) (h : RfS w base c vi vr) :
    Calls Tryz.prog 111 #[.agg (cmVal c vi vr).toArray, .int .u8 (k.toNat : Int), .string s] w (RtPost w base k s c vi vr) := by
  have HPI := Lib.hid (show ∀ W, Calls Tryz.prog 84 #[.string s] W fun e w' => e = .returned (.tuple #[.int .u64 (parseI s).1, .int .i64 (parseI s).2]) ∧ w' = W from fun W => refParse_any _ W (by omega))
  have HR := Lib.hid h
  obtain ⟨ai, ci, rfl, -⟩ := Cel.of_owns h.oi
  obtain ⟨aq, cq, rfl, -⟩ := Cel.of_owns h.oq
  clear h
  unfold cmVal
  rcases hk with rfl | rfl
  · have e1 : tkF 119 s = if (parseI s).2 = 0 ∧ ((parseI s).1 < 1 ∨ 4294967296 < (parseI s).1) then 2 else (parseI s).2 := rfl
    have e2 : tkC 119 s c = { c with w := (parseI s).1 } := rfl
    unfold RtPost
    rw [e1, e2]
    clear e1 e2
    generalize parseI s = q at *
    obtain ⟨n, f⟩ := q
    simp only at HPI ⊢
    by_cases hf : f = 0
    · subst hf
      by_cases h1 : n < 1
      · rw [if_pos ⟨rfl, .inl h1⟩]
        go_enter Tryz.func111, Tryz.ntmps111
        go_wp2_with (go_at_call 84; refine (HPI.out _).mono ?_; rintro e w1 ⟨rfl, rfl⟩)
        refine bodyPost_ret (v := .tuple #[.agg #[.string c.name, .slice ai c.ints.length ci, .int .u64 n, .slice aq c.rats.length cq, .int .i64 0, .slice none 0 0, .slice none 0 0], .int .i64 2]) (by simp [results, Tryz.results111, go_sem]; try rfl) rfl ?_
        exact ⟨_, _, rfl, ((HR.out.w n).go (Below.of_al _ _)).go (Below.of_al _ _), ((Below.of_al _ _).al _).mono hbz, fun j hj _ _ => ((Below.of_al w _).al _).block j hj, fun j h => .inl h, fun j h => .inl h⟩
      · by_cases h2 : 4294967296 < n
        · rw [if_pos ⟨rfl, .inr h2⟩]
          go_enter Tryz.func111, Tryz.ntmps111
          go_wp2_with (go_at_call 84; refine (HPI.out _).mono ?_; rintro e w1 ⟨rfl, rfl⟩)
          refine bodyPost_ret (v := .tuple #[.agg #[.string c.name, .slice ai c.ints.length ci, .int .u64 n, .slice aq c.rats.length cq, .int .i64 0, .slice none 0 0, .slice none 0 0], .int .i64 2]) (by simp [results, Tryz.results111, go_sem]; try rfl) rfl ?_
          exact ⟨_, _, rfl, ((HR.out.w n).go (Below.of_al _ _)).go (Below.of_al _ _), ((Below.of_al _ _).al _).mono hbz, fun j hj _ _ => ((Below.of_al w _).al _).block j hj, fun j h => .inl h, fun j h => .inl h⟩
        · rw [if_neg (fun hh => hh.2.elim h1 h2)]
          go_enter Tryz.func111, Tryz.ntmps111
          go_wp2_with (go_at_call 84; refine (HPI.out _).mono ?_; rintro e w1 ⟨rfl, rfl⟩)
          refine bodyPost_ret (v := .tuple #[.agg #[.string c.name, .slice ai c.ints.length ci, .int .u64 n, .slice aq c.rats.length cq, .int .i64 0, .slice none 0 0, .slice none 0 0], .int .i64 0]) (by simp [results, Tryz.results111, go_sem]; try rfl) rfl ?_
          exact ⟨_, _, rfl, ((HR.out.w n).go (Below.of_al _ _)).go (Below.of_al _ _), ((Below.of_al _ _).al _).mono hbz, fun j hj _ _ => ((Below.of_al w _).al _).block j hj, fun j h => .inl h, fun j h => .inl h⟩
    · have hf2 : (f == 0) = false := by simpa using hf
      rw [if_neg (fun hh => hf hh.1)]
      clear hf
      go_enter Tryz.func111, Tryz.ntmps111
      go_wp2_with (go_at_call 84; refine (HPI.out _).mono ?_; rintro e w1 ⟨rfl, rfl⟩)
      refine bodyPost_ret (v := .tuple #[.agg #[.string c.name, .slice ai c.ints.length ci, .int .u64 n, .slice aq c.rats.length cq, .int .i64 0, .slice none 0 0, .slice none 0 0], .int .i64 f]) (by simp [results, Tryz.results111, go_sem]; try rfl) rfl ?_
      exact ⟨_, _, rfl, ((HR.out.w n).go (Below.of_al _ _)).go (Below.of_al _ _), ((Below.of_al _ _).al _).mono hbz, fun j hj _ _ => ((Below.of_al w _).al _).block j hj, fun j h => .inl h, fun j h => .inl h⟩
  · have e1 : tkF 97 s = (parseI s).2 := rfl
    have e2 : tkC 97 s c = { c with w := (parseI s).1 } := rfl
    unfold RtPost
    rw [e1, e2]
    clear e1 e2
    generalize parseI s = q at *
    obtain ⟨n, f⟩ := q
    simp only at HPI ⊢
    cases hf : (f == 0) with
    | true =>
      go_enter Tryz.func111, Tryz.ntmps111
      go_wp2_with (go_at_call 84; refine (HPI.out _).mono ?_; rintro e w1 ⟨rfl, rfl⟩)
      refine bodyPost_ret (v := .tuple #[.agg #[.string c.name, .slice ai c.ints.length ci, .int .u64 n, .slice aq c.rats.length cq, .int .i64 0, .slice none 0 0, .slice none 0 0], .int .i64 f]) (by simp [results, Tryz.results111, go_sem]; try rfl) rfl ?_
      exact ⟨_, _, rfl, ((HR.out.w n).go (Below.of_al _ _)).go (Below.of_al _ _), ((Below.of_al _ _).al _).mono hbz, fun j hj _ _ => ((Below.of_al w _).al _).block j hj, fun j h => .inl h, fun j h => .inl h⟩
    | false =>
      go_enter Tryz.func111, Tryz.ntmps111
      go_wp2_with (go_at_call 84; refine (HPI.out _).mono ?_; rintro e w1 ⟨rfl, rfl⟩)
      refine bodyPost_ret (v := .tuple #[.agg #[.string c.name, .slice ai c.ints.length ci, .int .u64 n, .slice aq c.rats.length cq, .int .i64 0, .slice none 0 0, .slice none 0 0], .int .i64 f]) (by simp [results, Tryz.results111, go_sem]; try rfl) rfl ?_
      exact ⟨_, _, rfl, ((HR.out.w n).go (Below.of_al _ _)).go (Below.of_al _ _), ((Below.of_al _ _).al _).mono hbz, fun j hj _ _ => ((Below.of_al w _).al _).block j hj, fun j h => .inl h, fun j h => .inl h⟩

set_option maxRecDepth 100000 in
set_option maxHeartbeats 4000000 in
theorem refTake_num (k : UInt8) (hk : k = 110 ∨ k = 101 ∨ k = 107 ∨ k = 111) (s : ByteArray) (c : CmD) (base : Nat) (vi vr : Value) (w : World) (hs : s.size ≤ 65536) (hc : c.ints.length ≤ 1000000) (hbz : base ≤ w.heap.size) (h : RfS w base c vi vr) :
    Calls Tryz.prog 111 #[.agg (cmVal c vi vr).toArray, .int .u8 (k.toNat : Int), .string s] w (RtPost w base k s c vi vr) := by
  obtain ⟨e1, e2⟩ := tk_num hk s c
  have HLM := Lib.hid (fun W => refLimits_any k W hk)
  have hm : 0 ≤ mostC k ∧ mostC k ≤ 100000 := by rcases hk with rfl | rfl | rfl | rfl <;> decide
  have HI := Lib.hid (show ∀ W, Calls Tryz.prog 130 #[.string s, .int .i64 (mostC k)] W fun e w' => e = .returned (.tuple #[.int .i64 (intI s (mostC k)).1, .int .i64 (intI s (mostC k)).2]) ∧ Below W.heap.size W w' from fun W => refInt_any s (mostC k) W (by omega) (by omega))
  have k1 : ((k.toNat : Int) == 114) = false := by rcases hk with rfl | rfl | rfl | rfl <;> decide
  have k2 : ((k.toNat : Int) == 119) = false := by rcases hk with rfl | rfl | rfl | rfl <;> decide
  have k3 : ((k.toNat : Int) == 97) = false := by rcases hk with rfl | rfl | rfl | rfl <;> decide
  have HR := Lib.hid h
  unfold numF at e1
  unfold RtPost
  rw [e1, e2]
  obtain ⟨ai, ci, rfl, -⟩ := Cel.of_owns h.oi
  obtain ⟨aq, cq, rfl, -⟩ := Cel.of_owns h.oq
  clear h e1 e2 hk
  unfold cmVal
  generalize (k.toNat : Int) = kk at *
  generalize intI s (mostC k) = q at *
  generalize mostC k = hi at *
  generalize leastC k = lo at *
  obtain ⟨n, f⟩ := q
  simp only at HI ⊢
  by_cases hf : f = 0
  · subst hf
    by_cases hn : n < lo
    · rw [if_pos ⟨rfl, hn⟩]
      go_enter Tryz.func111, Tryz.ntmps111
      go_wp2_with fail
      obtain ⟨W0, hW0⟩ : ∃ W0, W0 = (w.alloc (Obj.cells #[.string c.name, .slice ai c.ints.length ci, .int .u64 c.w, .slice aq c.rats.length cq, .int .i64 0, .slice none 0 0, .slice none 0 0] 60)).alloc (Obj.cells #[.string ⟨#[]⟩, .slice none 0 0, .int .u64 0, .slice none 0 0, .int .i64 0, .slice none 0 0, .slice none 0 0] 60) := ⟨_, rfl⟩
      have HB0 := Lib.hid (show Below w.heap.size w W0 by rw [hW0]; exact (Below.of_al _ _).al _)
      have HP0 := Lib.hid (show PB W0 w.heap.size _ by rw [hW0]; exact (PB.new7 _ _ _ _ _ _ _ _ _).go (Below.of_al _ _))
      have HX0 := Lib.hid (show PB W0 (w.heap.size + 1) _ by rw [hW0]; exact PB.new7At _ _ _ _ _ _ _ _ _ (by simp))
      have HZ0 := Lib.hid (show W0.heap.size = w.heap.size + 2 by rw [hW0]; simp)
      rw [← hW0]
      clear hW0
      have HR0 := Lib.hid (HR.out.go HB0.out)
      have HVI := Lib.hid (fun k h => (HR.out.oi.lt k h).2)
      have HVR := Lib.hid (fun k h => (HR.out.oq.lt k h).2)
      go_wp2_with (first
        | (go_at_call 151; refine (HLM.out _).mono ?_; rintro e w0 ⟨rfl, rfl⟩)
        | (go_at_call 130; refine (HI.out _).mono ?_; rintro e w1 ⟨rfl, hb1⟩; (have HR1 := Lib.hid (HR0.out.go hb1); have HP1 := Lib.hid (HP0.out.go hb1); have HX1 := Lib.hid (HX0.out.go hb1); have HB1 := Lib.hid (HB0.out.st hb1); have hz1 := hb1.size; have hz0 := HZ0.out; clear hb1); obtain ⟨p1, q1⟩ := HP1.out 1 _ rfl)
        | (at_builtin; go_must ((with_reducible refine wpList_app base 3 _ 1 8 cm_elemi Tryz.underlying45 (.slice ai c.ints.length ci) c.ints.length _ ⟨w1.heap.size, 0, none⟩ 1 1 [.int .i64 n] ?_ ?_ (HR1.out.oi.alloc _) (cm_one_at _ _ _ rfl) (cm_onei _) ⟨rfl, by decide, by omega, by omega, by simp; omega⟩ ?_); (· rfl); (· rfl); intro g6 cap6 w6 hown hgrow hbl hat hlt6; (have HR6 := Lib.hid ((HR1.out.go (Below.of_al w1 (Obj.cells #[.int .i64 n] 3))).int hown hgrow hat); have HP6 := Lib.hid ((HP1.out.go (Below.of_al w1 (Obj.cells #[.int .i64 n] 3))).eq (hgrow.block _ (by simp; omega) (fun e => by have := HVI.out _ e.symm; omega))); have HX6 := Lib.hid ((HX1.out.go (Below.of_al w1 (Obj.cells #[.int .i64 n] 3))).eq (hgrow.block _ (by simp; omega) (fun e => by have := HVI.out _ e.symm; omega))); have HB6 := Lib.hid (((HB1.out.al _).mono hbz).trans hbl); have HG6 := Lib.hid (at_ne2 HVI.out hat (by simp; omega)); have HK6 := Lib.hid (fun j (hj : j < w.heap.size) (h : (.slice ai c.ints.length ci : Value).ownBlock ≠ some j) => (hgrow.block j (by simp; omega) (fun e => h e.symm)).trans ((HB1.out.al _).block j hj)); have HJ6 := Lib.hid (show ∀ j, g6 = j → (.slice ai c.ints.length ci : Value).ownBlock = some j ∨ w.heap.size ≤ j from fun j e => by subst e; rcases hat with h | h; exact .inl h; exact .inr (by simp at h; omega)); clear hown hgrow hbl hat); (obtain ⟨p0, q0⟩ := (HP6).out 0 _ rfl); (obtain ⟨p1, q1⟩ := (HP6).out 1 _ rfl); (obtain ⟨p2, q2⟩ := (HP6).out 2 _ rfl); (obtain ⟨p3, q3⟩ := (HP6).out 3 _ rfl); (obtain ⟨p4, q4⟩ := (HP6).out 4 _ rfl); (obtain ⟨p5, q5⟩ := (HP6).out 5 _ rfl); (obtain ⟨p6, q6⟩ := (HP6).out 6 _ rfl); (obtain ⟨x0, y0⟩ := (HX6).out 0 _ rfl); (obtain ⟨x1, y1⟩ := (HX6).out 1 _ rfl); (obtain ⟨x2, y2⟩ := (HX6).out 2 _ rfl); (obtain ⟨x3, y3⟩ := (HX6).out 3 _ rfl); (obtain ⟨x4, y4⟩ := (HX6).out 4 _ rfl); (obtain ⟨x5, y5⟩ := (HX6).out 5 _ rfl); (obtain ⟨x6, y6⟩ := (HX6).out 6 _ rfl))))
      have HOB := Lib.hid (And.intro (show (.slice (some ⟨g6, 0, none⟩) (c.ints.length + 1) cap6 : Value).ownBlock ≠ some w.heap.size ∧ (.slice (some ⟨g6, 0, none⟩) (c.ints.length + 1) cap6 : Value).ownBlock ≠ some (w.heap.size + 1) from by first | exact ⟨fun h => HG6.out.1 (Option.some.inj h), fun h => HG6.out.2 (Option.some.inj h)⟩ | exact ⟨fun h => by have := HVI.out _ h; omega, fun h => by have := HVI.out _ h; omega⟩) (show (.slice aq c.rats.length cq : Value).ownBlock ≠ some w.heap.size ∧ (.slice aq c.rats.length cq : Value).ownBlock ≠ some (w.heap.size + 1) from by first | exact ⟨fun h => HG6.out.1 (Option.some.inj h), fun h => HG6.out.2 (Option.some.inj h)⟩ | exact ⟨fun h => by have := HVR.out _ h; omega, fun h => by have := HVR.out _ h; omega⟩))
      have hr7 := (HX6.out.setAt (c := w.heap.size) (j := 1) (by omega) (.slice (some ⟨g6, 0, none⟩) (c.ints.length + 1) cap6)).set7 rfl (.string c.name) (.slice (some ⟨g6, 0, none⟩) (c.ints.length + 1) cap6) (.int .u64 c.w) (.slice aq c.rats.length cq) (.int .i64 0) (.slice none 0 0) (.slice none 0 0)
      obtain ⟨r0, -⟩ := hr7 0 _ rfl
      obtain ⟨r1, -⟩ := hr7 1 _ rfl
      obtain ⟨r2, -⟩ := hr7 2 _ rfl
      obtain ⟨r3, -⟩ := hr7 3 _ rfl
      obtain ⟨r4, -⟩ := hr7 4 _ rfl
      obtain ⟨r5, -⟩ := hr7 5 _ rfl
      obtain ⟨r6, -⟩ := hr7 6 _ rfl
      refine bodyPost_ret (v := .tuple #[.agg #[.string c.name, .slice (some ⟨g6, 0, none⟩) (c.ints.length + 1) cap6, .int .u64 c.w, .slice aq c.rats.length cq, .int .i64 0, .slice none 0 0, .slice none 0 0], .int .i64 2]) (by simp [results, Tryz.results111, go_sem, r0, r1, r2, r3, r4, r5, r6]; try rfl) rfl ?_
      refine ⟨.slice (some ⟨g6, 0, none⟩) (c.ints.length + 1) cap6, .slice aq c.rats.length cq, ?_, ?_, ?_, ?_, ?_, ?_⟩
      · rfl
      · exact (HR6.out.set (b := w.heap.size) HOB.out.1.1 HOB.out.2.1 1 _).set7 (b := w.heap.size + 1) HOB.out.1.2 HOB.out.2.2 _ _ _ _ _ _ _
      · exact bel_set7 (HB6.out.setCell (p := ⟨w.heap.size, 1, none⟩) hbz _) (Nat.le_succ_of_le hbz) _ _ _ _ _ _ _
      · intro j hj hj1 hj2
        refine ((bel_set7 ((Below.refl w.heap.size w6).setCell (p := ⟨w.heap.size, 1, none⟩) (Nat.le_refl _) _) (Nat.le_succ _) _ _ _ _ _ _ _).block j hj).trans ?_
        first | exact HK6.out j hj hj1 | exact HK6.out j hj hj2
      · intro j h
        first | exact HJ6.out j (Option.some.inj h) | exact .inl h
      · intro j h
        first | exact HJ6.out j (Option.some.inj h) | exact .inl h
    · rw [if_neg (fun hh => hn hh.2)]
      go_enter Tryz.func111, Tryz.ntmps111
      go_wp2_with fail
      obtain ⟨W0, hW0⟩ : ∃ W0, W0 = (w.alloc (Obj.cells #[.string c.name, .slice ai c.ints.length ci, .int .u64 c.w, .slice aq c.rats.length cq, .int .i64 0, .slice none 0 0, .slice none 0 0] 60)).alloc (Obj.cells #[.string ⟨#[]⟩, .slice none 0 0, .int .u64 0, .slice none 0 0, .int .i64 0, .slice none 0 0, .slice none 0 0] 60) := ⟨_, rfl⟩
      have HB0 := Lib.hid (show Below w.heap.size w W0 by rw [hW0]; exact (Below.of_al _ _).al _)
      have HP0 := Lib.hid (show PB W0 w.heap.size _ by rw [hW0]; exact (PB.new7 _ _ _ _ _ _ _ _ _).go (Below.of_al _ _))
      have HX0 := Lib.hid (show PB W0 (w.heap.size + 1) _ by rw [hW0]; exact PB.new7At _ _ _ _ _ _ _ _ _ (by simp))
      have HZ0 := Lib.hid (show W0.heap.size = w.heap.size + 2 by rw [hW0]; simp)
      rw [← hW0]
      clear hW0
      have HR0 := Lib.hid (HR.out.go HB0.out)
      have HVI := Lib.hid (fun k h => (HR.out.oi.lt k h).2)
      have HVR := Lib.hid (fun k h => (HR.out.oq.lt k h).2)
      go_wp2_with (first
        | (go_at_call 151; refine (HLM.out _).mono ?_; rintro e w0 ⟨rfl, rfl⟩)
        | (go_at_call 130; refine (HI.out _).mono ?_; rintro e w1 ⟨rfl, hb1⟩; (have HR1 := Lib.hid (HR0.out.go hb1); have HP1 := Lib.hid (HP0.out.go hb1); have HX1 := Lib.hid (HX0.out.go hb1); have HB1 := Lib.hid (HB0.out.st hb1); have hz1 := hb1.size; have hz0 := HZ0.out; clear hb1); obtain ⟨p1, q1⟩ := HP1.out 1 _ rfl)
        | (at_builtin; go_must ((with_reducible refine wpList_app base 3 _ 1 8 cm_elemi Tryz.underlying45 (.slice ai c.ints.length ci) c.ints.length _ ⟨w1.heap.size, 0, none⟩ 1 1 [.int .i64 n] ?_ ?_ (HR1.out.oi.alloc _) (cm_one_at _ _ _ rfl) (cm_onei _) ⟨rfl, by decide, by omega, by omega, by simp; omega⟩ ?_); (· rfl); (· rfl); intro g6 cap6 w6 hown hgrow hbl hat hlt6; (have HR6 := Lib.hid ((HR1.out.go (Below.of_al w1 (Obj.cells #[.int .i64 n] 3))).int hown hgrow hat); have HP6 := Lib.hid ((HP1.out.go (Below.of_al w1 (Obj.cells #[.int .i64 n] 3))).eq (hgrow.block _ (by simp; omega) (fun e => by have := HVI.out _ e.symm; omega))); have HX6 := Lib.hid ((HX1.out.go (Below.of_al w1 (Obj.cells #[.int .i64 n] 3))).eq (hgrow.block _ (by simp; omega) (fun e => by have := HVI.out _ e.symm; omega))); have HB6 := Lib.hid (((HB1.out.al _).mono hbz).trans hbl); have HG6 := Lib.hid (at_ne2 HVI.out hat (by simp; omega)); have HK6 := Lib.hid (fun j (hj : j < w.heap.size) (h : (.slice ai c.ints.length ci : Value).ownBlock ≠ some j) => (hgrow.block j (by simp; omega) (fun e => h e.symm)).trans ((HB1.out.al _).block j hj)); have HJ6 := Lib.hid (show ∀ j, g6 = j → (.slice ai c.ints.length ci : Value).ownBlock = some j ∨ w.heap.size ≤ j from fun j e => by subst e; rcases hat with h | h; exact .inl h; exact .inr (by simp at h; omega)); clear hown hgrow hbl hat); (obtain ⟨p0, q0⟩ := (HP6).out 0 _ rfl); (obtain ⟨p1, q1⟩ := (HP6).out 1 _ rfl); (obtain ⟨p2, q2⟩ := (HP6).out 2 _ rfl); (obtain ⟨p3, q3⟩ := (HP6).out 3 _ rfl); (obtain ⟨p4, q4⟩ := (HP6).out 4 _ rfl); (obtain ⟨p5, q5⟩ := (HP6).out 5 _ rfl); (obtain ⟨p6, q6⟩ := (HP6).out 6 _ rfl); (obtain ⟨x0, y0⟩ := (HX6).out 0 _ rfl); (obtain ⟨x1, y1⟩ := (HX6).out 1 _ rfl); (obtain ⟨x2, y2⟩ := (HX6).out 2 _ rfl); (obtain ⟨x3, y3⟩ := (HX6).out 3 _ rfl); (obtain ⟨x4, y4⟩ := (HX6).out 4 _ rfl); (obtain ⟨x5, y5⟩ := (HX6).out 5 _ rfl); (obtain ⟨x6, y6⟩ := (HX6).out 6 _ rfl))))
      have HOB := Lib.hid (And.intro (show (.slice (some ⟨g6, 0, none⟩) (c.ints.length + 1) cap6 : Value).ownBlock ≠ some w.heap.size ∧ (.slice (some ⟨g6, 0, none⟩) (c.ints.length + 1) cap6 : Value).ownBlock ≠ some (w.heap.size + 1) from by first | exact ⟨fun h => HG6.out.1 (Option.some.inj h), fun h => HG6.out.2 (Option.some.inj h)⟩ | exact ⟨fun h => by have := HVI.out _ h; omega, fun h => by have := HVI.out _ h; omega⟩) (show (.slice aq c.rats.length cq : Value).ownBlock ≠ some w.heap.size ∧ (.slice aq c.rats.length cq : Value).ownBlock ≠ some (w.heap.size + 1) from by first | exact ⟨fun h => HG6.out.1 (Option.some.inj h), fun h => HG6.out.2 (Option.some.inj h)⟩ | exact ⟨fun h => by have := HVR.out _ h; omega, fun h => by have := HVR.out _ h; omega⟩))
      have hr7 := (HX6.out.setAt (c := w.heap.size) (j := 1) (by omega) (.slice (some ⟨g6, 0, none⟩) (c.ints.length + 1) cap6)).set7 rfl (.string c.name) (.slice (some ⟨g6, 0, none⟩) (c.ints.length + 1) cap6) (.int .u64 c.w) (.slice aq c.rats.length cq) (.int .i64 0) (.slice none 0 0) (.slice none 0 0)
      obtain ⟨r0, -⟩ := hr7 0 _ rfl
      obtain ⟨r1, -⟩ := hr7 1 _ rfl
      obtain ⟨r2, -⟩ := hr7 2 _ rfl
      obtain ⟨r3, -⟩ := hr7 3 _ rfl
      obtain ⟨r4, -⟩ := hr7 4 _ rfl
      obtain ⟨r5, -⟩ := hr7 5 _ rfl
      obtain ⟨r6, -⟩ := hr7 6 _ rfl
      refine bodyPost_ret (v := .tuple #[.agg #[.string c.name, .slice (some ⟨g6, 0, none⟩) (c.ints.length + 1) cap6, .int .u64 c.w, .slice aq c.rats.length cq, .int .i64 0, .slice none 0 0, .slice none 0 0], .int .i64 0]) (by simp [results, Tryz.results111, go_sem, r0, r1, r2, r3, r4, r5, r6]; try rfl) rfl ?_
      refine ⟨.slice (some ⟨g6, 0, none⟩) (c.ints.length + 1) cap6, .slice aq c.rats.length cq, ?_, ?_, ?_, ?_, ?_, ?_⟩
      · rfl
      · exact (HR6.out.set (b := w.heap.size) HOB.out.1.1 HOB.out.2.1 1 _).set7 (b := w.heap.size + 1) HOB.out.1.2 HOB.out.2.2 _ _ _ _ _ _ _
      · exact bel_set7 (HB6.out.setCell (p := ⟨w.heap.size, 1, none⟩) hbz _) (Nat.le_succ_of_le hbz) _ _ _ _ _ _ _
      · intro j hj hj1 hj2
        refine ((bel_set7 ((Below.refl w.heap.size w6).setCell (p := ⟨w.heap.size, 1, none⟩) (Nat.le_refl _) _) (Nat.le_succ _) _ _ _ _ _ _ _).block j hj).trans ?_
        first | exact HK6.out j hj hj1 | exact HK6.out j hj hj2
      · intro j h
        first | exact HJ6.out j (Option.some.inj h) | exact .inl h
      · intro j h
        first | exact HJ6.out j (Option.some.inj h) | exact .inl h
  · have hf2 : (f == 0) = false := by simpa using hf
    rw [if_neg (fun hh => hf hh.1)]
    clear hf
    go_enter Tryz.func111, Tryz.ntmps111
    go_wp2_with fail
    obtain ⟨W0, hW0⟩ : ∃ W0, W0 = (w.alloc (Obj.cells #[.string c.name, .slice ai c.ints.length ci, .int .u64 c.w, .slice aq c.rats.length cq, .int .i64 0, .slice none 0 0, .slice none 0 0] 60)).alloc (Obj.cells #[.string ⟨#[]⟩, .slice none 0 0, .int .u64 0, .slice none 0 0, .int .i64 0, .slice none 0 0, .slice none 0 0] 60) := ⟨_, rfl⟩
    have HB0 := Lib.hid (show Below w.heap.size w W0 by rw [hW0]; exact (Below.of_al _ _).al _)
    have HP0 := Lib.hid (show PB W0 w.heap.size _ by rw [hW0]; exact (PB.new7 _ _ _ _ _ _ _ _ _).go (Below.of_al _ _))
    have HX0 := Lib.hid (show PB W0 (w.heap.size + 1) _ by rw [hW0]; exact PB.new7At _ _ _ _ _ _ _ _ _ (by simp))
    have HZ0 := Lib.hid (show W0.heap.size = w.heap.size + 2 by rw [hW0]; simp)
    rw [← hW0]
    clear hW0
    have HR0 := Lib.hid (HR.out.go HB0.out)
    have HVI := Lib.hid (fun k h => (HR.out.oi.lt k h).2)
    have HVR := Lib.hid (fun k h => (HR.out.oq.lt k h).2)
    go_wp2_with (first
      | (go_at_call 151; refine (HLM.out _).mono ?_; rintro e w0 ⟨rfl, rfl⟩)
      | (go_at_call 130; refine (HI.out _).mono ?_; rintro e w1 ⟨rfl, hb1⟩; (have HR1 := Lib.hid (HR0.out.go hb1); have HP1 := Lib.hid (HP0.out.go hb1); have HX1 := Lib.hid (HX0.out.go hb1); have HB1 := Lib.hid (HB0.out.st hb1); have hz1 := hb1.size; have hz0 := HZ0.out; clear hb1); obtain ⟨p1, q1⟩ := HP1.out 1 _ rfl)
      | (at_builtin; go_must ((with_reducible refine wpList_app base 3 _ 1 8 cm_elemi Tryz.underlying45 (.slice ai c.ints.length ci) c.ints.length _ ⟨w1.heap.size, 0, none⟩ 1 1 [.int .i64 n] ?_ ?_ (HR1.out.oi.alloc _) (cm_one_at _ _ _ rfl) (cm_onei _) ⟨rfl, by decide, by omega, by omega, by simp; omega⟩ ?_); (· rfl); (· rfl); intro g6 cap6 w6 hown hgrow hbl hat hlt6; (have HR6 := Lib.hid ((HR1.out.go (Below.of_al w1 (Obj.cells #[.int .i64 n] 3))).int hown hgrow hat); have HP6 := Lib.hid ((HP1.out.go (Below.of_al w1 (Obj.cells #[.int .i64 n] 3))).eq (hgrow.block _ (by simp; omega) (fun e => by have := HVI.out _ e.symm; omega))); have HX6 := Lib.hid ((HX1.out.go (Below.of_al w1 (Obj.cells #[.int .i64 n] 3))).eq (hgrow.block _ (by simp; omega) (fun e => by have := HVI.out _ e.symm; omega))); have HB6 := Lib.hid (((HB1.out.al _).mono hbz).trans hbl); have HG6 := Lib.hid (at_ne2 HVI.out hat (by simp; omega)); have HK6 := Lib.hid (fun j (hj : j < w.heap.size) (h : (.slice ai c.ints.length ci : Value).ownBlock ≠ some j) => (hgrow.block j (by simp; omega) (fun e => h e.symm)).trans ((HB1.out.al _).block j hj)); have HJ6 := Lib.hid (show ∀ j, g6 = j → (.slice ai c.ints.length ci : Value).ownBlock = some j ∨ w.heap.size ≤ j from fun j e => by subst e; rcases hat with h | h; exact .inl h; exact .inr (by simp at h; omega)); clear hown hgrow hbl hat); (obtain ⟨p0, q0⟩ := (HP6).out 0 _ rfl); (obtain ⟨p1, q1⟩ := (HP6).out 1 _ rfl); (obtain ⟨p2, q2⟩ := (HP6).out 2 _ rfl); (obtain ⟨p3, q3⟩ := (HP6).out 3 _ rfl); (obtain ⟨p4, q4⟩ := (HP6).out 4 _ rfl); (obtain ⟨p5, q5⟩ := (HP6).out 5 _ rfl); (obtain ⟨p6, q6⟩ := (HP6).out 6 _ rfl); (obtain ⟨x0, y0⟩ := (HX6).out 0 _ rfl); (obtain ⟨x1, y1⟩ := (HX6).out 1 _ rfl); (obtain ⟨x2, y2⟩ := (HX6).out 2 _ rfl); (obtain ⟨x3, y3⟩ := (HX6).out 3 _ rfl); (obtain ⟨x4, y4⟩ := (HX6).out 4 _ rfl); (obtain ⟨x5, y5⟩ := (HX6).out 5 _ rfl); (obtain ⟨x6, y6⟩ := (HX6).out 6 _ rfl))))
    have HOB := Lib.hid (And.intro (show (.slice (some ⟨g6, 0, none⟩) (c.ints.length + 1) cap6 : Value).ownBlock ≠ some w.heap.size ∧ (.slice (some ⟨g6, 0, none⟩) (c.ints.length + 1) cap6 : Value).ownBlock ≠ some (w.heap.size + 1) from by first | exact ⟨fun h => HG6.out.1 (Option.some.inj h), fun h => HG6.out.2 (Option.some.inj h)⟩ | exact ⟨fun h => by have := HVI.out _ h; omega, fun h => by have := HVI.out _ h; omega⟩) (show (.slice aq c.rats.length cq : Value).ownBlock ≠ some w.heap.size ∧ (.slice aq c.rats.length cq : Value).ownBlock ≠ some (w.heap.size + 1) from by first | exact ⟨fun h => HG6.out.1 (Option.some.inj h), fun h => HG6.out.2 (Option.some.inj h)⟩ | exact ⟨fun h => by have := HVR.out _ h; omega, fun h => by have := HVR.out _ h; omega⟩))
    have hr7 := (HX6.out.setAt (c := w.heap.size) (j := 1) (by omega) (.slice (some ⟨g6, 0, none⟩) (c.ints.length + 1) cap6)).set7 rfl (.string c.name) (.slice (some ⟨g6, 0, none⟩) (c.ints.length + 1) cap6) (.int .u64 c.w) (.slice aq c.rats.length cq) (.int .i64 0) (.slice none 0 0) (.slice none 0 0)
    obtain ⟨r0, -⟩ := hr7 0 _ rfl
    obtain ⟨r1, -⟩ := hr7 1 _ rfl
    obtain ⟨r2, -⟩ := hr7 2 _ rfl
    obtain ⟨r3, -⟩ := hr7 3 _ rfl
    obtain ⟨r4, -⟩ := hr7 4 _ rfl
    obtain ⟨r5, -⟩ := hr7 5 _ rfl
    obtain ⟨r6, -⟩ := hr7 6 _ rfl
    refine bodyPost_ret (v := .tuple #[.agg #[.string c.name, .slice (some ⟨g6, 0, none⟩) (c.ints.length + 1) cap6, .int .u64 c.w, .slice aq c.rats.length cq, .int .i64 0, .slice none 0 0, .slice none 0 0], .int .i64 f]) (by simp [results, Tryz.results111, go_sem, r0, r1, r2, r3, r4, r5, r6]; try rfl) rfl ?_
    refine ⟨.slice (some ⟨g6, 0, none⟩) (c.ints.length + 1) cap6, .slice aq c.rats.length cq, ?_, ?_, ?_, ?_, ?_, ?_⟩
    · rfl
    · exact (HR6.out.set (b := w.heap.size) HOB.out.1.1 HOB.out.2.1 1 _).set7 (b := w.heap.size + 1) HOB.out.1.2 HOB.out.2.2 _ _ _ _ _ _ _
    · exact bel_set7 (HB6.out.setCell (p := ⟨w.heap.size, 1, none⟩) hbz _) (Nat.le_succ_of_le hbz) _ _ _ _ _ _ _
    · intro j hj hj1 hj2
      refine ((bel_set7 ((Below.refl w.heap.size w6).setCell (p := ⟨w.heap.size, 1, none⟩) (Nat.le_refl _) _) (Nat.le_succ _) _ _ _ _ _ _ _).block j hj).trans ?_
      first | exact HK6.out j hj hj1 | exact HK6.out j hj hj2
    · intro j h
      first | exact HJ6.out j (Option.some.inj h) | exact .inl h
    · intro j h
      first | exact HJ6.out j (Option.some.inj h) | exact .inl h

set_option maxRecDepth 100000 in
set_option maxHeartbeats 8000000 in
theorem refTake_r (s : ByteArray) (c : CmD) (base : Nat) (vi vr : Value) (w : World) (hs : s.size ≤ 65536) (hc : c.rats.length ≤ 1000000) (hbz : base ≤ w.heap.size) (h : RfS w base c vi vr) :
    Calls Tryz.prog 111 #[.agg (cmVal c vi vr).toArray, .int .u8 114, .string s] w (RtPost w base 114 s c vi vr) := by
  have HI := Lib.hid (fun W => refRParse_any s W (by omega))
  have HR := Lib.hid h
  obtain ⟨ai, ci, rfl, -⟩ := Cel.of_owns h.oi
  obtain ⟨aq, cq, rfl, -⟩ := Cel.of_owns h.oq
  have e1 : tkF 114 s = (parseR s).2 := rfl
  have e2 : tkC 114 s c = { c with rats := c.rats ++ [(parseR s).1] } := rfl
  unfold RtPost
  rw [e1, e2]
  generalize parseR s = q at *
  obtain ⟨⟨qn, qd⟩, f⟩ := q
  simp only [parV] at HI ⊢
  unfold cmVal
  clear h e1 e2
  go_enter Tryz.func111, Tryz.ntmps111
  go_wp2_with fail
  obtain ⟨W0, hW0⟩ : ∃ W0, W0 = (w.alloc (Obj.cells #[.string c.name, .slice ai c.ints.length ci, .int .u64 c.w, .slice aq c.rats.length cq, .int .i64 0, .slice none 0 0, .slice none 0 0] 60)).alloc (Obj.cells #[.string ⟨#[]⟩, .slice none 0 0, .int .u64 0, .slice none 0 0, .int .i64 0, .slice none 0 0, .slice none 0 0] 60) := ⟨_, rfl⟩
  have HB0 := Lib.hid (show Below w.heap.size w W0 by rw [hW0]; exact (Below.of_al _ _).al _)
  have HP0 := Lib.hid (show PB W0 w.heap.size _ by rw [hW0]; exact (PB.new7 _ _ _ _ _ _ _ _ _).go (Below.of_al _ _))
  have HX0 := Lib.hid (show PB W0 (w.heap.size + 1) _ by rw [hW0]; exact PB.new7At _ _ _ _ _ _ _ _ _ (by simp))
  have HZ0 := Lib.hid (show W0.heap.size = w.heap.size + 2 by rw [hW0]; simp)
  rw [← hW0]
  clear hW0
  have HR0 := Lib.hid (HR.out.go HB0.out)
  have HVI := Lib.hid (fun k h => (HR.out.oi.lt k h).2)
  have HVR := Lib.hid (fun k h => (HR.out.oq.lt k h).2)
  go_wp2_with (first
    | (go_at_call 150; refine (HI.out _).mono ?_; rintro e w1 ⟨rfl, hb1⟩; (have HR1 := Lib.hid ((HR0.out.go hb1).go (Below.of_al w1 (Obj.cells #[.int .u64 qn, .int .u64 qd] 98))); have HP1 := Lib.hid ((HP0.out.go hb1).go (Below.of_al w1 (Obj.cells #[.int .u64 qn, .int .u64 qd] 98))); have HX1 := Lib.hid ((HX0.out.go hb1).go (Below.of_al w1 (Obj.cells #[.int .u64 qn, .int .u64 qd] 98))); have HB1 := Lib.hid ((HB0.out.st hb1).al (Obj.cells #[.int .u64 qn, .int .u64 qd] 98)); have hz1 := hb1.size; have hz0 := HZ0.out; clear hb1); obtain ⟨p3, q3⟩ := HP1.out 3 _ rfl)
    | (at_builtin; go_must ((with_reducible refine wpList_app base 98 _ 2 16 cm_elemq Tryz.underlying50 (.slice aq c.rats.length cq) c.rats.length _ ⟨w1.heap.size + 1, 0, none⟩ 1 1 [.int .u64 qn, .int .u64 qd] ?_ ?_ (HR1.out.oq.alloc _) (cm_two _ _ _ _ (by simp)) (cm_oneq _ _) ⟨rfl, by decide, by omega, by omega, by simp; omega⟩ ?_); (· rfl); (· rfl); intro g6 cap6 w6 hown hgrow hbl hat hlt6; (have HR6 := Lib.hid ((HR1.out.go (Below.of_al _ (Obj.cells #[.int .u64 qn, .int .u64 qd] 98))).rat (q := (qn, qd)) hown hgrow hat); have HP6 := Lib.hid ((HP1.out.go (Below.of_al _ (Obj.cells #[.int .u64 qn, .int .u64 qd] 98))).eq (hgrow.block _ (by simp; omega) (fun e => by have := HVR.out _ e.symm; omega))); have HX6 := Lib.hid ((HX1.out.go (Below.of_al _ (Obj.cells #[.int .u64 qn, .int .u64 qd] 98))).eq (hgrow.block _ (by simp; omega) (fun e => by have := HVR.out _ e.symm; omega))); have HB6 := Lib.hid (((HB1.out.al _).mono hbz).trans hbl); have HG6 := Lib.hid (at_ne2 HVR.out hat (by simp; omega)); have HK6 := Lib.hid (fun j (hj : j < w.heap.size) (h : (.slice aq c.rats.length cq : Value).ownBlock ≠ some j) => (hgrow.block j (by simp; omega) (fun e => h e.symm)).trans ((HB1.out.al _).block j hj)); have HJ6 := Lib.hid (show ∀ j, g6 = j → (.slice aq c.rats.length cq : Value).ownBlock = some j ∨ w.heap.size ≤ j from fun j e => by subst e; rcases hat with h | h; exact .inl h; exact .inr (by simp at h; omega)); clear hown hgrow hbl hat); (obtain ⟨p0, q0⟩ := (HP6).out 0 _ rfl); (obtain ⟨p1, q1⟩ := (HP6).out 1 _ rfl); (obtain ⟨p2, q2⟩ := (HP6).out 2 _ rfl); (obtain ⟨p3, q3⟩ := (HP6).out 3 _ rfl); (obtain ⟨p4, q4⟩ := (HP6).out 4 _ rfl); (obtain ⟨p5, q5⟩ := (HP6).out 5 _ rfl); (obtain ⟨p6, q6⟩ := (HP6).out 6 _ rfl); (obtain ⟨x0, y0⟩ := (HX6).out 0 _ rfl); (obtain ⟨x1, y1⟩ := (HX6).out 1 _ rfl); (obtain ⟨x2, y2⟩ := (HX6).out 2 _ rfl); (obtain ⟨x3, y3⟩ := (HX6).out 3 _ rfl); (obtain ⟨x4, y4⟩ := (HX6).out 4 _ rfl); (obtain ⟨x5, y5⟩ := (HX6).out 5 _ rfl); (obtain ⟨x6, y6⟩ := (HX6).out 6 _ rfl))))
  have HOB := Lib.hid (And.intro (show (.slice ai c.ints.length ci : Value).ownBlock ≠ some w.heap.size ∧ (.slice ai c.ints.length ci : Value).ownBlock ≠ some (w.heap.size + 1) from by first | exact ⟨fun h => HG6.out.1 (Option.some.inj h), fun h => HG6.out.2 (Option.some.inj h)⟩ | exact ⟨fun h => by have := HVI.out _ h; omega, fun h => by have := HVI.out _ h; omega⟩) (show (.slice (some ⟨g6, 0, none⟩) (c.rats.length + 1) cap6 : Value).ownBlock ≠ some w.heap.size ∧ (.slice (some ⟨g6, 0, none⟩) (c.rats.length + 1) cap6 : Value).ownBlock ≠ some (w.heap.size + 1) from by first | exact ⟨fun h => HG6.out.1 (Option.some.inj h), fun h => HG6.out.2 (Option.some.inj h)⟩ | exact ⟨fun h => by have := HVR.out _ h; omega, fun h => by have := HVR.out _ h; omega⟩))
  have hr7 := (HX6.out.setAt (c := w.heap.size) (j := 3) (by omega) (.slice (some ⟨g6, 0, none⟩) (c.rats.length + 1) cap6)).set7 rfl (.string c.name) (.slice ai c.ints.length ci) (.int .u64 c.w) (.slice (some ⟨g6, 0, none⟩) (c.rats.length + 1) cap6) (.int .i64 0) (.slice none 0 0) (.slice none 0 0)
  obtain ⟨r0, -⟩ := hr7 0 _ rfl
  obtain ⟨r1, -⟩ := hr7 1 _ rfl
  obtain ⟨r2, -⟩ := hr7 2 _ rfl
  obtain ⟨r3, -⟩ := hr7 3 _ rfl
  obtain ⟨r4, -⟩ := hr7 4 _ rfl
  obtain ⟨r5, -⟩ := hr7 5 _ rfl
  obtain ⟨r6, -⟩ := hr7 6 _ rfl
  refine bodyPost_ret (v := .tuple #[.agg #[.string c.name, .slice ai c.ints.length ci, .int .u64 c.w, .slice (some ⟨g6, 0, none⟩) (c.rats.length + 1) cap6, .int .i64 0, .slice none 0 0, .slice none 0 0], .int .i64 f]) (by simp [results, Tryz.results111, go_sem, r0, r1, r2, r3, r4, r5, r6]; try rfl) rfl ?_
  refine ⟨.slice ai c.ints.length ci, .slice (some ⟨g6, 0, none⟩) (c.rats.length + 1) cap6, ?_, ?_, ?_, ?_, ?_, ?_⟩
  · rfl
  · exact (HR6.out.set (b := w.heap.size) HOB.out.1.1 HOB.out.2.1 3 _).set7 (b := w.heap.size + 1) HOB.out.1.2 HOB.out.2.2 _ _ _ _ _ _ _
  · exact bel_set7 (HB6.out.setCell (p := ⟨w.heap.size, 3, none⟩) hbz _) (Nat.le_succ_of_le hbz) _ _ _ _ _ _ _
  · intro j hj hj1 hj2
    refine ((bel_set7 ((Below.refl w.heap.size w6).setCell (p := ⟨w.heap.size, 3, none⟩) (Nat.le_refl _) _) (Nat.le_succ _) _ _ _ _ _ _ _).block j hj).trans ?_
    first | exact HK6.out j hj hj1 | exact HK6.out j hj hj2
  · intro j h
    first | exact HJ6.out j (Option.some.inj h) | exact .inl h
  · intro j h
    first | exact HJ6.out j (Option.some.inj h) | exact .inl h

theorem refCmTake_any (k : UInt8) (hk : isKind k) (s : ByteArray) (c : CmD) (base : Nat) (vi vr : Value) (w : World) (hs : s.size ≤ 65536) (hi : c.ints.length ≤ 1000000) (hc : c.rats.length ≤ 1000000) (hbz : base ≤ w.heap.size) (h : RfS w base c vi vr) :
    Calls Tryz.prog 111 #[.agg (cmVal c vi vr).toArray, .int .u8 (k.toNat : Int), .string s] w (RtPost w base k s c vi vr) := by
  rcases hk with h1 | h1 | h1 | h1 | h1 | h1 | h1
  · exact refTake_num k (.inl h1) s c base vi vr w hs hi hbz h
  · exact refTake_num k (.inr (.inl h1)) s c base vi vr w hs hi hbz h
  · exact refTake_num k (.inr (.inr (.inl h1))) s c base vi vr w hs hi hbz h
  · exact refTake_num k (.inr (.inr (.inr h1))) s c base vi vr w hs hi hbz h
  · subst h1
    exact refTake_r s c base vi vr w hs hc hbz h
  · exact refTake_w k (.inl h1) s c base vi vr w hs hbz h
  · exact refTake_w k (.inr h1) s c base vi vr w hs hbz h

end Go.Proofs.YtelcmkccfjdmjaaGreatDoor
